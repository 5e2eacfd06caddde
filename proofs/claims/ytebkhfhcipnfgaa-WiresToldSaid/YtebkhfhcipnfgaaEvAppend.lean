/-
 append and copy: as the model's.
-/
import Derived.Below
import Derived.ChangeArms
import Derived.Deep.Slices
import Derived.RangeFuncNested
import Derived.RangeFuncCalls
import Derived.RangeFuncLeaves
import Derived.OrdersIn
import Derived.TacticsIn
import Derived.Maps.AppendAt
import Derived.OwnWalkIn
import Derived.OwnWalk
import Derived.Deep.MidRow
import Derived.DeepKeys
import Derived.Laws.StructEq
import Derived.Laws.Tables
import Derived.Laws.IdiomStrings
import Derived.Laws.BytesString
import Derived.Laws.Slices
import Derived.Laws.MakeOwn
import Derived.KernelRfl
namespace Go.Proofs.Ytebkhfhcipnfgaa
set_option linter.unusedVariables false
set_option linter.unusedSimpArgs false
set_option linter.defProp false
theorem o3 {p:Prop} (h:p:=by omega):p:=h
theorem r8 {p:Prop} (h:p:=by simp):p:=h
theorem r9 {p:Prop} (h:p:=by simp; omega):p:=h
theorem y9 {p:Prop} (h:p:=by rw[VR]):p:=h
theorem An {p:Prop} (h:p:=by rw[bL]):p:=h
theorem H4 {p:Prop} (h:p:=by rw[List.length_take]; omega):p:=h
theorem ZT {p:Prop} (h:p:=by rw[VR]; trivial):p:=h
theorem ZU {p:Prop} (h:p:=by rw[<-List.flatten_append,List.take_append_drop]):p:=h
def Z6:=@Option.bind_some
def Z7:=@List.getElem?_eq_getElem
def Z8:=@cond_false
def Z9:=@Bool.and_eq_true
def qaa:=@cond_true
def qab:=@Nat.le_refl
def qad:=@List.getElem?_eq_some_iff
def qae:=@List.length_cons
def qaf:=@if_pos
def qag:=@decide_eq_true_eq
def qah:=@if_neg
def qai:=@of_decide_eq_true
def qaj:=@Array.getElem?_eq_some_iff
def qak:=@List.all_eq_true
def qan:=@Nat.eq_of_beq_eq_true
def qao:=@List.getElem?_set_ne
def qap:=@run_underlying
def qaq:=@List.length_nil
def qar:=@List.length_append
def qas:=@List.drop_eq_getElem_cons
def qat:=@List.getElem?_append_left
def qaw:=@List.eq_nil_of_length_eq_zero
def qay:=@List.getElem?_append_right
def qaz:=@Nat.lt_of_lt_of_le
def qaA:=@List.getElem?_take
def qaB:=@List.getElem_mem
def qaC:=@Nat.le_trans
def qaD:=@List.mem_cons
def qaE:=@List.getElem?_set_self
def qaG:=@Option.some.injEq
def qaI:=@List.mem_of_getElem?
def qaJ:=@List.mem_of_mem_take
def qaK:=@List.take_of_length_le
def qaL:=@List.mem_of_mem_drop
def qaM:=@List.drop_zero
def qaN:=@Option.bind_assoc
def qaO:=@List.getElem?_map
def qaQ:=@Bool.false_eq_true
def qaR:=@List.mem_range
def qaS:=@List.cons_append
def qaT:=@Result.andThen_ok
def qaU:=@Nat.zero_add
def qaV:=@List.append_assoc
def qaW:=@List.append_nil
def qaX:=@Bool.true_and
def qaZ:=@Array.getElem?_toList
def qa0:=@Option.map_eq_some_iff
def qa1:=@Sem.run_bind
def qa2:=@List.getElem_of_mem
def qa3:=@Bool.not_eq_true'
def qa4:=@List.getElem?_eq_none
def qa5:=@beq_iff_eq
def qa6:=@beq_eq_false_iff_ne
def qa7:=@congrArg
def qa8:=@List.mem_append
def qba:=@List.length_take
def qbb:=@Array.getElem?_eq_getElem
def qbc:=@List.map_cons
def qbd:=@List.nil_append
def qbf:=@Array.getD_eq_getD_getElem?
def qbh:=@Bool.or_eq_false_iff
def qbi:=@Ne.symm
def qbk:=@Nat.add_mul
def qbo:=@Bool.or_eq_true
def qbs:=@Nat.lt_of_not_le
def qbt:=@List.flatten_cons
def qbv:=@Nat.add_zero
def qbw:=@List.getElem?_drop
def qbx:=@Addr.add_mid
def qby:=@Nat.mul_comm
def qbz:=@List.ext_getElem?
def qbF:=@List.countP_eq_length_filter
def qbH:=@List.length_map
def qbI:=@World.putObj_heap_other
def qbJ:=@List.getElem?_replicate
def qbK:=@Array.getElem?_append_left
def qbL:=@cell_of_row
def qbM:=@heap_alloc_new
def qbO:=@run_firstCells_some
def qbP:=@Nat.min_eq_left
def qbQ:=@List.take_append_drop
def qbR:=@Bool.not_eq_false'
def qbV:=@Nat.mul_le_mul_right
def qbW:=@World.block_lt_of_cell?
def qbY:=@List.flatten_append
def qbZ:=@List.drop_succ_cons
def qb0:=@Nat.mul_le_mul_left
def qb1:=@Nat.le_of_not_lt
def qb4:=@if_true
def qb5:=@List.length_replicate
def qb8:=@Array.getElem?_setIfInBounds_ne
def qca:=@World.cell?_of_block
def qcb:=@List.getElem?_append
def qcc:=@Array.ext'
def qcf:=@Nat.add_assoc
def qcg:=@Nat.lt_irrefl
def qci:=@List.take_zero
def qcj:=@List.length_pos_of_mem
def qco:=@List.all_cons
def qcp:=@List.map_take
def qcu:=@Nat.mod_lt
def qcv:=@getD_set_ne
def qcw:=@Array.all_eq_true_iff_forall_mem
def qcx:=@Sem.run_pure
def qcy:=@Nat.lt_succ_self
def qcB:=@Array.length_toList
def qcD:=@Array.foldl_toList
def qcE:=@mem_ready
def qcF:=@Nat.eq_zero_or_pos
def qcG:=@List.mem_replicate
def qcH:=@Int.natCast_mul
def qcJ:=@List.drop_of_length_le
def qcK:=@List.take_append_of_le_length
def qcO:=@Nat.beq_eq
def qcU:=@Prod.mk.injEq
def qcZ:=@Nat.mul_add
def qc0:=@Int.toNat_of_nonneg
def qc2:=@Nat.beq_refl
def qc3:=@Nat.le_of_eq
def qda:=@List.length_filter_le
def qdb:=@List.mem_map
def qdc:=@List.foldl_cons
def qdd:=@List.mem_filter
def qde:=@Nat.le_antisymm
def qdf:=@List.range_succ
def qdo:=@List.drop_append_of_le_length
def qdp:=@List.take_succ_cons
def qdt:=@grownCap_ge
def qdu:=@run_loadCells_list
def qdz:=@run_storeCells_at
def qdA:=@Array.size_append
def qdC:=@List.mem_or_eq_of_mem_set
def qdF:=@Nat.add_comm
def qdG:=@Nat.zero_mul
def qdH:=@List.mem_flatten
def qdI:=@Nat.le_total
def qdO:=@List.nodup_cons
def qdP:=@Nat.div_add_mod
def qdY:=@List.countP_mono_left
def qdZ:=@List.drop_drop
def qd0:=@growslice_fits
def qd5:=@Classical.not_forall
def qd6:=@Nat.div_lt_of_lt_mul
def qd9:=@Oper.semAt_eq
def qeb:=@Array.getElem?_push
def qef:=@Bool.true_or
def qeg:=@Int.mul_comm
def qei:=@Nat.one_mul
section
open Go.RowKit
def Cr:Obj->Bool
 | .cells ..=>true
 | .map ..=>true
 | _=>false
def OQ (B:Nat) (w w':World):Prop:=∀ (k:Nat) (o:Obj),k<B->w.heap[k]? = some o->Cr o=true->w'.heap[k]? = some o
structure Xv (α:Type) where
 k:Nat
 rd:Nat->World->List Value->α->Prop
 len:∀ {B:Nat} {w:World} {cs:List Value} {a:α},rd B w cs a->cs.length=k
 mono:∀ {B B':Nat} {w:World} {cs:List Value} {a:α},B<=B'->rd B w cs a->rd B' w cs a
 stab:∀ {B:Nat} {w w':World} {cs:List Value} {a:α},OQ B w w'->rd B w cs a->rd B w' cs a
end
section
open Go.RowKit
structure eH (B:Nat) (W W':World):Prop where
 os:W'.os=W.os
 tape:W'.tape=W.tape
 output:W'.output=W.output
 size:W.heap.size<=W'.heap.size
 low:∀ (k:Nat),k<B->k<W.heap.size->W'.heap[k]? = W.heap[k]?
 data:∀ (k:Nat) (o:Obj),W.heap[k]? = some o->Cr o=true->W'.heap[k]? = some o
theorem eH.refl (B:Nat) (W:World):eH B W W:=⟨rfl,rfl,rfl,qab _,λ_ _ _=>rfl,λ_ _ h _=>h⟩
theorem eH.trans {B:Nat} {X Y Z:World} (h:eH B X Y) (k:eH B Y Z):eH B X Z:=
 ⟨k.os.trans h.os,k.tape.trans h.tape,k.output.trans h.output,qaC h.size k.size,λi hi hs=>(k.low i hi (qaz hs h.size)).trans (h.low i hi hs),λi o hi ho=>k.data i o (h.data i o hi ho) ho⟩
theorem eH.putObj {B:Nat} {W:World} {l:Nat} {o:Obj} (o':Obj) (hB:B<=l) (hl:W.heap[l]? = some o) (ho:Cr o=false):eH B W (W.putObj l o'):=
 ⟨rfl,rfl,rfl,r8,λk hk _=>qbI o3,λk _ hk hd=>by
  by_cases e:k=l
  ·subst e; rw[hl] at hk; cases hk; rw[ho] at hd; cases hd
  ·exact(qbI e).trans hk⟩
def Calm (B:Nat) (I:World->Prop):Prop:=∀ W W',I W->eH B W W'->I W'
theorem Calm.cell {B:Nat} (a:Addr) (v:Value):Calm B λW=>W.cell? a=some v:=λW W' h hc=>by
 have h1:W.cell? a=some v:=h;obtain ⟨o,ho,hc1⟩:=cells_of_cell h1;have h2:=hc.data _ _ ho (by cases o<;>first | rfl | (cases hc1));show W'.cell? a=some v;rw[<-h1];exact qca (h2.trans ho.symm)
theorem Calm.below {B n₀:Nat} {w:World} (hn:n₀<=w.heap.size) (hB:n₀<=B):Calm B λW=>Below n₀ w W:=λW W' h hc=>
 h.trans ⟨hc.os,hc.tape,hc.output,hc.size,λk hk=>hc.low k o3 (by have:=h.size; omega)⟩
def Di (F:Fence):Prop:=F.depth=none/\∀ f,F.fn f
variable {F:Fence} {n:Nat} {P:Program}
def Marks (B:Nat) (W:World) (ds:List Deferred):Prop:=∃ rs:List Nat,ds=rs.map (λr=>{ target:=.collected r,args:=#[] })/\rs.Nodup/\∀ r∈rs,B<=r/\W.heap[r]? = some (.deferred (some []))
theorem Marks.nil (B:Nat) (W:World):Marks B W []:=⟨[],rfl,List.nodup_nil,λ_ h=>by cases h⟩
theorem Marks.cons {B D:Nat} {W:World} {ds:List Deferred} (h:Marks B W ds) (hD:B<=D) (hW:W.heap[D]? = some (.deferred (some []))) (hn:∀ r,(⟨.collected r,#[]⟩:Deferred)∈ds->r≠D):Marks B W ({ target:=.collected D,args:=#[] } :: ds):=by
 obtain ⟨rs,rfl,h2,h3⟩:=h;refine⟨D :: rs,rfl,qdO.2 ⟨λhm=>hn D (qdb.2 ⟨D,hm,rfl⟩) rfl,h2⟩,λr hr=>?_⟩;rcases qaD.1 hr with rfl | hr
 ·exact⟨hD,hW⟩
 ·exact h3 r hr
theorem Marks.lt {B:Nat} {W:World} {ds:List Deferred} (h:Marks B W ds) {r:Nat} (hr:(⟨.collected r,#[]⟩:Deferred)∈ds):r<W.heap.size:=by
 obtain ⟨rs,rfl,h2,h3⟩:=h;obtain ⟨q,hq,e⟩:=qdb.1 hr;cases e;exact(qaj.1 (h3 _ hq).2).1
end
section
def BB (F:Fence) (n:Nat) (P:Program) (o:Oper) (ev:Operand->Value) (w:World) (R:Value->World->Prop):Prop:=
 match (execOp ev o).run P w with
 | .ok (.value v) w'=>R v w'
 | .ok .skip w'=>R undef w'
 | .ok (.enter f args) w'=>CallsIn F (n - 1) P f args w' λ
   | .returned v,w''=>R v w''
   | _,_=>False
 | .ok (.row row args) w'=>RowsIn F (n - 1) P row args w' R
 | .ok (.round l f tmps assign body) w'=>RoundIn F (n - 1) P l f tmps assign body w' λ
   | .returned v,w''=>R v w''
   | _,_=>False
 | _=>False
theorem BB.mono {F:Fence} {n:Nat} {P:Program} {o:Oper} {ev:Operand->Value} {w:World} {R R':Value->World->Prop} (h:BB F n P o ev w R) (hr:∀ v w',R v w'->R' v w'):BB F n P o ev w R':=by
 unfold BB at *
 generalize (execOp ev o).run P w=r at *
 cases r with
 | ok x w'=>
  cases x<;>simp only at h ⊢<;>first
   | exact hr _ _ h
   | exact h.mono λe w'' he=>by cases e<;>first | exact hr _ _ he | exact he
   | exact h.mono λv w'' he=>hr _ _ he
 | halt x w'=>exact h
def slot (a:Act) (t:Nat):Value:=a.tmps.getD t undef
def cQ (ops:Array Oper) (i:Nat):Option Nat:=(ops[i]?).bind (·.dst)
def gQ (ops:Array Oper) (i j:Nat):Bool:=((Region.before ops).getD i 0).testBit j
def od (o:Oper):Bool:=match o.op with | .select ..=>false | .defer _=>false | _=>true
def wO (ops:Array Oper) (N:Nat):Bool:=
 (List.range ops.size).all λi=>match ops[i]? with
  | none=>true
  | some o=>od o&&(match o.dst with | some d=>decide (d<N) | none=>true) &&
   (o.after.all λe=>!Region.binds .any e || decide (e.on<i)) &&
   ((List.range ops.size).all λj=>i==j || o.dst.isNone || cQ ops j != o.dst) &&
   ((List.range ops.size).all λj=>match cQ ops j with
    | none=>true
    | some t=>!(o.looksAt ops).contains t || i==j || gQ ops i j || gQ ops j i) &&
   !gQ ops i i
def fJ (_ops:Array Oper) (listed:Array Bool) (i:Nat):Prop:=listed.getD i false=true
variable {F:Fence} {n:Nat} {P:Program} {ops:Array Oper} {Q:Exit->Act->World->Prop}
inductive qn (ops:Array Oper):Nat->Nat->Prop
 | edge {i:Nat} {o:Oper} {e:Edge} (ho:ops[i]? = some o) (he:e∈o.after) (hb:Region.binds .any e=true):qn ops i e.on
 | thru {i j:Nat} {o:Oper} {e:Edge} (ho:ops[i]? = some o) (he:e∈o.after) (hb:Region.binds .any e=true) (h:qn ops e.on j):qn ops i j
theorem uJ (acc:Array Nat) (hacc:∀ i j,(acc.getD i 0).testBit j=true->qn ops i j) {i:Nat} {o:Oper} (ho:ops[i]? = some o) :
  ∀ (l:List Edge) (s:Nat),(∀ e∈l,e∈o.after)->(∀ j,s.testBit j=true->qn ops i j)->∀ j,(l.foldl (λs e=>if Region.binds .any e then s ||| 2 ^ e.on ||| acc.getD e.on 0 else s) s).testBit j=true->qn ops i j
 | [],s,_,hs,j,h=>hs j h
 | e :: l,s,hl,hs,j,h=>by
  rw[qdc] at h;refine uJ acc hacc ho l _ (λe he=>hl e (by simp[he])) (λj hj=>?_) j h;split at hj
  ·rename_i hb;rw[Nat.testBit_or,Nat.testBit_or,qbo,qbo] at hj;rcases hj with (hj | hj) | hj
   ·exact hs j hj
   ·rw[Nat.testBit_two_pow] at hj;obtain rfl:e.on=j:=by simpa using hj
    exact .edge ho (hl e r8) hb
   ·exact .thru ho (hl e r8) hb (hacc _ _ hj)
  ·exact hs j hj
theorem iu (i j:Nat) (h:gQ ops i j=true):qn ops i j:=by
 unfold gQ Region.before at h;rw[<-qcD] at h;have key:∀ (l:List Oper) (k:Nat) (acc:Array Nat),(∀ m,l[m]? = ops[k+m]?)->acc.size=k->(∀ i j,(acc.getD i 0).testBit j=true->qn ops i j) ->
   ∀ i j,((l.foldl (λacc o=>acc.push (o.after.foldl (λs e=>if Region.binds .any e then s ||| 2 ^ e.on ||| acc.getD e.on 0 else s) 0)) acc).getD i 0).testBit j=true->qn ops i j:=by
  intro l
  induction l with
  | nil=>intro k acc _ _ hacc i j h; exact hacc i j h
  | cons o l ih=>
   intro k acc hl hk hacc i j h;refine ih (k+1) _ (λm=>by have:=hl (m+1); simpa [qcf,qdF 1 m] using this) (by simp[hk]) (λi j hij=>?_) i j h;have ho:ops[k]? = some o:=by simpa using (hl 0).symm
   by_cases e:i=acc.size
   ·subst e;rw[hk];have e2:∀ X:Nat,(acc.push X).getD acc.size 0=X:=λX=>r8;rw[e2,<-qcD] at hij;exact uJ acc hacc ho _ 0 (λe he=>Array.mem_toList_iff.1 he) (λj hj=>by simp at hj) j hij
   ·refine hacc i j ?_;have:(acc.push (o.after.foldl (λs e=>if Region.binds .any e then s ||| 2 ^ e.on ||| acc.getD e.on 0 else s) 0)).getD i 0=acc.getD i 0:=by
     simp only[qbf,qeb,qah e]
    rw[this] at hij; exact hij
 exact key ops.toList 0 #[] r8 rfl (λi j h=>by simp at h) i j h
theorem nr {listed:Array Bool} (hcl:∀ i o,ops[i]? = some o->fJ ops listed i->∀ e∈o.after,Region.binds .any e=true->fJ ops listed e.on)
  (i j:Nat) (hi:∃ o,ops[i]? = some o/\∀ e∈o.after,Region.binds .any e=true->fJ ops listed e.on) (h:gQ ops i j=true):fJ ops listed j:=by
 have hw:=iu i j h;clear h
 induction hw with
 | edge ho he hb=>
  obtain ⟨o',ho',hall⟩:=hi;rw[ho] at ho'; cases ho';exact hall _ he hb
 | thru ho he hb hw ih=>
  obtain ⟨o',ho',hall⟩:=hi;rw[ho] at ho'; cases ho';refine ih ?_;have hc:=hall _ he hb;cases hw with
  | edge ho2 _ _=>exact⟨_,ho2,hcl _ _ ho2 hc⟩
  | thru ho2 _ _ _=>exact⟨_,ho2,hcl _ _ ho2 hc⟩
theorem filter_lt {α:Type} (p q:α->Bool):∀ l:List α,(∀ x∈l,q x=true->p x=true)->(∃ x∈l,p x=true/\q x=false)->(l.filter q).length<(l.filter p).length
 | [],_,⟨x,hx,_⟩=>by cases hx
 | y :: l,h,⟨x,hx,hp,hq⟩=>by
  have hle:(l.filter q).length<=(l.filter p).length:=by
   clear hx hp hq
   induction l with
   | nil=>simp
   | cons z l ih=>
    have hz:=h z r8;have:=ih (λx hx=>h x (by rcases qaD.1 hx with rfl | hx; simp; simp[hx]));simp only[List.filter_cons]
    cases hqz:q z<;>cases hpz:p z<;>simp<;>first | omega | skip
    rw[hz hqz] at hpz; cases hpz
  have hy:=h y r8;simp only[List.filter_cons]
  rcases qaD.1 hx with rfl | hx
  ·rw[hp,hq]; simp; omega
  ·have:=filter_lt p q l (λx hx=>h x (by simp[hx])) ⟨x,hx,hp,hq⟩;cases hqy:q y<;>cases hpy:p y<;>simp<;>first | omega | skip
   rw[hy hqy] at hpy; cases hpy
def En (ops:Array Oper) (listed:Array Bool):Nat:=((List.range ops.size).filter λi=>!listed.getD i true).length
theorem gA {a:Act} {d:Nat} {v:Value} (h:d<a.tmps.size):slot (a.put (some d) v) d=v:=by
 simp[slot,Act.put,h]
theorem eD {a:Act} {dst:Option Nat} {t:Nat} {v:Value} (h:dst≠some t):slot (a.put dst v) t=slot a t:=by
 cases dst with
 | none=>rfl
 | some d=>
  have hne:d≠t:=λe=>h (by rw[e]);simp[slot,Act.put,qb8 hne]
theorem mV (hWF:Di F) {i:Nat} {o:Oper} (ho:ops[i]? = some o) (hp:od o=true) {a:Act} {w:World} {K:Act->World->Prop} {R:Value->World->Prop}
  (h:if Region.wanted o (yielded ops a.tmps)=true then BB F n P o a.eval w R else R undef w) (hK:∀ v w',R v w'->K (a.put o.dst v) w'):wpOpIn F n P ops Q i K a w:=by
 unfold wpOpIn;simp only[ho]
 split
 ·rename_i hw;rw[qaf hw] at h;refine⟨λf _=>hWF.2 f,?_⟩;rw[qd9 _ _ _ (λc hc=>by unfold od at hp; rw[hc] at hp; cases hp)];unfold BB at h;generalize (execOp a.eval o).run P w=r at *
  have hd:F.depth.isSome=true->1<=n:=λhs=>by rw[hWF.1] at hs; cases hs
  cases r with
  | ok x w'=>
   cases x<;>simp only[Oper.uponIn] at h ⊢<;>first
    | exact hK _ _ h
    | exact⟨hd,h.mono λe w'' he=>by cases e<;>first | exact hK _ _ he | exact he.elim⟩
    | exact⟨hd,h.mono λv w'' he=>hK _ _ he⟩
    | exact h.elim
  | halt x w'=>exact h.elim
 ·rename_i hw;rw[qah hw] at h;exact⟨λf _=>hWF.2 f,hK _ _ h⟩
def ve (ops:Array Oper) (k:Nat):Array Bool:=((List.range ops.size).map λi=>decide (i<k)).toArray
def gE (ops:Array Oper) (m:Nat):Bool:=decide (m<=ops.size)&&((List.range ops.size).all λi=>decide (i<m) || (List.range m).all λj=>gQ ops i j)&&(List.range (ops.size+1)).all λk=>decide (k<m) || (Region.ready .any ops (ve ops k)==if k<ops.size then [k] else [])
theorem xn {listed:Array Bool} {k:Nat} (hls:listed.size=ops.size) (hc:∀ i,i<ops.size->(fJ ops listed i↔i<k)):listed=ve ops k:=by
 refine Array.ext (by simp[ve,hls]) λi h1 h2=>?_;have:=hc i o3;unfold fJ at this;simp only[ve,List.getElem_toArray,List.getElem_map,List.getElem_range]
 have e:listed.getD i false=listed[i]:=by simp[h1]
 rw[e] at this;cases h:listed[i] with
 | true=>rw[h] at this; simpa using this.1 rfl
 | false=>rw[h] at this; simp at this; simp; exact this
theorem sa {m:Nat} (ht:gE ops m=true) :
  ∀ (r k:Nat),k+r=ops.size->m<=k->∀ (fuel:Nat) (listed:Array Bool) (a:Act) (w:World),r<=fuel->listed.size=ops.size->(∀ i,i<ops.size->(fJ ops listed i↔i<k)) ->
   wpListIn F n P ops Q (ops.toList.drop k) a w->wpAnyIn F n P .any ops Q fuel listed a w:=by
 have hready:∀ k,k<=ops.size->m<=k->Region.ready .any ops (ve ops k)=if k<ops.size then [k] else []:=λk hk hm=>by
  simp only[gE,Z9] at ht;have:=qak.1 ht.2 k (qaR.2 o3);simp only[qbo,qag,qa5] at this;exact this.resolve_left o3
 intro r
 induction r with
 | zero=>
  intro k hk hm fuel listed a w _ hls hc h;have e:=xn hls hc;have hr:Region.ready .any ops listed=[]:=by rw[e,hready k o3 hm,qah o3]
  rw[qcJ r9] at h;exact wpAnyIn_done hr h fuel
 | succ r ih=>
  intro k hk hm fuel listed a w hf hls hc h;have e:=xn hls hc;have hr:Region.ready .any ops listed=[k]:=by rw[e,hready k o3 hm,qaf o3]
  obtain ⟨fuel,rfl⟩:∃ f,fuel=f+1:=⟨fuel - 1,o3⟩
  have hlt:k<ops.toList.length:=r9;rw[qas hlt] at h;have ho:ops[k]? = some ops.toList[k]:=by rw[Array.getElem_toList]; exact qbb _
  refine wpAnyIn_all hr r8 λi hi=>?_;obtain rfl:i=k:=by simpa using hi
  unfold wpOpIn;simp only[ho]
  have next:∀ a w,wpListIn F n P ops Q (ops.toList.drop (i+1)) a w->wpAnyIn F n P .any ops Q fuel (listed.setIfInBounds i true) a w:=λa w h'=>by
   refine ih (i+1) o3 o3 fuel _ a w o3 (by simpa using hls) (λj hj=>?_) h';by_cases e:j=i
   ·subst e; unfold fJ; simp[hls,hj]
   ·have:=hc j hj;unfold fJ at this ⊢;rw[qcv false (qbi e),this]; omega
  unfold wpListIn at h;split
  ·rename_i hw; rw[qaf hw] at h; exact Oper.wpIn_mono next h
  ·rename_i hw; rw[qah hw] at h; exact⟨h.1,next _ _ h.2⟩
def LW (F:Fence) (n:Nat) (P:Program) (ops:Array Oper) (Q:Exit->Act->World->Prop) (a:Act) (w:World):Prop:=∀ t,wpOpsIn F n P ops Q (Region.schedule (P.follows .mixedOrders) ops t) a { w with drawn:=w.drawn+1 }
theorem LW.wpIn {id:Nat} {a:Act} {w:World} (h:LW F n P ops Q a w):(Code.region id ops true).wpIn F n P Q a w:=wpIn_region_draw h
theorem FD {a:Act} {w:World} (hm:P.follows .mixedOrders=true) (h:wpAnyIn F n P .any ops Q ops.size (Array.replicate ops.size false) a { w with drawn:=w.drawn+1 }):LW F n P ops Q a w:=λt=>by
 simp only[Region.schedule,hm,qef,qb4]
 exact wpAnyIn_sound ops.size t _ a _ h
theorem Ff {a0:Act} {w0:World} (hWF:Di F) (hm:P.follows .mixedOrders=true) (N m:Nat) (hN:a0.tmps.size=N) (jT:wO ops N=true) (chkt:gE ops m=true)
  (S:World->Prop) (Ext:World->World->Prop) (V:Nat->Value->World->Prop) (hV:∀ i v w w',V i v w->Ext w w'->V i v w') (hS:S w0.drew)
  (hstep:∀ i o,i<m->ops[i]? = some o->∀ (a:Act) (w:World),S w ->
   (∀ t∈o.looksAt ops,∀ j,cQ ops j=some t->gQ ops i j=true->V j (slot a t) w) ->
   (∀ t∈o.looksAt ops,(∀ j,cQ ops j=some t->gQ ops i j=false)->slot a t=slot a0 t)->a.tmps.size=N ->
   if Region.wanted o (yielded ops a.tmps)=true then BB F n P o a.eval w (λv w'=>V i v w'/\S w'/\Ext w w') else V i undef w/\S w/\Ext w w)
  (hend:∀ (a:Act) (w:World),S w->a.defers=a0.defers->a.tmps.size=N->(∀ i t,i<m->cQ ops i=some t->V i (slot a t) w)->(∀ t,(∀ i,i<m->cQ ops i≠some t)->slot a t=slot a0 t) ->
   (∀ i o,i<m->ops[i]? = some o->o.dst=none->∃ v,V i v w)->wpListIn F n P ops Q (ops.toList.drop m) a w) :
  LW F n P ops Q a0 w0:=by
 have chk1:∀ i o,ops[i]? = some o->od o=true/\(∀ d,o.dst=some d->d<N)/\(∀ e∈o.after,Region.binds .any e=true->e.on<i)/\(∀ j d,i≠j->o.dst=some d->cQ ops j≠some d) ∧
   (∀ j t,cQ ops j=some t->t∈o.looksAt ops->i=j∨gQ ops i j=true∨gQ ops j i=true)/\gQ ops i i=false:=by
  intro i o ho;have hi:i<ops.size:=(qaj.1 ho).1;have h:=qak.1 jT i (qaR.2 hi);simp only[ho,Z9] at h;obtain ⟨⟨⟨⟨⟨h1,h2⟩,h3⟩,h4⟩,h5⟩,h6⟩:=h;refine⟨h1,λd hd=>by rw[hd] at h2; simpa using h2,λe he hb=>?_,λj d hij hd hj=>?_,λj t hj ht=>?_,by simpa using h6⟩
  ·have:=qcw.1 h3 e he;rw[hb] at this; simpa using this
  ·have hjs:j<ops.size:=by
    unfold cQ at hj;cases hx:ops[j]? with
    | none=>rw[hx] at hj; cases hj
    | some _=>exact(qaj.1 hx).1
   have:=qak.1 h4 j (qaR.2 hjs);rw[hd,hj] at this;simp at this;exact hij this
  ·have hjs:j<ops.size:=by
    unfold cQ at hj;cases hx:ops[j]? with
    | none=>rw[hx] at hj; cases hj
    | some _=>exact(qaj.1 hx).1
   have:=qak.1 h5 j (qaR.2 hjs);rw[hj] at this;simp[ht] at this;rcases this with (h | h) | h
   ·exact .inl h
   ·exact .inr (.inl h)
   ·exact .inr (.inr h)
 have hm2:m<=ops.size:=by simp only[gE,Z9,qag] at chkt; exact chkt.1.1
 have main:∀ (fuel:Nat) (listed:Array Bool) (a:Act) (w:World),En ops listed<=fuel->listed.size=ops.size->S w->a.defers=a0.defers->a.tmps.size=N ->
   (∀ i o,ops[i]? = some o->fJ ops listed i->∀ e∈o.after,Region.binds .any e=true->fJ ops listed e.on)->(∀ i,m<=i->i<ops.size->¬ fJ ops listed i) ->
   (∀ i t,i<m->cQ ops i=some t->fJ ops listed i->V i (slot a t) w)->(∀ t,(∀ i,i<m->cQ ops i=some t->¬ fJ ops listed i)->slot a t=slot a0 t) ->
   (∀ i o,i<m->ops[i]? = some o->o.dst=none->fJ ops listed i->∃ v,V i v w)->wpAnyIn F n P .any ops Q fuel listed a w:=by
  have getD_eq:∀ (listed:Array Bool) (i:Nat),i<listed.size->listed.getD i true=listed.getD i false:=λlisted i hi=>by simp[hi]
  intro fuel
  induction fuel with
  | zero=>
   intro listed a w hu hls hSw hdf hsz hcl hnt hv hno hns;have all:∀ i,i<ops.size->fJ ops listed i:=λi hi=>by
    cases hc:listed.getD i false with
    | true=>exact hc
    | false=>
     have hmem:i∈(List.range ops.size).filter (λi=>!listed.getD i true):=qdd.2 ⟨qaR.2 hi,by rw[getD_eq _ _ o3,hc]; rfl⟩;have:=qcj hmem;unfold En at hu; omega
   have hmm:m=ops.size:=qde hm2 (qb1 λh=>hnt m (qab _) h (all m h));exact sa chkt 0 ops.size o3 hm2 0 listed a w (qab _) hls (λi hi=>⟨λ_=>hi,λ_=>all i hi⟩)
    (by rw[<-hmm]; exact hend a w hSw hdf hsz (λi t hi h=>hv i t hi h (all i o3)) (λt h=>hno t (λi hi hi2=>absurd hi2 (h i hi))) (λi o hi ho hd=>hns i o hi ho hd (all i o3)))
  | succ fuel ih=>
   intro listed a w hu hls hSw hdf hsz hcl hnt hv hno hns;by_cases hall:∀ i,i<m->fJ ops listed i
   ·refine sa chkt (ops.size - m) m o3 (qab _) (fuel+1) listed a w ?_ hls (λi hi=>⟨λh=>qbs λhle=>hnt i hle hi h,λh=>hall i h⟩)
     (hend a w hSw hdf hsz (λi t hi h=>hv i t hi h (hall i hi)) (λt h=>hno t (λi hi hi2=>absurd hi2 (h i hi))) (λi o hi ho hd=>hns i o hi ho hd (hall i hi)))
    refine qaC ?_ hu;unfold En;have:((List.range ops.size).filter λi=>decide (m<=i)).length=ops.size - m:=by
     rw[<-qbF];have:∀ s,(List.range s).countP (λi=>decide (m<=i))=s - m:=by
      intro s
      induction s with
      | zero=>simp
      | succ s ih=>rw[qdf,List.countP_append,ih]; simp[List.countP_cons]; split<;>omega
     exact this _
    rw[<-this];rw[<-qbF,<-qbF];refine qdY λi hi h=>?_;have hi:=qaR.1 hi;have hn:=hnt i (by simpa using h) hi;unfold fJ at hn;rw[getD_eq _ _ o3];simpa using hn
   ·simp only[qd5] at hall;obtain ⟨i0,hi0,hni0⟩:=hall;refine⟨λhrd=>?_,λi hi=>?_⟩
    ·exfalso
     have:∀ i,i<m->fJ ops listed i:=by
      intro i
      induction i using Nat.strongRecOn with
      | _ i ih2=>
       intro hi;cases hc:listed.getD i false with
       | true=>exact hc
       | false=>
        have:i∈Region.ready .any ops listed:=by
         refine qcE.2 ⟨by rw[getD_eq _ _ o3]; exact hc,_,qbb o3,λe he hb=>?_⟩;have hlt:=(chk1 i _ (qbb o3)).2.2.1 e he hb;exact ih2 e.on hlt o3
        rw[hrd] at this; cases this
     exact hni0 (this i0 hi0)
    obtain ⟨hun,o,ho,hall⟩:=qcE.1 hi;have his:i<ops.size:=(qaj.1 ho).1;have him:i<m:=qbs λhle=>by
     simp only[gE,Z9] at chkt;have h1:=qak.1 chkt.1.2 i (qaR.2 his);simp only[qbo,qag] at h1;have h2:=qak.1 (h1.resolve_left o3) i0 (qaR.2 hi0);exact hni0 (nr hcl i i0 ⟨o,ho,hall⟩ h2)
    obtain ⟨c1,c2,c3,c4,c5,c6⟩:=chk1 i o ho;have hnot:¬ fJ ops listed i:=by unfold fJ; rw[<-getD_eq _ _ o3,hun]; simp
    have hdst:∀ t,o.dst=some t->cQ ops i=some t:=λt h=>by unfold cQ; rw[ho]; exact h
    refine mV hWF ho c1 (hstep i o him ho a w hSw (λt ht j hj hb=>?_) (λt ht hj=>hno t λj hjm hjt hcj=>?_) hsz) ?_
    ·have hcj:=nr hcl i j ⟨o,ho,hall⟩ hb;have hjs:j<ops.size:=by
      unfold cQ at hj;cases hx:ops[j]? with
      | none=>rw[hx] at hj; cases hj
      | some _=>exact(qaj.1 hx).1
     exact hv j t (qbs λhle=>hnt j hle hjs hcj) hj hcj
    ·rcases c5 j t hjt ht with rfl | h | h
     ·exact hnot hcj
     ·rw[hj j hjt] at h; cases h
     ·cases hoj:ops[j]? with
      | none=>unfold cQ at hjt; rw[hoj] at hjt; cases hjt
      | some oj=>exact hnot (nr hcl j i ⟨oj,hoj,hcl j oj hoj hcj⟩ h)
    ·rintro v w' ⟨hv1,hS1,hE1⟩
     have come_set:∀ k,fJ ops (listed.setIfInBounds i true) k↔k=i∨fJ ops listed k:=λk=>by
      unfold fJ;by_cases e:k=i
      ·subst e; simp[hls,his]
      ·rw[qcv false (qbi e)]; simp[e]
     refine ih _ _ _ ?_ (by simpa using hls) hS1 ?_ ?_ ?_ ?_ ?_ ?_ ?_
     ·have:=filter_lt (λk=>!listed.getD k true) (λk=>!(listed.setIfInBounds i true).getD k true) (List.range ops.size) (λx hx hq=>by
       by_cases e:i=x
       ·subst e; rw[hun]; rfl
       ·rw[qcv true e] at hq; exact hq) ⟨i,qaR.2 his,by rw[hun]; rfl,by simp[hls,his]⟩
      unfold En at *; omega
     ·cases hd:o.dst<;>simp[Act.put,hdf]
     ·cases hd:o.dst<;>simp[Act.put,hsz]
     ·intro k ok hok hk e he hb;rw[come_set];rcases (come_set k).1 hk with rfl | hk
      ·rw[ho] at hok; cases hok;exact .inr (hall e he hb)
      ·exact .inr (hcl k ok hok hk e he hb)
     ·intro k hk hks hc;rcases (come_set k).1 hc with rfl | hc
      ·omega
      ·exact hnt k hk hks hc
     ·intro k t hkm hkt hk;rcases (come_set k).1 hk with rfl | hk
      ·have hd:o.dst=some t:=by unfold cQ at hkt; rw[ho] at hkt; exact hkt
       rw[hd,gA (by rw[hsz]; exact c2 t hd)];exact hv1
      ·have hne:k≠i:=λe=>hnot (e ▸ hk);rw[eD (λhd=>c4 k t (qbi hne) hd hkt)];exact hV k _ _ _ (hv k t hkm hkt hk) hE1
     ·intro t ht;rw[eD (λhd=>ht i him (hdst t hd) ((come_set i).2 (.inl rfl)))];exact hno t λk hkm hk hck=>ht k hkm hk ((come_set k).2 (.inr hck))
     ·intro k ok hkm hok hd hk;rcases (come_set k).1 hk with rfl | hk
      ·exact⟨v,hv1⟩
      ·obtain ⟨u,hu⟩:=hns k ok hkm hok hd hk;exact⟨u,hV k _ _ _ hu hE1⟩
 have h0:∀ i,¬ fJ ops (Array.replicate ops.size false) i:=λi hc=>by
  unfold fJ at hc;by_cases h:i<ops.size<;>simp[Array.getD,h] at hc
 refine FD hm (main _ _ _ _ ?_ r8 hS rfl hN ?_ ?_ ?_ ?_ ?_)
 ·unfold En;exact qaC (qda _ _) r8
 ·intro i o _ hc; exact absurd hc (h0 i)
 ·intro i _ _ hc; exact h0 i hc
 ·intro i t _ _ hc; exact absurd hc (h0 i)
 ·intro t _; rfl
 ·intro i o _ _ _ hc; exact absurd hc (h0 i)
end
section
open Go.RowKit
variable {α:Type} {L:Xv α} {e:TypeId} {base B:Nat} {w:World} {v:Value} {l:List α}
end
inductive A where
 | any
 | v (x:Value)
 | ptr (b o:Nat)
 | ep (b i o:Nat)
 | ip (cs:List A)
 | imm (els:List (List A)) (clip:Bool)
 | sl (b o n:Nat) (clip:Bool)
 | agg (cs:List A)
 | tup (cs:List A)
 | fn (f:Fn) (first cap:List A)
 | ifc (t:TypeId) (x:A)
 | yld (b:Nat)
 | nq (els:List (List A))
 | mr (b:Nat)
 | mv (k:IntKind) (ks:List Int) (vs:List A)
 deriving Inhabited
inductive Lf where
 | exit (id:Nat)
 | goto (l:Nat)
 | ret
inductive ku where
 | ready
 | busy
 | done (j:Lf)
inductive aA where
 | box (cs:List A)
 | row (wr:Bool) (es:Nat) (els:List (List A))
 | rng (st:ku)
 | dead
 | hole
 | mp (k:IntKind) (ks:List Int) (vs:List A)
 deriving Inhabited
abbrev Heap:=List aA
inductive E where
 | normal
 | exit (id:Nat)
 | goto (l:Nat)
 | ret
 | pan (v:A)
inductive Out where
 | ret (a:A)
 | pan (a:A)
abbrev R:=Out×Heap
structure St where
 fr:List (Nat×A)
 H:Heap
def uo (P:Program) (k es:Nat):Prop:=∀ (w:World) (base:Option Addr) (n cap i vb vo vc:Nat) (cs vs:List Value),i<=n->n<=cap->n+1<=4294967296->cs.length=n*es->vs.length=es->(∀ v∈cs,v.oneCell'=true)->(∀ v∈vs,v.oneCell'=true) ->
 (∀ (j:Nat) (v:Value),vs[j]? = some v->w.cell? ⟨vb,vo+j,none⟩=some v) ->
 (0<cap->∃ (b:Nat) (arr:Array Value) (ty:TypeId),base=some ⟨b,0,none⟩/\vb≠b/\w.heap[b]? = some (.cells arr ty (0,0))/\cap*es<=arr.size/\∀ (j:Nat) (v:Value),cs[j]? = some v->arr[j]? = some v) ->
 Calls P k #[.slice base n cap,.int .i64 i,.slice (some ⟨vb,vo,none⟩) 1 vc] w λe w'=>∃ b cap',e=.returned (.slice (some ⟨b,0,none⟩) (n+1) cap')/\n+1<=cap'/\RowKit.Below 0 w w'/\(∀ j,j<w.heap.size->w'.heap[j]? = w.heap[j]?∨(0<cap/\base=some ⟨j,0,none⟩))/\((0<cap/\base=some ⟨b,0,none⟩)∨w.heap.size<=b) ∧
  ∀ (j:Nat) (v:Value),(cs.take (i*es)++vs++cs.drop (i*es))[j]? = some v->w'.cell? ⟨b,j,none⟩=some v
structure Cx where
 P:Program
 glob:Nat->Option (List Value)
 isOrc:Nat->Bool
 isOrcV:Nat->Bool
 C:Nat->List A->Option A
 keep:Nat->Nat->List Nat
 wrAt:Nat->Nat->Bool
 acts:Nat->Nat->List (Nat×Nat×Nat)
 loud:Nat->Nat->Bool
 arr:Nat->Nat->Bool
 join:Nat->Nat->List Nat:=λ_ _=>[]
 cut:Nat->Nat:=λ_=>0
 fre:Nat->Bool:=λ_=>false
 deep:Nat->Bool:=λ_=>false
 ins:Nat->Nat:=λ_=>0
 pin:Nat->Nat->Bool:=λ_ _=>false
 insOK:∀ k,Nat.beq (ins k) 0=false->uo P k (ins k):=by intro k h; exact Bool.noConfusion h
def yZ (f r:Nat):List ((Nat×Nat)×List Nat)->List Nat
 | []=>[]
 | p :: l=>bif Nat.beq p.1.1 f then bif Nat.beq p.1.2 r then p.2 else yZ f r l else yZ f r l
def GF (f r:Nat):List ((Nat×Nat)×List (Nat×Nat×Nat))->List (Nat×Nat×Nat)
 | []=>[]
 | p :: l=>bif Nat.beq p.1.1 f then bif Nat.beq p.1.2 r then p.2 else GF f r l else GF f r l
def xd (k:Nat):List (Nat×Nat)->Nat
 | []=>0
 | p :: l=>bif Nat.beq p.1 k then p.2 else xd k l
theorem M0 {P:Program} {q es:Nat} (h:uo P q es):∀ k,Nat.beq (xd k [(q,es)]) 0=false->uo P k (xd k [(q,es)]):=λk hk=>by
 unfold xd at hk ⊢;cases hb:Nat.beq q k with
 | true=>
  have:=qan hb;subst this;exact h
 | false=>
  rw[hb] at hk;exact absurd (show Nat.beq 0 0=false from hk) (by decide)
def xv (f r:Nat):List (Nat×Nat)->Bool
 | []=>false
 | p :: l=>bif Nat.beq p.1 f&&Nat.beq p.2 r then true else xv f r l
def Ie (k:Nat):List Nat->Bool
 | []=>true
 | x :: l=>bif Nat.beq x k then false else Ie k l
def look:List (Nat×A)->Nat->A
 | [],_=>.any
 | (s,a) :: r,t=>bif Nat.beq s t then a else look r t
def St.put (s:St) (dst:Option Nat) (a:A):St:=match dst with | some d=>{ s with fr:=(d,a) :: s.fr } | none=>s
def dj {α:Type} (P:Program):Sem α->Option α
 | .pure a=>some a
 | .program k=>dj P (k P)
 | .mark _ k=>dj P k
 | _=>none
mutual
def A.te:A->Option Value
 | .v x=>some x
 | .agg cs=>(Fm cs).map λl=>.agg l.toArray
 | .ifc t x=>(A.te x).map (.iface t)
 | .fn (.func f) [] []=>some (.func (.func f) #[] #[])
 | _=>none
def Fm:List A->Option (List Value)
 | []=>some []
 | a :: as=>(A.te a).bind λx=>(Fm as).map (x :: ·)
end
def BF:Value->A
 | .slice none 0 0=>.imm [] true
 | x=>.v x
def wL:Value->A
 | .agg cs=>.agg (cs.toList.map BF)
 | x=>BF x
def mR (P:Program) (t:TypeId):Bool:=match P.underlying t with | some (.struct _) | some (.array _ _)=>true | _=>false
def cY (P:Program) (t:TypeId):Option Nat:=(P.underlying t).bind λ_=>(P.info? t).map (·.size)
def jS (P:Program) (t:TypeId):Option Nat:=(P.info? t).map (·.bytes)
def iD (P:Program) (t:TypeId):Option (List A):=(P.info? t).bind λi=>i.zero.map λz=>z.cells.toList.map BF
def kE (P:Program) (t:TypeId):Option TypeId:=match P.underlying t with | some (.slice e)=>some e | _=>none
def A.cell:A->Bool
 | .any | .agg _ | .tup _ | .nq _=>false
 | .v x=>x.oneCell'
 | _=>true
def A.cells?:A->Option (List A)
 | .agg cs=>bif cs.all A.cell then some cs else none
 | .v x=>bif x.oneCell' then some [.v x] else none
 | .any | .tup _ | .nq _=>none
 | a=>some [a]
def join (P:Program) (t:TypeId) (cs:List A):Option A:=bif mR P t then some (.agg cs) else match cs with | [c]=>some c | _=>none
def chunk {α:Type} (es:Nat):Nat->List α->List (List α)
 | 0,_=>[]
 | q+1,xs=>xs.take es :: chunk es q (xs.drop es)
def lL (P:Program) (t:TypeId) (a:A) (H:Heap):Option A:=
 (cY P t).bind λn=>bif n==0 then none else
 match a with
 | .ptr b o=>match H[b]? with
  | some (.box cs)=>bif decide (o+n<=cs.length) then join P t ((cs.drop o).take n) else none
  | _=>none
 | .ep b i o=>match H[b]? with
  | some (.row true _ els)=>match els[i]? with
   | some cs=>bif decide (o+n<=cs.length) then join P t ((cs.drop o).take n) else
    bif Nat.beq o 0&&Nat.beq ((els.drop i).take (n / cs.length)).flatten.length n then join P t ((els.drop i).take (n / cs.length)).flatten else none
   | none=>none
  | _=>none
 | .ip cs=>bif decide (n<=cs.length) then join P t (cs.take n) else none
 | _=>none
def bI {α:Type} (cs:List α) (o:Nat) (xs:List α):List α:=cs.take o++xs++cs.drop (o+xs.length)
def jz (P:Program) (t:TypeId) (a x:A) (H:Heap) (lo:Nat):Option Heap:=
 (cY P t).bind λn=>x.cells?.bind λxs=>bif n==0 || !(xs.length==n) then none else
 match a with
 | .ptr b o=>match H[b]? with
  | some (.box cs)=>bif decide (lo<=b)&&decide (o+n<=cs.length) then some (H.set b (.box (bI cs o xs))) else none
  | _=>none
 | .ep b i o=>match H[b]? with
  | some (.row true es els)=>match els[i]? with
   | some cs=>bif decide (lo<=b)&&decide (o+n<=cs.length) then some (H.set b (.row true es (els.set i (bI cs o xs)))) else
    bif decide (lo<=b)&&Nat.beq o 0&&Nat.beq (n / es*es) n&&decide (i+n / es<=els.length) then some (H.set b (.row true es (bI els i (chunk es (n / es) xs)))) else none
   | none=>none
  | _=>none
 | _=>none
def nO (P:Program) (t:TypeId) (H:Heap):Option (A×Heap):=(iD P t).map λcs=>(.ptr H.length 0,H++[.box cs])
def BP (x:A) (H:Heap):Option (A×Heap):=x.cells?.map λcs=>(.ptr H.length 0,H++[.box cs])
def rowOf (P:Program) (t:TypeId) (cs:List A) (H:Heap):Option (A×Heap):=match P.underlying t with
 | some (.array n e)=>(cY P e).bind λes=>bif Nat.beq es 0 || Nat.beq n 0 || !Nat.beq cs.length (n*es) then none else some (.ep H.length 0 0,H++[.row true es (chunk es n cs)])
 | _=>none
def mj (P:Program) (t:TypeId) (H:Heap):Option (A×Heap):=(iD P t).bind λcs=>rowOf P t cs H
def xb (P:Program) (t:TypeId) (x:A) (H:Heap):Option (A×Heap):=x.cells?.bind λcs=>rowOf P t cs H
def qF (b:Bool) (P:Program) (t:TypeId) (H:Heap):Option (A×Heap):=bif b then mj P t H else nO P t H
def B6 (b:Bool) (P:Program) (t:TypeId) (x:A) (H:Heap):Option (A×Heap):=bif b then xb P t x H else BP x H
def rep (c:Bool):Operand:=if c then .const .nilIface else .tmp 0
def N6:Operand->Bool | .const _=>true | _=>false
def uV (P:Program) (q:TypeId->Value->Value->Option Bool) (xs ys:Array Value):List Field->Option Bool
 | []=>some true
 | [f]=>bif f.name == "_" then some true else (dj P (part f.type xs f.offset)).bind λa=>(dj P (part f.type ys f.offset)).bind λb=>q f.type a b
 | f :: fs=>bif f.name == "_" then uV P q xs ys fs else (dj P (part f.type xs f.offset)).bind λa=>(dj P (part f.type ys f.offset)).bind λb=>(q f.type a b).bind λr=>(uV P q xs ys fs).map λr'=>r&&r'
def xg (P:Program) (q:TypeId->Value->Value->Option Bool) (e:TypeId) (c:Nat) (xs ys:Array Value):List Nat->Option Bool
 | []=>some true
 | [i]=>(dj P (part e xs (i*c))).bind λa=>(dj P (part e ys (i*c))).bind λb=>q e a b
 | i :: is=>(dj P (part e xs (i*c))).bind λa=>(dj P (part e ys (i*c))).bind λb=>(q e a b).bind λr=>(xg P q e c xs ys is).map λr'=>r&&r'
def PH (P:Program):Nat->TypeId->Value->Value->Option Bool
 | 0,_,_,_=>none
 | d+1,t,x,y=>match P.underlying t,x,y with
  | some (.int _),.int k a,.int k' b=>bif decide (k=k') then some (a==b) else none
  | some .bool,.bool a,.bool b=>some (a==b)
  | some .string,.string a,.string b=>some (a==b)
  | some (.struct _),.agg xs,.agg ys=>bif P.stoodInHeld t then none else uV P (PH P d) xs ys (P.fieldsOf t).toList
  | some (.array n e),.agg xs,.agg ys=>(P.info? e).bind λ_=>xg P (PH P d) e (P.cellsOf e) xs ys (List.range n)
  | _,_,_=>none
def xi (P:Program) (t:TypeId) (x y:A):Option Bool:=bif P.eqGuardType P.depth t then none else x.te.bind λa=>y.te.bind λb=>PH P 20 t a b
def me (P:Program) (op:BinOp) (t:TypeId) (c d:Bool) (x y:A):Option A:=
 match op,x,y with
 | .eql,.agg _,.agg _=>(xi P t x y).map λr=>.v (.bool r)
 | .neq,.agg _,.agg _=>(xi P t x y).map λr=>.v (.bool (!r))
 | _,_,_=>x.te.bind λa=>y.te.bind λb=>(dj P (do eqGuard op t (rep c) (rep d) a b; binOp op t a b)).map wL
def mc (P:Program) (op:UnOp) (x:A):Option A:=x.te.bind λa=>(dj P (Op.unary op a)).map wL
def Dj (mn:Bool) (x y:A):Option A:=match x,y with
 | .v (.int k a),.v (.int l b)=>bif k==l then some (.v (.int k (if mn then (if b<a then b else a) else (if a<b then b else a)))) else none
 | _,_=>none
def GA (mn:Bool):A->List A->Option A
 | x,[]=>some x
 | x,y :: r=>(Dj mn x y).bind λz=>GA mn z r
def za (P:Program) (t:TypeId):Option (IntKind×TypeId):=match P.underlying t with
 | some (.map kt vt)=>match P.underlying kt with | some (.int k)=>some (k,vt) | _=>none
 | _=>none
def keyOf (k:IntKind):A->Option Int
 | .v (.int j n)=>bif decide (j=k) then some n else none
 | _=>none
def nT (a:Int):List Int->List A->Option A
 | x :: ks,v :: vs=>bif decide (a=x) then some v else nT a ks vs
 | _,_=>none
def zu (a:Int) (y:A):List Int->List A->List Int×List A
 | x :: ks,v :: vs=>bif decide (a=x) then (x :: ks,y :: vs) else (x :: (zu a y ks vs).1,v :: (zu a y ks vs).2)
 | _,_=>([a],[y])
def rp (P:Program) (t:TypeId) (H:Heap):Option (A×Heap):=(za P t).map λp=>(.mr H.length,H++[.mp p.1 [] []])
def ka (P:Program) (t:TypeId) (m i x:A) (H:Heap) (lo:Nat):Option Heap:=(za P t).bind λp=>(keyOf p.1 i).bind λa=>match m with
 | .mr b=>match H[b]? with
  | some (.mp k ks vs)=>bif decide (lo<=b)&&decide (k=p.1) then some (H.set b (.mp k (zu a x ks vs).1 (zu a x ks vs).2)) else none
  | _=>none
 | _=>none
def Oa (P:Program) (vt:TypeId) (c:Bool) (r:Option A):Option A:=match r with
 | some y=>some (bif c then .tup [y,.v (.bool true)] else y)
 | none=>(P.info? vt).bind λi=>i.zero.map λz=>bif c then .tup [wL z,.v (.bool false)] else wL z
def fZ (P:Program) (t:TypeId) (m i:A) (c:Bool) (H:Heap):Option A:=(za P t).bind λp=>(keyOf p.1 i).bind λa=>match m with
 | .mv k ks vs=>bif decide (k=p.1) then Oa P p.2 c (nT a ks vs) else none
 | .mr b=>match H[b]? with
  | some (.mp k ks vs)=>bif decide (k=p.1) then Oa P p.2 c (nT a ks vs) else none
  | _=>none
 | _=>none
def oV (x:A) (i:Nat):Option A:=match x with | .tup cs=>cs[i]? | _=>none
def BS (P:Program) (t:TypeId) (x:A) (i:Nat):Option A:=
 match P.underlying t,x with
 | some (.struct fs),.agg cs=>fs[i]?.bind λf=>(cY P f.type).bind λn=>bif decide (f.offset+n<=cs.length) then join P f.type ((cs.drop f.offset).take n) else none
 | _,_=>none
def idx:A->Option Nat
 | .v (.int _ n)=>bif decide (0<=n) then some n.toNat else none
 | _=>none
def BV (P:Program) (t:TypeId) (x i:A):Option A:=
 (idx i).bind λj=>
 match P.underlying t,x with
 | some (.array len e),.agg cs=>(cY P e).bind λn=>bif decide (j<len)&&decide (j*n+n<=cs.length) then join P e ((cs.drop (j*n)).take n) else none
 | some .string,.v (.string s)=>s[j]?.map λb=>.v (.int .u8 b.toNat)
 | _,_=>none
def ij (H:Heap):A->Bool
 | .ptr b _=>match H[b]? with | some (.box _)=>true | _=>false
 | .ep b _ _=>match H[b]? with | some (.row true _ _)=>true | _=>false
 | .sl b _ _ _=>match H[b]? with | some (.row ..)=>true | _=>false
 | .mr b=>match H[b]? with | some (.mp ..)=>true | _=>false
 | _=>true
def gX (P:Program) (t:TypeId) (x:A) (i:Nat) (H:Heap):Option A:=
 bif ij H x then
 match P.underlying t with
 | some (.struct fs)=>fs[i]?.bind λf=>(cY P f.type).bind λn=>bif n==0 then none else
  match x with
  | .ptr b o=>some (.ptr b (o+f.offset))
  | .ep b j o=>some (.ep b j (o+f.offset))
  | .ip cs=>some (.ip (cs.drop f.offset))
  | _=>none
 | _=>none
 else none
def dA (P:Program) (t:TypeId) (x i:A) (H:Heap):Option A:=
 (idx i).bind λj=>bif ij H x then
 match P.underlying t with
 | some (.slice e)=>(cY P e).bind λn=>match x with
  | .imm els _=>els[j]?.bind λcs=>bif cs.length==n then some (.ip cs) else none
  | .sl b o m _=>bif decide (j<m) then match H[b]? with
   | some (.row true es _)=>bif es==n then some (.ep b (o+j) 0) else none
   | some (.row false es els)=>bif es==n then els[o+j]?.map .ip else none
   | _=>none else none
  | _=>none
 | some (.array len e)=>(cY P e).bind λn=>bif !decide (j<len) then none else match x with
  | .ptr b o=>some (.ptr b (o+j*n))
  | .ep b k o=>match H[b]? with
   | some (.row _ es els)=>bif Nat.beq es n&&Nat.beq o 0&&decide (k+j<els.length) then some (.ep b (k+j) 0) else some (.ep b k (o+j*n))
   | _=>none
  | .ip cs=>some (.ip (cs.drop (j*n)))
  | _=>none
 | _=>none
 else none
def sy (P:Program) (t:TypeId) (x:A) (H:Heap):Option A:=
 bif ij H x then
 match P.underlying t,x with
 | some .string,.v (.string s)=>some (.v (.int .i64 s.size))
 | some (.slice _),.imm els _=>some (.v (.int .i64 els.length))
 | some (.slice _),.sl _ _ n _=>some (.v (.int .i64 n))
 | _,_=>none
 else none
def sS (H:Heap):A->Bool
 | .ptr b o=>ij H (.ptr b o)
 | .ep b i o=>ij H (.ep b i o)
 | .ip _=>true
 | .fn (.func _) _ _=>true
 | _=>false
def Ey (a:A) (H:Heap):Option A:=bif sS H a then some a else none
def mU (d:Nat):Option A->Option Nat
 | none=>some d
 | some a=>idx a
def eK (P:Program) (t:TypeId) (x:A) (lo hi mx:Option A) (H:Heap):Option A:=
 match P.underlying t,x with
 | some .string,.v (.string s)=>bif mx.isSome then none else
  (mU s.size hi).bind λh=>(mU 0 lo).bind λl=>bif decide (l<=h)&&decide (h<=s.size) then some (.v (.string (s.extract l h))) else none
 | some (.slice e),.imm els c=>(cY P e).bind λn=>(mU els.length hi).bind λh=>(mU 0 lo).bind λl=>
  bif decide (l<=h)&&decide (h<=els.length)&&(l==0 || match els[l]? with | some cs=>cs.length==n | none=>true) then match mx with
   | none=>some (.imm ((els.drop l).take (h - l)) (c&&h==els.length))
   | some m=>(idx m).bind λm=>bif m==h then some (.imm ((els.drop l).take (h - l)) true) else none
  else none
 | some (.slice e),.sl b o n c=>(cY P e).bind λz=>(mU n hi).bind λh=>(mU 0 lo).bind λl=>
  bif decide (l<=h)&&decide (h<=n)&&(match H[b]? with | some (.row _ es _)=>es==z | _=>false) then match mx with
   | none=>some (.sl b (o+l) (h - l) (c&&h==n))
   | some m=>(idx m).bind λm=>bif m==h then some (.sl b (o+l) (h - l) true) else none
  else none
 | some (.array n e),.ip cs=>(cY P e).bind λz=>(mU n hi).bind λh=>(mU 0 lo).bind λl=>
  bif decide (l<=h)&&decide (h<=n)&&decide (n*z<=cs.length)&&mx.isNone&&!Nat.beq z 0 then some (.imm (((chunk z n cs).drop l).take (h - l)) (Nat.beq h n)) else none
 | some (.array n e),.ep b k o=>(cY P e).bind λz=>(mU n hi).bind λh=>(mU 0 lo).bind λl=>
  bif decide (l<=h)&&decide (h<=n)&&mx.isNone&&Nat.beq o 0&&(match H[b]? with | some (.row true es els)=>Nat.beq es z&&decide (k+n<=els.length) | _=>false) then some (.sl b (k+l) (h - l) (Nat.beq h n)) else none
 | _,_=>none
def els? (H:Heap):A->Option (List (List A))
 | .imm els _=>some els
 | .sl b o n _=>match H[b]? with
  | some (.row _ _ els)=>some ((els.drop o).take n)
  | _=>none
 | .v (.string s)=>some (s.data.toList.map λc=>[.v (.int .u8 c.toNat)])
 | _=>none
def Al (H:Heap):A->Option (List (List A))
 | .v _=>none
 | x=>els? H x
def dt:Nat:=140737488355328
def mS (P:Program) (t:TypeId):Bool:=match P.underlying t with | some (.slice _) | some .string=>true | _=>false
def yW (P:Program) (t:TypeId):Bool:=match P.underlying t with | some (.int _)=>true | _=>false
def wT:A->A
 | .imm els _=>.imm els false
 | a=>a
def Cf (P:Program) (H:Heap) (t2:TypeId) (by_:Nat) (z:List A) (y:A):Option (List (List A)):=bif mS P t2 then els? H y else match y with
 | .v (.int .i64 n)=>bif yW P t2&&decide (0<=n)&&decide (n*by_<=dt)&&decide (n<=dt) then some (List.replicate n.toNat (z.map wT)) else none
 | _=>none
def bU (P:Program) (t t2:TypeId) (wr:Bool) (x y:A) (H:Heap) (lo:Nat):Option (A×Heap):=
 (kE P t).bind λe=>(cY P e).bind λes=>(jS P e).bind λby_=>(iD P e).bind λz=>(Cf P H t2 by_ z y).bind λys=>
 bif es==0 || by_==0 || !(z.length==es) || !(ys.all λcs=>cs.length==es&&cs.all A.cell) then none else
 match x with
 | .imm xs true=>
  bif !decide ((xs.length+ys.length)*by_<=dt) then none else
  bif wr&&xs.isEmpty then some (.sl H.length 0 ys.length false,H++[.row true es ys]) else
  bif xs.all (λcs=>cs.length==es&&cs.all A.cell) then some (.sl H.length 0 (xs.length+ys.length) false,H++[.row false es (xs++ys)]) else none
 | .sl b o n c=>match H[b]? with
  | some (.row false es' els)=>
   bif !decide ((n+ys.length)*by_<=dt) || !(es'==es) || !decide (o+n<=els.length) then none else
   bif c then some (.sl H.length 0 (n+ys.length) false,H++[.row false es ((els.drop o).take n++ys)]) else
   bif decide (lo<=b)&&o==0&&n==els.length then some (.sl b 0 (n+ys.length) false,H.set b (.row false es (els++ys))) else none
  | _=>none
 | _=>none
def cR (ck:Bool) (P:Program) (t:TypeId) (n c:A) (H:Heap):Option (A×Heap):=
 (kE P t).bind λe=>(cY P e).bind λes=>(jS P e).bind λby_=>(iD P e).bind λz=>(idx n).bind λn=>(idx c).bind λc=>
 bif es==0 || !(z.length==es) || !decide (c*by_<=dt) || !decide (c<=dt) || !decide (n<=c) then none else
 bif n==c then some (.sl H.length 0 n ck,H++[.row true es (List.replicate n (bif ck then z else z.map wT))]) else
 bif n==0 then some (.sl H.length 0 0 false,H++[.row false es []]) else none
def uE (P:Program) (t:TypeId) (n c:A) (H:Heap):Option (A×Heap):=cR false P t n c H
def jy (P:Program) (t:TypeId) (n c:A) (H:Heap):Option (A×Heap):=
 (kE P t).bind λe=>(cY P e).bind λes=>(jS P e).bind λby_=>(iD P e).bind λz=>(idx n).bind λn=>(idx c).bind λc=>
 bif es==0 || !(z.length==es) || !decide (c*by_<=dt) || !decide (c<=dt) || !(n==c) then none else some (.imm (List.replicate n (z.map wT)) false,H)
def vE (b w:Bool) (P:Program) (t:TypeId) (n c:A) (H:Heap):Option (A×Heap):=bif b then jy P t n c H else cR w P t n c H
def xm (place:Nat->Option (Nat×Nat)) (cs:List A):List (Nat×A)->Option (List A)
 | []=>some cs
 | (i,x) :: r=>(place i).bind λp=>x.cells?.bind λxs=>bif xs.length==p.2&&decide (p.1+p.2<=cs.length) then xm place (bI cs p.1 xs) r else none
def Ea (P:Program) (t:TypeId):Option (Nat->Option (Nat×Nat)):=match P.underlying t with
 | some (.struct fs)=>(fs.toList.mapM λf=>(P.info? f.type).map λi=>(f.offset,i.size)).map λplaces=>(places.toArray[·]?)
 | some (.array _ e)=>(P.info? e).map λi=>λj=>some (j*i.size,i.size)
 | _=>none
def yh (P:Program) (t:TypeId) (parts:List (Nat×A)):Option A:=
 (iD P t).bind λz=>(Ea P t).bind λplace=>(xm place z parts).map .agg
def ow (els:List (List A)):List (Nat×A)->Option (List (List A))
 | []=>some els
 | (i,x) :: r=>x.cells?.bind λxs=>ow (els.set i xs) r
def bC (P:Program) (t:TypeId) (len:Nat) (parts:List (Nat×A)):Option A:=
 (kE P t).bind λe=>(cY P e).bind λes=>(iD P e).bind λz=>bif es==0 || !(z.length==es) || !decide (len*es<=16777216) then none else
 bif parts.all (λp=>decide (p.1<len)&&(match p.2.cells? with | some xs=>xs.length==es | none=>false)) then (ow (List.replicate len z) parts).map λels=>.imm els true else none
def sv (P:Program) (t:TypeId) (len:Nat) (parts:List (Nat×A)) (H:Heap):Option (A×Heap):=
 (kE P t).bind λe=>(cY P e).bind λes=>(bC P t len parts).bind λa=>match a with
  | .imm els true=>some (.sl H.length 0 els.length true,H++[.row true es els])
  | _=>none
def oU (P:Program) (t:TypeId) (x y:A) (H:Heap) (lo:Nat):Option (A×Heap):=
 (kE P t).bind λe=>(cY P e).bind λes=>(els? H y).bind λys=>bif es==0 || !(ys.all λcs=>cs.length==es&&cs.all A.cell) then none else
 match x with
 | .sl b o n _=>match H[b]? with
  | some (.row true es' els)=>bif decide (lo<=b)&&es'==es then some (.v (.int .i64 (min ys.length n:Nat)),H.set b (.row true es (bI els o (ys.take n)))) else none
  | _=>none
 | _=>none
def bytesOf:List (List A)->Option (List UInt8)
 | []=>some []
 | [.v (.int .u8 n)] :: r=>(bytesOf r).map (n.toNat.toUInt8 :: ·)
 | _=>none
def bt (P:Program) (s d:TypeId) (x:A) (H:Heap):Option A:=
 match P.underlying s,P.underlying d,x with
 | some (.slice e),some .string,x=>match P.underlying e,cY P e with
  | some (.int .u8),some 1=>(Al H x).bind λels=>(bytesOf els).map λl=>.v (.string ⟨l.toArray⟩)
  | _,_=>none
 | some .string,some (.slice e),.v (.string s)=>match P.underlying e with
  | some (.int .u8)=>some (.imm (s.data.toList.map λc=>[.v (.int .u8 c.toNat)]) false)
  | _=>none
 | _,_,x=>x.te.bind λa=>(dj P (convert s d a)).map wL
def Jr (P:Program) (t:TypeId) (x:A):Option A:=match P.underlying t with | some (.interface _)=>none | none=>none | some _=>some (.ifc t x)
def zi (P:Program) (t:TypeId) (c:Bool):Option A:=bif c then (P.info? t).bind λi=>i.zero.map λz=>.tup [wL z,.v (.bool false)] else none
def pV (P:Program) (x:A) (t:TypeId) (c:Bool):Option A:=match P.underlying t with
 | none=>none
 | some (.interface _)=>none
 | some _=>match x with
  | .ifc t' y=>bif Nat.beq t' t then some (bif c then .tup [y,.v (.bool true)] else y) else zi P t c
  | .v .nilIface=>zi P t c
  | _=>none
mutual
def cZ (g:Nat->Nat->Nat->A):A->A
 | .sl b o m _=>g b o m
 | .imm els _=>.imm (dM g els) false
 | .agg cs=>.agg (bu g cs)
 | .tup cs=>.tup (bu g cs)
 | .ifc t x=>.ifc t (cZ g x)
 | .mv k ks vs=>.mv k ks (bu g vs)
 | .v x=>.v x
 | .fn f [] []=>.fn f [] []
 | _=>.any
def bu (g:Nat->Nat->Nat->A):List A->List A
 | []=>[]
 | a :: as=>cZ g a :: bu g as
def dM (g:Nat->Nat->Nat->A):List (List A)->List (List A)
 | []=>[]
 | a :: as=>bu g a :: dM g as
end
def jk:Nat->Heap->Nat->Nat->Nat->A
 | 0,_,_,_,_=>.any
 | n+1,H,b,o,m=>match H[b]? with
  | some (.row false _ els)=>.imm (dM (jk n H) ((els.drop o).take m)) false
  | _=>.any
def snap (H:Heap) (a:A):A:=cZ (jk 4 H) a
def jK:Nat->Heap->Nat->Nat->Nat->A
 | 0,_,_,_,_=>.any
 | n+1,H,b,o,m=>match H[b]? with
  | some (.row _ _ els)=>.imm (dM (jK n H) ((els.drop o).take m)) false
  | _=>.any
def kQ:Nat->Heap->A->A
 | 0,_,_=>.any
 | n+1,H,.ptr b o=>match H[b]? with | some (.box cs)=>.ip ((cs.drop o).map (kQ n H)) | _=>.any
 | n+1,H,.fn f p q=>.fn f (p.map (kQ n H)) (q.map (kQ n H))
 | n+1,H,.agg cs=>.agg (cs.map (kQ n H))
 | _+1,H,a=>cZ (jK 4 H) a
def bp (H:Heap) (a:A):A:=match a with
 | .mr b=>match H[b]? with
  | some (.mp k ks vs)=>.mv k ks (bu (jK 4 H) vs)
  | _=>.any
 | .fn f p q=>kQ 6 H (.fn f p q)
 | a=>cZ (jK 4 H) a
def oW (lo:Nat) (a:A) (H:Heap):Option (A×Heap):=match a with
 | .sl b o n _=>match H[b]? with
  | some (.row true _ els)=>bif decide (lo<=b) then some (.imm (dM (jk 4 H) ((els.drop o).take n)) false,H.set b .dead) else none
  | some (.row false _ els)=>some (.imm (dM (jk 4 H) ((els.drop o).take n)) false,H)
  | _=>none
 | .ptr b o=>match H[b]? with
  | some (.box cs)=>bif decide (lo<=b)&&Nat.beq o 0 then some (.ip cs,H.set b .dead) else none
  | _=>none
 | .imm els c=>some (.imm els c,H)
 | _=>none
def Qi (els:List (List A)):Bool:=els.all λcs=>match cs with | [.imm [] true]=>true | _=>false
def xc (lo es:Nat) (a:A) (H:Heap):Option (A×Heap):=match a with
 | .sl b o n c=>match H[b]? with
  | some (.row true k els)=>bif decide (lo<=b)&&Nat.beq k 1&&Nat.beq n els.length&&decide (n<=4)&&Qi els then some (.sl b o n c,(H++[aA.row false es [],aA.row false es [],aA.row false es [],aA.row false es []]).set b (.row true 1 (List.take n [[.sl H.length 0 0 false],[.sl (H.length+1) 0 0 false],[.sl (H.length+2) 0 0 false],[.sl (H.length+3) 0 0 false]]))) else none
  | _=>none
 | _=>none
def PZ (m lo:Nat) (a:A) (H:Heap):Option (A×Heap):=match m with | 0=>oW lo a H | es+1=>xc lo es a H
def GB (P:Program) (s t:TypeId) (x:A) (H:Heap) (lo:Nat):Option (A×Heap):=
 match P.underlying s with
 | some (.slice e)=>match P.underlying e with
  | some (.int .u8)=>match x with
   | .sl b _ n _=>match H[b]? with
    | some (.row true _ _)=>bif Nat.beq s t&&decide (0<n) then oW lo x H else none
    | _=>none
   | _=>none
  | _=>none
 | _=>none
def EW (H:Heap) (a:A):A:=match a with | .sl b o n c=>snap H (.sl b o n c) | .imm els _=>.imm els false | a=>a
def fw (H:Heap) (a:A):A:=match a with | .sl b o n c=>snap H (.sl b o n c) | .agg cs=>.agg (cs.map (EW H)) | a=>a
def cw (a:A) (H:Heap) (x:A):A:=match a with | .ep ..=>fw H x | _=>x
def IY (p:Bool) (a:A) (H:Heap) (x:A):A:=bif p then x else cw a H x
mutual
def A.under (L:Nat):A->Bool
 | .any | .v _ | .nq _=>true
 | .ptr b _ | .ep b _ _ | .sl b _ _ _ | .yld b | .mr b=>decide (b<L)
 | .mv _ _ vs=>bw L vs
 | .ip cs | .agg cs | .tup cs=>bw L cs
 | .imm els _=>aH L els
 | .fn _ a b=>bw L a&&bw L b
 | .ifc _ x=>A.under L x
def bw (L:Nat):List A->Bool
 | []=>true
 | a :: as=>A.under L a&&bw L as
def aH (L:Nat):List (List A)->Bool
 | []=>true
 | a :: as=>bw L a&&aH L as
end
def aA.under (L:Nat):aA->Bool
 | .box cs=>bw L cs
 | .row _ _ els=>aH L els
 | .rng _=>true
 | .dead=>true
 | .hole=>true
 | .mp _ _ vs=>bw L vs
def trim (L:Nat) (H:Heap):Option Heap:=bif H.length==L then some H else bif (H.take L).all (aA.under L) then some (H.take L) else none
def cM (cx:Cx) (s:St):Operand->A
 | .tmp t=>look s.fr t
 | .const x=>wL x
 | .global g=>match cx.glob g with | some vs=>.ip (vs.map .v) | none=>.any
 | .func f=>.fn (.func f) [] []
def dP {β:Type} (a:A) (x y:Option β):Option β:=match a with | .v (.bool b)=>bif b then x else y | _=>none
def IP:Value->Value->Bool
 | .int k a,.int k' b=>decide (k=k')&&decide (a=b)
 | .bool a,.bool b=>a==b
 | .string a,.string b=>decide (a.data.toList=b.data.toList)
 | .nilIface,.nilIface=>true
 | .nilFunc,.nilFunc=>true
 | _,_=>false
theorem IQ:∀ (x y:Value),IP x y=true->x=y:=λx y h=>by
 unfold IP at h;split at h
 ·simp only[Z9,qag] at h; rw[h.1,h.2]
 ·rw[eq_of_beq h]
 ·rename_i a b;obtain ⟨⟨a⟩⟩:=a; obtain ⟨⟨b⟩⟩:=b;exact qa7 (λl=>Value.string ⟨⟨l⟩⟩) (qai h)
 ·rfl
 ·rfl
 ·cases h
mutual
def jH:A->A->Bool
 | .any,y=>match y with | .any=>true | _=>false
 | .v x,y=>match y with | .v z=>IP x z | _=>false
 | .ptr b o,y=>match y with | .ptr b' o'=>Nat.beq b b'&&Nat.beq o o' | _=>false
 | .ep b i o,y=>match y with | .ep b' i' o'=>Nat.beq b b'&&Nat.beq i i'&&Nat.beq o o' | _=>false
 | .ip cs,y=>match y with | .ip ds=>sameAs cs ds | _=>false
 | .imm els c,y=>match y with | .imm ds d=>qf els ds&&(c==d) | _=>false
 | .sl b o n c,y=>match y with | .sl b' o' n' c'=>Nat.beq b b'&&Nat.beq o o'&&Nat.beq n n'&&(c==c') | _=>false
 | .agg cs,y=>match y with | .agg ds=>sameAs cs ds | _=>false
 | .tup cs,y=>match y with | .tup ds=>sameAs cs ds | _=>false
 | .mv k ks vs,y=>match y with | .mv k' ks' vs'=>decide (k=k')&&decide (ks=ks')&&sameAs vs vs' | _=>false
 | .mr b,y=>match y with | .mr b'=>Nat.beq b b' | _=>false
 | .fn _ _ _,_=>false
 | .ifc _ _,_=>false
 | .yld _,_=>false
 | .nq _,_=>false
def sameAs:List A->List A->Bool
 | [],y=>match y with | []=>true | _=>false
 | a :: l,y=>match y with | b :: m=>jH a b&&sameAs l m | []=>false
def qf:List (List A)->List (List A)->Bool
 | [],y=>match y with | []=>true | _=>false
 | a :: l,y=>match y with | b :: m=>sameAs a b&&qf l m | []=>false
end
mutual
theorem wa:∀ (x y:A),jH x y=true->x=y
 | .any,y,h=>by cases y<;>simp only[jH,qaQ] at h; rfl
 | .v x,y,h=>by
  cases y<;>simp only[jH,qaQ,Z9,qag] at h
  rw[IQ _ _ h]
 | .ptr b o,y,h=>by
  cases y<;>simp only[jH,qaQ,Z9,qag] at h
  rw[qan h.1,qan h.2]
 | .ep b i o,y,h=>by
  cases y<;>simp only[jH,qaQ,Z9,qag] at h
  rw[qan h.1.1,qan h.1.2,qan h.2]
 | .ip cs,y,h=>by
  cases y<;>simp only[jH,qaQ,Z9,qag] at h
  rw[iz _ _ h]
 | .imm els c,y,h=>by
  cases y<;>simp only[jH,qaQ,Z9,qag] at h
  rw[rb _ _ h.1,eq_of_beq h.2]
 | .sl b o n c,y,h=>by
  cases y<;>simp only[jH,qaQ,Z9,qag] at h
  rw[qan h.1.1.1,qan h.1.1.2,qan h.1.2,eq_of_beq h.2]
 | .agg cs,y,h=>by
  cases y<;>simp only[jH,qaQ,Z9,qag] at h
  rw[iz _ _ h]
 | .tup cs,y,h=>by
  cases y<;>simp only[jH,qaQ,Z9,qag] at h
  rw[iz _ _ h]
 | .mv k ks vs,y,h=>by
  cases y<;>simp only[jH,qaQ,Z9,qag] at h
  rw[h.1.1,h.1.2,iz _ _ h.2]
 | .mr b,y,h=>by
  cases y<;>simp only[jH,qaQ,Z9,qag] at h
  rw[qan h]
 | .fn ..,y,h=>by cases y<;>simp only[jH,qaQ] at h
 | .ifc ..,y,h=>by cases y<;>simp only[jH,qaQ] at h
 | .yld ..,y,h=>by cases y<;>simp only[jH,qaQ] at h
 | .nq ..,y,h=>by cases y<;>simp only[jH,qaQ] at h
theorem iz:∀ (x y:List A),sameAs x y=true->x=y
 | [],y,h=>by cases y<;>simp only[sameAs,qaQ] at h; rfl
 | a :: l,y,h=>by
  cases y<;>simp only[sameAs,qaQ,Z9] at h
  rw[wa _ _ h.1,iz _ _ h.2]
theorem rb:∀ (x y:List (List A)),qf x y=true->x=y
 | [],y,h=>by cases y<;>simp only[qf,qaQ] at h; rfl
 | a :: l,y,h=>by
  cases y<;>simp only[qf,qaQ,Z9] at h
  rw[iz _ _ h.1,rb _ _ h.2]
end
def IK:aA->aA->Bool
 | .box a,.box b=>sameAs a b
 | .row w e a,.row w' e' b=>(w==w')&&Nat.beq e e'&&qf a b
 | .dead,.dead=>true
 | .hole,.hole=>true
 | .mp k ks vs,.mp k' ks' vs'=>decide (k=k')&&decide (ks=ks')&&sameAs vs vs'
 | _,_=>false
theorem IL:∀ (x y:aA),IK x y=true->x=y:=λx y h=>by
 unfold IK at h;split at h
 ·rw[iz _ _ h]
 ·rw[Z9,Z9] at h; rw[eq_of_beq h.1.1,qan h.1.2,rb _ _ h.2]
 ·rfl
 ·rfl
 ·simp only[Z9,qag] at h; rw[h.1.1,h.1.2,iz _ _ h.2]
 ·cases h
def Bj:Heap->Heap->Bool
 | [],[]=>true
 | a :: l,b :: m=>IK a b&&Bj l m
 | _,_=>false
theorem wb:∀ (x y:Heap),Bj x y=true->x=y
 | [],[],_=>rfl
 | [],_ :: _,h=>by cases h
 | _ :: _,[],h=>by cases h
 | a :: l,b :: m,h=>by
  rw[Bj,Z9] at h; rw[IL _ _ h.1,wb _ _ h.2]
def Bl:Option R->Option R->Bool
 | some (.ret a,H),some (.ret b,H')=>jH a b&&Bj H H'
 | some (.pan a,H),some (.pan b,H')=>jH a b&&Bj H H'
 | none,none=>true
 | _,_=>false
theorem IM (x y:Option R) (h:Bl x y=true):x=y:=by
 unfold Bl at h;split at h
 ·rw[Z9] at h; rw[wa _ _ h.1,wb _ _ h.2]
 ·rw[Z9] at h; rw[wa _ _ h.1,wb _ _ h.2]
 ·rfl
 ·cases h
noncomputable def both (x y:Option R):Option R:=bif Bl x y then y else open Classical in if x=y then y else none
noncomputable def O3 (els:List (List A)) (x y:Option R):Option R:=match els with | []=>both x y | _ :: _=>y
noncomputable def bn (a:A) (x y:Option R):Option R:=match a with | .nq els=>O3 els x y | a=>dP a x y
theorem GL {x y:Option R} (h:x=y):both x y=y:=by
 unfold both;cases Bl x y
 ·exact qaf h
 ·rfl
theorem ED {x y:Option R} {r:R} (h:both x y=some r):x=y/\y=some r:=by
 unfold both at h;cases e:Bl x y
 ·rw[e] at h;by_cases hxy:x=y
  ·rw[show (bif false then y else open Classical in if x=y then y else none)=y from qaf hxy] at h; exact⟨hxy,h⟩
  ·rw[show (bif false then y else open Classical in if x=y then y else none)=none from qah hxy] at h; cases h
 ·rw[e] at h; exact⟨IM _ _ e,h⟩
def MA (P:Program) (t:TypeId) (x:A):Option A:=match P.underlying t,x with | some (.slice _),.imm els _=>some (.nq els) | _,_=>none
def Ng (op:BinOp) (y:Operand):Bool:=match op,y with | .eql,.const (.slice none 0 0)=>true | _,_=>false
def O4 (b:Bool) (P:Program) (op:BinOp) (t:TypeId) (c d:Bool) (x y:A):Option A:=bif b then MA P t x else me P op t c d x y
abbrev bB:=Nat->List A->Heap->Nat->Option R
def rH {β:Type} (cx:Cx) (f lo:Nat) (dst:Option Nat) (c:Call) (s:St) (k:A->Heap->Option β):Option β:=
 match c.callee,c.args.toList,c.argTypes.toList with
 | .builtin .len,[x],[t]=>(sy cx.P t (cM cx s x) s.H).bind λa=>k a s.H
 | .builtin .append,[x,y],[t,t2]=>(bU cx.P t t2 (cx.wrAt f (dst.getD 0)) (cM cx s x) (cM cx s y) s.H lo).bind λr=>k r.1 r.2
 | .builtin .copy,[x,y],[t,_]=>(oU cx.P t (cM cx s x) (cM cx s y) s.H lo).bind λr=>k r.1 r.2
 | .builtin .min,x :: r,_=>(GA true (cM cx s x) (r.map (cM cx s))).bind λa=>k a s.H
 | .builtin .max,x :: r,_=>(GA false (cM cx s x) (r.map (cM cx s))).bind λa=>k a s.H
 | _,_,_=>none
def bV {β:Type} (cx:Cx) (f:Nat) (lo:Nat) (o:Oper) (s:St) (k:A->Heap->Option β):Option β:=
 match o.op with
 | .move x | .assign x=>k (cM cx s x) s.H
 | .alloc t=>(qF (cx.arr f t) cx.P t s.H).bind λr=>k r.1 r.2
 | .box t x=>(B6 (cx.arr f t) cx.P t (cM cx s x) s.H).bind λr=>k r.1 r.2
 | .build t parts=>(yh cx.P t (parts.toList.map λp=>(p.1,cM cx s p.2))).bind λa=>k a s.H
 | .buildSlice t n parts=>(bC cx.P t n (parts.toList.map λp=>(p.1,fw s.H (cM cx s p.2)))).bind λa=>k a s.H
 | .load t a=>(lL cx.P t (cM cx s a) s.H).bind λa=>k a s.H
 | .store t a x=>(jz cx.P t (cM cx s a) (IY (cx.pin f t) (cM cx s a) s.H (cM cx s x)) s.H lo).bind λH=>k .any H
 | .binOp op t x y _=>(O4 (Ng op y) cx.P op t (N6 x) (N6 y) (cM cx s x) (cM cx s y)).bind λa=>k a s.H
 | .unOp op _ x=>(mc cx.P op (cM cx s x)).bind λa=>k a s.H
 | .convert a b x=>(bt cx.P a b (cM cx s x) s.H).bind λa=>k a s.H
 | .makeInterface t x=>(Jr cx.P t (cM cx s x)).bind λa=>k a s.H
 | .makeFunc fn a b=>k (.fn fn (a.toList.map (cM cx s)) (b.toList.map (cM cx s))) s.H
 | .makeSlice t n c=>(vE (cx.loud f (o.dst.getD 0)) (cx.wrAt f (o.dst.getD 0)) cx.P t (cM cx s n) (cM cx s c) s.H).bind λr=>k r.1 r.2
 | .slice t x lo hi mx=>(bif mx.isNone || hi.isSome then eK cx.P t (cM cx s x) (lo.map (cM cx s)) (hi.map (cM cx s)) (mx.map (cM cx s)) s.H else none).bind λa=>k a s.H
 | .fieldAddr t x i=>(gX cx.P t (cM cx s x) i s.H).bind λa=>k a s.H
 | .field t x i=>(BS cx.P t (cM cx s x) i).bind λa=>k a s.H
 | .indexAddr t x i=>(dA cx.P t (cM cx s x) (cM cx s i) s.H).bind λa=>k a s.H
 | .index t x i=>(BV cx.P t (cM cx s x) (cM cx s i)).bind λa=>k a s.H
 | .extract x i=>(oV (cM cx s x) i).bind λa=>k a s.H
 | .nilCheck x=>(Ey (cM cx s x) s.H).bind λa=>k a s.H
 | .makeMap t none=>(rp cx.P t s.H).bind λr=>k r.1 r.2
 | .insert t m i x=>(ka cx.P t (cM cx s m) (cM cx s i) (cM cx s x) s.H lo).bind λH=>k .any H
 | .mapUpdate t m i x=>(ka cx.P t (cM cx s m) (cM cx s i) (cM cx s x) s.H lo).bind λH=>k .any H
 | .lookup t m i c=>(fZ cx.P t (cM cx s m) (cM cx s i) c s.H).bind λa=>k a s.H
 | .typeAssert x _ t c=>(pV cx.P (cM cx s x) t c).bind λa=>k a s.H
 | .call c=>rH cx f lo o.dst c s k
 | _=>none
def dk (P:Program) (k:Nat):Bool:=match P.funcs[k]? with | some fn=>fn.body.isSome&&!(fn.name == "runtime.NumGoroutine") | none=>false
def callee? (cx:Cx) (s:St):Op->Option (Nat×List A)
 | .call c=>match c.callee with
  | .value g=>match cM cx s g with
   | .fn (.func k) first cap=>bif dk cx.P k then some (k,first++c.args.toList.map (cM cx s)++cap) else none
   | _=>none
  | _=>none
 | _=>none
def yldOf? (cx:Cx) (s:St):Op->Option (Nat×List A)
 | .call c=>match c.callee with
  | .value g=>match cM cx s g with
   | .yld b=>some (b,c.args.toList.map (cM cx s))
   | _=>none
  | _=>none
 | _=>none
def AU (H:Heap) (b:Nat):Bool:=match H[b]? with | some (.rng _)=>true | _=>false
def Me {α β:Type} (x:Option α) (k:α->Option β) (e:Option β):Option β:=match x with | some a=>k a | none=>e
def jW:Op->Bool
 | .call c=>match c.callee with | .value _=>true | _=>false
 | _=>false
def ek (x:Out) (k:A->Option R) (pan:A->Option R):Option R:=match x with | .ret a=>k a | .pan a=>pan a
def CI (L:Nat) (r:R):Option A:=match r.1 with
 | .ret a=>bif A.under L a then some a else none
 | .pan _=>none
def kH (cx:Cx) (s:St):Op->A
 | .call c=>match c.callee with | .value g=>cM cx s g | _=>.any
 | _=>.any
def fS (cx:Cx) (s:St):Op->List A
 | .call c=>c.args.toList.map (cM cx s)
 | _=>[]
def ez (cx:Cx) (call:bB) (fv:A) (args:List A) (H:Heap) (lo:Nat) (k:A->Heap->Option R) (pan:A->Heap->Option R):Option R:=
 match fv with
 | .yld b=>bif AU H b then (call (cx.P.funcs.size+b) args H lo).bind λr=>ek r.1 (λa=>k a r.2) (λ_=>none) else none
 | .fn (.func q) first cap=>bif dk cx.P q then
   bif cx.isOrc q then (cx.C q ((first++args++cap).map (snap H))).bind λa=>k a H
   else (call q (first++args++cap) H lo).bind λr=>ek r.1 (λa=>k a r.2) (λa=>pan a r.2)
  else none
 | _=>none
theorem uT {cx:Cx} {call:bB} {s:St} {op:Op} {lo:Nat} {k:A->Heap->Option R} {pan:A->Heap->Option R}:ez cx call (kH cx s op) (fS cx s op) s.H lo k pan =
   Me (yldOf? cx s op) (λp=>bif AU s.H p.1 then (call (cx.P.funcs.size+p.1) p.2 s.H lo).bind λr=>ek r.1 (λa=>k a r.2) (λ_=>none) else none)
   ((callee? cx s op).bind λp=>bif cx.isOrc p.1 then (cx.C p.1 (p.2.map (snap s.H))).bind λa=>k a s.H
    else (call p.1 p.2 s.H lo).bind λr=>ek r.1 (λa=>k a r.2) (λa=>pan a r.2)):=by
 cases op with
 | call c=>
  cases hc:c.callee with
  | value g=>
   cases hf:cM cx s g with
   | fn f first cap=>cases f with
    | func q=>
     simp only[ez,kH,fS,yldOf?,callee?,Me,hc,hf]
     cases dk cx.P q<;>rfl
    | _=>simp only[ez,kH,fS,yldOf?,callee?,Me,hc,hf]; rfl
   | yld b=>simp only[ez,kH,fS,yldOf?,callee?,Me,hc,hf]
   | _=>simp only[ez,kH,fS,yldOf?,callee?,Me,hc,hf]; rfl
  | _=>simp only[ez,kH,fS,yldOf?,callee?,Me,hc]; rfl
 | _=>rfl
def tM {β:Type} (cx:Cx) (call:bB) (fv:A) (args:List A) (H:Heap) (k:A->Option β):Option β:=
 match fv with
 | .fn (.func q) first cap=>bif dk cx.P q then
   bif cx.isOrcV q then (cx.C q ((first++args++cap).map (snap H))).bind k
   else ((call q (first++args++cap) H H.length).bind λr=>CI H.length r).bind k
  else none
 | _=>none
def KO {β:Type} (x:A) (k:A->Option β):Option β:=match x with | .ifc t y=>k (.ifc t y) | _=>none
def uW (cx:Cx) (call:bB) (f lo:Nat) (o:Oper) (s:St) (k:St->Option R) (pan:A->St->Option R):Option R:=
 match o.op with
 | .pick c a b=>(dP (cM cx s c) (some (cM cx s a)) (some (cM cx s b))).bind λx=>k (s.put o.dst x)
 | .panic x=>KO (cM cx s x) λa=>pan a s
 | .buildSlice t n parts=>bif cx.wrAt f (o.dst.getD 0) then (sv cx.P t n (parts.toList.map λp=>(p.1,fw s.H (cM cx s p.2))) s.H).bind λr=>k ({ s with H:=r.2 }.put o.dst r.1) else bV cx f lo o s λa H=>k ({ s with H:=H }.put o.dst a)
 | .makeSlice t n c=>bif cx.wrAt f (o.dst.getD 0) then (cR true cx.P t (cM cx s n) (cM cx s c) s.H).bind λr=>k ({ s with H:=r.2 }.put o.dst r.1) else bV cx f lo o s λa H=>k ({ s with H:=H }.put o.dst a)
 | .convert t t' x=>bif Nat.beq t t' then (GB cx.P t t' (cM cx s x) s.H lo).bind λr=>k ({ s with H:=r.2 }.put o.dst r.1) else bV cx f lo o s λa H=>k ({ s with H:=H }.put o.dst a)
 | .call _=>bif jW o.op then
   ez cx call (kH cx s o.op) (fS cx s o.op) s.H lo (λa H=>k ({ s with H:=H }.put o.dst a)) (λa H=>pan a { s with H:=H })
  else bV cx f lo o s λa H=>k ({ s with H:=H }.put o.dst a)
 | _=>bV cx f lo o s λa H=>k ({ s with H:=H }.put o.dst a)
def cJ (ops:Array Oper) (o:Oper):Option (Nat×Bool):=match o.guard with
 | some (j,want)=>match ops[j]? with
  | some q=>match q.dst with
   | some t=>some (t,want)
   | none=>none
  | none=>none
 | none=>none
theorem lh (ops:Array Oper) (o:Oper):cJ ops o=match o.guard with | some (j,want)=>((ops[j]?).bind (·.dst)).map (·,want) | none=>none:=by
 unfold cJ;split
 ·rename_i j want h;cases ops[j]? with
  | none=>rfl
  | some q=>show _=(Option.bind (some q) (·.dst)).map _; cases h:q.dst<;>simp[h]
 ·rfl
def sm {β:Type} (g:A) (want:Bool) (run skip:Option β):Option β:=match g with
 | .v (.bool b)=>bif b then bif want then run else skip else bif want then skip else run
 | .v (.tuple _)=>skip
 | _=>none
theorem yy {β:Type} {cx:Cx} {call:bB} {s:St} {op:Op} {k:A->Option β}:tM cx call (kH cx s op) (fS cx s op) s.H k =
   ((callee? cx s op).bind λp=>bif cx.isOrcV p.1 then cx.C p.1 (p.2.map (snap s.H))
    else (call p.1 p.2 s.H s.H.length).bind λr=>CI s.H.length r).bind k:=by
 cases op with
 | call c=>
  cases hc:c.callee with
  | value g=>
   cases hf:cM cx s g with
   | fn f first cap=>cases f with
    | func q=>
     simp only[tM,kH,fS,callee?,hc,hf]
     cases dk cx.P q with
     | false=>rfl
     | true=>
      simp only[qaa,Z6]
      cases cx.isOrcV q<;>rfl
    | _=>simp only[tM,kH,fS,callee?,hc,hf]; rfl
   | _=>simp only[tM,kH,fS,callee?,hc,hf]; rfl
  | _=>simp only[tM,kH,fS,callee?,hc]; rfl
 | _=>rfl
def jm (cx:Cx) (call:bB) (f:Nat) (o:Oper) (s:St):Option A:=
 match o.op with
 | .pick c a b=>dP (cM cx s c) (some (cM cx s a)) (some (cM cx s b))
 | .alloc _ | .box .. | .store .. | .makeSlice .. | .panic _ | .makeMap .. | .insert .. | .mapUpdate ..=>none
 | .call c=>bif jW o.op then
   tM cx call (kH cx s o.op) (fS cx s o.op) s.H some
  else match c.callee with
   | .builtin .len=>bV cx f 0 o s λa _=>some a
   | _=>none
 | _=>bV cx f 0 o s λa _=>some a
def vd {β:Type} (cx:Cx) (call:bB) (f:Nat) (o:Oper) (s:St) (k:A->Option β):Option β:=
 match o.op with
 | .pick c a b=>(dP (cM cx s c) (some (cM cx s a)) (some (cM cx s b))).bind k
 | .alloc _ | .box .. | .store .. | .makeSlice .. | .panic _ | .makeMap .. | .insert .. | .mapUpdate ..=>none
 | .call c=>bif jW o.op then
   tM cx call (kH cx s o.op) (fS cx s o.op) s.H k
  else match c.callee with
   | .builtin .len=>bV cx f 0 o s λa _=>k a
   | _=>none
 | _=>bV cx f 0 o s λa _=>k a
def quiet (cx:Cx) (f:Nat) (o:Oper):Bool:=
 match o.op with
 | .alloc _ | .box .. | .store .. | .makeSlice .. | .panic _ | .makeMap .. | .insert .. | .mapUpdate ..=>false
 | .call c=>match c.callee with
  | .value (.func k)=>cx.isOrc k
  | .value _=>match o.dst with | some d=>!cx.loud f d | none=>true
  | .builtin .len=>true
  | _=>false
 | _=>true
def aV {β:Type} (l:List A) (k:A->List A->Option β):Option β:=match l with | a :: r=>k a r | []=>none
def Ja {β:Type}:List Nat->List A->(List (Nat×A)->Option β)->Option β
 | [],_,k=>k []
 | d :: ds,l,k=>aV l λa r=>Ja ds r λfr=>k ((d,a) :: fr)
def kU (t:Nat):List Nat->Bool
 | []=>false
 | x :: l=>bif Nat.beq x t then true else kU t l
def mO (o:Oper):List Nat:=match o.dst with | some d=>[d] | none=>[]
def vx (ops:Array Oper) (g:Nat) (w:Bool) (ds:List Nat) (o:Oper):Bool:=
 match o.guard with
 | none=>false
 | some _=>match cJ ops o with
  | none=>false
  | some (t,w')=>bif kU g (mO o) then false else bif Nat.beq t g then (bif w then w' else !w') else kU t ds
def cG (ops:Array Oper) (g:Nat) (w:Bool):List Nat->List Oper->List Oper×List Oper
 | _,[]=>([],[])
 | ds,o :: os=>bif vx ops g w ds o then (o :: (cG ops g w (mO o++ds) os).1,(cG ops g w (mO o++ds) os).2) else ([],o :: os)
def jL:List Oper->List Nat
 | []=>[]
 | o :: os=>jL os++mO o
def rq (cx:Cx) (f:Nat):List Oper->Bool
 | []=>true
 | o :: os=>bif quiet cx f o then rq cx f os else false
def vS (ops:Array Oper) (asm:Option (Nat×Bool)) (o:Oper):Bool:=
 match o.guard with
 | none=>true
 | some _=>match asm,cJ ops o with
  | some (g,w),some (t,w')=>bif Nat.beq t g then (bif w then w' else !w') else false
  | _,_=>false
def yC (ops:Array Oper) (asm:Option (Nat×Bool)) (g:Nat):List Oper->Option (Nat×Operand×Operand)
 | o :: _=>bif vS ops asm o then (match o.op,o.dst with
  | .pick (.tmp t) a b,some d=>bif Nat.beq t g then some (d,a,b) else none
  | _,_=>none) else none
 | []=>none
def Cd (d:Option Nat) (x:A) (dl:List (Nat×A)):List (Nat×A):=match d with | some d=>(d,x) :: dl | none=>dl
def fp (dl:List (Nat×A)) (s:St):St:=⟨dl++s.fr,s.H⟩
def tf (ds:List Nat):List (Nat×A):=ds.map λd=>(d,.v undef)
def AA (cx:Cx) (fin:Option (Nat×Operand)) (dl:List (Nat×A)) (s:St):List (Nat×A):=match fin with | some (d,x)=>(d,cM cx (fp dl s) x) :: dl | none=>dl
def PN {β:Type} (ops:Array Oper) (asm:Option (Nat×Bool)) (g:Nat) (w:Bool) (os:List Oper) (s:St) (vals:Option (Nat×Operand)->List Oper->Option (List A)) (ud:Option (Nat×Operand)->List Oper->Option (List A)) (k:List Oper->List (Nat×A)->Option β):Option β:=
 match yC ops asm g (cG ops g w [] os).2 with
 | some (d,a,b)=>(dP (look s.fr g) (bif w then vals (some (d,a)) (cG ops g w [] os).1 else ud (some (d,a)) (cG ops g w [] os).1) (bif w then ud (some (d,b)) (cG ops g w [] os).1 else vals (some (d,b)) (cG ops g w [] os).1)).bind λl=>
   Ja (d :: jL (cG ops g w [] os).1) l λfr=>k (cG ops g w [] os).2.tail fr
 | none=>(sm (look s.fr g) w (vals none (cG ops g w [] os).1) (ud none (cG ops g w [] os).1)).bind λl=>
   Ja (jL (cG ops g w [] os).1) l λfr=>k (cG ops g w [] os).2 fr
def R2 (cx:Cx) (s:St) (fin:Option (Nat×Operand)) (run:List Oper):Option (List A):=some ((AA cx fin (tf (jL run)) s).map (·.2))
def qK (cx:Cx) (call:bB) (f:Nat) (ops:Array Oper):Nat->Option (Nat×Bool)->Option (Nat×Operand)->List Oper->List (Nat×A)->St->Option (List A)
 | 0,_,_,_,_,_=>none
 | _+1,_,fin,[],dl,s=>some ((AA cx fin dl s).map (·.2))
 | q+1,asm,fin,o :: os,dl,s=>bif vS ops asm o then vd cx call f o (fp dl s) λx=>qK cx call f ops q asm fin os (Cd o.dst x dl) s
  else match cJ ops o with
   | none=>none
   | some (t,w)=>bif vx ops t w [] o then PN ops asm t w (o :: os) (fp dl s) (λfin' run=>qK cx call f ops q (some (t,w)) fin' run [] (fp dl s)) (R2 cx (fp dl s)) (λrest fr=>qK cx call f ops q asm fin rest (fr++dl) s) else none
def gZ (cx:Cx) (call:bB) (f lo:Nat) (ops:Array Oper):List Oper->St->(E->St->Option R)->Option R
 | [],s,k=>k .normal s
 | o :: os,s,k=>match o.guard with
  | none=>uW cx call f lo o s (λs=>gZ cx call f lo ops os s k) (λa s=>k (.pan a) s)
  | some _=>match cJ ops o with
   | none=>none
   | some (g,want)=>bif quiet cx f o then (sm (look s.fr g) want (jm cx call f o s) (some (.v undef))).bind λx=>gZ cx call f lo ops os (s.put o.dst x) k
    else sm (look s.fr g) want (uW cx call f lo o s (λs=>gZ cx call f lo ops os s k) (λa s=>k (.pan a) s)) (gZ cx call f lo ops os (s.put o.dst (.v undef)) k)
def jc (cx:Cx) (call:bB) (f lo:Nat) (ops:Array Oper):Nat->List Oper->St->(E->St->Option R)->Option R
 | 0,_,_,_=>none
 | _+1,[],s,k=>k .normal s
 | q+1,o :: os,s,k=>match o.guard with
  | none=>uW cx call f lo o s (λs=>jc cx call f lo ops q os s k) (λa s=>k (.pan a) s)
  | some _=>match cJ ops o with
   | none=>none
   | some (t,w)=>bif vx ops t w [] o&&rq cx f (cG ops t w [] (o :: os)).1 then
     PN ops none t w (o :: os) s (λfin run=>qK cx call f ops q (some (t,w)) fin run [] s) (R2 cx s) (λrest fr=>jc cx call f lo ops q rest (fp fr s) k)
    else bif quiet cx f o then (sm (look s.fr t) w (jm cx call f o s) (some (.v undef))).bind λx=>jc cx call f lo ops q os (s.put o.dst x) k
    else sm (look s.fr t) w (uW cx call f lo o s (λs=>jc cx call f lo ops q os s k) (λa s=>k (.pan a) s)) (jc cx call f lo ops q os (s.put o.dst (.v undef)) k)
def kW (cx:Cx) (call:bB) (f:Nat) (ops:Array Oper):List Oper->St->(St->Option R)->Option R
 | [],s,k=>k s
 | o :: os,s,k=>match o.guard with
  | none=>(jm cx call f o s).bind λx=>kW cx call f ops os (s.put o.dst x) k
  | some _=>match cJ ops o with
   | none=>none
   | some (g,want)=>(sm (look s.fr g) want (jm cx call f o s) (some (.v undef))).bind λx=>kW cx call f ops os (s.put o.dst x) k
def sJ (cx:Cx) (call:bB) (f:Nat) (ops:Array Oper):Nat->List Oper->St->(St->Option R)->Option R
 | 0,_,_,_=>none
 | _+1,[],s,k=>k s
 | q+1,o :: os,s,k=>match o.guard with
  | none=>vd cx call f o s λx=>sJ cx call f ops q os (s.put o.dst x) k
  | some _=>match cJ ops o with
   | none=>none
   | some (t,w)=>bif vx ops t w [] o then
     PN ops none t w (o :: os) s (λfin run=>qK cx call f ops q (some (t,w)) fin run [] s) (R2 cx s) (λrest fr=>sJ cx call f ops q rest (fp fr s) k)
    else none
def eF (o:Oper):Bool:=match o.op with
 | .store .. | .alloc _ | .box .. | .makeSlice ..=>true
 | .call c=>match c.callee with | .builtin .append | .builtin .copy=>true | _=>false
 | _=>false
def dW (ops:Array Oper) (i:Nat):Bool:=match ops[i]? with | some o=>eF o | none=>false
def blk?:A->Option Nat
 | .ptr b _ | .ep b _ _ | .sl b _ _ _ | .mr b=>some b
 | _=>none
def apart (a e:A):Bool:=match blk? a with
 | none=>true
 | some b=>match blk? e with | some c=>!Nat.beq b c | none=>true
def dR (cx:Cx) (s:St):Op->A
 | .store _ a _=>cM cx s a
 | .call c=>match c.args.toList with | x :: _=>cM cx s x | []=>.any
 | _=>.any
def addrOf (cx:Cx) (s:St):Op->A
 | .load _ a=>cM cx s a
 | .fieldAddr _ x _=>cM cx s x
 | .indexAddr _ x _=>cM cx s x
 | .slice _ x _ _ _=>cM cx s x
 | .nilCheck x=>cM cx s x
 | .convert _ _ x=>cM cx s x
 | .lookup _ x _ _=>cM cx s x
 | .call c=>match c.args.toList with | x :: _=>cM cx s x | []=>.any
 | _=>.any
def cp (o:Oper):Nat:=match o.op with
 | .pick .. | .move _ | .assign _ | .extract .. | .field .. | .unOp .. | .binOp .. | .index .. | .build .. | .makeFunc .. | .makeInterface .. | .typeAssert ..=>0
 | .load .. | .fieldAddr .. | .indexAddr .. | .slice .. | .nilCheck ..=>1
 | .convert .. | .lookup ..=>1
 | .call c=>match c.callee with | .builtin .len=>1 | .value (.func _)=>4 | _=>3
 | .buildSlice ..=>2
 | _=>3
def B7 (o:Oper):Bool:=match o.op with
 | .store .. | .alloc _ | .box ..=>true
 | .makeSlice _ (.tmp a) (.tmp b)=>Nat.beq a b
 | .call c=>match c.callee with | .builtin .copy=>true | _=>false
 | _=>false
def yt (ops:Array Oper) (i:Nat):Bool:=match ops[i]? with | some o=>B7 o | none=>false
def xC (cx:Cx) (o:Oper):Bool:=match o.op with
 | .call c=>match c.callee with | .value (.func q)=>dk cx.P q&&cx.isOrcV q | _=>false
 | _=>false
def LL:A->Bool
 | .sl ..=>false
 | _=>true
def vg:A->Bool
 | .sl ..=>false
 | .agg cs=>cs.all LL
 | _=>true
def partsOf (cx:Cx) (s:St):Op->List A
 | .buildSlice _ _ parts=>parts.toList.map λp=>cM cx s p.2
 | _=>[]
def rM:List A->Bool
 | []=>true
 | a :: l=>bif vg a then rM l else false
def np (ops:Array Oper) (i:Nat) (a:A):List (Nat×A)->Bool
 | []=>true
 | p :: l=>bif gQ ops i p.1 || gQ ops p.1 i then np ops i a l else bif apart a p.2 then np ops i a l else false
def mK (ops:Array Oper) (i:Nat) (e:A):List (Nat×A)->Bool
 | []=>true
 | p :: l=>bif gQ ops i p.1 || gQ ops p.1 i then mK ops i e l else bif apart p.2 e then mK ops i e l else false
def yv (ops:Array Oper) (m:Nat):Bool:=(List.range m).all λi=>(List.range m).all λj=>!(dW ops i&&dW ops j&&decide (i<j)) || gQ ops j i
def Hq (ops:Array Oper) (m:Nat):Bool:=(List.range m).any (dW ops)
def LA (ops:Array Oper) (m i:Nat):Bool:=(List.range m).all λe=>!dW ops e || yt ops e || e==i || gQ ops i e || gQ ops e i
def yK (cx:Cx) (f:Nat) (o:Oper):Option TypeId:=match o.op with
 | .alloc t=>bif cx.arr f t then none else some t
 | _=>none
def vz (cx:Cx) (f:Nat) (ops:Array Oper) (i:Nat):Bool:=match ops[i]? with | some o=>(yK cx f o).isSome | none=>false
def uN (cx:Cx) (f:Nat) (ops:Array Oper) (m:Nat):Bool:=(List.range m).all λi=>(List.range m).all λj=>!(dW ops i&&dW ops j&&decide (i<j)&&!vz cx f ops i&&!vz cx f ops j) || gQ ops j i
def du (i:Nat):List (Nat×A)->Option A
 | []=>none
 | p :: l=>bif Nat.beq p.1 i then some p.2 else du i l
def ahead {β:Type} (cx:Cx) (f:Nat):Nat->List Oper->Heap->(List (Nat×A)->Heap->Option β)->Option β
 | _,[],H,k=>k [] H
 | i,o :: os,H,k=>match yK cx f o with
  | some t=>(nO cx.P t H).bind λr=>ahead cx f (i+1) os r.2 λfl H=>k ((i,r.1) :: fl) H
  | none=>ahead cx f (i+1) os H k
def lq (fl:List (Nat×A)) (ops:Array Oper) (m i:Nat):Bool:=(List.range m).all λe=>!dW ops e || (du e fl).isSome || e==i || gQ ops i e || gQ ops e i
def qU (cx:Cx) (o:Oper):Bool:=Nat.beq (cp o) 0 || Nat.beq (cp o) 1 || Nat.beq (cp o) 2 || (Nat.beq (cp o) 4&&xC cx o)
def AB (ops:Array Oper) (i:Nat):List (Nat×A)->Bool
 | []=>true
 | p :: l=>bif gQ ops i p.1 then AB ops i l else false
def J3 (cx:Cx) (s:St) (o:Oper):Bool:=match o.op with
 | .call c=>bif jW (.call c) then match kH cx s (.call c) with | .fn (.func q) _ _=>dk cx.P q&&cx.isOrcV q | _=>false else false
 | _=>false
def uY (cx:Cx) (call:bB) (f lo:Nat) (ops:Array Oper) (m:Nat) (fl:List (Nat×A)) (i:Nat) (o:Oper) (effs seen:List (Nat×A)) (s:St) (rec:List (Nat×A)->List (Nat×A)->St->Option R):Option R:=
 match du i fl with
 | some a=>rec effs seen (s.put o.dst a)
 | none=>bif eF o then bif mK ops i (dR cx s o.op) seen then bV cx f lo o s λa H=>rec ((i,dR cx s o.op) :: effs) seen ({ s with H:=H }.put o.dst a) else none
  else bif lq fl ops m i&&(qU cx o || AB ops i fl || J3 cx s o) then vd cx call f o s λx=>rec effs seen (s.put o.dst x)
  else bif Nat.beq (cp o) 0 then vd cx call f o s λx=>rec effs seen (s.put o.dst x)
  else bif Nat.beq (cp o) 1 then bif np ops i (addrOf cx s o.op) effs then vd cx call f o s λx=>rec effs ((i,addrOf cx s o.op) :: seen) (s.put o.dst x) else none
  else bif (Nat.beq (cp o) 2 || (Nat.beq (cp o) 4&&xC cx o))&&LA ops m i then vd cx call f o s λx=>rec effs seen (s.put o.dst x)
  else bif Nat.beq (cp o) 2 then bif rM (partsOf cx s o.op) then vd cx call f o s λx=>rec effs seen (s.put o.dst x) else none
  else none
def yF (cx:Cx) (ops:Array Oper) (m:Nat) (fl:List (Nat×A)) (i:Nat) (o:Oper) (effs seen:List (Nat×A)) (s:St) (rec:List (Nat×A)->List (Nat×A)->St->Option R):Option R:=
 bif eF o then bif mK ops i (dR cx s o.op) seen then rec ((i,dR cx s o.op) :: effs) seen (s.put o.dst (.v undef)) else none
 else bif Nat.beq (cp o) 1 then bif lq fl ops m i then rec effs seen (s.put o.dst (.v undef)) else bif np ops i (addrOf cx s o.op) effs then rec effs ((i,addrOf cx s o.op) :: seen) (s.put o.dst (.v undef)) else none
 else rec effs seen (s.put o.dst (.v undef))
def g8 (cx:Cx) (call:bB) (f lo:Nat) (ops:Array Oper) (m:Nat) (fl:List (Nat×A)):Nat->List Oper->List (Nat×A)->List (Nat×A)->St->(St->Option R)->Option R
 | _,[],_,_,s,k=>k s
 | i,o :: os,effs,seen,s,k=>match o.guard with
  | some _=>match cJ ops o with
   | none=>none
   | some (t,w)=>bif Nat.beq (cp o) 0&&!eF o&&(du i fl).isNone then (sm (look s.fr t) w (jm cx call f o s) (some (.v undef))).bind λx=>g8 cx call f lo ops m fl (i+1) os effs seen (s.put o.dst x) k
    else bif (du i fl).isNone then dP (look s.fr t)
     (bif w then uY cx call f lo ops m fl i o effs seen (s.put (some t) (.v (.bool true))) (λeffs seen s=>g8 cx call f lo ops m fl (i+1) os effs seen s k) else yF cx ops m fl i o effs seen (s.put (some t) (.v (.bool true))) (λeffs seen s=>g8 cx call f lo ops m fl (i+1) os effs seen s k))
     (bif w then yF cx ops m fl i o effs seen (s.put (some t) (.v (.bool false))) (λeffs seen s=>g8 cx call f lo ops m fl (i+1) os effs seen s k) else uY cx call f lo ops m fl i o effs seen (s.put (some t) (.v (.bool false))) (λeffs seen s=>g8 cx call f lo ops m fl (i+1) os effs seen s k))
    else none
  | none=>uY cx call f lo ops m fl i o effs seen s λeffs seen s=>g8 cx call f lo ops m fl (i+1) os effs seen s k
def yP:Op->Bool
 | .alloc _ | .box .. | .store .. | .makeSlice .. | .call _ | .makeMap .. | .insert .. | .mapUpdate ..=>true
 | _=>false
def td (ops:Array Oper):Option Nat:=(List.range (ops.size+1)).find? (gE ops)
def Dv (ops:Array Oper) (N:Nat):Bool:=ops.toList.all λo=>match o.dst with | some d=>decide (d<N) | none=>true
def yV (cx:Cx) (o:Oper):Bool:=match o.op with
 | .call c=>match c.callee with | .value (.func q)=>dk cx.P q&&!cx.isOrc q&&(!Nat.beq (cx.cut q) 0 || cx.fre q) | _=>false
 | _=>false
def Jv (cx:Cx) (o:Oper):Nat:=match o.op with
 | .call c=>match c.callee with | .value (.func q)=>cx.cut q | _=>0
 | _=>0
def I8 (cx:Cx) (o:Oper) (lo:Nat) (H:Heap):Nat:=match o.op with
 | .call c=>match c.callee with | .value (.func q)=>bif cx.fre q then H.length else lo | _=>lo
 | _=>lo
def GP (cx:Cx):Nat->List Oper->Option Nat
 | _,[]=>none
 | i,o :: os=>bif yV cx o then some i else GP cx (i+1) os
def Qu (ops:Array Oper) (c m:Nat):List Nat:=(List.range m).filter λi=>gQ ops c i&&(dW ops i || (List.range m).any λe=>dW ops e&&gQ ops i e)
def sG (ops:Array Oper) (c m:Nat):List Nat:=Qu ops c m++c :: (List.range m).filter λi=>gQ ops i c
def Eh (ops:Array Oper) (c m:Nat):List Nat:=(List.range m).filter λi=>(sG ops c m).all λj=>!Nat.beq i j
def yw (ops:Array Oper):List Nat->List Nat->Bool
 | _,[]=>true
 | ps,i :: is=>bif ps.all (λp=>gQ ops i p) then yw ops (i :: ps) is else false
def O7 (ops:Array Oper) (L T:List Nat):Bool:=L.all λi=>T.all λj=>!gQ ops i j
def wK (o:Oper):Bool:=match o.guard with | none=>true | some _=>false
def WQ (o:Oper):Bool:=wK o&&(Nat.beq (cp o) 0 || Nat.beq (cp o) 1 || Nat.beq (cp o) 2)
def WS (o:Oper):Bool:=wK o&&(eF o || !yP o.op)&&!jW o.op
def RS (cx:Cx) (call:bB) (f:Nat) (ops:Array Oper):List Nat->List (Nat×A)->St->(List (Nat×A)->St->Option R)->Option R
 | [],seen,s,k=>k seen s
 | i :: is,seen,s,k=>match ops[i]? with
  | none=>none
  | some o=>bif WQ o then bif (bif Nat.beq (cp o) 2 then rM (partsOf cx s o.op) else true) then vd cx call f o s λx=>RS cx call f ops is (bif Nat.beq (cp o) 1 then (i,addrOf cx s o.op) :: seen else seen) (s.put o.dst x) k else none else none
def jQ (m:Nat) (a:A):Bool:=match blk? a with | none=>true | some b=>Nat.ble m b
def xJ (ops:Array Oper) (c m:Nat):List (Nat×A)->Bool
 | []=>true
 | p :: l=>bif gQ ops c p.1 then xJ ops c m l else bif jQ m p.2 then xJ ops c m l else false
def N3 (cx:Cx) (call:bB) (f lo:Nat) (ops:Array Oper) (c:Nat) (kp:A->Heap->Option R):List Nat->List (Nat×A)->St->(St->Option R)->Option R
 | [],_,s,k=>k s
 | i :: is,seen,s,k=>match ops[i]? with
  | none=>none
  | some o=>bif Nat.beq i c then bif xJ ops c (Jv cx o) seen then ez cx call (kH cx s o.op) (fS cx s o.op) s.H (I8 cx o lo s.H) (λa H=>N3 cx call f lo ops c kp is seen ({ s with H:=H }.put o.dst a) k) kp else none
   else bif WS o then bif (bif eF o then mK ops i (dR cx s o.op) seen else true) then bV cx f lo o s λa H=>N3 cx call f lo ops c kp is seen ({ s with H:=H }.put o.dst a) k else none else none
def Mi (cx:Cx) (N:Nat) (ops:Array Oper) (c m:Nat) (o:Oper):Bool:=(ops.toList.take m).all wK&&yV cx o&&wO ops N&&yw ops [] (sG ops c m)&&O7 ops (Eh ops c m) (sG ops c m)&&(sG ops c m).all λi=>Nat.blt i m
def MI (cx:Cx) (ops:Array Oper):Option Nat:=match td ops with | none=>none | some m=>GP cx 0 (ops.toList.take m)
def DC (cx:Cx) (call:bB) (f lo N:Nat) (ops:Array Oper) (c:Nat) (s:St) (k:E->St->Option R):Option R:=
 match ops[c]? with
 | none=>none
 | some o=>(td ops).bind λm=>bif Mi cx N ops c m o then RS cx call f ops (Eh ops c m) [] s λseen s1=>
   N3 cx call f lo ops c (λa H=>k (.pan a) ⟨[],H⟩) (sG ops c m) seen s1 λs=>jc cx call f lo ops (ops.size+1) (ops.toList.drop m) s k
  else none
def cK:Code->Nat
 | .region id _ _=>id
 | .seq a _=>cK a
 | .block _ c=>cK c
 | .scope c=>cK c
 | .loop c=>cK c
 | _=>0
def JI (H:Heap) (a:A):A:=match a with | .sl b o n c=>snap H (.sl b o n c) | .imm els _=>.imm els false | a=>a
def LM (H:Heap) (a:A):A:=match a with | .sl b o n c=>snap H (.sl b o n c) | .imm els _=>.imm els false | .agg cs=>.agg (cs.map (JI H)) | a=>a
def fj (es:Nat) (H:Heap):A->A×Heap
 | .imm els true=>bif els.all (λcs=>Nat.beq cs.length es) then (.sl H.length 0 els.length false,H++[.row false es els]) else (.imm els true,H)
 | a=>(a,H)
def iV (es:Nat) (H:Heap):A->A×Heap
 | .imm [] true=>(.sl H.length 0 0 false,H++[.row true es []])
 | a=>(a,H)
def nH (es:Nat) (H:Heap):A->A×Heap
 | .imm els true=>bif els.all (λcs=>Nat.beq cs.length es) then (.sl H.length 0 els.length false,H++[.row false es els]) else (.imm els true,H++[.dead])
 | a=>(a,H++[.dead])
def fb (lo off m:Nat) (a:A) (H:Heap):Heap:=
 match a with
 | .ptr b o=>match H[b]? with
  | some (.box cs)=>match cs[o+off]? with
   | some c=>bif decide (lo<=b) then match m with
    | 0=>H.set b (.box (cs.set (o+off) (LM H c)))
    | es+1=>(fj es H c).2.set b (.box (cs.set (o+off) (fj es H c).1))
    else H
   | none=>H
  | _=>H
 | _=>H
def qD (lo:Nat) (p:Nat×Nat×Nat) (s:St):St:=
 match p.2.1 with
 | 0=>match p.2.2 with
  | 0=>⟨(p.1,LM s.H (look s.fr p.1)) :: s.fr,s.H⟩
  | es+1=>bif Nat.ble 500000 es then (bif Nat.ble 1000000 es then ⟨(p.1,(nH (es - 1000000) s.H (look s.fr p.1)).1) :: s.fr,(nH (es - 1000000) s.H (look s.fr p.1)).2⟩ else ⟨(p.1,(iV (es - 500000) s.H (look s.fr p.1)).1) :: s.fr,(iV (es - 500000) s.H (look s.fr p.1)).2⟩) else ⟨(p.1,(fj es s.H (look s.fr p.1)).1) :: s.fr,(fj es s.H (look s.fr p.1)).2⟩
 | off+1=>⟨s.fr,fb lo off p.2.2 (look s.fr p.1) s.H⟩
def fa (lo:Nat):List (Nat×Nat×Nat)->St->St
 | [],s=>s
 | p :: ps,s=>fa lo ps (qD lo p s)
def ug (lo:Nat):List (Nat×Nat×Nat)->St->(St->Option R)->Option R
 | [],s,k=>k s
 | p :: ps,s,k=>(PZ p.2.2 lo (look s.fr p.1) s.H).bind λr=>ug lo ps ⟨(p.1,r.1) :: s.fr,r.2⟩ k
def Cp:List (Nat×Nat×Nat)->List (Nat×Nat×Nat)
 | []=>[]
 | p :: ps=>match p.2.2 with | 0=>p :: Cp ps | _+1=>Cp ps
def ef (keep:List Nat) (s:St):St:=⟨keep.map λt=>(t,look s.fr t),s.H⟩
def aG (L:Nat) (fr:List (Nat×A)):List Nat->Bool
 | []=>true
 | t :: ts=>bif A.under L (look fr t) then aG L fr ts else false
theorem pE (L:Nat) (fr:List (Nat×A)):∀ keep:List Nat,aG L fr keep=true->keep.all (λt=>A.under L (look fr t))=true
 | [],_=>rfl
 | t :: ts,h=>by
  rw[aG] at h;cases hu:A.under L (look fr t) with
  | false=>rw[hu] at h; cases h
  | true=>
   rw[hu] at h;rw[qco,hu,qaX];exact pE L fr ts h
def rQ (keep:List Nat) (L:Nat) (s:St) (k:St->Option R):Option R:=
 (trim L s.H).bind λH=>bif (bif Nat.beq s.H.length L then true else aG L s.fr keep) then k ⟨keep.map λt=>(t,look s.fr t),H⟩ else none
def Bi:List (Nat×Nat×Nat)->Option (Nat×Nat×Nat)
 | []=>none
 | p :: ps=>match ps with
  | []=>match p.2.1 with
   | 0=>bif Nat.ble 1000001 p.2.2 then some p else none
   | _+1=>none
  | _ :: _=>Bi ps
def Qv (n:Nat):Nat:=n - 1
def M4:A->Bool | .imm _ true=>true | _=>false
def L8 (lo:Nat) (keep:List Nat) (p:Nat×Nat×Nat) (L:Nat) (s:St) (k:St->Option R):Option R:=
 bif M4 (look s.fr p.1) then rQ keep (Qv L) s λs=>bif Nat.beq (qD lo p s).H.length L then k (ef keep (qD lo p s)) else none else rQ keep L s k
def Ic (lo:Nat) (keep:List Nat) (acts:List (Nat×Nat×Nat)) (L:Nat) (s:St) (k:St->Option R):Option R:=
 match Bi acts with
 | none=>rQ keep L (fa lo (Cp acts) s) k
 | some p=>L8 lo keep p L (fa lo (Cp acts) s) k
def IZ (s:St) (keep:List Nat) (k:Nat->St->Option R):Option R:=k s.H.length (ef keep s)
def iter (lo:Nat) (keep:List Nat) (acts:List (Nat×Nat×Nat)) (L:Nat) (f:St->(E->St->Option R)->Option R) (kx kg:Nat->St->Option R) (kr:St->Option R) (kp:A->St->Option R):Nat->St->Option R
 | 0,_=>none
 | n+1,s=>f s λe s'=>match e with
  | .normal=>Ic lo keep acts L s' λs'=>iter lo keep acts L f kx kg kr kp n s'
  | .exit i=>kx i (ef keep s')
  | .goto l=>kg l (ef keep s')
  | .ret=>kr (ef keep s')
  | .pan a=>kp a (ef keep s')
def kX:Code->Bool
 | .seq a b=>kX a&&kX b
 | .cond _ a b=>kX a&&kX b
 | .block _ c=>kX c
 | .loop c=>kX c
 | .rangeFunc .. | .scope _=>false
 | _=>true
def Eb:List Nat->List A->List (Nat×A)->List (Nat×A)
 | p :: ps,a :: as,fr=>Eb ps as ((p,a) :: fr)
 | _,_,fr=>fr
def Mg {β:Type} (H:Heap) (b:Nat) (x:Option β):Option β:=match H[b]? with | some (.rng .ready)=>x | _=>none
def I7 {β:Type} (H:Heap) (b:Nat) (x:Option β):Option β:=match H[b]? with | some (.rng .busy)=>x | _=>none
def NC (b:Nat) (e:E) (H:Heap):Option R:=
 match e with
 | .normal=>I7 H b (some (.ret (.v (.bool true)),H.set b (.rng .ready)))
 | .exit i=>I7 H b (some (.ret (.v (.bool false)),H.set b (.rng (.done (.exit i)))))
 | .goto l=>I7 H b (some (.ret (.v (.bool false)),H.set b (.rng (.done (.goto l)))))
 | .ret=>I7 H b (some (.ret (.v (.bool false)),H.set b (.rng (.done .ret))))
 | .pan _=>none
def roundOf (F1 F2:St->(E->St->Option R)->Option R) (lo b:Nat) (ps:List Nat) (fr:List (Nat×A)) (args:List A) (H:Heap) (lo':Nat):Option R:=
 bif Nat.beq args.length ps.length&&Nat.ble lo' lo then
  Mg H b (F1 ⟨Eb ps args fr,H⟩ λe s=>match e with
   | .normal=>Mg s.H b (F2 ⟨s.fr,s.H.set b (.rng .busy)⟩ λe s=>NC b e s.H)
   | _=>none)
 else none
def wV (q:Nat) (call:bB) (b:Nat) (rnd:List A->Heap->Nat->Option R):bB:=λk args H lo=>bif Nat.beq k (q+b) then rnd args H lo else call k args H lo
def ra {β:Type} (b:Nat) (H:Heap) (kn:Heap->Option β) (kx kg:Nat->Heap->Option β) (kr:Heap->Option β):Option β:=
 match H[b]? with
 | some (.rng .ready)=>kn (H.set b .dead)
 | some (.rng (.done (.exit i)))=>kx i (H.set b .dead)
 | some (.rng (.done (.goto l)))=>kg l (H.set b .dead)
 | some (.rng (.done .ret))=>kr (H.set b .dead)
 | _=>none
def CK (b:Nat) (H:Heap) (k:E->Heap->Option R):Option R:=ra b H (λH=>k .normal H) (λi H=>k (.exit i) H) (λl H=>k (.goto l) H) (λH=>k .ret H)
def pK (s:St) (k:St->Option R):Option R:=k s
def JE (P:Program):A->Option (Nat×List A)
 | .fn (.func gf) [] cap=>bif dk P gf then some (gf,cap) else none
 | _=>none
def Aa (N:Nat):List Nat->Bool
 | []=>true
 | p :: ps=>bif Nat.blt p N then Aa N ps else false
def CJ (body:Code):Nat:=1000000+cK body
def n4:Code->Nat
 | .region id _ _=>id
 | .seq a _=>n4 a
 | .block _ c=>n4 c
 | .scope c=>n4 c
 | .loop c=>n4 c
 | .cond _ a _=>n4 a
 | _=>0
def LR (keep:List Nat) (L:Nat) (e:E) (s:St):Option R:=match e with
 | .normal=>rQ keep L s λs=>some (.ret (.tup (.v (.bool true) :: keep.map (look s.fr))),s.H)
 | .ret=>rQ keep L s λs=>some (.ret (.tup (.v (.bool false) :: keep.map (look s.fr))),s.H)
 | _=>none
def Fg {β:Type} (r:R) (k:List A->Heap->Option β):Option β:=match r with
 | (.ret (.tup l),H)=>k l H
 | _=>none
theorem zC {β:Type} (fr:List (Nat×A)):∀ (keep:List Nat) (k:List (Nat×A)->Option β),Ja keep (keep.map (look fr)) k=k (keep.map λt=>(t,look fr t))
 | [],_=>rfl
 | d :: ds,k=>by
  show Ja ds (ds.map (look fr)) (λr=>k ((d,look fr d) :: r))=_;rw[zC fr ds]; rfl
def yX:Code->Nat
 | .block _ c=>n4 c
 | .cond _ a b=>500000+bif Nat.beq (n4 a) 0 then n4 b else n4 a
 | .seq _ b=>yX b
 | _=>999999
def VC (js:List Nat) (L:Nat) (X:(E->St->Option R)->Option R) (Y:St->Option R) (k:E->St->Option R):Option R:=match js with
 | []=>X λe s'=>match e with | .normal=>Y s' | e=>k e s'
 | j :: js=>(X (LR (j :: js) L)).bind λr=>Fg r λl H=>aV l λt l=>Ja (j :: js) l λfr=>dP t (Y ⟨fr,H⟩) (k .ret ⟨fr,H⟩)
noncomputable def qy (cx:Cx) (call:bB) (rg:bB->bB) (n f lo N:Nat):Code->St->(E->St->Option R)->Option R
 | .skip,s,k=>k .normal s
 | .label _,s,k=>k .normal s
 | .region id ops draw,s,k=>ug lo (cx.acts f (2000000+id)) s λs=>bif Dv ops N then
  bif draw then match MI cx ops with | some c=>DC cx call f lo N ops c s k | none=>bif wO ops N then (td ops).bind λm=>bif Hq ops m then bif yv ops m then g8 cx call f lo ops m [] 0 (ops.toList.take m) [] [] s λs=>jc cx call f lo ops (ops.size+1) (ops.toList.drop m) s k else bif uN cx f ops m then ahead cx f 0 (ops.toList.take m) s.H λfl H=>g8 cx call f lo ops m fl 0 (ops.toList.take m) [] [] ⟨s.fr,H⟩ λs=>jc cx call f lo ops (ops.size+1) (ops.toList.drop m) s k else none else sJ cx call f ops (ops.size+1) (ops.toList.take m) s λs=>jc cx call f lo ops (ops.size+1) (ops.toList.drop m) s k else none
  else jc cx call f lo ops (ops.size+1) ops.toList s k
  else none
 | .seq a b,s,k=>VC (cx.join f (yX a)) s.H.length (λk=>qy cx call rg n f lo N a s k) (λs=>qy cx call rg n f lo N b s k) k
 | .cond c a b,s,k=>bn (cM cx s c) (qy cx call rg n f lo N a s k) (qy cx call rg n f lo N b s k)
 | .block id c,s,k=>qy cx call rg n f lo N c s λe s'=>match e with | .exit j=>bif Nat.beq j id then k .normal s' else k (.exit j) s' | e=>k e s'
 | .scope c,s,k=>qy cx call rg n f lo N c s λe s'=>match e with | .goto _=>none | e=>k e s'
 | .loop c,s,k=>IZ (fa lo (cx.acts f (cK c)) (ef (cx.keep f (cK c)) s)) (cx.keep f (cK c)) λL s=>iter lo (cx.keep f (cK c)) (cx.acts f (cK c)) L (λs k=>qy cx call rg n f lo N c s k) (λi s=>k (.exit i) s) (λl s=>k (.goto l) s) (λs=>k .ret s) (λa s=>k (.pan a) s) n s
 | .exit id,s,k=>k (.exit id) s
 | .goto l,s,k=>k (.goto l) s
 | .ret,s,k=>k .ret s
 | .rangeFunc g ps asg body,s,k=>pK (fa lo (cx.acts f (CJ body)) s) λs=>(JE cx.P (cM cx s g)).bind λp=>bif Aa N ps.toList&&kX asg&&kX body&&Nat.ble lo s.H.length then
   (rg (wV cx.P.funcs.size call s.H.length (roundOf (λs k=>qy cx call rg n f lo N asg s k) (λs k=>qy cx call rg n f lo N body s k) lo s.H.length ps.toList (ef (cx.keep f (CJ body)) s).fr)) p.1 (.yld s.H.length :: p.2) (s.H++[.rng .ready]) lo).bind λr=>
    ek r.1 (λ_=>CK s.H.length r.2 λe H=>k e ⟨s.fr,H⟩) (λ_=>none)
  else none
 | _,_,_=>none
def kf:Code->List Code
 | .loop c=>c :: kf c
 | .seq a b=>kf a++kf b
 | .cond _ a b=>kf a++kf b
 | .block _ c=>kf c
 | .scope c=>kf c
 | .rangeFunc _ _ a b=>kf a++kf b
 | _=>[]
def Ct (cx:Cx) (f i:Nat):Code:=match (cx.P.funcs[f]?).bind (·.body) with | some c=>(kf c).getD i .skip | none=>.skip
def US (cx:Cx) (f:Nat):Nat:=match cx.P.funcs[f]? with | some fn=>fn.ntmps | none=>0
def kM:Code->List (List Nat×Code×Code)
 | .loop c=>kM c
 | .seq a b=>kM a++kM b
 | .cond _ a b=>kM a++kM b
 | .block _ c=>kM c
 | .scope c=>kM c
 | .rangeFunc _ ps a b=>[(ps.toList,a,b)]
 | _=>[]
def rangeAt (cx:Cx) (f i:Nat):List Nat×Code×Code:=match (cx.P.funcs[f]?).bind (·.body) with | some c=>(kM c).getD i ([],.skip,.skip) | none=>([],.skip,.skip)
noncomputable def sW (cx:Cx) (call:bB) (rg:bB->bB) (n f lo i b:Nat) (fr:List (Nat×A)) (args:List A) (H:Heap) (lo':Nat):Option R:=
 roundOf (λs k=>qy cx call rg n f lo (US cx f) (rangeAt cx f i).2.1 s k) (λs k=>qy cx call rg n f lo (US cx f) (rangeAt cx f i).2.2 s k) lo b (rangeAt cx f i).1 fr args H lo'
noncomputable def aI (cx:Cx) (call:bB) (rg:bB->bB) (n f lo i L:Nat) (kx kg:Nat->St->Option R) (kr:St->Option R) (kp:A->St->Option R) (m:Nat) (s:St):Option R:=
 iter lo (cx.keep f (cK (Ct cx f i))) (cx.acts f (cK (Ct cx f i))) L (λs k=>qy cx call rg n f lo (US cx f) (Ct cx f i) s k) kx kg kr kp m s
def u0 (cx:Cx) (s:St):ResultVar->Option A
 | .tmp t=>some (look s.fr t)
 | .cell a t=>lL cx.P t (look s.fr a) s.H
def qJ (cx:Cx) (s:St):List ResultVar->Option (List A)
 | []=>some []
 | r :: rs=>(u0 cx s r).bind λa=>(qJ cx s rs).bind λl=>some (a :: l)
def DB (cx:Cx) (fn:Func) (s:St):Option A:=match fn.results.toList with
 | [r]=>u0 cx s r
 | rs=>(qJ cx s rs).bind λl=>some (.tup l)
def yH (cx:Cx) (s:St):List ResultVar->(List A->Option R)->Option R
 | [],k=>k []
 | r :: rs,k=>(u0 cx s r).bind λa=>yH cx s rs λl=>k (a :: l)
def nY (cx:Cx) (fn:Func) (s:St):Option R:=match fn.results.toList with
 | [r]=>(u0 cx s r).bind λa=>some (.ret a,s.H)
 | rs=>yH cx s rs λl=>some (.ret (.tup l),s.H)
theorem xk (cx:Cx) (s:St):∀ (rs:List ResultVar) (k:List A->Option R),yH cx s rs k=(qJ cx s rs).bind k
 | [],_=>rfl
 | r :: rs,k=>by
  rw[yH,qJ,qaN];congr 1; funext a;rw[xk cx s rs,qaN];rfl
theorem EU (cx:Cx) (fn:Func) (s:St):nY cx fn s=(DB cx fn s).bind λa=>some (.ret a,s.H):=by
 unfold nY DB;split
 ·rename_i h; rfl
 ·rw[xk,qaN];rfl
def frame (args:List A):List (Nat×A):=args.zipIdx.map λp=>(p.2,p.1)
noncomputable def Hb (cx:Cx) (call:bB) (rg:bB->bB) (n f lo:Nat) (fn:Func) (c:Code) (args:List A) (H:Heap):Option R:=
 qy cx call rg n f lo fn.ntmps c ⟨frame args,H⟩ λe s=>match e with
  | .normal | .ret=>pK (fa lo (cx.acts f 3000000) s) λs=>nY cx fn s
  | .pan a=>some (.pan a,s.H)
  | _=>none
def JO (o:Oper):Bool:=match o.op with | .defer _=>true | _=>false
def AV:List Oper->Option (List Oper×Oper)
 | []=>none
 | o :: os=>match os with
  | []=>some ([],o)
  | _ :: _=>(AV os).map λp=>(o :: p.1,p.2)
def vv:Code->Bool
 | .seq _ (.seq (.region _ ops false) _)=>ops.toList.any JO
 | _=>false
def WN (cx:Cx) (q:Nat) (o:Oper):Bool:=dk cx.P q&&wK o&&o.dst.isNone
def GR (cx:Cx) (s:St) (o:Oper):Option (Nat×List A):=match o.op with
 | .defer c=>match c.callee,c.args.toList with
  | .value g,[]=>match cM cx s g with
   | .fn (.func q) [] cap=>bif WN cx q o then some (q,cap) else none
   | _=>none
  | _,_=>none
 | _=>none
def oe (o:Oper):Option Nat:=match o.op with
 | .call c=>match c.callee,c.args.toList with
  | .builtin .recover,[]=>bif wK o then o.dst else none
  | _,_=>none
 | _=>none
def recAt:Nat->List Oper->Option (Nat×Nat)
 | _,[]=>none
 | i,o :: os=>match oe o with | some d=>some (i,d) | none=>recAt (i+1) os
def mH (ops:Array Oper) (i d:Nat):Array Oper:=match ops[i]? with | some o=>ops.setIfInBounds i { o with op:=.move (.tmp d) } | none=>ops
def ll (d:Nat) (o:Oper):Bool:=wK o&&(match o.op with | .load _ (.tmp t)=>!Nat.beq t d | _=>false)&&(match o.dst with | some e=>!Nat.beq e d | none=>false)
def AS (d:Nat) (ops:Array Oper) (j:Nat):Bool:=match ops[j]? with | some o=>ll d o | none=>true
def Mh (ops:Array Oper) (i d:Nat):Bool:=(List.range ops.size).all λj=>Nat.beq j i || match ops[j]? with | some o=>ll d o || o.after.any λe=>Region.binds .any e&&!AS d ops e.on | none=>false
def WR (cap:List A) (ops:Array Oper) (fn:Func) (rest:Code):Bool:=decide (cap.length<=fn.ntmps)&&Dv ops fn.ntmps&&kX rest&&fn.results.toList.isEmpty
def WO (ops:Array Oper) (N:Nat) (a:Code):Bool:=Dv ops N&&kX a
def yG (cx:Cx) (call:bB) (f lo N:Nat) (ops:Array Oper) (s:St) (k:E->St->Option R):Option R:=
 bif Dv ops N then
  match MI cx ops with | some c=>DC cx call f lo N ops c s k | none=>bif wO ops N then (td ops).bind λm=>bif Hq ops m then bif yv ops m then g8 cx call f lo ops m [] 0 (ops.toList.take m) [] [] s λs=>jc cx call f lo ops (ops.size+1) (ops.toList.drop m) s k else bif uN cx f ops m then ahead cx f 0 (ops.toList.take m) s.H λfl H=>g8 cx call f lo ops m fl 0 (ops.toList.take m) [] [] ⟨s.fr,H⟩ λs=>jc cx call f lo ops (ops.size+1) (ops.toList.drop m) s k else none else sJ cx call f ops (ops.size+1) (ops.toList.take m) s λs=>jc cx call f lo ops (ops.size+1) (ops.toList.drop m) s k else none
 else none
def WT (cap:List A) (ops:Array Oper) (fn:Func) (p:Nat×Nat):Bool:=decide (cap.length<=fn.ntmps)&&decide (p.2<fn.ntmps)&&Mh ops p.1 p.2&&(match ops[p.1]? with | some o=>o.after.toList.isEmpty | none=>false)&&fn.results.toList.isEmpty
noncomputable def Aq (cx:Cx) (call:bB) (rg:bB->bB) (n lo q:Nat) (cap:List A) (v:A) (H:Heap) (k:Heap->Option R):Option R:=
 (cx.P.funcs[q]?).bind λfn=>fn.body.bind λc=>match c with
  | .seq (.region _ ops false) rest=>match ops.toList with
   | o :: os=>(oe o).bind λd=>bif WR cap ops fn rest then gZ cx call q lo ops os ⟨(d,v) :: frame cap,H⟩ λe s=>match e with
     | .normal=>qy cx call rg n q lo fn.ntmps rest s λe s=>match e with
      | .normal | .ret=>k s.H
      | _=>none
     | _=>none
    else none
   | []=>none
  | .region _ ops true=>(recAt 0 ops.toList).bind λp=>bif WT cap ops fn p then yG cx call q lo fn.ntmps (mH ops p.1 p.2) ⟨(p.2,v) :: frame cap,H⟩ λe s=>match e with
    | .normal=>k s.H
    | _=>none
   else none
  | _=>none
noncomputable def tZ (cx:Cx) (call:bB) (rg:bB->bB) (n f lo:Nat) (fn:Func) (c:Code) (args:List A) (H:Heap):Option R:=match c with
 | .seq a (.seq (.region _ ops false) rest)=>bif WO ops fn.ntmps a then qy cx call rg n f lo fn.ntmps a ⟨frame args,H⟩ λe s=>match e with
  | .normal=>(AV ops.toList).bind λp=>gZ cx call f lo ops p.1 s λe s=>match e with
   | .normal=>(GR cx s p.2).bind λz=>qy cx call rg n f lo fn.ntmps rest s λe s=>match e with
    | .normal | .ret=>Aq cx call rg n lo z.1 z.2 (.v .nilIface) s.H λH=>pK (fa lo (cx.acts f 3000000) ⟨s.fr,H⟩) λs=>nY cx fn s
    | .pan x=>Aq cx call rg n lo z.1 z.2 x s.H λH=>pK (fa lo (cx.acts f 3000000) ⟨s.fr,H⟩) λs=>nY cx fn s
    | _=>none
   | _=>none
  | _=>none
  else none
 | _=>none
def uf (es:Nat) (args:List A) (H:Heap) (lo:Nat):Option R:=match args with
 | [.sl b 0 n _,.v (.int .i64 i),.imm [v] _]=>match H[b]? with
  | some (.row true es' els)=>bif Nat.beq es' es&&!(Nat.beq es 0)&&Nat.beq n els.length&&decide (lo<=b)&&decide (0<=i)&&decide (i<=(n:Int))&&decide (n<4294967296)&&Nat.beq v.length es&&v.all A.cell&&els.all (λcs=>cs.all A.cell) then some (.ret (.imm (els.take i.toNat++v :: els.drop i.toNat) false),H.set b .dead) else none
  | _=>none
 | _=>none
noncomputable def aK (cx:Cx) (call:bB) (rg:bB->bB) (n f:Nat) (args:List A) (H:Heap) (lo:Nat):Option R:=
 (cx.P.funcs[f]?).bind λfn=>bif !(Nat.beq (cx.ins f) 0) then uf (cx.ins f) args H lo else fn.body.bind λc=>bif decide (args.length<=fn.ntmps) then bif vv c then tZ cx call rg n f lo fn c args H else Hb cx call rg n f lo fn c args H else none
def J2:bB:=λ_ _ _ _=>none
def Zp:A->Bool | .v _=>true | _=>false
def iP (cx:Cx) (k:Nat) (H:Heap):Bool:=bif cx.deep k then bif Nat.beq H.length 0 then false else true else false
def o8 (cx:Cx) (k:Nat) (args:List A) (H:Heap):Option R:=(cx.C k (args.map (kQ 6 H))).bind λr=>bif Zp r then some (.ret r,H) else none
def ix (cx:Cx) (k:Nat) (H:Heap):Bool:=bif Nat.beq (cx.cut k) 0 then false else bif Nat.ble (cx.cut k) H.length then true else bif Nat.beq H.length 0 then false else Nat.beq (cx.cut k) 999999999
def cutAt (cx:Cx) (k:Nat) (H:Heap):Nat:=bif Nat.ble (cx.cut k) H.length then cx.cut k else H.length
def rU (m:Nat):Out->Bool
 | .ret a=>A.under m a
 | .pan a=>A.under m a
def pZ (m:Nat) (f:Heap->Option R) (args:List A) (H:Heap):Option R:=
 bif bw m args&&(H.take m).all (aA.under m) then (f (H.take m)).bind λr=>bif Nat.ble m r.2.length&&(r.2.take m).all (aA.under m)&&rU m r.1 then some (r.1,r.2.take m++H.drop m) else none else none
noncomputable def bz (cx:Cx):Nat->bB->bB
 | 0,base,k,args,H,lo=>bif Nat.ble cx.P.funcs.size k then base k args H lo else none
 | n+1,base,k,args,H,lo=>bif Nat.ble cx.P.funcs.size k then base k args H lo else bif ix cx k H then pZ (cutAt cx k H) (λH=>aK cx (bz cx n J2) (bz cx n) n k args H lo) args H else bif iP cx k H then o8 cx k args H else aK cx (bz cx n base) (bz cx n) n k args H lo
noncomputable def dH (cx:Cx) (n:Nat):bB:=bz cx n J2
section
open Go.RowKit
structure Gh where
 mu:Nat->Option Nat
 ga:Nat->List (List Value)
 S:Nat->Nat->Prop
 lr:Nat->Loop
def LS:Loop:={ state:=.ready,pending:=none,fn:=0,tmps:=#[],params:=#[],assign:=.skip,body:=.skip,defers:=0 }
def Lf.code:Lf->Code
 | .exit id=>.exit id
 | .goto l=>.goto l
 | .ret=>.ret
def kN (r:Loop):ku->Loop
 | .ready=>{ r with state:=.ready,pending:=none }
 | .busy=>{ r with state:=.busy,pending:=none }
 | .done j=>{ r with state:=.done,pending:=some j.code }
def ft (H:Heap) (g:Gh) (k o:Nat):Prop:=g.S k o/\∀ b,g.mu b=some k->∃ es els,H[b]? = some (.row false es els)/\o<es*els.length
def bS (H:Heap) (g:Gh) (w:World) (k off:Nat) (ds:List Value):Prop:=∀ j v,ds[j]? = some v->w.cell? ⟨k,off+j,none⟩=some v/\ft H g k (off+j)
mutual
def VR (H:Heap) (g:Gh) (w:World):A->Value->Prop
 | .any,_=>True
 | .v x,c=>c=x
 | .ptr b o,c=>match H[b]? with
  | some (.box _)=>∃ k,g.mu b=some k/\c=.pointer (some ⟨k,o,none⟩)
  | some .hole=>False
  | some _=>c.oneCell'=true
  | none=>False
 | .ep b i o,c=>match H[b]? with
  | some (.row true es els)=>i<els.length/\∃ k,g.mu b=some k/\c=.pointer (some ⟨k,i*es+o,none⟩)
  | some .hole=>False
  | some _=>c.oneCell'=true
  | none=>False
 | .ip cs,c=>∃ k off ds,c=.pointer (some ⟨k,off,none⟩)/\bS H g w k off ds/\bL H g w cs ds
 | .imm els clip,c=>∃ a cap ds es,c=.slice a els.length cap/\els.length<=cap/\(clip=true->cap=els.length)/\(∀ d∈ds,d.length=es)/\(0<els.length->∃ k off,a=some ⟨k,off,none⟩/\bS H g w k off ds.flatten)/\bK H g w els ds
 | .sl b o n clip,c=>match H[b]? with
  | some (.row true es els)=>o+n<=els.length/\∃ a cap,c=.slice a n cap/\n<=cap/\(clip=true->cap=n)/\(0<n->∃ k,g.mu b=some k/\a=some ⟨k,o*es,none⟩) ∧
    (clip=false->o=0->n=els.length->n<cap->∃ k arr ty,g.mu b=some k/\a=some ⟨k,0,none⟩/\w.heap[k]? = some (.cells arr ty (0,0))/\cap*es<=arr.size)
  | some (.row false es els)=>o+n<=els.length/\∃ a cap,c=.slice a n cap/\n<=cap/\(clip=true->cap=n)/\(0<n->∃ k off,a=some ⟨k,off,none⟩/\bS H g w k off (((g.ga b).drop o).take n).flatten) ∧
    (clip=false->o=0->n=els.length->n<cap->∃ k arr ty,g.mu b=some k/\a=some ⟨k,0,none⟩/\w.heap[k]? = some (.cells arr ty (0,0))/\cap*es<=arr.size)
  | some .hole=>False
  | some _=>c.oneCell'=true
  | none=>False
 | .agg cs,c=>∃ ds,c=.agg ds/\bL H g w cs ds.toList
 | .tup cs,c=>∃ ds,c=.tuple ds/\bL H g w cs ds.toList
 | .fn f a b,c=>∃ ds es,c=.func f ds es/\bL H g w a ds.toList/\bL H g w b es.toList
 | .ifc t x,c=>∃ d,c=.iface t d/\VR H g w x d
 | .yld b,c=>match H[b]? with
  | some (.rng _)=>∃ k,g.mu b=some k/\c=.func (.yield k) #[] #[]
  | some .hole=>False
  | some _=>c.oneCell'=true
  | none=>False
 | .nq els,c=>∃ b,c=.bool b/\(b=true->els=[])
 | .mr b,c=>match H[b]? with
  | some (.mp ..)=>∃ k,g.mu b=some k/\c=.map (some k)
  | some .hole=>False
  | some _=>c.oneCell'=true
  | none=>False
 | .mv k ks vs,c=>∃ r arr cl,c=.map (some r)/\ft H g r 0/\w.heap[r]? = some (.map arr cl)/\arr.toList.map (·.key)=ks.map (.int k)/\bL H g w vs (arr.toList.map (·.val))
def bL (H:Heap) (g:Gh) (w:World):List A->List Value->Prop
 | [],ds=>ds=[]
 | a :: as,ds=>∃ d ds',ds=d :: ds'/\VR H g w a d/\bL H g w as ds'
def bK (H:Heap) (g:Gh) (w:World):List (List A)->List (List Value)->Prop
 | [],ds=>ds=[]
 | a :: as,ds=>∃ d ds',ds=d :: ds'/\bL H g w a d/\bK H g w as ds'
end
def nL (H:Heap) (g:Gh) (w:World) (b:Nat):aA->Prop
 | .box cs=>∃ k arr ty,g.mu b=some k/\w.heap[k]? = some (.cells arr ty (0,0))/\bL H g w cs arr.toList
 | .row true es els=>∃ ds,bK H g w els ds/\(∀ d∈ds,d.length=es)/\(0<els.length->∃ (k:Nat) (arr:Array Value) (ty:TypeId),g.mu b=some k/\w.heap[k]? = some (.cells arr ty (0,0))/\∀ (j:Nat) (v:Value),ds.flatten[j]? = some v->arr[j]? = some v)
 | .row false es els=>bK H g w els (g.ga b)/\(∀ d∈g.ga b,d.length=es)
 | .rng st=>∃ k,g.mu b=some k/\w.heap[k]? = some (.loop (kN (g.lr b) st))
 | .dead=>g.mu b=none
 | .hole=>g.mu b=none
 | .mp k ks vs=>∃ r arr cl,g.mu b=some r/\w.heap[r]? = some (.map arr cl)/\arr.toList.map (·.key)=ks.map (.int k)/\bL H g w vs (arr.toList.map (·.val))
structure Rel (H:Heap) (g:Gh) (w0 w:World):Prop where
 below:Below w0.heap.size w0 w
 dom:∀ b k,g.mu b=some k->b<H.length/\w0.heap.size<=k/\k<w.heap.size
 inj:∀ b c k,g.mu b=some k->g.mu c=some k->b=c
 out:∀ k o,w.heap.size<=k->g.S k o
 own:∀ b k o,g.mu b=some k->g.S k o
 blk:∀ b B,H[b]? = some B->nL H g w b B
def BT (g:Gh) (w:World) (g':Gh) (w':World) (b:Nat):aA->aA->Prop
 | .box _,.box _=>g'.mu b=g.mu b
 | .row true es els,.row true es' els'=>es'=es/\els'.length=els.length/\g'.mu b=g.mu b/\∀ k arr ty,g.mu b=some k->w.heap[k]? = some (.cells arr ty (0,0))->∃ arr',w'.heap[k]? = some (.cells arr' ty (0,0))/\arr.size<=arr'.size
 | .row false es els,.row false es' els'=>es'=es/\(∃ r,g'.ga b=g.ga b++r)/\(g.ga b).length=els.length/\els.length<=els'.length/\(els'.length=els.length->g'.mu b=g.mu b/\∀ k arr ty,g.mu b=some k->w.heap[k]? = some (.cells arr ty (0,0))->∃ arr',w'.heap[k]? = some (.cells arr' ty (0,0))/\arr.size<=arr'.size)
 | .rng _,.rng _=>g'.mu b=g.mu b/\g'.lr b=g.lr b
 | .mp ..,.mp ..=>g'.mu b=g.mu b
 | .hole,_=>True
 | _,.dead=>True
 | _,_=>False
structure zD (H:Heap) (g:Gh) (w:World) (H':Heap) (g':Gh) (w':World):Prop where
 cell:∀ k o v,ft H g k o->w.cell? ⟨k,o,none⟩=some v->w'.cell? ⟨k,o,none⟩=some v/\ft H' g' k o
 blk:∀ (b:Nat) (B:aA),H[b]? = some B->∃ B',H'[b]? = some B'/\BT g w g' w' b B B'
 map:∀ k arr cl,ft H g k 0->w.heap[k]? = some (.map arr cl)->w'.heap[k]? = some (.map arr cl)/\ft H' g' k 0
structure Ext (H:Heap) (g:Gh) (w:World) (H':Heap) (g':Gh) (w':World):Prop where
 cell:∀ k o v,ft H g k o->w.cell? ⟨k,o,none⟩=some v->w'.cell? ⟨k,o,none⟩=some v/\ft H' g' k o
 blk:∀ (b:Nat) (B:aA),H[b]? = some B->∃ B',H'[b]? = some B'/\BT g w g' w' b B B'
 kept:∀ (k:Nat) (x:Option (List Deferred)),w.heap[k]? = some (.deferred x)->w'.heap[k]? = some (.deferred x)
 size:w.heap.size<=w'.heap.size
 map:∀ k arr cl,ft H g k 0->w.heap[k]? = some (.map arr cl)->w'.heap[k]? = some (.map arr cl)/\ft H' g' k 0
 obj:∀ k,k<w.heap.size->(∀ b,g.mu b≠some k)->w'.heap[k]? = w.heap[k]?
 fresh:∀ b k,g'.mu b=some k->(∃ c,g.mu c=some k)∨w.heap.size<=k
variable {H H':Heap} {g g':Gh} {w0 w w':World}
theorem bL.length:∀ {cs:List A} {ds:List Value},bL H g w cs ds->ds.length=cs.length
 | [],_,h=>by rw[bL] at h; subst h; rfl
 | a :: as,_,h=>by rw[bL] at h; obtain ⟨d,ds',rfl,_,h2⟩:=h; simp[bL.length h2]
theorem bK.length:∀ {cs:List (List A)} {ds:List (List Value)},bK H g w cs ds->ds.length=cs.length
 | [],_,h=>by rw[bK] at h; subst h; rfl
 | a :: as,_,h=>by rw[bK] at h; obtain ⟨d,ds',rfl,_,h2⟩:=h; simp[bK.length h2]
theorem bS.gh (he:zD H g w H' g' w') {k off:Nat} {ds:List Value} (h:bS H g w k off ds):bS H' g' w' k off ds:=λj v hj=>let ⟨h1,h2⟩:=h j v hj; he.cell _ _ _ h2 h1
mutual
theorem VR.gh (he:zD H g w H' g' w'):∀ (a:A) (c:Value),VR H g w a c->VR H' g' w' a c
 | .any,_,_=>ZT
 | .v x,c,h=>by rw[VR] at h ⊢; exact h
 | .ptr b o,c,h=>by
  rw[VR] at h ⊢;cases hb:H[b]? with
  | none=>rw[hb] at h; exact h.elim
  | some B=>
   obtain ⟨B',hB',ht⟩:=he.blk b B hb;rw[hb] at h; rw[hB'];cases B with
   | box _=>cases B' with
    | box _=>obtain ⟨k,h1,h2⟩:=h; exact⟨k,(show g'.mu b=g.mu b from ht).trans h1,h2⟩
    | row wr _ _=>exact False.elim ht
    | rng _=>exact False.elim ht
    | mp _ _ _=>exact False.elim ht
    | dead=>obtain ⟨k,h1,h2⟩:=h; subst h2; rfl
    | hole=>exact False.elim ht
   | row wr _ _=>cases B' with
    | box _=>cases wr<;>exact False.elim ht
    | row _ _ _=>exact h
    | rng _=>cases wr<;>exact False.elim ht
    | mp _ _ _=>cases wr<;>exact False.elim ht
    | dead=>exact h
    | hole=>cases wr<;>exact False.elim ht
   | rng _=>cases B'<;>first | exact h | (exact False.elim ht)
   | mp _ _ _=>cases B'<;>first | exact h | (exact False.elim ht)
   | dead=>cases B'<;>first | exact h | (exact False.elim ht)
   | hole=>exact False.elim h
 | .ep b i o,c,h=>by
  rw[VR] at h ⊢;cases hb:H[b]? with
  | none=>rw[hb] at h; exact h.elim
  | some B=>
   obtain ⟨B',hB',ht⟩:=he.blk b B hb;rw[hb] at h; rw[hB'];cases B with
   | box _=>cases B' with
    | box _=>exact h
    | row wr _ _=>exact False.elim ht
    | rng _=>exact False.elim ht
    | mp _ _ _=>exact False.elim ht
    | dead=>exact h
    | hole=>exact False.elim ht
   | row wr es els=>cases wr with
    | true=>cases B' with
     | box _=>exact False.elim ht
     | row wr' es' els'=>cases wr' with
      | true=>
       obtain ⟨e1,e2,e3,_⟩:=ht;obtain ⟨h0,k,h1,h2⟩:=h;subst e1;exact⟨o3,k,e3.trans h1,h2⟩
      | false=>exact False.elim ht
     | rng _=>exact False.elim ht
     | mp _ _ _=>exact False.elim ht
     | dead=>obtain ⟨_,k,h1,h2⟩:=h; subst h2; rfl
     | hole=>exact False.elim ht
    | false=>cases B' with
     | box _=>exact False.elim ht
     | row wr' es' els'=>cases wr' with
      | true=>exact False.elim ht
      | false=>exact h
     | rng _=>exact False.elim ht
     | mp _ _ _=>exact False.elim ht
     | dead=>exact h
     | hole=>exact False.elim ht
   | rng _=>cases B'<;>first | exact h | (exact False.elim ht)
   | mp _ _ _=>cases B'<;>first | exact h | (exact False.elim ht)
   | dead=>cases B'<;>first | exact h | (exact False.elim ht)
   | hole=>exact False.elim h
 | .ip cs,c,h=>by
  rw[VR] at h ⊢;obtain ⟨k,off,ds,h1,h2,h3⟩:=h;exact⟨k,off,ds,h1,h2.gh he,bL.gh he cs ds h3⟩
 | .imm els clip,c,h=>by
  rw[VR] at h ⊢;obtain ⟨a,cap,ds,es,h1,h2,h3,h4,h5,h6⟩:=h;exact⟨a,cap,ds,es,h1,h2,h3,h4,λhp=>let ⟨k,off,e1,e2⟩:=h5 hp; ⟨k,off,e1,e2.gh he⟩,bK.gh he els ds h6⟩
 | .sl b o n clip,c,h=>by
  rw[VR] at h ⊢;cases hb:H[b]? with
  | none=>rw[hb] at h; exact h.elim
  | some B=>
   obtain ⟨B',hB',ht⟩:=he.blk b B hb;rw[hb] at h; rw[hB'];cases B with
   | box _=>cases B' with
    | box _=>exact h
    | row wr _ _=>exact False.elim ht
    | rng _=>exact False.elim ht
    | mp _ _ _=>exact False.elim ht
    | dead=>exact h
    | hole=>exact False.elim ht
   | row wr es els=>cases wr with
    | true=>cases B' with
     | box _=>exact False.elim ht
     | row wr' es' els'=>cases wr' with
      | true=>
       obtain ⟨e1,e2,e3,e4⟩:=ht;obtain ⟨h0,a,cap,h1,h2,h3,h4,h5⟩:=h;subst e1;refine⟨o3,a,cap,h1,h2,h3,λhp=>let ⟨k,g1,g2⟩:=h4 hp; ⟨k,e3.trans g1,g2⟩,λhc ho hn hlt=>?_⟩;obtain ⟨k,arr,ty,g1,g2,g3,g4⟩:=h5 hc ho o3 hlt;obtain ⟨arr',m3,m4⟩:=e4 k arr ty g1 g3;exact⟨k,arr',ty,e3.trans g1,g2,m3,o3⟩
      | false=>exact False.elim ht
     | rng _=>exact False.elim ht
     | mp _ _ _=>exact False.elim ht
     | dead=>obtain ⟨_,a,cap,h1,_⟩:=h; subst h1; rfl
     | hole=>exact False.elim ht
    | false=>cases B' with
     | box _=>exact False.elim ht
     | row wr' es' els'=>cases wr' with
      | true=>exact False.elim ht
      | false=>
       obtain ⟨e1,⟨r,e2⟩,e3,e4,e5⟩:=ht;obtain ⟨h0,a,cap,h1,h2,h3,h4,h5⟩:=h;subst e1;refine⟨o3,a,cap,h1,h2,h3,λhp=>?_,λhc ho hn hlt=>?_⟩
       ·obtain ⟨k,off,g1,g2⟩:=h4 hp;refine⟨k,off,g1,?_⟩;have:((g'.ga b).drop o).take n=((g.ga b).drop o).take n:=by
         rw[e2,qdo o3,qcK r9]
        rw[this];exact g2.gh he
       ·have hel:els'.length=els.length:=by omega
        obtain ⟨k,arr,ty,g1,g2,g3,g4⟩:=h5 hc ho o3 hlt;obtain ⟨m1,m2⟩:=e5 hel;obtain ⟨arr',m3,m4⟩:=m2 k arr ty g1 g3;exact⟨k,arr',ty,m1.trans g1,g2,m3,o3⟩
     | rng _=>exact False.elim ht
     | mp _ _ _=>exact False.elim ht
     | dead=>obtain ⟨_,a,cap,h1,_⟩:=h; subst h1; rfl
     | hole=>exact False.elim ht
   | rng _=>cases B'<;>first | exact h | (exact False.elim ht)
   | mp _ _ _=>cases B'<;>first | exact h | (exact False.elim ht)
   | dead=>cases B'<;>first | exact h | (exact False.elim ht)
   | hole=>exact False.elim h
 | .agg cs,c,h=>by
  rw[VR] at h ⊢;obtain ⟨ds,h1,h2⟩:=h;exact⟨ds,h1,bL.gh he cs _ h2⟩
 | .tup cs,c,h=>by
  rw[VR] at h ⊢;obtain ⟨ds,h1,h2⟩:=h;exact⟨ds,h1,bL.gh he cs _ h2⟩
 | .fn f a b,c,h=>by
  rw[VR] at h ⊢;obtain ⟨ds,es,h1,h2,h3⟩:=h;exact⟨ds,es,h1,bL.gh he a _ h2,bL.gh he b _ h3⟩
 | .ifc t x,c,h=>by
  rw[VR] at h ⊢;obtain ⟨d,h1,h2⟩:=h;exact⟨d,h1,VR.gh he x d h2⟩
 | .yld b,c,h=>by
  rw[VR] at h ⊢;cases hb:H[b]? with
  | none=>rw[hb] at h; exact h.elim
  | some B=>
   obtain ⟨B',hB',ht⟩:=he.blk b B hb;rw[hb] at h; rw[hB'];cases B with
   | rng st=>cases B' with
    | rng st'=>obtain ⟨k,h1,h2⟩:=h; exact⟨k,(show g'.mu b=g.mu b from ht.1).trans h1,h2⟩
    | dead=>obtain ⟨k,h1,h2⟩:=h; subst h2; rfl
    | hole=>exact False.elim ht
    | box _=>exact False.elim ht
    | row _ _ _=>exact False.elim ht
    | mp _ _ _=>exact False.elim ht
   | row wr _ _=>cases wr<;>cases B'<;>first | exact h | (exact False.elim ht)
   | dead=>cases B'<;>first | exact h | (exact False.elim ht)
   | box _=>cases B'<;>first | exact h | (exact False.elim ht)
   | mp _ _ _=>cases B'<;>first | exact h | (exact False.elim ht)
   | hole=>exact False.elim h
 | .nq els,c,h=>by rw[VR] at h ⊢; exact h
 | .mr b,c,h=>by
  rw[VR] at h ⊢;cases hb:H[b]? with
  | none=>rw[hb] at h; exact h.elim
  | some B=>
   obtain ⟨B',hB',ht⟩:=he.blk b B hb;rw[hb] at h; rw[hB'];cases B with
   | mp _ _ _=>cases B' with
    | mp _ _ _=>obtain ⟨k,h1,h2⟩:=h; exact⟨k,(show g'.mu b=g.mu b from ht).trans h1,h2⟩
    | dead=>obtain ⟨k,h1,h2⟩:=h; subst h2; rfl
    | hole=>exact False.elim ht
    | box _=>exact False.elim ht
    | row _ _ _=>exact False.elim ht
    | rng _=>exact False.elim ht
   | row wr _ _=>cases wr<;>cases B'<;>first | exact h | (exact False.elim ht)
   | dead=>cases B'<;>first | exact h | (exact False.elim ht)
   | box _=>cases B'<;>first | exact h | (exact False.elim ht)
   | rng _=>cases B'<;>first | exact h | (exact False.elim ht)
   | hole=>exact False.elim h
 | .mv k ks vs,c,h=>by
  rw[VR] at h ⊢;obtain ⟨r,arr,cl,h1,h2,h3,h4,h5⟩:=h;obtain ⟨e1,e2⟩:=he.map r arr cl h2 h3;exact⟨r,arr,cl,h1,e2,e1,h4,bL.gh he vs _ h5⟩
theorem bL.gh (he:zD H g w H' g' w'):∀ (cs:List A) (ds:List Value),bL H g w cs ds->bL H' g' w' cs ds
 | [],_,h=>by rw[bL] at h ⊢; exact h
 | a :: as,_,h=>by
  rw[bL] at h ⊢;obtain ⟨d,ds',h1,h2,h3⟩:=h;exact⟨d,ds',h1,VR.gh he a d h2,bL.gh he as ds' h3⟩
theorem bK.gh (he:zD H g w H' g' w'):∀ (cs:List (List A)) (ds:List (List Value)),bK H g w cs ds->bK H' g' w' cs ds
 | [],_,h=>by rw[bK] at h ⊢; exact h
 | a :: as,_,h=>by
  rw[bK] at h ⊢;obtain ⟨d,ds',h1,h2,h3⟩:=h;exact⟨d,ds',h1,bL.gh he a d h2,bK.gh he as ds' h3⟩
end
theorem Ext.R1 (he:Ext H g w H' g' w'):zD H g w H' g' w':=⟨he.cell,he.blk,he.map⟩
theorem bS.ext (he:Ext H g w H' g' w') {k off:Nat} {ds:List Value} (h:bS H g w k off ds):bS H' g' w' k off ds:=h.gh he.R1
theorem VR.ext (he:Ext H g w H' g' w') (a:A) (c:Value) (h:VR H g w a c):VR H' g' w' a c:=VR.gh he.R1 a c h
theorem bL.ext (he:Ext H g w H' g' w') (cs:List A) (ds:List Value) (h:bL H g w cs ds):bL H' g' w' cs ds:=bL.gh he.R1 cs ds h
theorem bK.ext (he:Ext H g w H' g' w') (cs:List (List A)) (ds:List (List Value)) (h:bK H g w cs ds):bK H' g' w' cs ds:=bK.gh he.R1 cs ds h
theorem nL.len {b es:Nat} {els:List (List A)} (h:nL H g w b (.row false es els)):(g.ga b).length=els.length:=h.1.length
theorem Rel.A5 (hr:Rel H g w0 w) (he:Ext H g w H' g' w') (hS:g'.S=g.S:=by rfl):∀ k o,w'.heap.size<=k->g'.S k o:=λk o hk=>by rw[hS]; exact hr.out k o (qaC he.size hk)
theorem Rel.zo (hr:Rel H g w0 w) (he:Ext H g w H' g' w') (hS:g'.S=g.S:=by rfl):∀ b k o,g'.mu b=some k->g'.S k o:=λb k o h=>by
 rw[hS];rcases he.fresh b k h with ⟨c,hc⟩ | hl
 ·exact hr.own c k o hc
 ·exact hr.out k o hl
theorem Ext.below (hr:Rel H g w0 w) (hb:Below w.heap.size w w'):Ext H g w H g w':=by
 refine⟨λk o v hs hc=>⟨(hb.cell (p:=⟨k,o,none⟩) (qbW w _ hc)).trans hc,hs⟩,λb B hB=>⟨B,hB,?_⟩,λk o ho=>(hb.block k (qaj.1 ho).1).trans ho,hb.size,λk arr cl hs hm=>⟨(hb.block k (qaj.1 hm).1).trans hm,hs⟩,λk hk _=>hb.block k hk,λb k h=>.inl ⟨b,h⟩⟩;cases B with
 | box _=>rfl
 | mp _ _ _=>rfl
 | row wr es els=>cases wr with
  | true=>exact⟨rfl,rfl,rfl,λk arr ty hk ha=>⟨arr,(hb.block k (hr.dom b k hk).2.2).trans ha,qab _⟩⟩
  | false=>exact⟨rfl,⟨[],r8⟩,(hr.blk b _ hB).len,qab _,λ_=>⟨rfl,λk arr ty hk ha=>⟨arr,(hb.block k (hr.dom b k hk).2.2).trans ha,qab _⟩⟩⟩
 | rng _=>exact⟨rfl,rfl⟩
 | dead=>trivial
 | hole=>trivial
theorem nL.below {b:Nat} {B:aA} (hr:Rel H g w0 w) (hb:Below w.heap.size w w') (h:nL H g w b B):nL H g w' b B:=by
 have he:=Ext.below hr hb;cases B with
 | box cs=>obtain ⟨k,arr,ty,h1,h2,h3⟩:=h; exact⟨k,arr,ty,h1,(hb.block k (hr.dom b k h1).2.2).trans h2,bL.ext he _ _ h3⟩
 | row wr es els=>cases wr with
  | true=>
   obtain ⟨ds,h1,h2,h3⟩:=h;exact⟨ds,bK.ext he _ _ h1,h2,λhp=>let ⟨k,arr,ty,e1,e2,e3⟩:=h3 hp; ⟨k,arr,ty,e1,(hb.block k (hr.dom b k e1).2.2).trans e2,e3⟩⟩
  | false=>exact⟨bK.ext he _ _ h.1,h.2⟩
 | rng st=>obtain ⟨k,h1,h2⟩:=h; exact⟨k,h1,(hb.block k (hr.dom b k h1).2.2).trans h2⟩
 | mp _ _ _=>obtain ⟨k,arr,cl,h1,h2,h3,h4⟩:=h; exact⟨k,arr,cl,h1,(hb.block k (hr.dom b k h1).2.2).trans h2,h3,bL.ext he _ _ h4⟩
 | dead=>exact h
 | hole=>exact h
theorem Rel.kK (hr:Rel H g w0 w) (hb:Below w.heap.size w w'):Rel H g w0 w':=
 ⟨hr.below.trans (hb.mono hr.below.size),λb k hk=>⟨(hr.dom b k hk).1,(hr.dom b k hk).2.1,qaz (hr.dom b k hk).2.2 hb.size⟩,hr.inj,λk o hk=>hr.out k o (qaC hb.size hk),hr.own,λb B hB=>(hr.blk b B hB).below hr hb⟩
theorem Rel.Af (hr:Rel H g w0 w) {B:Nat} (hc:eH B w w'):zD H g w H g w':=by
 refine⟨λk o v hs h=>⟨Calm.cell (B:=B) ⟨k,o,none⟩ v w w' h hc,hs⟩,λb Bk hB=>⟨Bk,hB,?_⟩,λk arr cl hs hm=>⟨hc.data _ _ hm rfl,hs⟩⟩;cases Bk with
 | box _=>rfl
 | mp _ _ _=>rfl
 | row wr es els=>cases wr with
  | true=>exact⟨rfl,rfl,rfl,λk arr ty hk ha=>⟨arr,hc.data _ _ ha rfl,qab _⟩⟩
  | false=>exact⟨rfl,⟨[],r8⟩,(hr.blk b _ hB).len,qab _,λ_=>⟨rfl,λk arr ty hk ha=>⟨arr,hc.data _ _ ha rfl,qab _⟩⟩⟩
 | rng _=>exact⟨rfl,rfl⟩
 | dead=>trivial
 | hole=>trivial
theorem Rel.calm (hr:Rel H g w0 w) {B:Nat} (hB:w0.heap.size<=B) (hc:eH B w w') (hl:∀ (k:Nat) (o:Loop),w.heap[k]? = some (.loop o)->w'.heap[k]? = some (.loop o)):Rel H g w0 w':=by
 have he:=hr.Af hc;refine⟨Calm.below (qab _) hB w w' hr.below hc,λb k hk=>⟨(hr.dom b k hk).1,(hr.dom b k hk).2.1,qaz (hr.dom b k hk).2.2 hc.size⟩,hr.inj,λk o hk=>hr.out k o (qaC hc.size hk),hr.own,λb Bk hBk=>?_⟩;have h:=hr.blk b Bk hBk;cases Bk with
 | box cs=>obtain ⟨k,arr,ty,h1,h2,h3⟩:=h; exact⟨k,arr,ty,h1,hc.data _ _ h2 rfl,bL.gh he _ _ h3⟩
 | row wr es els=>cases wr with
  | true=>
   obtain ⟨ds,h1,h2,h3⟩:=h;exact⟨ds,bK.gh he _ _ h1,h2,λhp=>let ⟨k,arr,ty,e1,e2,e3⟩:=h3 hp; ⟨k,arr,ty,e1,hc.data _ _ e2 rfl,e3⟩⟩
  | false=>exact⟨bK.gh he _ _ h.1,h.2⟩
 | rng st=>obtain ⟨k,h1,h2⟩:=h; exact⟨k,h1,hl k _ h2⟩
 | mp _ _ _=>obtain ⟨k,arr,cl,h1,h2,h3,h4⟩:=h; exact⟨k,arr,cl,h1,hc.data _ _ h2 rfl,h3,bL.gh he _ _ h4⟩
 | dead=>exact h
 | hole=>exact h
theorem Ext.calm {H0:Heap} {g0:Gh} {ws:World} (he:Ext H0 g0 ws H g w) (hr:Rel H g w0 w) {B:Nat} (hB:ws.heap.size<=B) (hc:eH B w w'):Ext H0 g0 ws H g w':=by
 have h0:=hr.Af hc;refine⟨λk o v hs h=>?_,λb Bk hBk=>?_,λk o ho=>?_,qaC he.size hc.size,λk arr cl hs hm=>let ⟨c1,s1⟩:=he.map k arr cl hs hm; h0.map k arr cl s1 c1,λk hk hn=>(hc.low k o3 (qaz hk he.size)).trans (he.obj k hk hn),he.fresh⟩
 ·obtain ⟨c1,s1⟩:=he.cell k o v hs h;exact h0.cell k o v s1 c1
 ·obtain ⟨B',hB',ht⟩:=he.blk b Bk hBk;refine⟨B',hB',?_⟩;cases Bk with
  | row wr es els=>cases wr with
   | false=>cases B' with
    | row wr' es' els'=>cases wr' with
     | false=>
      obtain ⟨e1,e2,e3,e4,e5⟩:=ht;refine⟨e1,e2,e3,e4,λhl=>⟨(e5 hl).1,λk arr ty hk ha=>?_⟩⟩;obtain ⟨arr',q1,q2⟩:=(e5 hl).2 k arr ty hk ha;exact⟨arr',hc.data _ _ q1 rfl,q2⟩
     | true=>exact ht
    | _=>exact ht
   | true=>cases B' with
    | row wr' es' els'=>cases wr' with
     | true=>
      obtain ⟨e1,e2,e3,e4⟩:=ht;refine⟨e1,e2,e3,λk arr ty hk ha=>?_⟩;obtain ⟨arr',q1,q2⟩:=e4 k arr ty hk ha;exact⟨arr',hc.data _ _ q1 rfl,q2⟩
     | false=>exact ht
    | _=>exact ht
  | _=>cases B'<;>exact ht
 ·have hk:=he.kept k o ho;have hlt:=(qaj.1 ho).1;exact(hc.low k o3 (qaj.1 hk).1).trans hk
end
section
open Go.RowKit
variable {P:Program} {H:Heap} {g:Gh} {w0 w:World}
theorem eU {α:Type} {P:Program}:∀ {s:Sem α} {a:α},dj P s=some a->∀ w,s.run P w=.ok a w
 | .pure a,_,h,w=>by simp only[dj,qaG] at h; subst h; rfl
 | .program k,a,h,w=>by simp only[dj] at h; exact eU (s:=k P) h w
 | .mark _ k,a,h,w=>by simp only[dj] at h; exact eU (s:=k) h w
 | .load ..,_,h,_ | .store ..,_,h,_ | .new ..,_,h,_ | .shape ..,_,h,_ | .freeze ..,_,h,_ | .frozen ..,_,h,_ | .getObj ..,_,h,_ | .setObj ..,_,h,_ | .choose ..,_,h,_ | .sys ..,_,h,_ | .halt _,_,h,_=>by cases h
theorem ew:∀ {cs:List A} {ds:List Value},bL H g w cs ds↔ds.length=cs.length/\∀ (i:Nat) a d,cs[i]? = some a->ds[i]? = some d->VR H g w a d
 | [],ds=>by
  rw[bL];exact⟨λh=>by subst h; simp,λh=>by simpa using h.1⟩
 | a :: as,ds=>by
  rw[bL];constructor
  ·rintro ⟨d,ds',rfl,h1,h2⟩
   obtain ⟨h3,h4⟩:=ew.1 h2;refine⟨by simp[h3],λi x y hx hy=>?_⟩;cases i with
   | zero=>simp at hx hy; subst hx; subst hy; exact h1
   | succ i=>exact h4 i x y (by simpa using hx) (by simpa using hy)
  ·rintro ⟨h1,h2⟩
   cases ds with
   | nil=>simp at h1
   | cons d ds'=>exact⟨d,ds',rfl,h2 0 a d rfl rfl,ew.2 ⟨by simpa using h1,λi x y hx hy=>h2 (i+1) x y (by simpa using hx) (by simpa using hy)⟩⟩
theorem dh:∀ {cs:List (List A)} {ds:List (List Value)},bK H g w cs ds↔ds.length=cs.length/\∀ (i:Nat) a d,cs[i]? = some a->ds[i]? = some d->bL H g w a d
 | [],ds=>by
  rw[bK];exact⟨λh=>by subst h; simp,λh=>by simpa using h.1⟩
 | a :: as,ds=>by
  rw[bK];constructor
  ·rintro ⟨d,ds',rfl,h1,h2⟩
   obtain ⟨h3,h4⟩:=dh.1 h2;refine⟨by simp[h3],λi x y hx hy=>?_⟩;cases i with
   | zero=>simp at hx hy; subst hx; subst hy; exact h1
   | succ i=>exact h4 i x y (by simpa using hx) (by simpa using hy)
  ·rintro ⟨h1,h2⟩
   cases ds with
   | nil=>simp at h1
   | cons d ds'=>exact⟨d,ds',rfl,h2 0 a d rfl rfl,dh.2 ⟨by simpa using h1,λi x y hx hy=>h2 (i+1) x y (by simpa using hx) (by simpa using hy)⟩⟩
theorem bL.get {cs:List A} {ds:List Value} (h:bL H g w cs ds) {i:Nat} {a:A} (ha:cs[i]? = some a):∃ d,ds[i]? = some d/\VR H g w a d:=by
 obtain ⟨h1,h2⟩:=ew.1 h;have hi:i<ds.length:=by rw[h1]; exact(qad.1 ha).1
 exact⟨ds[i],Z7 hi,h2 i a _ ha (Z7 hi)⟩
theorem bK.get {cs:List (List A)} {ds:List (List Value)} (h:bK H g w cs ds) {i:Nat} {a:List A} (ha:cs[i]? = some a):∃ d,ds[i]? = some d/\bL H g w a d:=by
 obtain ⟨h1,h2⟩:=dh.1 h;have hi:i<ds.length:=by rw[h1]; exact(qad.1 ha).1
 exact⟨ds[i],Z7 hi,h2 i a _ ha (Z7 hi)⟩
theorem bL.drop {cs:List A} {ds:List Value} (h:bL H g w cs ds) (n:Nat):bL H g w (cs.drop n) (ds.drop n):=by
 obtain ⟨h1,h2⟩:=ew.1 h;exact ew.2 ⟨by simp[h1],λi a d ha hd=>h2 (n+i) a d (by simpa using ha) (by simpa using hd)⟩
theorem bL.take {cs:List A} {ds:List Value} (h:bL H g w cs ds) (n:Nat):bL H g w (cs.take n) (ds.take n):=by
 obtain ⟨h1,h2⟩:=ew.1 h;refine ew.2 ⟨by simp[h1],λi a d ha hd=>?_⟩;rw[qaA] at ha hd;split at ha
 ·rename_i hlt; rw[qaf hlt] at hd; exact h2 _ _ _ ha hd
 ·cases ha
theorem bL.append {cs cs':List A} {ds ds':List Value} (h:bL H g w cs ds) (h':bL H g w cs' ds'):bL H g w (cs++cs') (ds++ds'):=by
 obtain ⟨h1,h2⟩:=ew.1 h;obtain ⟨h3,h4⟩:=ew.1 h';refine ew.2 ⟨by simp[h1,h3],λi a d ha hd=>?_⟩;rw[qcb] at ha hd;rw[h1] at hd;split at ha
 ·rename_i hlt; rw[qaf hlt] at hd; exact h2 _ _ _ ha hd
 ·rename_i hlt; rw[qah hlt] at hd; exact h4 _ _ _ ha hd
theorem bK.drop {cs:List (List A)} {ds:List (List Value)} (h:bK H g w cs ds) (n:Nat):bK H g w (cs.drop n) (ds.drop n):=by
 obtain ⟨h1,h2⟩:=dh.1 h;exact dh.2 ⟨by simp[h1],λi a d ha hd=>h2 (n+i) a d (by simpa using ha) (by simpa using hd)⟩
theorem bK.take {cs:List (List A)} {ds:List (List Value)} (h:bK H g w cs ds) (n:Nat):bK H g w (cs.take n) (ds.take n):=by
 obtain ⟨h1,h2⟩:=dh.1 h;refine dh.2 ⟨by simp[h1],λi a d ha hd=>?_⟩;rw[qaA] at ha hd;split at ha
 ·rename_i hlt; rw[qaf hlt] at hd; exact h2 _ _ _ ha hd
 ·cases ha
theorem bK.append {cs cs':List (List A)} {ds ds':List (List Value)} (h:bK H g w cs ds) (h':bK H g w cs' ds'):bK H g w (cs++cs') (ds++ds'):=by
 obtain ⟨h1,h2⟩:=dh.1 h;obtain ⟨h3,h4⟩:=dh.1 h';refine dh.2 ⟨by simp[h1,h3],λi a d ha hd=>?_⟩;rw[qcb] at ha hd;rw[h1] at hd;split at ha
 ·rename_i hlt; rw[qaf hlt] at hd; exact h2 _ _ _ ha hd
 ·rename_i hlt; rw[qah hlt] at hd; exact h4 _ _ _ ha hd
theorem bL.bI {cs xs:List A} {ds ys:List Value} (h:bL H g w cs ds) (h':bL H g w xs ys) (o:Nat):bL H g w (bI cs o xs) (bI ds o ys):=by
 unfold Go.Proofs.Ytebkhfhcipnfgaa.bI;rw[h'.length];exact((h.take o).append h').append (h.drop _)
theorem bK.bI {cs xs:List (List A)} {ds ys:List (List Value)} (h:bK H g w cs ds) (h':bK H g w xs ys) (o:Nat):bK H g w (bI cs o xs) (bI ds o ys):=by
 unfold Go.Proofs.Ytebkhfhcipnfgaa.bI;rw[h'.length];exact((h.take o).append h').append (h.drop _)
theorem jA {α:Type} (es:Nat):∀ (q:Nat) (xs:List α),(chunk es q xs).length=q
 | 0,_=>rfl
 | q+1,xs=>by rw[chunk,qae,jA es q]
theorem lM {α:Type} {es:Nat}:∀ {q:Nat} {xs:List α},xs.length=q*es->∀ d∈chunk es q xs,d.length=es
 | 0,_,_,d,hd=>by cases hd
 | q+1,xs,h,d,hd=>by
  rw[qbk,qei] at h;rcases qaD.1 hd with rfl | hd
  ·simp; omega
  ·exact lM r9 d hd
theorem nV {α:Type} {es:Nat}:∀ {q:Nat} {xs:List α},xs.length=q*es->(chunk es q xs).flatten=xs
 | 0,xs,h=>by
  have:xs=[]:=qaw (by simpa using h);subst this; rfl
 | q+1,xs,h=>by
  rw[qbk,qei] at h;rw[chunk,qbt,nV r9];exact qbQ _ _
theorem bL.chunk {es:Nat}:∀ (q:Nat) {cs:List A} {ds:List Value},bL H g w cs ds->bK H g w (chunk es q cs) (chunk es q ds)
 | 0,_,_,_=>by rw[Go.Proofs.Ytebkhfhcipnfgaa.chunk,Go.Proofs.Ytebkhfhcipnfgaa.chunk,bK]
 | q+1,cs,ds,h=>by
  rw[Go.Proofs.Ytebkhfhcipnfgaa.chunk,Go.Proofs.Ytebkhfhcipnfgaa.chunk,bK];exact⟨_,_,rfl,h.take es,bL.chunk q (h.drop es)⟩
theorem bK.flat:∀ {els:List (List A)} {ds:List (List Value)},bK H g w els ds->bL H g w els.flatten ds.flatten
 | [],_,h=>by rw[bK] at h; subst h; rw[List.flatten_nil,bL]; rfl
 | a :: els,_,h=>by
  rw[bK] at h;obtain ⟨d,ds',rfl,h1,h2⟩:=h;rw[qbt,qbt];exact h1.append (bK.flat h2)
theorem Im (x:Value):VR H g w (BF x) x:=by
 unfold BF;split
 ·rw[VR]; exact⟨none,0,[],0,rfl,qab _,λ_=>rfl,r8,r8,by rw[bK]⟩
 ·rw[VR]
theorem kh (l:List Value):bL H g w (l.map BF) l:=
 ew.2 ⟨r8,λi a d ha hd=>by rw[qaO,hd] at ha; cases ha; exact Im d⟩
theorem qX (x:Value):VR H g w (wL x) x:=by
 unfold wL;split
 ·rename_i cs; rw[VR]; exact⟨cs,rfl,kh _⟩
 ·exact Im _
mutual
theorem pM:∀ (a:A) {v c:Value},a.te=some v->VR H g w a c->c=v
 | .any,_,_,h,_=>by simp[A.te] at h
 | .v x,_,_,h,hr=>by simp[A.te] at h; rw[VR] at hr; rw[hr,h]
 | .ptr ..,_,_,h,_=>by simp[A.te] at h
 | .ep ..,_,_,h,_=>by simp[A.te] at h
 | .ip _,_,_,h,_=>by simp[A.te] at h
 | .imm ..,_,_,h,_=>by simp[A.te] at h
 | .sl ..,_,_,h,_=>by simp[A.te] at h
 | .agg cs,_,_,h,hr=>by
  simp[A.te] at h;obtain ⟨l,hl,rfl⟩:=h;rw[VR] at hr;obtain ⟨ds,rfl,h2⟩:=hr;have:=Em cs hl h2;rw[<-this]
 | .tup _,_,_,h,_=>by simp[A.te] at h
 | .fn (.func f) [] [],_,_,h,hr=>by
  simp[A.te] at h;subst h;rw[VR] at hr;obtain ⟨ds,es,rfl,h1,h2⟩:=hr;rw[bL] at h1 h2;have e1:ds=#[]:=by cases ds; simp_all
  have e2:es=#[]:=by cases es; simp_all
  rw[e1,e2]
 | .fn (.func _) (_ :: _) _,_,_,h,_=>by simp[A.te] at h
 | .fn (.func _) [] (_ :: _),_,_,h,_=>by simp[A.te] at h
 | .fn (.method _) _ _,_,_,h,_=>by simp[A.te] at h
 | .fn (.methodOf ..) _ _,_,_,h,_=>by simp[A.te] at h
 | .fn (.via ..) _ _,_,_,h,_=>by simp[A.te] at h
 | .fn (.yield _) _ _,_,_,h,_=>by simp[A.te] at h
 | .ifc t x,_,_,h,hr=>by
  simp[A.te] at h;obtain ⟨v,hv,rfl⟩:=h;rw[VR] at hr;obtain ⟨d,rfl,h2⟩:=hr;rw[pM x hv h2]
theorem Em:∀ (cs:List A) {l ds:List Value},Fm cs=some l->bL H g w cs ds->ds=l
 | [],_,_,h,hr=>by simp[Fm] at h; rw[bL] at hr; rw[hr,<-h]
 | a :: as,_,_,h,hr=>by
  rw[Fm] at h;cases hx:a.te with
  | none=>rw[hx] at h; cases h
  | some x=>
   rw[hx] at h;cases hl:Fm as with
   | none=>rw[hl] at h; cases h
   | some l=>
    rw[hl] at h;cases h;rw[bL] at hr;obtain ⟨d,ds',rfl,h1,h2⟩:=hr;rw[pM a hx h1,Em as hl h2]
end
theorem uM {a:A} {c:Value} (hc:a.cell=true) (h:VR H g w a c):c.oneCell'=true:=by
 cases a with
 | any=>simp[A.cell] at hc
 | v x=>rw[VR] at h; rw[h]; simpa [A.cell] using hc
 | ptr b o=>
  rw[VR] at h;split at h
  ·obtain ⟨k,_,rfl⟩:=h; rfl
  ·exact h.elim
  ·exact h
  ·exact h.elim
 | ep b i o=>
  rw[VR] at h;split at h
  ·obtain ⟨_,k,_,rfl⟩:=h; rfl
  ·exact h.elim
  ·exact h
  ·exact h.elim
 | ip cs=>rw[VR] at h; obtain ⟨_,_,_,rfl,_⟩:=h; rfl
 | imm els clip=>rw[VR] at h; obtain ⟨_,_,_,_,rfl,_⟩:=h; rfl
 | sl b o n clip=>
  rw[VR] at h;split at h
  ·obtain ⟨_,_,_,rfl,_⟩:=h; rfl
  ·obtain ⟨_,_,_,rfl,_⟩:=h; rfl
  ·exact h.elim
  ·exact h
  ·exact h.elim
 | agg _=>simp[A.cell] at hc
 | tup _=>simp[A.cell] at hc
 | fn f a b=>rw[VR] at h; obtain ⟨_,_,rfl,_⟩:=h; rfl
 | ifc t x=>rw[VR] at h; obtain ⟨_,rfl,_⟩:=h; rfl
 | nq _=>simp[A.cell] at hc
 | yld b=>
  rw[VR] at h;split at h
  ·obtain ⟨_,_,rfl⟩:=h; rfl
  ·exact h.elim
  ·exact h
  ·exact h.elim
 | mr b=>
  rw[VR] at h;split at h
  ·obtain ⟨_,_,rfl⟩:=h; rfl
  ·exact h.elim
  ·exact h
  ·exact h.elim
 | mv k ks vs=>rw[VR] at h; obtain ⟨_,_,_,rfl,_⟩:=h; rfl
theorem yu {c:Value} (h:c.oneCell'=true):c.cells=#[c]:=by cases c<;>first | rfl | simp[Value.oneCell'] at h
theorem oX {a:A} {c:Value} {cs:List A} (ha:a.cells? = some cs) (h:VR H g w a c):bL H g w cs c.cells.toList/\(∀ x∈c.cells.toList,x.oneCell'=true)/\∀ x∈cs,x.cell=true:=by
 have one:∀ {x:A} {d:Value},x.cell=true->VR H g w x d->bL H g w [x] d.cells.toList/\(∀ y∈d.cells.toList,y.oneCell'=true)/\∀ y∈[x],y.cell=true:=λ{x d} hx hv=>by
  have h1:=uM hx hv;rw[yu h1];refine⟨?_,by simp[h1],by simp[hx]⟩;rw[bL]; exact⟨d,[],rfl,hv,An⟩
 cases a with
 | any=>simp[A.cells?] at ha
 | tup _=>simp[A.cells?] at ha
 | agg as=>
  simp only[A.cells?,cond_eq_ite] at ha;split at ha
  ·rename_i hall;cases ha;rw[VR] at h;obtain ⟨ds,rfl,h2⟩:=h;refine⟨h2,λx hx=>?_,qak.1 hall⟩;obtain ⟨i,hi,rfl⟩:=qa2 hx;have hl:=h2.length;obtain ⟨d,hd,hv⟩:=h2.get (i:=i) (Z7 (by simp only[Value.cells] at hi; omega));have hd':(Value.agg ds).cells.toList[i]? = some d:=hd;rw[Z7 hi] at hd';cases hd';exact uM (qak.1 hall _ (qaB _)) hv
  ·cases ha
 | v x=>
  simp only[A.cells?,cond_eq_ite] at ha;split at ha
  ·rename_i hx; cases ha; exact one hx h
  ·cases ha
 | nq _=>simp[A.cells?] at ha
 | _=>simp only[A.cells?,qaG] at ha; subst ha; exact one rfl h
theorem yY {t:TypeId} {cs:List A} {ds:List Value} {a:A} (hj:join P t cs=some a) (h:bL H g w cs ds):∃ c,VR H g w a c/\(if mR P t=true then c=.agg ds.toArray else ds=[c]):=by
 unfold Go.Proofs.Ytebkhfhcipnfgaa.join at hj;cases hA:mR P t
 ·rw[hA] at hj;simp only[Z8] at hj;split at hj
  ·cases hj;rw[bL] at h;obtain ⟨d,ds',rfl,h1,h2⟩:=h;rw[bL] at h2;subst h2;exact⟨d,h1,r8⟩
  ·cases hj
 ·rw[hA] at hj;simp only[qaa,qaG] at hj;subst hj;exact⟨.agg ds.toArray,by rw[VR]; exact⟨_,rfl,by simpa using h⟩,r8⟩
theorem xw (t:TypeId) {d:TypeDesc} (hu:P.underlying t=some d) (w:World):(isAgg t).run P w=.ok (mR P t) w:=by
 unfold isAgg mR;rw[qa1,qap hu w,hu];cases d<;>rfl
theorem nW {t:TypeId} {n:Nat} (h:cY P t=some n):∃ d,P.underlying t=some d:=by
 unfold cY at h;cases hu:P.underlying t with
 | none=>rw[hu] at h; cases h
 | some d=>exact⟨d,rfl⟩
theorem iW {t:TypeId} {n:Nat} (h:cY P t=some n):∃ i,P.info? t=some i/\i.size=n:=by
 obtain ⟨d,hu⟩:=nW h;unfold cY at h;rw[hu] at h;cases hi:P.info? t with
 | none=>rw[hi] at h; cases h
 | some i=>rw[hi] at h; exact⟨i,rfl,by simpa using h⟩
theorem fk {t:TypeId} {n:Nat} (h:cY P t=some n) (w:World):(sizeOf t).run P w=.ok n w:=by
 obtain ⟨i,hi,rfl⟩:=iW h;simp[sizeOf,typeInfo,hi]
theorem AW {t:TypeId} {n:Nat} (hs:cY P t=some n) {d:TypeDesc} (hu:P.underlying t=some d) {k off:Nat} {ds:List Value} (hl:ds.length=n) (hc:w.rangeAt k off ds) {c:Value} (h:if mR P t=true then c=.agg ds.toArray else ds=[c]) :
  (loadVar t ⟨k,off,none⟩).run P w=.ok c w:=by
 have hc':(loadCells ⟨k,off,none⟩ ds.length).run P w=.ok ds.toArray w:=
  qdu (P:=P) w ⟨k,off,none⟩ ds (λj v hv=>by rw[qbx]; exact hc j v hv)
 unfold loadVar;rw[qa1,xw t hu w];cases hA:mR P t
 ·rw[hA] at h;simp at h;subst h;have:=hc 0 c rfl;simp only[qbv] at this;simp[load,Sem.run,this]
 ·rw[hA] at h;simp at h;subst h;simp[fk hs,<-hl,hc']
end
section
open Go.RowKit
variable {P:Program} {H:Heap} {g:Gh} {w0 w:World}
theorem bN {α β:Type} {x:Option α} {f:α->Option β} {y:β} (h:x.bind f=some y):∃ a,x=some a/\f a=some y:=by
 cases x with
 | none=>cases h
 | some a=>exact⟨a,rfl,h⟩
theorem bP {α:Type} {b:Bool} {x y:α}:(bif b then x else y)=if b=true then x else y:=by cases b<;>rfl
theorem fq {α:Type} {b:Bool} {x:Option α} {y:α} (h:(bif b then none else x)=some y):b=false/\x=some y:=by cases b<;>simp_all
theorem bJ {α:Type} {b:Bool} {x:Option α} {y:α} (h:(bif b then x else none)=some y):b=true/\x=some y:=by cases b<;>simp_all
theorem bS.drop {k off:Nat} {ds:List Value} (h:bS H g w k off ds) (n:Nat):bS H g w k (off+n) (ds.drop n):=λj v hj=>by
 rw[qbw] at hj;rw[qcf];exact h (n+j) v hj
theorem bS.take {k off:Nat} {ds:List Value} (h:bS H g w k off ds) (n:Nat):bS H g w k off (ds.take n):=λj v hj=>by
 rw[qaA] at hj;split at hj
 ·exact h j v hj
 ·cases hj
theorem bS.range {k off:Nat} {ds:List Value} (h:bS H g w k off ds):w.rangeAt k off ds:=λj v hj=>(h j v hj).1
theorem lQ {es:Nat}:∀ {ds:List (List Value)},(∀ d∈ds,d.length=es)->∀ {j:Nat} {d:List Value},ds[j]? = some d->∀ i,i<es->ds.flatten[j*es+i]? = d[i]?
 | [],_,j,d,h,i,_=>by simp at h
 | x :: xs,hl,j,d,h,i,hi=>by
  have hx:=hl x r8;cases j with
  | zero=>simp at h; subst h; simp[qcb,hx,hi]
  | succ j=>
   have:=lQ (ds:=xs) (λd hd=>hl d (by simp[hd])) (j:=j) (d:=d) (by simpa using h) i hi;rw[qbt,qay (by rw[hx,qbk]; omega),hx,<-this];congr 1;rw[qbk]; omega
theorem cE {es:Nat}:∀ {ds:List (List Value)},(∀ d∈ds,d.length=es)->ds.flatten.length=ds.length*es
 | [],_=>r8
 | x :: xs,hl=>by
  rw[qbt,qar,hl x r8,cE (λd hd=>hl d (by simp[hd])),qae,qbk]; omega
theorem bS.elem {k off es:Nat} {ds:List (List Value)} (h:bS H g w k off ds.flatten) (hl:∀ d∈ds,d.length=es) {j:Nat} {d:List Value} (hd:ds[j]? = some d):bS H g w k (off+j*es) d:=λi v hi=>by
 have hdl:d.length=es:=hl d (qaI hd);have hi':i<es:=by rw[<-hdl]; exact(qad.1 hi).1
 rw[qcf];exact h (j*es+i) v (by rw[lQ hl hd i hi']; exact hi)
theorem bS.sub {k off es:Nat} {ds:List (List Value)} (h:bS H g w k off ds.flatten) (hl:∀ d∈ds,d.length=es) (l m:Nat):bS H g w k (off+l*es) ((ds.drop l).take m).flatten:=λi v hi=>by
 have hl2:∀ d∈(ds.drop l).take m,d.length=es:=λd hd=>hl d (qaL (qaJ hd));have hlen:=(qad.1 hi).1;rw[cE hl2] at hlen;have hes:0<es:=by rcases qcF es with h0 | h0; (rw[h0] at hlen; simp at hlen); exact h0
 have hq:i / es<((ds.drop l).take m).length:=qd6 (by rw[qby]; exact hlen);have hdm:=qdP i es;have hr:=qcu i hes;obtain ⟨d,hd⟩:∃ d,((ds.drop l).take m)[i / es]? = some d:=⟨_,Z7 hq⟩
 have e1:=lQ hl2 hd (i % es) hr;have e2:i / es*es+i % es=i:=by rw[qby]; exact hdm
 rw[e2,hi] at e1;have hd2:ds[l+i / es]? = some d:=by
  rw[qaA] at hd;split at hd
  ·rwa [qbw] at hd
  ·cases hd
 have e3:=lQ hl hd2 (i % es) hr;have:=h ((l+i / es)*es+i % es) v (by rw[e3,<-e1]);rwa [show off+((l+i / es)*es+i % es)=off+l*es+i by rw[qbk]; omega] at this
theorem qR {a:A} {c:Value} {j:Nat} (h:idx a=some j) (hv:VR H g w a c):∃ k n,c=.int k n/\0<=n/\n.toNat=j:=by
 unfold idx at h;split at h
 ·rename_i k n;replace h:=bJ h;obtain ⟨h1,h2⟩:=h;rw[VR] at hv;exact⟨k,n,hv,by simpa using h1,by simpa using h2⟩
 ·cases h
theorem tq (hr:Rel H g w0 w) {t:TypeId} {x y:A} {c:Value} (h:lL P t x H=some y) (hx:VR H g w x c):∃ d,(Instr.loadAt t c).run P w=.ok d w/\VR H g w y d:=by
 unfold lL at h;replace h:=bN h;obtain ⟨n,hn,h⟩:=h;replace h:=fq h;obtain ⟨_,h⟩:=h;obtain ⟨dd,hu⟩:=nW hn;have fin:∀ {k off:Nat} {cs:List A} {ds:List Value},c=.pointer (some ⟨k,off,none⟩)->bL H g w cs ds->cs.length=n->w.rangeAt k off ds->join P t cs=some y->∃ d,(Instr.loadAt t c).run P w=.ok d w/\VR H g w y d:=by
  intro k off cs ds hc hv hl hcells hj;obtain ⟨d,h1,h2⟩:=yY hj hv;refine⟨d,?_,h1⟩;subst hc;simp only[Instr.loadAt,Instr.sureAddr,qa1,qcx,qaT]
  exact AW hn hu (hv.length.trans hl) hcells h2
 have seg:∀ {k:Nat} {arr:Array Value} {ty:TypeId} (o:Nat) (ds:List Value),w.heap[k]? = some (.cells arr ty (0,0))->(∀ (j:Nat) v,ds[j]? = some v->arr[o+j]? = some v)->w.rangeAt k o ds:=λ{k arr ty} o ds hk hd j v hj=>by
  rw[qbL w k (o+j) arr ty (0,0) hk]; exact hd j v hj
 split at h
 ·rename_i b o;split at h
  ·rename_i cs hb;replace h:=bJ h;obtain ⟨h1,h2⟩:=h;have h1:=qai h1;rw[VR,hb] at hx;obtain ⟨k,hk,rfl⟩:=hx;obtain ⟨k',arr,ty,hk',ha,hv⟩:=hr.blk b _ hb;rw[hk] at hk'; cases hk';refine fin rfl ((hv.drop o).take n) r9 (seg o _ ha λj v hj=>?_) h2;rw[qaA] at hj;split at hj
   ·rw[qbw] at hj; simpa using hj
   ·cases hj
  ·cases h
 ·rename_i b i o;split at h
  ·rename_i es els hb;split at h
   ·rename_i cs hi;rw[VR,hb] at hx;obtain ⟨hlt,k,hk,rfl⟩:=hx;obtain ⟨ds,hv,hl,hrow⟩:=hr.blk b _ hb;obtain ⟨k',arr,ty,hk',ha,hcell⟩:=hrow o3;rw[hk] at hk'; cases hk';obtain ⟨d,hd,hvd⟩:=hv.get hi;rw[bP] at h;split at h
    rotate_left
    ·replace h:=bJ h;obtain ⟨h1,h2⟩:=h;simp only[Z9,qcO] at h1;obtain ⟨rfl,h1⟩:=h1;have hcs:cs.length=es:=by rw[<-hvd.length]; exact hl d (qaI hd)
     refine fin rfl ((hv.drop i).take (n / cs.length)).flat h1 (seg _ _ ha λj v hj=>?_) h2;refine hcell _ v ?_;have e1:ds.flatten=(ds.take i).flatten++(ds.drop i).flatten:=ZU;have e2:(ds.take i).flatten.length=i*es:=by
      have h3:=hv.length;rw[cE (es:=es) (λd hd=>hl d (qaJ hd)),qba,qbP o3]
     have e3:(ds.drop i).flatten=((ds.drop i).take (n / cs.length)).flatten++((ds.drop i).drop (n / cs.length)).flatten:=ZU;rw[e1,qay o3,e2,e3];rw[qat (by
      have:=(qad.1 hj).1;omega)]
     rw[<-hj]; congr 1; omega
    rename_i h1;have h2:=h;have h1:=qai h1;refine fin rfl ((hvd.drop o).take n) r9 (seg _ _ ha λj v hj=>?_) h2;rw[qaA] at hj;split at hj
    ·rw[qbw] at hj;have hdl:d.length=es:=hl d (qaI hd);have hoj:o+j<es:=by rw[<-hdl]; exact(qad.1 hj).1
     have:=hcell (i*es+(o+j)) v (by rw[lQ hl hd _ hoj]; exact hj);rwa [<-qcf] at this
    ·cases hj
   ·cases h
  ·cases h
 ·rename_i cs;replace h:=bJ h;obtain ⟨h1,h2⟩:=h;have h1:=qai h1;rw[VR] at hx;obtain ⟨k,off,ds,rfl,hc,hv⟩:=hx;exact fin rfl (hv.take n) r9 (hc.take n).range h2
 ·cases h
theorem uz {x y:A} {i:Nat} {c:Value} (h:oV x i=some y) (hx:VR H g w x c):∃ d,(Instr.extract c i).run P w=.ok d w/\VR H g w y d:=by
 unfold oV at h;split at h
 ·rw[VR] at hx;obtain ⟨ds,rfl,hv⟩:=hx;obtain ⟨d,hd,hvd⟩:=hv.get h;have hd':ds[i]? = some d:=by simpa using hd
  exact⟨d,by simp[Instr.extract,hd'],hvd⟩
 ·cases h
theorem A6 {t:TypeId} {n off:Nat} (hs:cY P t=some n) {ds:Array Value} {c:Value} (h:if mR P t=true then c=.agg ((ds.toList.drop off).take n).toArray else (ds.toList.drop off).take n=[c]) :
  (part t ds off).run P w=.ok c w:=by
 obtain ⟨d,hu⟩:=nW hs;unfold part;rw[qa1,xw t hu w];cases hA:mR P t
 ·rw[hA] at h;simp at h;have:ds[off]? = some c:=by
   have h0:((ds.toList.drop off).take n)[0]? = some c:=by rw[h]; rfl
   rw[qaA] at h0;split at h0
   ·simpa using h0
   ·cases h0
  simp[this]
 ·rw[hA] at h;simp at h;subst h;simp[fk hs];apply qcc;simp[List.take_drop,qdF]
theorem yj {t:TypeId} {x y:A} {i:Nat} {c:Value} (h:BS P t x i=some y) (hx:VR H g w x c):∃ d,(Instr.field t c i).run P w=.ok d w/\VR H g w y d:=by
 unfold BS at h;split at h
 ·rename_i fs cs hu;replace h:=bN h;obtain ⟨f,hf,h⟩:=h;replace h:=bN h;obtain ⟨n,hn,h⟩:=h;replace h:=bJ h;obtain ⟨h1,h2⟩:=h;have h1:=qai h1;rw[VR] at hx;obtain ⟨ds,rfl,hv⟩:=hx;obtain ⟨d,h3,h4⟩:=yY h2 ((hv.drop f.offset).take n);refine⟨d,?_,h3⟩;unfold Instr.field;rw[qa1,qap hu w];simp[hf,asAgg];exact A6 hn h4
 ·cases h
theorem yk {t:TypeId} {x i y:A} {c e:Value} (h:BV P t x i=some y) (hx:VR H g w x c) (hi:VR H g w i e):∃ d,(Instr.index t c e).run P w=.ok d w/\VR H g w y d:=by
 unfold BV at h;replace h:=bN h;obtain ⟨j,hj,h⟩:=h;obtain ⟨ik,n,rfl,hn0,rfl⟩:=qR hj hi;split at h
 ·rename_i len el cs hu;replace h:=bN h;obtain ⟨m,hm,h⟩:=h;replace h:=bJ h;obtain ⟨h1,h2⟩:=h;simp only[Z9,qag] at h1;rw[VR] at hx;obtain ⟨ds,rfl,hv⟩:=hx;obtain ⟨d,h3,h4⟩:=yY h2 ((hv.drop (n.toNat*m)).take m);refine⟨d,?_,h3⟩;have hlt:n<(len:Int):=o3;unfold Instr.index;simp[asIntOf,qap hu,hn0,hlt,fk hm];exact A6 hm h4
 ·rename_i s hu;cases hb:s[n.toNat]? with
  | none=>rw[hb] at h; cases h
  | some b=>
   rw[hb] at h;cases h;rw[VR] at hx;subst hx;refine⟨.int .u8 b.toNat,?_,y9⟩;unfold Instr.index;simp[asIntOf,qap hu,hn0,hb]
 ·cases h
theorem xE {b o:Nat} (h:ij H (.ptr b o)=true):∃ cs,H[b]? = some (.box cs):=by
 unfold ij at h; cases hb:H[b]? with
 | none=>simp[hb] at h
 | some B=>cases B<;>simp[hb] at h ⊢
theorem Bg {b i o:Nat} (h:ij H (.ep b i o)=true):∃ es els,H[b]? = some (.row true es els):=by
 unfold ij at h; cases hb:H[b]? with
 | none=>simp[hb] at h
 | some B=>cases B with
  | row wr _ _=>cases wr<;>simp[hb] at h ⊢
  | _=>simp[hb] at h
theorem ID {b o n:Nat} {cl:Bool} (h:ij H (.sl b o n cl)=true):∃ wr es els,H[b]? = some (.row wr es els):=by
 unfold ij at h; cases hb:H[b]? with
 | none=>simp[hb] at h
 | some B=>cases B<;>simp[hb] at h ⊢
theorem sw {t:TypeId} {x y:A} {i:Nat} {c:Value} (h:gX P t x i H=some y) (hx:VR H g w x c) :
  ∃ d,(Instr.fieldAt t c i).run P w=.ok d w/\VR H g w y d:=by
 unfold gX at h;replace h:=bJ h;obtain ⟨hok,h⟩:=h;split at h
 ·rename_i fs hu;replace h:=bN h;obtain ⟨f,hf,h⟩:=h;replace h:=bN h;obtain ⟨n,hn,h⟩:=h;replace h:=fq h;obtain ⟨hn0,h⟩:=h;have hn0:n≠0:=by simpa using hn0
  have fin:∀ {k off:Nat},c=.pointer (some ⟨k,off,none⟩)->(Instr.fieldAt t c i).run P w=.ok (.pointer (some ⟨k,off+f.offset,none⟩)) w:=λ{k off} hc=>by
   subst hc;unfold Instr.fieldAt;rw[qa1,qap hu w];simp[hf,Instr.sureAddr,fieldPlace,fk hn,hn0,qbx]
  split at h
  ·rename_i b o;cases h;obtain ⟨cs,hb⟩:=xE hok;rw[VR,hb] at hx;obtain ⟨k,hk,rfl⟩:=hx;exact⟨_,fin rfl,by rw[VR,hb]; exact⟨k,hk,rfl⟩⟩
  ·rename_i b j o;cases h;obtain ⟨es,els,hb⟩:=Bg hok;rw[VR,hb] at hx;obtain ⟨hlt,k,hk,rfl⟩:=hx;exact⟨_,fin rfl,by rw[VR,hb]; exact⟨hlt,k,hk,by rw[qcf]⟩⟩
  ·cases h;rw[VR] at hx;obtain ⟨k,off,ds,rfl,hc,hv⟩:=hx;exact⟨_,fin rfl,by rw[VR]; exact⟨k,_,_,rfl,hc.drop _,hv.drop _⟩⟩
  ·cases h
 ·cases h
theorem BW {x y:A} {c:Value} {t ty:TypeId} (h:sy P t x H=some y) (hx:VR H g w x c):∃ d,(Builtin.len_ #[t] ty #[c]).run P w=.ok d w/\VR H g w y d:=by
 unfold sy at h;replace h:=bJ h;obtain ⟨hok,h⟩:=h;split at h
 ·rename_i s hu;cases h;rw[VR] at hx;subst hx;exact⟨_,by simp[Builtin.len_,qap hu,goInt]; rfl,y9⟩
 ·rename_i e els cl hu;cases h;rw[VR] at hx;obtain ⟨a,cap,ds,es,rfl,_⟩:=hx;exact⟨_,by simp[Builtin.len_,qap hu,goInt]; rfl,y9⟩
 ·rename_i e b o n cl hu;cases h;obtain ⟨wr,es,els,hb⟩:=ID hok;rw[VR,hb] at hx;cases wr
  ·obtain ⟨_,a,cap,rfl,_⟩:=hx;exact⟨_,by simp[Builtin.len_,qap hu,goInt]; rfl,y9⟩
  ·obtain ⟨_,a,cap,rfl,_⟩:=hx;exact⟨_,by simp[Builtin.len_,qap hu,goInt]; rfl,y9⟩
 ·cases h
theorem bK.lens {els:List (List A)} {ds:List (List Value)} (h:bK H g w els ds) {es j n:Nat} (hl:∀ d∈ds,d.length=es) {cs:List A} (hj:els[j]? = some cs) (hn:cs.length=n):es=n:=by
 obtain ⟨d,hd,hv⟩:=h.get hj;rw[<-hl d (qaI hd),hv.length,hn]
theorem sx (hr:Rel H g w0 w) {t:TypeId} {x i y:A} {c e:Value} (h:dA P t x i H=some y) (hx:VR H g w x c) (hi:VR H g w i e):∃ d,(Instr.indexAt t c e).run P w=.ok d w/\VR H g w y d:=by
 unfold dA at h;replace h:=bN h;obtain ⟨j,hj,h⟩:=h;obtain ⟨ik,n,rfl,hn0,rfl⟩:=qR hj hi;replace h:=bJ h;obtain ⟨hok,h⟩:=h;split at h
 ·rename_i el hu;replace h:=bN h;obtain ⟨m,hm,h⟩:=h;have fin:∀ {k off len cap:Nat},c=.slice (some ⟨k,off,none⟩) len cap->n.toNat<len->(Instr.indexAt t c (.int ik n)).run P w=.ok (.pointer (some ⟨k,off+n.toNat*m,none⟩)) w:=λ{k off len cap} hc hlt=>by
   subst hc;have:n<(len:Int):=o3;unfold Instr.indexAt;simp[asIntOf,qap hu,hn0,this,fk hm,qbx]
  split at h
  ·rename_i els cl;replace h:=bN h;obtain ⟨cs,hcs,h⟩:=h;replace h:=bJ h;obtain ⟨h1,h⟩:=h;cases h;have h1:cs.length=m:=by simpa using h1
   rw[VR] at hx;obtain ⟨a,cap,ds,es,rfl,h2,h3,h4,h5,h6⟩:=hx;have hlt:n.toNat<els.length:=(qad.1 hcs).1;obtain ⟨k,off,rfl,hc⟩:=h5 o3;obtain rfl:=h6.lens h4 hcs h1;obtain ⟨d,hd,hv⟩:=h6.get hcs;exact⟨_,fin rfl hlt,by rw[VR]; exact⟨k,_,d,rfl,hc.elem h4 hd,hv⟩⟩
  ·rename_i b o len cl;replace h:=bJ h;obtain ⟨hlt,h⟩:=h;have hlt:=qai hlt;rw[VR] at hx;split at h
   ·rename_i es els hb;replace h:=bJ h;obtain ⟨h1,h⟩:=h;cases h;obtain rfl:es=m:=by simpa using h1
    rw[hb] at hx;obtain ⟨h2,a,cap,rfl,h3,h4,h5,_⟩:=hx;obtain ⟨k,hk,rfl⟩:=h5 o3;refine⟨_,fin rfl hlt,?_⟩;rw[VR,hb];exact⟨o3,k,hk,by rw[qbk]; rfl⟩
   ·rename_i es els hb;replace h:=bJ h;obtain ⟨h1,h⟩:=h;obtain rfl:es=m:=by simpa using h1
    rw[hb] at hx;obtain ⟨h2,a,cap,rfl,h3,h4,h5,_⟩:=hx;obtain ⟨k,off,rfl,hc⟩:=h5 o3;cases hcs:els[o+n.toNat]? with
    | none=>rw[hcs] at h; cases h
    | some cs=>
     rw[hcs] at h;cases h;obtain ⟨hga,hgl⟩:=hr.blk b _ hb;obtain ⟨d,hd,hv⟩:=hga.get hcs;refine⟨_,fin rfl hlt,?_⟩;rw[VR];refine⟨k,_,d,rfl,hc.elem (λd hd=>hgl d (qaL (qaJ hd))) ?_,hv⟩;rw[qaA,qaf hlt,qbw]; exact hd
   ·cases h
  ·cases h
 ·rename_i len el hu;replace h:=bN h;obtain ⟨m,hm,h⟩:=h;replace h:=fq h;obtain ⟨hlt,h⟩:=h;have hlt:n.toNat<len:=by simpa using hlt
  have fin:∀ {k off:Nat},c=.pointer (some ⟨k,off,none⟩)->(Instr.indexAt t c (.int ik n)).run P w=.ok (.pointer (some ⟨k,off+n.toNat*m,none⟩)) w:=λ{k off} hc=>by
   subst hc;have:n<(len:Int):=o3;unfold Instr.indexAt;simp[asIntOf,qap hu,hn0,this,fk hm,qbx,Instr.sureAddr]
  split at h
  ·rename_i b o;cases h;obtain ⟨cs,hb⟩:=xE hok;rw[VR,hb] at hx;obtain ⟨k,hk,rfl⟩:=hx;exact⟨_,fin rfl,by rw[VR,hb]; exact⟨k,hk,rfl⟩⟩
  ·rename_i b q o;obtain ⟨es,els,hb⟩:=Bg hok;simp only[hb] at h;rw[VR,hb] at hx;obtain ⟨hq,k,hk,rfl⟩:=hx;rw[bP] at h;split at h
   ·rename_i hc;simp only[Z9,qcO,qag] at hc;obtain ⟨⟨rfl,rfl⟩,hlt2⟩:=hc;cases h;exact⟨_,fin rfl,by rw[VR,hb]; exact⟨hlt2,k,hk,by rw[qbk]; simp⟩⟩
   ·cases h;exact⟨_,fin rfl,by rw[VR,hb]; exact⟨hq,k,hk,by rw[qcf]⟩⟩
  ·cases h;rw[VR] at hx;obtain ⟨k,off,ds,rfl,hc,hv⟩:=hx;exact⟨_,fin rfl,by rw[VR]; exact⟨k,_,_,rfl,hc.drop _,hv.drop _⟩⟩
  ·cases h
 ·cases h
theorem BU {t:TypeId} {x y:A} {c:Value} (h:Jr P t x=some y) (hx:VR H g w x c):∃ d,(Instr.makeInterface t c).run P w=.ok d w/\VR H g w y d:=by
 unfold Jr at h;split at h
 ·cases h
 ·cases h
 ·rename_i d hn hu;cases h;refine⟨.iface t c,?_,by rw[VR]; exact⟨c,rfl,hx⟩⟩;unfold Instr.makeInterface;rw[qa1,qap hu w];cases d<;>first | rfl | exact absurd rfl (hn _)
theorem Ao (op:BinOp) (t:TypeId) (x y:Operand) (a b:Value):eqGuard op t x y a b=eqGuard op t (rep (N6 x)) (rep (N6 y)) a b:=by
 unfold eqGuard;cases x<;>cases y<;>rfl
theorem sI {q:TypeId->Value->Value->Option Bool} {d:Nat} (hq:∀ t x y r,q t x y=some r->∀ w,(Op.equalIn d t x y).run P w=.ok r w) (xs ys:Array Value):∀ (fs:List Field) (r:Bool),uV P q xs ys fs=some r->∀ w,(Op.eqFields d xs ys fs).run P w=.ok r w
 | [],r,h,w=>by cases h; simp[Op.eqFields]
 | [f],r,h,w=>by
  unfold uV at h;rw[bP] at h;unfold Op.eqFields;split at h
  ·rename_i hn;cases h;have hn:f.name = "_" := by simpa using hn
   simp[hn,Op.eqFields]
  ·rename_i hn;have hn:f.name ≠ "_" := by simpa using hn
   obtain ⟨a,ha,h⟩:=bN h;obtain ⟨b,hb,h⟩:=bN h;rw[qaf hn];simp only[qa1,eU ha w,eU hb w,hq _ _ _ _ h w,qaT]
   cases r<;>simp[Op.eqFields]
 | f :: g :: fs,r,h,w=>by
  unfold uV at h;rw[bP] at h;unfold Op.eqFields;split at h
  ·rename_i hn;have hn:f.name = "_" := by simpa using hn
   rw[qah (by simp[hn])];exact sI hq xs ys (g :: fs) r h w
  ·rename_i hn;have hn:f.name ≠ "_" := by simpa using hn
   obtain ⟨a,ha,h⟩:=bN h;obtain ⟨b,hb,h⟩:=bN h;obtain ⟨r1,h1,h⟩:=bN h;rw[qaf hn];simp only[qa1,eU ha w,eU hb w,hq _ _ _ _ h1 w,qaT]
   cases hf:uV P q xs ys (g :: fs) with
   | none=>rw[hf] at h; cases h
   | some r2=>
    rw[hf] at h; cases h;have:=sI hq xs ys (g :: fs) r2 hf w;cases r1<;>simp[this]
theorem xh {q:TypeId->Value->Value->Option Bool} {d:Nat} (hq:∀ t x y r,q t x y=some r->∀ w,(Op.equalIn d t x y).run P w=.ok r w) (e:TypeId) (c:Nat) (xs ys:Array Value):∀ (is:List Nat) (r:Bool),xg P q e c xs ys is=some r->∀ w,(Op.eqItems d e c xs ys is).run P w=.ok r w
 | [],r,h,w=>by cases h; simp[Op.eqItems]
 | [i],r,h,w=>by
  unfold xg at h;unfold Op.eqItems;obtain ⟨a,ha,h⟩:=bN h;obtain ⟨b,hb,h⟩:=bN h;simp only[qa1,eU ha w,eU hb w,hq _ _ _ _ h w,qaT]
  cases r<;>simp[Op.eqItems]
 | i :: j :: is,r,h,w=>by
  unfold xg at h;unfold Op.eqItems;obtain ⟨a,ha,h⟩:=bN h;obtain ⟨b,hb,h⟩:=bN h;obtain ⟨r1,h1,h⟩:=bN h;simp only[qa1,eU ha w,eU hb w,hq _ _ _ _ h1 w,qaT]
  cases hf:xg P q e c xs ys (j :: is) with
  | none=>rw[hf] at h; cases h
  | some r2=>
   rw[hf] at h; cases h;have:=xh hq e c xs ys (j :: is) r2 hf w;cases r1<;>simp[this]
theorem DA (D:Nat):∀ (d:Nat) (t:TypeId) (x y:Value) (r:Bool),PH P d t x y=some r->∀ w,(Op.equalIn (D+d) t x y).run P w=.ok r w
 | 0,_,_,_,_,h,_=>by cases h
 | d+1,t,x,y,r,h,w=>by
  have ih:=DA D d;unfold PH at h;split at h
  ·rename_i k0 k a k' b hu;obtain ⟨hk,h⟩:=bJ h;cases h;have hk:k=k':=by simpa using hk
   subst hk;simp[Op.equalIn,qap hu]
  ·rename_i a b hu;cases h;simp[Op.equalIn,qap hu]
  ·rename_i a b hu;cases h;simp[Op.equalIn,qap hu]
  ·rename_i fs xs ys hu;obtain ⟨hs,h⟩:=fq h;have hfs:P.fieldsOf t=fs:=by simp[Program.fieldsOf,hu]
   exact(run_equalIn_struct w (D+d) t xs ys (by rw[hfs]; exact hu) hs).trans (sI ih xs ys _ r h w)
  ·rename_i n e xs ys hu;obtain ⟨i,hi,h⟩:=bN h;exact(run_equalIn_array w (D+d) xs ys hu hi).trans (xh ih e (P.cellsOf e) xs ys _ r h w)
  ·cases h
theorem BO {op:BinOp} {t:TypeId} {x y z:A} {c d:Value} {p q:Operand} (h:me P op t (N6 p) (N6 q) x y=some z) (hx:VR H g w x c) (hy:VR H g w y d) :
  ∃ e,(do eqGuard op t p q c d; binOp op t c d:Sem Value).run P w=.ok e w/\VR H g w z e:=by
 unfold me at h;have eqs:∀ {r:Bool} {xs ys:List A} (op:BinOp),xi P t (.agg xs) (.agg ys)=some r->VR H g w (.agg xs) c->VR H g w (.agg ys) d->∃ cs ds,c=.agg cs/\d=.agg ds/\(eqGuard op t p q c d).run P w=.ok () w/\(Op.equalIn 10000 t c d).run P w=.ok r w:=by
  intro r xs ys op h hx hy;unfold xi at h;obtain ⟨hg,h⟩:=fq h;obtain ⟨a,ha,h⟩:=bN h;obtain ⟨b,hb,h⟩:=bN h;obtain rfl:=pM _ ha hx;obtain rfl:=pM _ hb hy;rw[VR] at hx hy;obtain ⟨cs,rfl,_⟩:=hx;obtain ⟨ds,rfl,_⟩:=hy;exact⟨cs,ds,rfl,rfl,run_eqGuard_agg w op t p q cs ds hg,DA 9980 20 t _ _ r h w⟩
 split at h
 ·cases hr:xi P t (.agg _) (.agg _) with
  | none=>rw[hr] at h; cases h
  | some r=>
   rw[hr] at h; cases h;obtain ⟨cs,ds,rfl,rfl,h1,h2⟩:=eqs .eql hr hx hy;exact⟨.bool r,by simp only[qa1,h1,qaT,run_eql_struct,h2],y9⟩
 ·cases hr:xi P t (.agg _) (.agg _) with
  | none=>rw[hr] at h; cases h
  | some r=>
   rw[hr] at h; cases h;obtain ⟨cs,ds,rfl,rfl,h1,h2⟩:=eqs .neq hr hx hy;exact⟨.bool (!r),by simp only[qa1,h1,qaT,run_neq_struct,h2],y9⟩
 replace h:=bN h;obtain ⟨a,ha,h⟩:=h;replace h:=bN h;obtain ⟨b,hb,h⟩:=h;obtain rfl:=pM x ha hx;obtain rfl:=pM y hb hy;rw[<-Ao] at h;cases he:dj P (do eqGuard op t p q c d; binOp op t c d:Sem Value) with
 | none=>rw[he] at h; cases h
 | some e=>rw[he] at h; cases h; exact⟨e,eU he w,qX e⟩
theorem EA {op:UnOp} {x z:A} {c:Value} (h:mc P op x=some z) (hx:VR H g w x c):∃ e,(Op.unary op c).run P w=.ok e w/\VR H g w z e:=by
 unfold mc at h;replace h:=bN h;obtain ⟨a,ha,h⟩:=h;obtain rfl:=pM x ha hx;cases he:dj P (Op.unary op c) with
 | none=>rw[he] at h; cases h
 | some e=>rw[he] at h; cases h; exact⟨e,eU he w,qX e⟩
theorem xf (hr:Rel H g w0 w) {x:A} {els:List (List A)} {c:Value} (h:els? H x=some els) (hx:VR H g w x c):(∃ s,c=.string s/\x=.v (.string s))∨∃ a cap ds es,c=.slice a els.length cap/\els.length<=cap/\(∀ d∈ds,d.length=es)/\bK H g w els ds/\(0<els.length->∃ k off,a=some ⟨k,off,none⟩/\w.rangeAt k off ds.flatten):=by
 unfold els? at h;split at h
 ·cases h;rw[VR] at hx;obtain ⟨a,cap,ds,es,rfl,h2,h3,h4,h5,h6⟩:=hx;exact .inr ⟨a,cap,ds,es,rfl,h2,h4,h6,λhp=>let ⟨k,off,e1,e2⟩:=h5 hp; ⟨k,off,e1,e2.range⟩⟩
 ·rename_i b o n cl;split at h
  ·rename_i wr es els' hb;cases h;rw[VR,hb] at hx;cases wr
   ·obtain ⟨h2,a,cap,rfl,h3,h4,h5,_⟩:=hx;obtain ⟨hga,hgl⟩:=hr.blk b _ hb;have hlen:((els'.drop o).take n).length=n:=r9;refine .inr ⟨a,cap,((g.ga b).drop o).take n,es,by rw[hlen],o3,λd hd=>hgl d (qaL (qaJ hd)),(hga.drop o).take n,λhp=>?_⟩;obtain ⟨k,off,e1,e2⟩:=h5 o3;exact⟨k,off,e1,e2.range⟩
   ·obtain ⟨h2,a,cap,rfl,h3,h4,h5,_⟩:=hx;obtain ⟨ds,hv,hl,hrow⟩:=hr.blk b _ hb;have hlen:((els'.drop o).take n).length=n:=r9;refine .inr ⟨a,cap,(ds.drop o).take n,es,by rw[hlen],o3,λd hd=>hl d (qaL (qaJ hd)),(hv.drop o).take n,λhp=>?_⟩;obtain ⟨k,hk,rfl⟩:=h5 o3;obtain ⟨k',arr,ty,hk',ha,hcell⟩:=hrow o3;rw[hk] at hk'; cases hk';have hall:w.rangeAt k 0 ds.flatten:=λj v hj=>by
     rw[qbL w k (0+j) arr ty (0,0) ha,qaU]; exact hcell j v hj
    refine⟨k,_,rfl,λj v hj=>?_⟩;have hw:bS [] ⟨λ_=>none,λ_=>[],λ_ _=>True,λ_=>LS⟩ w k 0 ds.flatten:=λj v hj=>⟨hall j v hj,trivial,λb hb=>by cases hb⟩
    have:=(hw.sub hl o n j v hj).1;rwa [qaU] at this
  ·cases h
 ·exact .inl ⟨_,by rw[VR] at hx; exact hx,rfl⟩
 ·cases h
theorem Ae:∀ {els:List (List A)} {l:List UInt8} {ds:List (List Value)},bytesOf els=some l->bK H g w els ds->∃ ns:List Int,ds=ns.map (λn=>[.int .u8 n])/\l=ns.map (λn=>n.toNat.toUInt8)
 | [],_,_,h,hv=>by simp only[bytesOf,qaG] at h; rw[bK] at hv; exact⟨[],by simp[hv],by simp[<-h]⟩
 | e :: r,l,ds,h,hv=>by
  unfold bytesOf at h;split at h
  ·rename_i heq; cases heq
  ·rename_i n r' heq;cases heq;cases hr:bytesOf r with
   | none=>rw[hr] at h; cases h
   | some l'=>
    rw[hr] at h;cases h;rw[bK] at hv;obtain ⟨d,ds',rfl,h1,h2⟩:=hv;obtain ⟨ns,rfl,rfl⟩:=Ae hr h2;rw[bL] at h1;obtain ⟨x,xs,rfl,h3,h4⟩:=h1;rw[VR] at h3;rw[bL] at h4;exact⟨n :: ns,by simp[h3,h4],r8⟩
  ·cases h
theorem foldl_push (ns:List Int):∀ r:ByteArray,ns.foldl (λr n=>r.push (UInt8.ofNat n.toNat)) r=⟨r.data++(ns.map (λn=>n.toNat.toUInt8)).toArray⟩:=by
 induction ns with
 | nil=>intro r; simp
 | cons n ns ih=>
  intro r;rw[qdc,ih];simp[ByteArray.push]
end
section
open Go.RowKit
variable {P:Program} {H:Heap} {g:Gh} {w0 w:World}
theorem pX {a:A} {c:Value} {j y:Nat} (h:idx a=some j) (hv:VR H g w a c) (hy:j<=y) (code:BoundsCode):(Instr.sliceBound c y code).run P w=.ok j w:=by
 obtain ⟨k,n,rfl,h0,rfl⟩:=qR h hv;have:0<=n/\n<=(y:Int):=⟨h0,o3⟩
 simp[Instr.sliceBound,asIntOf,this]
def Mz (H:Heap) (g:Gh) (w:World):Option A->Option Value->Prop
 | none,none=>True
 | some a,some c=>VR H g w a c
 | _,_=>False
def UK (cap h:Nat):Option A->Prop
 | none=>h<=cap
 | some m=>idx m=some h/\h<=cap
def vH (cap h:Nat):Option A->Nat
 | none=>cap
 | some _=>h
theorem jb {lo hi:Option A} {clo chi cmx:Option Value} {mx:Option A} {len cap h l:Nat} (isS:Bool) (hlo:Mz H g w lo clo) (hhi:Mz H g w hi chi) (hmx:Mz H g w mx cmx)
  (e1:mU len hi=some h) (e2:mU 0 lo=some l) (hl:l<=h) (hm:UK cap h mx) (hhm:mx=none∨hi.isSome=true) :
  (Instr.sliceBounds isS len cap clo chi cmx).run P w=.ok (l,h,vH cap h mx) w:=by
 have hlo':(clo=none/\l=0)∨∃ v,clo=some v/\∀ code,(Instr.sliceBound v h code).run P w=.ok l w:=by
  cases lo with
  | none=>cases clo with
   | none=>simp only[mU,qaG] at e2; exact .inl ⟨rfl,e2.symm⟩
   | some _=>exact hlo.elim
  | some a=>cases clo with
   | none=>exact hlo.elim
   | some v=>exact .inr ⟨v,rfl,λcode=>pX e2 hlo hl code⟩
 clear hlo e2;unfold Instr.sliceBounds;cases mx with
 | none=>cases cmx with
  | some _=>exact hmx.elim
  | none=>
   cases hi with
   | none=>cases chi with
    | some _=>exact hhi.elim
    | none=>
     simp only[mU,qaG] at e1;subst e1;rcases hlo' with ⟨rfl,rfl⟩ | ⟨v,rfl,hv⟩
     ·simp[vH]
     ·simp[Result.andThen,hv,vH]
   | some a=>cases chi with
    | none=>exact hhi.elim
    | some v=>
     have hb:=λcode=>pX (P:=P) e1 hhi (show h<=cap from hm) code;rcases hlo' with ⟨rfl,rfl⟩ | ⟨v,rfl,hv⟩
     ·simp[Result.andThen,hb,vH]
     ·simp[Result.andThen,hb,hv,vH]
 | some m=>cases cmx with
  | none=>exact hmx.elim
  | some mv=>
   have hb1:=λcode=>pX (P:=P) hm.1 hmx hm.2 code;cases hi with
   | none=>simp at hhm
   | some a=>cases chi with
    | none=>exact hhi.elim
    | some v=>
     have hb:=λcode=>pX (P:=P) e1 hhi (qab h) code;rcases hlo' with ⟨rfl,rfl⟩ | ⟨v,rfl,hv⟩
     ·simp[Result.andThen,hb,hb1,vH]
     ·simp[Result.andThen,hb,hb1,hv,vH]
theorem ki {t e:TypeId} (hu:P.underlying t=some (.slice e)) {a:Option Addr} {len cap l h m z:Nat} {clo chi cmx:Option Value} (hb:(Instr.sliceBounds true len cap clo chi cmx).run P w=.ok (l,h,m) w) (hz:cY P e=some z) :
  (Instr.sliceAt t (.slice a len cap) clo chi cmx).run P w=.ok (.slice (if m=l then a else a.map (·.add (l*z))) (h - l) (m - l)) w:=by
 unfold Instr.sliceAt;rw[qa1,qap hu w];unfold Instr.slice;simp[qap hu,hb,fk hz,Result.andThen]
theorem tH {t e:TypeId} {n:Nat} (hu:P.underlying t=some (.array n e)) {a:Addr} {l h m z:Nat} {clo chi cmx:Option Value} (hb:(Instr.sliceBounds false n n clo chi cmx).run P w=.ok (l,h,m) w) (hz:cY P e=some z) :
  (Instr.sliceAt t (.pointer (some a)) clo chi cmx).run P w=.ok (.slice (some (if m=l then a else a.add (l*z))) (h - l) (m - l)) w:=by
 unfold Instr.sliceAt;rw[qa1,qap hu w];simp[Instr.sureAddr,hb,fk hz,Result.andThen]
theorem ym (hr:Rel H g w0 w) {t:TypeId} {x y:A} {lo hi mx:Option A} {c:Value} {clo chi cmx:Option Value} (h:eK P t x lo hi mx H=some y) (hx:VR H g w x c) (hlo:Mz H g w lo clo) (hhi:Mz H g w hi chi) (hmx:Mz H g w mx cmx) (hhm:mx=none∨hi.isSome=true) :
  ∃ d,(Instr.sliceAt t c clo chi cmx).run P w=.ok d w/\VR H g w y d:=by
 unfold eK at h;split at h
 ·rename_i s hu;replace h:=fq h;obtain ⟨hm,h⟩:=h;obtain rfl:mx=none:=by cases mx<;>simp at hm ⊢
  replace h:=bN h;obtain ⟨hh,e1,h⟩:=h;replace h:=bN h;obtain ⟨l,e2,h⟩:=h;replace h:=bJ h;obtain ⟨h1,h⟩:=h;simp only[Z9,qag] at h1;cases h;rw[VR] at hx;subst hx;have hb:=jb (P:=P) (cap:=s.size) false hlo hhi hmx e1 e2 h1.1 h1.2 (.inl rfl);cases cmx with
  | some _=>exact hmx.elim
  | none=>
   refine⟨.string (s.extract l hh),?_,y9⟩;unfold Instr.sliceAt;rw[qa1,qap hu w];unfold Instr.slice;simp[qap hu,hb,Result.andThen]
 ·rename_i e els cl hu;replace h:=bN h;obtain ⟨z,hz,h⟩:=h;replace h:=bN h;obtain ⟨hh,e1,h⟩:=h;replace h:=bN h;obtain ⟨l,e2,h⟩:=h;replace h:=bJ h;obtain ⟨h1,h⟩:=h;simp only[Z9,qag,qbo,qa5] at h1;obtain ⟨⟨h1,h2⟩,h3⟩:=h1;rw[VR] at hx;obtain ⟨a,cap,ds,es,rfl,g1,g2,g3,g4,g5⟩:=hx;have hlenn:((els.drop l).take (hh - l)).length=hh - l:=r9;have fin:∀ (m:Nat) (b:Bool),hh<=m->m<=cap->(b=true->m=hh)->VR H g w (.imm ((els.drop l).take (hh - l)) b) (.slice (if m=l then a else a.map (·.add (l*z))) (hh - l) (m - l)):=λm b hm1 hm2 hb=>by
   rw[VR];refine⟨_,m - l,(ds.drop l).take (hh - l),es,by rw[hlenn],o3,λhb'=>by rw[hlenn,hb hb'],λd hd=>g3 d (qaL (qaJ hd)),λhp=>?_,(g5.drop l).take _⟩;have hll:l<hh:=o3;obtain ⟨k,off,rfl,hc⟩:=g4 o3;rw[qah o3];refine⟨k,off+l*es,?_,hc.sub g3 l (hh - l)⟩;rcases h3 with rfl | h3
   ·simp[qbx]
   ·have hlt:l<els.length:=by omega
    rw[Z7 hlt] at h3;simp only[qa5] at h3;obtain rfl:=g5.lens g3 (Z7 hlt) h3;simp[qbx]
  split at h
  ·cases h;have hb:=jb (P:=P) (cap:=cap) true hlo hhi hmx e1 e2 h1 (show hh<=cap by omega) (.inl rfl);refine⟨_,ki hu hb hz,fin cap _ o3 (qab _) (λhc=>?_)⟩;simp only[Z9,qa5] at hc;have:=g2 hc.1; omega
  ·rename_i m;replace h:=bN h;obtain ⟨m',hm',h⟩:=h;replace h:=bJ h;obtain ⟨hmh,h⟩:=h;obtain rfl:m'=hh:=by simpa using hmh
   cases h;have hb:=jb (P:=P) (cap:=cap) true hlo hhi hmx e1 e2 h1 ⟨hm',o3⟩ hhm;exact⟨_,ki hu hb hz,fin m' _ (qab _) o3 (λ_=>rfl)⟩
 ·rename_i e b o n cl hu;replace h:=bN h;obtain ⟨z,hz,h⟩:=h;replace h:=bN h;obtain ⟨hh,e1,h⟩:=h;replace h:=bN h;obtain ⟨l,e2,h⟩:=h;replace h:=bJ h;obtain ⟨h1,h⟩:=h;simp only[Z9,qag] at h1;obtain ⟨⟨h1,h2⟩,h3⟩:=h1;obtain ⟨wr,els,hb⟩:∃ wr els,H[b]? = some (.row wr z els):=by
   cases hb:H[b]? with
   | none=>simp[hb] at h3
   | some B=>cases B with
    | row wr es els=>simp[hb] at h3; subst h3; exact⟨wr,els,rfl⟩
    | _=>simp[hb] at h3
  rw[VR,hb] at hx;have main:∀ (a:Option Addr) (cap:Nat),c=.slice a n cap->n<=cap->(cl=true->cap=n)->(∀ (m:Nat) (q:Bool),hh<=m->m<=cap->(q=true->m=hh)->(q=false->m=cap)->VR H g w (.sl b (o+l) (hh - l) q) (.slice (if m=l then a else a.map (·.add (l*z))) (hh - l) (m - l)))->∃ d,(Instr.sliceAt t c clo chi cmx).run P w=.ok d w/\VR H g w y d:=by
   intro a cap hc hn hcl fin;subst hc;split at h
   ·cases h;have hb:=jb (P:=P) (cap:=cap) true hlo hhi hmx e1 e2 h1 (show hh<=cap by omega) (.inl rfl);refine⟨_,ki hu hb hz,fin cap _ o3 (qab _) (λhc=>?_) (λ_=>rfl)⟩;simp only[Z9,qa5] at hc;have:=hcl hc.1; omega
   ·rename_i m;replace h:=bN h;obtain ⟨m',hm',h⟩:=h;replace h:=bJ h;obtain ⟨hmh,h⟩:=h;obtain rfl:m'=hh:=by simpa using hmh
    cases h;have hb:=jb (P:=P) (cap:=cap) true hlo hhi hmx e1 e2 h1 ⟨hm',o3⟩ hhm;exact⟨_,ki hu hb hz,fin m' _ (qab _) o3 (λ_=>rfl) (λh=>by cases h)⟩
  cases wr
  ·obtain ⟨g0,a,cap,rfl,g1,g2,g3,g4⟩:=hx;refine main a cap rfl g1 g2 λm q hm1 hm2 hq hq2=>?_;rw[VR,hb];refine⟨o3,_,m - l,rfl,o3,λhc=>by rw[hq hc],λhp=>?_,λhc ho hn hlt=>?_⟩
   ·obtain ⟨k,off,rfl,hcell⟩:=g3 o3;rw[qah o3];refine⟨k,off+l*z,by simp[qbx],?_⟩;have hga:=(hr.blk b _ hb).2;have:=hcell.sub (λd hd=>hga d (qaL (qaJ hd))) l (hh - l);have e3:((((g.ga b).drop o).take n).drop l).take (hh - l)=((g.ga b).drop (o+l)).take (hh - l):=by
     rw[List.drop_take,qdZ,List.take_take]; congr 1; omega
    rwa [e3] at this
   ·obtain rfl:l=0:=by omega
    obtain rfl:o=0:=o3;have hmc:=hq2 hc;subst hmc;by_cases hcl:cl=true
    ·have:=g2 hcl; omega
    ·obtain ⟨k,arr,ty,k1,k2,k3,k4⟩:=g4 (by simpa using hcl) rfl o3 o3;refine⟨k,arr,ty,k1,?_,k3,by simpa using k4⟩;rw[k2]; split<;>simp[qbx]
  ·obtain ⟨g0,a,cap,rfl,g1,g2,g3,g4⟩:=hx;refine main a cap rfl g1 g2 λm q hm1 hm2 hq hq2=>?_;rw[VR,hb];refine⟨o3,_,m - l,rfl,o3,λhc=>by rw[hq hc],λhp=>?_,λhc ho hn hlt=>?_⟩
   ·obtain ⟨k,hk,rfl⟩:=g3 o3;rw[qah o3];exact⟨k,hk,by simp[qbx,qbk]⟩
   ·obtain rfl:l=0:=by omega
    obtain rfl:o=0:=o3;have hmc:=hq2 hc;subst hmc;by_cases hcl:cl=true
    ·have:=g2 hcl; omega
    ·obtain ⟨k,arr,ty,k1,k2,k3,k4⟩:=g4 (by simpa using hcl) rfl o3 o3;refine⟨k,arr,ty,k1,?_,k3,by simpa using k4⟩;rw[k2]; split<;>simp[qbx]
 ·rename_i n e cs hu;replace h:=bN h;obtain ⟨z,hz,h⟩:=h;replace h:=bN h;obtain ⟨hh,e1,h⟩:=h;replace h:=bN h;obtain ⟨l,e2,h⟩:=h;replace h:=bJ h;obtain ⟨h1,h⟩:=h;simp only[Z9,qag,qa3] at h1;obtain ⟨⟨⟨⟨h1,h2⟩,h3⟩,h4⟩,h5⟩:=h1;obtain rfl:mx=none:=by cases mx<;>simp at h4 ⊢
  cases h;rw[VR] at hx;obtain ⟨k,off,ds,rfl,hc,hv⟩:=hx;have hb:(Instr.sliceBounds false n n clo chi cmx).run P w=.ok (l,hh,n) w:=jb (P:=P) (cap:=n) false hlo hhi hmx e1 e2 h1 h2 (.inl rfl);cases cmx with
  | some _=>exact hmx.elim
  | none=>
   refine⟨_,tH hu hb hz,?_⟩;have hdl:=hv.length;have htl:(ds.take (n*z)).length=n*z:=H4;have htc:(cs.take (n*z)).length=n*z:=H4;have hck:∀ {α:Type} (q:Nat) (xs:List α),q*z<=xs.length->chunk z q xs=chunk z q (xs.take (q*z)):=by
    intro α q
    induction q with
    | zero=>intro xs _; rfl
    | succ q ih=>
     intro xs hq;rw[qbk,qei] at hq;rw[chunk,chunk,ih (xs.drop z) r9,List.take_take,List.drop_take,qbP (by rw[qbk]; omega)];congr 3;rw[qbk]; omega
   have hlenn:(((chunk z n cs).drop l).take (hh - l)).length=hh - l:=by simp[jA]; omega
   rw[VR];refine⟨_,n - l,((chunk z n (ds.take (n*z))).drop l).take (hh - l),z,by rw[hlenn],o3,λhb'=>by rw[hlenn]; have:=(qcO ▸ hb':hh=n); omega,λd hd=>lM htl d (qaL (qaJ hd)),λhp=>?_,?_⟩
   ·rw[hlenn] at hp;rw[qah o3];refine⟨k,off+l*z,by simp[qbx],?_⟩;refine bS.sub (es:=z) ?_ (lM htl) l (hh - l);rw[nV htl];exact hc.take _
   ·rw[hck n cs h3];exact(((hv.take (n*z)).chunk n).drop l).take _
 ·rename_i n e b q o hu;replace h:=bN h;obtain ⟨z,hz,h⟩:=h;replace h:=bN h;obtain ⟨hh,e1,h⟩:=h;replace h:=bN h;obtain ⟨l,e2,h⟩:=h;replace h:=bJ h;obtain ⟨h1,h⟩:=h;simp only[Z9,qag,qa3] at h1;obtain ⟨⟨⟨⟨h1,h2⟩,h4⟩,h5⟩,h6⟩:=h1;obtain rfl:o=0:=by simpa [qcO] using h5
  obtain rfl:mx=none:=by cases mx<;>simp at h4 ⊢
  cases h;obtain ⟨els,hbk,hq⟩:∃ els,H[b]? = some (.row true z els)/\q+n<=els.length:=by
   split at h6
   ·rename_i es els hbk;simp only[Z9,qag,qcO] at h6;obtain ⟨rfl,h6⟩:=h6;exact⟨els,hbk,h6⟩
   ·cases h6
  rw[VR,hbk] at hx;obtain ⟨hqe,k,hk,rfl⟩:=hx;have hb:(Instr.sliceBounds false n n clo chi cmx).run P w=.ok (l,hh,n) w:=jb (P:=P) (cap:=n) false hlo hhi hmx e1 e2 h1 h2 (.inl rfl);cases cmx with
  | some _=>exact hmx.elim
  | none=>
   refine⟨_,tH hu hb hz,?_⟩;rw[VR,hbk];refine⟨o3,_,n - l,rfl,o3,λhb'=>by have:=(qcO ▸ hb':hh=n); omega,λhp=>⟨k,hk,?_⟩,λhb' _ hn _=>by
    have hne:hh≠n:=λq=>by rw[q,qc2] at hb'; cases hb'
    omega⟩
   rw[qah o3];simp[qbx,qbk]
 ·cases h
theorem po (hr:Rel H g w0 w) {w':World} {arr:Array Value} {ty:TypeId} {fr:Nat×Nat} (ha:w'.heap[w.heap.size]? = some (.cells arr ty fr)) {ds:List Value} (hd:∀ (j:Nat) v,ds[j]? = some v->arr[j]? = some v):bS H g w' w.heap.size 0 ds:=λj v hj=>by
 refine⟨?_,hr.out _ _ (qab _),λb hb=>absurd (hr.dom b _ hb).2.2 (qcg _)⟩;rw[qaU,qbL w' _ j arr ty fr ha];exact hd j v hj
theorem EM {x:A} {els:List (List A)} (h:Al H x=some els):els? H x=some els/\∀ s,x≠.v (.string s):=by
 cases x<;>simp only[Al] at h<;>first | exact⟨h,r8⟩ | cases h
theorem pj {α β:Type} (f:α->β) (l:List α):(l.map λn=>[f n]).flatten=l.map f:=by
 induction l with
 | nil=>rfl
 | cons n l ih=>simp[ih]
theorem uy (hr:Rel H g w0 w) {s t:TypeId} {x y:A} {c:Value} (h:bt P s t x H=some y) (hx:VR H g w x c):∃ d w',(convert s t c).run P w=.ok d w'/\Below w.heap.size w w'/\VR H g w' y d:=by
 unfold bt at h;split at h
 ·rename_i e hs hd;split at h
  ·rename_i he hz;replace h:=bN h;obtain ⟨els,h1,h⟩:=h;cases hb:bytesOf els with
   | none=>rw[hb] at h; cases h
   | some l=>
    rw[hb] at h;cases h;refine⟨.string ⟨l.toArray⟩,w,?_,Below.refl _ _,y9⟩;have h1':=EM h1;rcases xf hr h1'.1 hx with ⟨s',rfl,rfl⟩ | ⟨a,cap,ds,es,rfl,h2,h3,h4,h5⟩
    ·exact absurd rfl (h1'.2 s')
    ·obtain ⟨ns,rfl,rfl⟩:=Ae hb h4;have hl:els.length=ns.length:=by have:=h4.length; simpa using this.symm
     simp only[convert,qa1,qap hs,qap hd,qap he,qaT]
     cases a with
     | none=>
      have hn:ns=[]:=by
       by_cases hp:0<els.length
       ·obtain ⟨k,off,e1,_⟩:=h5 hp; cases e1
       ·exact qaw o3
      subst hn;simp[Conv.bytesToString];rfl
     | some a=>
      have hl2:(loadCells a els.length).run P w=.ok (ns.map (Value.int .u8)).toArray w:=by
       by_cases hp:0<els.length
       ·obtain ⟨k,off,e1,hc⟩:=h5 hp;cases e1;rw[pj] at hc;have:=qdu (P:=P) w ⟨k,off,none⟩ (ns.map (Value.int .u8)) (λj v hv=>by rw[qbx]; exact hc j v hv);rwa [qbH,<-hl] at this
       ·have hn:ns=[]:=qaw o3;subst hn;rw[hl];rfl
      rw[run_bytesToString w a _ cap ns hl2,foldl_push];simp
  ·cases h
 ·rename_i e s' hs hd;split at h
  ·rename_i he;cases h;rw[VR] at hx;subst hx;have hr':=run_bytes_of_string (P:=P) w s t e s' hs hd he;have hb:Below w.heap.size w (w.drew.alloc (.cells (bytesRow s' (grownCap w s'.size 0 e)) e ((bytesRow s' (grownCap w s'.size 0 e)).size,(bytesRow s' (grownCap w s'.size 0 e)).size+1))):=((Below.refl _ w).drew).alloc (qab _) _;refine⟨_,_,hr',hb,?_⟩;rw[VR];have hlen:(s'.data.toList.map λc=>[A.v (.int .u8 c.toNat)]).length=s'.size:=by rw[qbH,qcB]; rfl
   refine⟨_,_,s'.data.toList.map λc=>[.int .u8 c.toNat],1,by rw[hlen],by rw[hlen]; exact qdt w _ _ _,λh=>(by cases h),r8,λ_=>⟨w.heap.size,0,rfl,?_⟩,?_⟩
   ·refine po hr (qbM w.drew _) λj v hj=>?_;rw[pj] at hj;unfold bytesRow;rw[qbK]
    ·simpa using hj
    ·have:=(qad.1 hj).1;simpa using this
   ·refine dh.2 ⟨r8,λi a d ha hd=>?_⟩;simp only[qaO,qa0] at ha hd;obtain ⟨b,hb,rfl⟩:=ha;obtain ⟨b',hb',rfl⟩:=hd;rw[hb] at hb'; cases hb';rw[bL]; exact⟨_,[],rfl,y9,An⟩
  ·cases h
 ·replace h:=bN h;obtain ⟨v,hv,h⟩:=h;obtain rfl:=pM _ hv hx;cases he:dj P (convert s t c) with
  | none=>rw[he] at h; cases h
  | some e=>rw[he] at h; cases h; exact⟨e,w,eU he w,Below.refl _ _,qX e⟩
theorem wc (vs:List Value):∀ (off:Nat) (cs:Array Value),off+vs.length<=cs.size->((vs.zipIdx 0).foldl (λcs p=>cs.setIfInBounds (off+p.2) p.1) cs).toList=bI cs.toList off vs:=by
 have gen:∀ (vs:List Value) (n off:Nat) (cs:Array Value),off+n+vs.length<=cs.size->((vs.zipIdx n).foldl (λcs p=>cs.setIfInBounds (off+p.2) p.1) cs).toList=bI cs.toList (off+n) vs:=by
  intro vs
  induction vs with
  | nil=>intro n off cs _; simp[bI]
  | cons v vs ih=>
   intro n off cs h;rw[List.zipIdx_cons,qdc,ih (n+1) off _ (by simp at h ⊢; omega)];simp only[bI,Array.toList_setIfInBounds,qae]
   have hlt:off+n<cs.toList.length:=by simp at h ⊢; omega
   rw[show off+(n+1)=off+n+1 by omega,List.take_succ_eq_append_getElem (by simp; simp at hlt; omega)];simp only[List.getElem_set_self]
   rw[List.take_set_of_le (qab _),qaV,qaV];rw[List.drop_set_of_lt o3];have e:off+n+1+vs.length=off+n+(vs.length+1):=o3;rw[e];simp
 intro off cs h;exact gen vs 0 off cs (by simpa using h)
theorem DE {place:Nat->Option (Nat×Nat)}:∀ {parts:List (Nat×A)} {vparts:List (Nat×Value)} {cs ds:List A} {arr:Array Value},xm place cs parts=some ds->bL H g w cs arr.toList ->
  (∀ i:Nat,(∀ p,parts[i]? = some p->∃ q,vparts[i]? = some q/\q.1=p.1/\VR H g w p.2 q.2))->vparts.length=parts.length->∃ arr',Instr.fill place arr vparts=some arr'/\bL H g w ds arr'.toList
 | [],vparts,cs,ds,arr,h,hv,hp,hl=>by
  simp only[xm,qaG] at h;subst h;have:vparts=[]:=qaw (by simpa using hl);subst this;exact⟨arr,rfl,hv⟩
 | (i,x) :: r,vparts,cs,ds,arr,h,hv,hp,hl=>by
  cases vparts with
  | nil=>simp at hl
  | cons q vr=>
   obtain ⟨q',hq,e1,hx⟩:=hp 0 (i,x) rfl;simp at hq;subst hq;simp only[xm] at h;replace h:=bN h;obtain ⟨p,hpl,h⟩:=h;replace h:=bN h;obtain ⟨xs,hxs,h⟩:=h;replace h:=bJ h;obtain ⟨hc,h⟩:=h;simp only[Z9,qa5,qag] at hc;obtain ⟨hvs,_,_⟩:=oX hxs hx;have hvl:=hvs.length;have hal:=hv.length;obtain ⟨qi,qv⟩:=q;simp only at e1;subst e1;have hsz:qv.cells.size=p.2:=by simpa [hc.1] using hvl
   have hfit:p.1+qv.cells.size<=arr.size:=by simp at hal; omega
   have hset:(qv.cells.zipIdx.foldl (λcs (c,j)=>cs.setIfInBounds (p.1+j) c) arr).toList=bI arr.toList p.1 qv.cells.toList:=by
    have:=wc qv.cells.toList p.1 arr (by simpa using hfit);rw[<-this,<-qcD];simp
   obtain ⟨arr',h1,h2⟩:=DE (place:=place) (arr:=qv.cells.zipIdx.foldl (λcs (c,j)=>cs.setIfInBounds (p.1+j) c) arr) (vparts:=vr) h (by rw[hset]; exact hv.bI hvs p.1) (λj p' hj=>by have:=hp (j+1) p' (by simpa using hj); simpa using this) (by simpa using hl);refine⟨arr',?_,h2⟩;unfold Instr.fill;rw[hpl];obtain ⟨p1,p2⟩:=p;simp only at hsz hfit ⊢;rw[qah (by simp[hsz]; omega)];exact h1
theorem il {t:TypeId} {z:List A} (h:iD P t=some z):∃ i v,P.info? t=some i/\i.zero=some v/\z=v.cells.toList.map BF:=by
 unfold iD at h;cases hi:P.info? t with
 | none=>rw[hi] at h; cases h
 | some i=>
  rw[hi] at h;simp only[Z6] at h;cases hz:i.zero with
  | none=>rw[hz] at h; cases h
  | some v=>rw[hz] at h; cases h; exact⟨i,v,rfl,hz,rfl⟩
def oQ (H:Heap) (g:Gh) (w:World) (parts:List (Nat×A)) (vparts:List (Nat×Value)):Prop:=vparts.length=parts.length/\∀ (i:Nat) p,parts[i]? = some p->∃ q,vparts[i]? = some q/\q.1=p.1/\VR H g w p.2 q.2
theorem yi {t:TypeId} {parts:List (Nat×A)} {vparts:Array (Nat×Value)} {y:A} (h:yh P t parts=some y) (hp:oQ H g w parts vparts.toList):∃ d,(Instr.build t vparts).run P w=.ok d w/\VR H g w y d:=by
 unfold yh at h;replace h:=bN h;obtain ⟨z,hz,h⟩:=h;replace h:=bN h;obtain ⟨place,hpl,h⟩:=h;obtain ⟨it,v,hi,hv,rfl⟩:=il hz;cases hf:xm place (v.cells.toList.map BF) parts with
 | none=>rw[hf] at h; cases h
 | some ds=>
  rw[hf] at h;cases h;obtain ⟨arr,h1,h2⟩:=DE (arr:=v.cells) hf (kh _) (λi p hi=>hp.2 i p hi) hp.1;refine⟨.agg arr,run_build w t vparts arr ?_,by rw[VR]; exact⟨arr,rfl,h2⟩⟩;unfold Ea at hpl;unfold Program.built;rw[hi];split at hpl
  ·rename_i fs hu;rw[hu];cases hm:(fs.toList.mapM λf=>(P.info? f.type).map λi=>(f.offset,i.size)) with
   | none=>rw[hm] at hpl; cases hpl
   | some places=>
    rw[hm] at hpl;cases hpl;simp only[hv,hm]
    exact h1
  ·rename_i n e hu;rw[hu];cases hie:P.info? e with
   | none=>rw[hie] at hpl; cases hpl
   | some ie=>
    rw[hie] at hpl;cases hpl;simp only[hv,hie]
    exact h1
  ·cases hpl
end
section
open Go.RowKit
variable {P:Program} {H:Heap} {g:Gh} {w0 w:World}
def Gh.put (g:Gh) (b:Nat) (k:Option Nat) (γ:List (List Value)):Gh:={ g with mu:=λc=>if c=b then k else g.mu c,ga:=λc=>if c=b then γ else g.ga c }
theorem Gh.bQ (g:Gh) (b:Nat) (k:Option Nat) (γ:List (List Value)):(g.put b k γ).mu b=k:=by simp[Gh.put]
theorem Gh.iG (g:Gh) (b:Nat) (k:Option Nat) (γ:List (List Value)):(g.put b k γ).ga b=γ:=by simp[Gh.put]
theorem Gh.aL (g:Gh) {b c:Nat} (k:Option Nat) (γ:List (List Value)) (h:c≠b):(g.put b k γ).mu c=g.mu c:=by simp[Gh.put,h]
theorem Gh.fm (g:Gh) {b c:Nat} (k:Option Nat) (γ:List (List Value)) (h:c≠b):(g.put b k γ).ga c=g.ga c:=by simp[Gh.put,h]
def Step (H:Heap) (g:Gh) (w0 w:World) (lo:Nat) (r:Result Value) (y:A) (H':Heap):Prop:=
 ∃ d w' g',r=.ok d w'/\Rel H' g' w0 w'/\Ext H g w H' g' w'/\VR H' g' w' y d/\H.length<=H'.length/\(∀ b,b<lo->b<H.length->H'[b]? = H[b]?)/\g'.S=g.S
theorem eG {k:Nat} {o:Obj} {w w':World} (hb:Below w.heap.size w w') (h:w.heap[k]? = some o):w'.heap[k]? = some o:=(hb.block k (qaj.1 h).1).trans h
theorem Rel.push (hr:Rel H g w0 w) {w':World} (hb:Below w.heap.size w w') (B:aA) (ko:Option Nat) (γ:List (List Value)) (hk:∀ k,ko=some k->k=w.heap.size/\w.heap.size<w'.heap.size)
  (hB:Ext H g w (H++[B]) (g.put H.length ko γ) w'->nL (H++[B]) (g.put H.length ko γ) w' H.length B):Rel (H++[B]) (g.put H.length ko γ) w0 w'/\Ext H g w (H++[B]) (g.put H.length ko γ) w':=by
 have old:∀ {b k},(g.put H.length ko γ).mu b=some k->k<w.heap.size->b≠H.length/\g.mu b=some k:=λ{b k} h hlt=>by
  by_cases e:b=H.length
  ·subst e; rw[Gh.bQ] at h; have:=(hk k h).1; omega
  ·exact⟨e,by rwa [Gh.aL _ _ _ e] at h⟩
 have he:Ext H g w (H++[B]) (g.put H.length ko γ) w':=by
  refine⟨λk o v hs hc=>?_,λb B' hB'=>⟨B',?_,?_⟩,λk o ho=>(hb.block k (qaj.1 ho).1).trans ho,hb.size,λk arr cl hs hm=>?_,λk hk' _=>hb.block k hk',λb k h=>?_⟩
  rotate_right 1
  ·by_cases e:b=H.length
   ·subst e; rw[Gh.bQ] at h; exact .inr (qc3 (hk k h).1.symm)
   ·exact .inl ⟨b,by rwa [Gh.aL _ _ _ e] at h⟩
  ·have hlt:=qbW w ⟨k,o,none⟩ hc;refine⟨(hb.cell (p:=⟨k,o,none⟩) hlt).trans hc,hs.1,λb hbk=>?_⟩;obtain ⟨_,h2⟩:=old hbk hlt;obtain ⟨es,els,h3,h4⟩:=hs.2 b h2;exact⟨es,els,by rw[qat (qad.1 h3).1]; exact h3,h4⟩
  ·rw[qat (qad.1 hB').1]; exact hB'
  ·have hne:b≠H.length:=by have:=(qad.1 hB').1; omega
   cases B' with
   | box _=>exact Gh.aL _ _ _ hne
   | row wr es els=>cases wr with
    | true=>exact⟨rfl,rfl,Gh.aL _ _ _ hne,λk arr ty hk' ha=>⟨arr,eG hb ha,qab _⟩⟩
    | false=>exact⟨rfl,⟨[],by rw[Gh.fm _ _ _ hne]; simp⟩,(hr.blk b _ hB').len,qab _,λ_=>⟨Gh.aL _ _ _ hne,λk arr ty hk' ha=>⟨arr,eG hb ha,qab _⟩⟩⟩
   | rng _=>exact⟨Gh.aL _ _ _ hne,rfl⟩
   | mp _ _ _=>exact Gh.aL _ _ _ hne
   | dead=>trivial
   | hole=>trivial
  ·have hlt:=(qaj.1 hm).1;refine⟨(hb.block k hlt).trans hm,hs.1,λb hbk=>?_⟩;obtain ⟨_,h2⟩:=old hbk hlt;obtain ⟨es,els,h3,h4⟩:=hs.2 b h2;exact⟨es,els,by rw[qat (qad.1 h3).1]; exact h3,h4⟩
 refine⟨⟨hr.below.trans (hb.mono hr.below.size),λb k hbk=>?_,λb c k h1 h2=>?_,hr.A5 he,hr.zo he,λb B' hB'=>?_⟩,he⟩
 ·by_cases e:b=H.length
  ·subst e; rw[Gh.bQ] at hbk;obtain ⟨rfl,h2⟩:=hk k hbk;exact⟨r8,hr.below.size,h2⟩
  ·rw[Gh.aL _ _ _ e] at hbk;obtain ⟨h1,h2,h3⟩:=hr.dom b k hbk;exact⟨r9,h2,qaz h3 hb.size⟩
 ·by_cases e:b=H.length
  ·by_cases e':c=H.length
   ·rw[e,e']
   ·subst e;rw[Gh.bQ] at h1;rw[Gh.aL _ _ _ e'] at h2;have:=(hk k h1).1; have:=(hr.dom c k h2).2.2; omega
  ·by_cases e':c=H.length
   ·subst e';rw[Gh.bQ] at h2;rw[Gh.aL _ _ _ e] at h1;have:=(hk k h2).1; have:=(hr.dom b k h1).2.2; omega
   ·rw[Gh.aL _ _ _ e] at h1;rw[Gh.aL _ _ _ e'] at h2;exact hr.inj b c k h1 h2
 ·by_cases e:b=H.length
  ·subst e;rw[qay (qab _)] at hB';simp at hB';subst hB';exact hB he
  ·have hlt:b<H.length:=by have:=(qad.1 hB').1; simp at this; omega
   rw[qat hlt] at hB';have h:=hr.blk b B' hB';cases B' with
   | box cs=>obtain ⟨k,arr,ty,h1,h2,h3⟩:=h; exact⟨k,arr,ty,(Gh.aL _ _ _ e).trans h1,eG hb h2,bL.ext he _ _ h3⟩
   | row wr es els=>cases wr with
    | true=>
     obtain ⟨ds,h1,h2,h3⟩:=h;exact⟨ds,bK.ext he _ _ h1,h2,λhp=>let ⟨k,arr,ty,e1,e2,e3⟩:=h3 hp; ⟨k,arr,ty,(Gh.aL _ _ _ e).trans e1,eG hb e2,e3⟩⟩
    | false=>
     obtain ⟨h1,h2⟩:=h;refine⟨?_,?_⟩
     ·rw[Gh.fm _ _ _ e]; exact bK.ext he _ _ h1
     ·rw[Gh.fm _ _ _ e]; exact h2
   | rng st=>obtain ⟨k,h1,h2⟩:=h; exact⟨k,(Gh.aL _ _ _ e).trans h1,eG hb h2⟩
   | mp _ _ _=>obtain ⟨k,arr,cl,h1,h2,h3,h4⟩:=h; exact⟨k,arr,cl,(Gh.aL _ _ _ e).trans h1,eG hb h2,h3,bL.ext he _ _ h4⟩
   | dead=>exact(Gh.aL _ _ _ e).trans h
   | hole=>exact(Gh.aL _ _ _ e).trans h
theorem fg (H:Heap) (B:aA):(H++[B])[H.length]? = some B:=r8
theorem ke (H:Heap) (B:aA) (lo:Nat):∀ b,b<lo->b<H.length->(H++[B])[b]? = H[b]?:=λ_ _ h=>qat h
theorem BQ (hr:Rel H g w0 w) {t:TypeId} {x y:A} {H':Heap} {c:Value} (lo:Nat) (h:BP x H=some (y,H')) (hx:VR H g w x c):Step H g w0 w lo ((Instr.box t c).run P w) y H':=by
 unfold BP at h;cases hc:x.cells? with
 | none=>rw[hc] at h; cases h
 | some cs=>
  rw[hc] at h;cases h;obtain ⟨hv,_,_⟩:=oX hc hx;have hb:Below w.heap.size w (w.alloc (.cells c.cells t)):=(Below.refl _ w).alloc (qab _) _;obtain ⟨h1,h2⟩:=hr.push hb (.box cs) (some w.heap.size) [] (λk hk=>by cases hk; exact⟨rfl,r8⟩) (λhe=>⟨w.heap.size,c.cells,t,Gh.bQ _ _ _ _,qbM w _,bL.ext he _ _ hv⟩);refine⟨.pointer (some ⟨w.heap.size,0,none⟩),_,_,by simp[Instr.box,newVar,newRow,newObj]; rfl,h1,h2,?_,r8,ke _ _ _,rfl⟩;rw[VR,fg]; exact⟨w.heap.size,Gh.bQ _ _ _ _,rfl⟩
theorem yf (hr:Rel H g w0 w) {t:TypeId} {y:A} {H':Heap} (lo:Nat) (h:nO P t H=some (y,H')):Step H g w0 w lo ((Instr.alloc t true (.tuple #[])).run P w) y H':=by
 unfold nO at h;cases hz:iD P t with
 | none=>rw[hz] at h; cases h
 | some cs=>
  rw[hz] at h;cases h;obtain ⟨i,z,hi,hzz,rfl⟩:=il hz;have hb:Below w.heap.size w (w.alloc (.cells z.cells t)):=(Below.refl _ w).alloc (qab _) _;obtain ⟨h1,h2⟩:=hr.push hb (.box (z.cells.toList.map BF)) (some w.heap.size) [] (λk hk=>by cases hk; exact⟨rfl,r8⟩) (λhe=>⟨w.heap.size,z.cells,t,Gh.bQ _ _ _ _,qbM w _,kh _⟩);refine⟨.pointer (some ⟨w.heap.size,0,none⟩),_,_,by simp[Instr.alloc,zeroValue,typeInfo,hi,hzz,newVar,newRow,newObj]; rfl,h1,h2,?_,r8,ke _ _ _,rfl⟩;rw[VR,fg]; exact⟨w.heap.size,Gh.bQ _ _ _ _,rfl⟩
theorem vY (hr:Rel H g w0 w) {t:TypeId} {cs:List A} {y:A} {H':Heap} {arr:Array Value} {ty:TypeId} (h:rowOf P t cs H=some (y,H')) (hv:bL H g w cs arr.toList) :
  Rel H' (g.put H.length (some w.heap.size) []) w0 (w.alloc (.cells arr ty))/\Ext H g w H' (g.put H.length (some w.heap.size) []) (w.alloc (.cells arr ty))/\VR H' (g.put H.length (some w.heap.size) []) (w.alloc (.cells arr ty)) y (.pointer (some ⟨w.heap.size,0,none⟩))/\H.length<=H'.length/\∀ lo b,b<lo->b<H.length->H'[b]? = H[b]?:=by
 unfold rowOf at h;split at h
 ·rename_i n e hu;replace h:=bN h;obtain ⟨es,hes,h⟩:=h;replace h:=fq h;obtain ⟨h0,h⟩:=h;cases h;simp only[qbh,qbR,qcO] at h0;obtain ⟨⟨h1,h2⟩,h3⟩:=h0;have h2:n≠0:=λe=>by rw[e] at h2; cases h2
  have hb:Below w.heap.size w (w.alloc (.cells arr ty)):=(Below.refl _ w).alloc (qab _) _;have hal:arr.toList.length=n*es:=by rw[hv.length,h3]
  obtain ⟨r1,r2⟩:=hr.push hb (.row true es (chunk es n cs)) (some w.heap.size) [] (λk hk=>by cases hk; exact⟨rfl,r8⟩) (λhe=>⟨chunk es n arr.toList,(bL.ext he _ _ hv).chunk n,lM hal,λ_=>⟨w.heap.size,arr,ty,Gh.bQ _ _ _ _,qbM w _,λj v hj=>by
   rw[nV hal] at hj; simpa using hj⟩⟩)
  refine⟨r1,r2,?_,r8,λlo=>ke _ _ _⟩;rw[VR,fg];exact⟨by rw[jA]; omega,w.heap.size,Gh.bQ _ _ _ _,r8⟩
 ·cases h
theorem zX (hr:Rel H g w0 w) {t:TypeId} {x y:A} {H':Heap} {c:Value} (lo:Nat) (h:xb P t x H=some (y,H')) (hx:VR H g w x c):Step H g w0 w lo ((Instr.box t c).run P w) y H':=by
 unfold xb at h;cases hc:x.cells? with
 | none=>rw[hc] at h; cases h
 | some cs=>
  rw[hc] at h;obtain ⟨hv,_,_⟩:=oX hc hx;obtain ⟨r1,r2,r3,r4,r5⟩:=vY (P:=P) hr (ty:=t) h hv;exact⟨.pointer (some ⟨w.heap.size,0,none⟩),_,_,by simp[Instr.box,newVar,newRow,newObj]; rfl,r1,r2,r3,r4,r5 lo,rfl⟩
theorem wC (hr:Rel H g w0 w) {t:TypeId} {y:A} {H':Heap} (lo:Nat) (h:mj P t H=some (y,H')):Step H g w0 w lo ((Instr.alloc t true (.tuple #[])).run P w) y H':=by
 unfold mj at h;cases hz:iD P t with
 | none=>rw[hz] at h; cases h
 | some cs=>
  rw[hz] at h;obtain ⟨i,z,hi,hzz,rfl⟩:=il hz;obtain ⟨r1,r2,r3,r4,r5⟩:=vY (P:=P) hr (arr:=z.cells) (ty:=t) h (kh _);exact⟨.pointer (some ⟨w.heap.size,0,none⟩),_,_,by simp[Instr.alloc,zeroValue,typeInfo,hi,hzz,newVar,newRow,newObj]; rfl,r1,r2,r3,r4,r5 lo,rfl⟩
theorem tc {α:Type} (arr:Array α) (o:Nat) (xs:List α):arr.size<=(bI arr.toList o xs).toArray.size:=by
 unfold bI;simp;omega
theorem Rel.write (hr:Rel H g w0 w) {b k:Nat} {arr arr':Array Value} {ty:TypeId} (hk:g.mu b=some k) (ha:w.heap[k]? = some (.cells arr ty (0,0))) {B B':aA} (hB:H[b]? = some B)
  (hkind:(∃ cs cs',B=.box cs/\B'=.box cs')∨∃ es els els',B=.row true es els/\B'=.row true es els'/\els'.length=els.length/\arr.size<=arr'.size)
  (hB':Ext H g w (H.set b B') g (w.setRow k arr')->(w.setRow k arr').heap[k]? = some (.cells arr' ty (0,0))->nL (H.set b B') g (w.setRow k arr') b B'):Rel (H.set b B') g w0 (w.setRow k arr')/\Ext H g w (H.set b B') g (w.setRow k arr'):=by
 have hlt:b<H.length:=(qad.1 hB).1;have hnew:(w.setRow k arr').heap[k]? = some (.cells arr' ty (0,0)):=setRow_heap w k arr arr' ty (0,0) ha;have hoth:∀ j,j≠k->(w.setRow k arr').heap[j]? = w.heap[j]?:=λj hj=>setRow_other w k j arr' hj;have hnot:∀ {o:Nat},¬ ft H g k o:=λ{o} hs=>by
  obtain ⟨es,els,h1,_⟩:=hs.2 b hk;rw[hB] at h1;rcases hkind with ⟨cs,cs',rfl,_⟩ | ⟨es',els1,els',rfl,_⟩<;>cases h1
 have he:Ext H g w (H.set b B') g (w.setRow k arr'):=by
  refine⟨λk' o v hs hc=>?_,λc C hC=>?_,λk' o ho=>(hoth k' (λe=>by subst e; rw[ha] at ho; cases ho)).trans ho,by simp[World.setRow],λk' marr cl hs hm=>?_,λk' _ hn=>hoth k' (λe=>hn b (e ▸ hk)),λc k' h=>.inl ⟨c,h⟩⟩
  ·have hne:k'≠k:=λe=>hnot (e ▸ hs);refine⟨(qca (a:=⟨k',o,none⟩) (hoth k' hne)).trans hc,hs.1,λc hck=>?_⟩;obtain ⟨es,els,h1,h2⟩:=hs.2 c hck;have hcb:c≠b:=λe=>by subst e; rw[hk] at hck; exact hne (by cases hck; rfl)
   exact⟨es,els,by rw[qao (qbi hcb)]; exact h1,h2⟩
  ·by_cases e:c=b
   ·subst e;rw[hB] at hC; cases hC;refine⟨B',by rw[qaE hlt],?_⟩;rcases hkind with ⟨cs,cs',rfl,rfl⟩ | ⟨es,els,els',rfl,rfl,hl,hsz'⟩
    ·rfl
    ·exact⟨rfl,hl,rfl,λk' arr1 ty1 hk1 ha1=>by rw[hk] at hk1; cases hk1; rw[ha] at ha1; cases ha1; exact⟨arr',hnew,hsz'⟩⟩
   ·refine⟨C,by rw[qao (qbi e)]; exact hC,?_⟩;cases C with
    | box _=>rfl
    | row wr es els=>cases wr with
     | true=>exact⟨rfl,rfl,rfl,λk' arr1 ty1 hk1 ha1=>⟨arr1,(hoth k' (λe2=>e (hr.inj c b k (e2 ▸ hk1) hk))).trans ha1,qab _⟩⟩
     | false=>exact⟨rfl,⟨[],r8⟩,(hr.blk c _ hC).len,qab _,λ_=>⟨rfl,λk' arr1 ty1 hk1 ha1=>⟨arr1,(hoth k' (λe2=>e (hr.inj c b k (e2 ▸ hk1) hk))).trans ha1,qab _⟩⟩⟩
    | rng _=>exact⟨rfl,rfl⟩
    | mp _ _ _=>rfl
    | dead=>trivial
    | hole=>trivial
  ·have hne:k'≠k:=λe=>by subst e; rw[ha] at hm; cases hm
   refine⟨(hoth k' hne).trans hm,hs.1,λc hck=>?_⟩;obtain ⟨es,els,h1,h2⟩:=hs.2 c hck;have hcb:c≠b:=λe=>by subst e; rw[hk] at hck; exact hne (by cases hck; rfl)
   exact⟨es,els,by rw[qao (qbi hcb)]; exact h1,h2⟩
 have hsz:(w.setRow k arr').heap.size=w.heap.size:=by simp[World.setRow]
 have hkb:=(hr.dom b k hk).2.1;refine⟨⟨hr.below.trans ⟨rfl,rfl,rfl,by rw[hsz]; exact qab _,λj hj=>hoth j o3⟩,λc j hcj=>⟨by simpa using (hr.dom c j hcj).1,(hr.dom c j hcj).2.1,by rw[hsz]; exact(hr.dom c j hcj).2.2⟩,hr.inj,hr.A5 he,hr.zo he,λc C hC=>?_⟩,he⟩;by_cases e:c=b
 ·subst e;rw[qaE hlt] at hC; cases hC;exact hB' he hnew
 ·rw[qao (qbi e)] at hC;have h:=hr.blk c C hC;have hmu:∀ {j},g.mu c=some j->j≠k:=λ{j} hj e2=>e (hr.inj c b k (e2 ▸ hj) hk);cases C with
  | box cs=>obtain ⟨j,arr1,ty1,h1,h2,h3⟩:=h; exact⟨j,arr1,ty1,h1,(hoth j (hmu h1)).trans h2,bL.ext he _ _ h3⟩
  | row wr es els=>cases wr with
   | true=>
    obtain ⟨ds,h1,h2,h3⟩:=h;exact⟨ds,bK.ext he _ _ h1,h2,λhp=>let ⟨j,arr1,ty1,e1,e2,e3⟩:=h3 hp; ⟨j,arr1,ty1,e1,(hoth j (hmu e1)).trans e2,e3⟩⟩
   | false=>exact⟨bK.ext he _ _ h.1,h.2⟩
  | rng st=>obtain ⟨j,h1,h2⟩:=h; exact⟨j,h1,(hoth j (hmu h1)).trans h2⟩
  | mp _ _ _=>obtain ⟨j,arr1,cl,h1,h2,h3,h4⟩:=h; exact⟨j,arr1,cl,h1,(hoth j (hmu h1)).trans h2,h3,bL.ext he _ _ h4⟩
  | dead=>exact h
  | hole=>exact h
theorem n8 (H:Heap) (B:aA) {lo b:Nat} (hb:lo<=b):∀ c,c<lo->c<H.length->(H.set b B)[c]? = H[c]?:=λ_ hc _=>qao o3
theorem oy {t:TypeId} {n k o:Nat} {c:Value} {arr:Array Value} {ty:TypeId} (hs:cY P t=some n) (hn:c.cells.size=n) (ha:w.heap[k]? = some (.cells arr ty (0,0))) (hfit:o+n<=arr.size) (h1:∀ x∈c.cells.toList,x.oneCell'=true) :
  (Instr.storeAt t (.pointer (some ⟨k,o,none⟩)) c).run P w=.ok () (w.setRow k (bI arr.toList o c.cells.toList).toArray):=by
 have:=qdz P k o ty c.cells.toList 0 arr w ha (by simpa [hn] using hfit) h1;simp only[qbv] at this;simp only[Instr.storeAt,Instr.sureAddr,qa1,qcx,qaT,storeVar,fk hs]
 rw[qah (by simp[hn])];rw[this];simp[bI]
theorem kj {α:Type} (cs xs:List α) (o:Nat) (h:o+xs.length<=cs.length):(bI cs o xs).length=cs.length:=by
 simp[bI]; omega
theorem je {α:Type} (cs xs:List α) (o j:Nat) (h:o+xs.length<=cs.length):(bI cs o xs)[j]? = if o<=j/\j<o+xs.length then xs[j - o]? else cs[j]?:=by
 unfold bI;rw[qaV,qcb,qba,qbP o3];by_cases h1:j<o
 ·rw[qaf h1,qah o3,qaA,qaf h1]
 ·rw[qah h1,qcb];by_cases h2:j<o+xs.length
  ·rw[qaf o3,qaf o3]
  ·rw[qah o3,qah o3,qbw];congr 1; omega
theorem wj {α:Type} (x l xs:List α) (n:Nat):bI (x++l) (x.length+n) xs=x++bI l n xs:=by
 unfold bI;rw[qcf,List.take_length_add_append,List.drop_length_add_append];simp
theorem vh {es:Nat}:∀ {ds:List (List Value)} {i:Nat} {d d':List Value},(∀ d∈ds,d.length=es)->ds[i]? = some d->∀ o xs,o+xs.length<=es->d'=bI d o xs->(ds.set i d').flatten=bI ds.flatten (i*es+o) xs
 | [],i,d,d',_,h,_,_,_,_=>by simp at h
 | x :: r,i,d,d',hl,h,o,xs,hf,hd=>by
  have hx:=hl x r8;cases i with
  | zero=>
   simp at h; subst h; subst hd;simp only[List.set_cons_zero,qbt,qdG,qaU,bI]
   rw[qcK o3,qdo o3];simp
  | succ i=>
   have ih:=vh (ds:=r) (i:=i) (d:=d) (d':=d') (λd hd=>hl d (by simp[hd])) (by simpa using h) o xs hf hd;have e:(i+1)*es+o=x.length+(i*es+o):=by rw[hx,qbk]; omega
   rw[List.set_cons_succ,qbt,qbt,ih,e,wj]
theorem iB {es:Nat} {ds:List (List Value)} (hl:∀ d∈ds,d.length=es) {m:Nat} (hm:m<=ds.length):(ds.take m).flatten.length=m*es:=by
 rw[cE (λd hd=>hl d (qaJ hd)),qba,qbP hm]
theorem pn {es:Nat}:∀ {ds:List (List Value)} (o:Nat) {xs:List (List Value)},(∀ d∈ds,d.length=es)->(∀ d∈xs,d.length=es)->o+xs.length<=ds.length->(bI ds o xs).flatten=bI ds.flatten (o*es) xs.flatten
 | ds,0,xs,hl,hx,h=>by
  have:ds=ds.take xs.length++ds.drop xs.length:=(qbQ _ _).symm;have h1:(ds.take xs.length).flatten.length=xs.length*es:=iB hl o3;simp only[bI,qci,qbd,qaU,qdG,qbY]
  congr 1;have e:ds.flatten=(ds.take xs.length).flatten++(ds.drop xs.length).flatten:=ZU;rw[e,List.drop_append,h1,cE hx];simp[h1]
 | [],o+1,xs,hl,hx,h=>by simp at h
 | d :: r,o+1,xs,hl,hx,h=>by
  have ih:=pn (ds:=r) o (xs:=xs) (λd hd=>hl d (by simp[hd])) hx (by simp at h; omega);have e1:bI (d :: r) (o+1) xs=d :: bI r o xs:=by
   simp only[bI,qdp,qaS]
   rw[show o+1+xs.length=o+xs.length+1 by omega,qbZ]
  rw[e1,qbt,ih,qbt];have e2:(o+1)*es=d.length+o*es:=by rw[hl d r8,qbk]; omega
  rw[e2,wj]
theorem yn (hr:Rel H g w0 w) {t:TypeId} {a x:A} {H':Heap} {lo:Nat} {ca cx:Value} (h:jz P t a x H lo=some H') (ha:VR H g w a ca) (hx:VR H g w x cx) :
  ∃ w',(Instr.storeAt t ca cx).run P w=.ok () w'/\Rel H' g w0 w'/\Ext H g w H' g w'/\H.length<=H'.length/\∀ b,b<lo->b<H.length->H'[b]? = H[b]?:=by
 unfold jz at h;replace h:=bN h;obtain ⟨n,hn,h⟩:=h;replace h:=bN h;obtain ⟨xs,hxs,h⟩:=h;replace h:=fq h;obtain ⟨h0,h⟩:=h;simp only[qbh,qbR,qa5] at h0;obtain ⟨hvs,h1,_⟩:=oX hxs hx;have hsz:cx.cells.size=n:=by have:=hvs.length; simp at this; omega
 split at h
 ·rename_i b o;split at h
  ·rename_i cs hb;replace h:=bJ h;obtain ⟨hc,h⟩:=h;simp only[Z9,qag] at hc;cases h;rw[VR,hb] at ha;obtain ⟨k,hk,rfl⟩:=ha;obtain ⟨k',arr,ty,hk',har,hv⟩:=hr.blk b _ hb;rw[hk] at hk'; cases hk';have hal:arr.size=cs.length:=by simpa using hv.length
   have hrun:=oy (P:=P) hn hsz har (o:=o) o3 h1;obtain ⟨r1,r2⟩:=hr.write hk har (arr':=(bI arr.toList o cx.cells.toList).toArray) (B':=.box (bI cs o xs)) hb (.inl ⟨_,_,rfl,rfl⟩) (λhe hnew=>⟨k,_,ty,hk,hnew,bL.ext he _ _ (by simpa using hv.bI hvs o)⟩);exact⟨_,hrun,r1,r2,r8,n8 _ _ hc.1⟩
  ·cases h
 ·rename_i b i o;split at h
  ·rename_i es els hb;split at h
   ·rename_i cs hi;rw[VR,hb] at ha;obtain ⟨hlt,k,hk,rfl⟩:=ha;obtain ⟨ds,hv,hl,hrow⟩:=hr.blk b _ hb;obtain ⟨k',arr,ty,hk',har,hcell⟩:=hrow o3;rw[hk] at hk'; cases hk';obtain ⟨d,hd,hvd⟩:=hv.get hi;have hdl:d.length=es:=hl d (qaI hd);have hcl:cs.length=es:=by rw[<-hvd.length]; exact hdl
    have hfl:=cE hl;have hvl:=hv.length;have hbound:i*es+es<=ds.length*es:=by
     have:=qbV es (show i+1<=ds.length by omega);rw[qbk] at this; omega
    have hal:ds.flatten.length<=arr.size:=by
     by_cases hz:ds.flatten.length=0
     ·omega
     ·have:=hcell (ds.flatten.length - 1) _ (Z7 o3);have:=(qaj.1 this).1;omega
    have hxl:cx.cells.toList.length=n:=by simpa using hsz
    rw[bP] at h;split at h
    rotate_left
    ·replace h:=bJ h;obtain ⟨hc,h⟩:=h;simp only[Z9,qag,qcO] at hc;obtain ⟨⟨⟨hlo,rfl⟩,hq⟩,hfit⟩:=hc;cases h;have hxq:cx.cells.toList.length=n / es*es:=o3;have hq2:i*es+n / es*es<=ds.length*es:=by
      have:=qbV es (show i+n / es<=ds.length by omega);rwa [qbk] at this
     have hrun:=oy (P:=P) hn hsz har (o:=i*es+0) o3 h1;have hcl2:=lM (es:=es) hxq;obtain ⟨r1,r2⟩:=hr.write hk har (arr':=(bI arr.toList (i*es+0) cx.cells.toList).toArray) (B':=.row true es (bI els i (chunk es (n / es) xs))) hb (.inr ⟨es,els,_,rfl,rfl,by rw[kj _ _ _ (by rw[jA]; omega)],tc _ _ _⟩) (λhe hnew=>by
      refine⟨bI ds i (chunk es (n / es) cx.cells.toList),?_,?_,λ_=>⟨k,_,ty,hk,hnew,λj v hj=>?_⟩⟩
      ·have hv2:=bK.ext he _ _ hv;have hx2:=bK.ext he _ _ (hvs.chunk (es:=es) (n / es));exact hv2.bI hx2 i
      ·intro d' hd';unfold bI at hd';rcases qa8.1 hd' with hd' | hd'
       ·rcases qa8.1 hd' with hd' | hd'
        ·exact hl d' (qaJ hd')
        ·exact hcl2 d' hd'
       ·exact hl d' (qaL hd')
      ·rw[pn i hl hcl2 (by rw[jA]; omega),nV hxq] at hj;rw[je _ _ _ _ o3] at hj;have:(bI arr.toList (i*es+0) cx.cells.toList).toArray[j]? = (bI arr.toList (i*es+0) cx.cells.toList)[j]?:=r8;rw[this,je _ _ _ _ r9];simp only[qbv]
       split
       ·rename_i hin; rw[qaf hin] at hj; exact hj
       ·rename_i hin; rw[qah hin] at hj;have:=hcell j v hj;simpa using this)
     exact⟨_,hrun,r1,r2,r8,n8 _ _ hlo⟩
    rename_i hc;simp only[Z9,qag] at hc;cases h;have hrun:=oy (P:=P) hn hsz har (o:=i*es+o) o3 h1;obtain ⟨r1,r2⟩:=hr.write hk har (arr':=(bI arr.toList (i*es+o) cx.cells.toList).toArray) (B':=.row true es (els.set i (bI cs o xs))) hb (.inr ⟨es,els,_,rfl,rfl,r8,tc _ _ _⟩) (λhe hnew=>by
     refine⟨ds.set i (bI d o cx.cells.toList),?_,?_,λ_=>⟨k,_,ty,hk,hnew,λj v hj=>?_⟩⟩
     ·have hv2:=bK.ext he _ _ hv;have hvd2:=bL.ext he _ _ (hvd.bI hvs o);obtain ⟨g1,g2⟩:=dh.1 hv2;refine dh.2 ⟨by simp[g1],λj a' d' ha' hd'=>?_⟩;by_cases e:j=i
      ·subst e;rw[qaE o3] at ha';rw[qaE o3] at hd';cases ha'; cases hd'; exact hvd2
      ·rw[qao (qbi e)] at ha' hd';exact g2 j a' d' ha' hd'
     ·intro d' hd';rcases qdC hd' with h' | rfl
      ·exact hl d' h'
      ·rw[kj _ _ _ o3]; exact hdl
     ·rw[vh hl hd o cx.cells.toList o3 rfl] at hj;rw[je _ _ _ _ o3] at hj;have:(bI arr.toList (i*es+o) cx.cells.toList).toArray[j]? = (bI arr.toList (i*es+o) cx.cells.toList)[j]?:=r8;rw[this,je _ _ _ _ r9];split
      ·rename_i hin; rw[qaf hin] at hj; exact hj
      ·rename_i hin; rw[qah hin] at hj;have:=hcell j v hj;simpa using this)
    exact⟨_,hrun,r1,r2,r8,n8 _ _ hc.1⟩
   ·cases h
  ·cases h
 ·cases h
end
section
open Go.RowKit
variable {P:Program} {H:Heap} {g:Gh} {w0 w:World}
theorem lO {t e:TypeId} (h:kE P t=some e):P.underlying t=some (.slice e):=by
 unfold kE at h;split at h
 ·rename_i hu; cases h; exact hu
 ·cases h
theorem qc (z:Array Value) (len:Nat) (hz:0<z.size):(madeCells z (len*z.size)).toList=(List.replicate len z.toList).flatten:=by
 have hl:∀ d∈List.replicate len z.toList,d.length=z.size:=λd hd=>by rw[(qcG.1 hd).2]; simp
 apply qbz;intro j;by_cases hj:j<len*z.size
 ·have hq:j / z.size<len:=qd6 (by rw[qby]; exact hj);have e:=lQ hl (j:=j / z.size) (d:=z.toList) (by rw[qbJ,qaf hq]) (j % z.size) (qcu _ hz);rw[show j / z.size*z.size+j % z.size=j by rw[qby]; exact qdP _ _] at e;rw[e];have hm:=qcu j hz;have:(madeCells z (len*z.size))[j]? = some (z[j % z.size]!):=by simp[madeCells,hj]
  rw[qaZ,this];simp[hm]
 ·rw[qa4 (by simp[madeCells]; omega),qa4 (by rw[cE hl]; simp; omega)]
theorem Ay {es:Nat}:∀ {parts:List (Nat×A)} {vparts:List (Nat×Value)} {els els':List (List A)} {ds:List (List Value)} {arr:Array Value},ow els parts=some els'->arr.toList=ds.flatten->bK H g w els ds->(∀ d∈ds,d.length=es) ->
  (∀ p∈parts,p.1<els.length/\∃ xs,p.2.cells? = some xs/\xs.length=es)->oQ H g w parts vparts->∃ arr' ds',Instr.fill (λi=>some (i*es,es)) arr vparts=some arr'/\arr'.toList=ds'.flatten/\bK H g w els' ds'/\(∀ d∈ds',d.length=es)
 | [],vparts,els,els',ds,arr,h,ha,hv,hl,_,hp=>by
  simp only[ow,qaG] at h;subst h;have:vparts=[]:=qaw (by simpa using hp.1);subst this;exact⟨arr,ds,rfl,ha,hv,hl⟩
 | (i,x) :: r,vparts,els,els',ds,arr,h,ha,hv,hl,hc,hp=>by
  cases vparts with
  | nil=>simp[oQ] at hp
  | cons q vr=>
   obtain ⟨q',hq,e1,hx⟩:=hp.2 0 (i,x) rfl;simp at hq;subst hq;obtain ⟨hi,xs,hxs,hxl⟩:=hc (i,x) r8;simp only[ow,hxs,Z6] at h;obtain ⟨hvs,_,_⟩:=oX hxs hx;have hvl:=hvs.length;have hel:=hv.length;obtain ⟨qi,qv⟩:=q;simp only at e1 hi;subst e1;have hsz:qv.cells.size=es:=by simpa [hxl] using hvl
   obtain ⟨d,hd,_⟩:=hv.get (i:=qi) (Z7 hi);have hdl:d.length=es:=hl d (qaI hd);have hfl:=cE hl;have hfit:qi*es+qv.cells.size<=arr.size:=by
    have e2:arr.size=ds.length*es:=by rw[<-hfl,<-ha]; simp
    have:=qbV es (show qi+1<=ds.length by omega);rw[qbk] at this; omega
   have hsp:qv.cells.toList=bI d 0 qv.cells.toList:=by
    unfold bI;rw[qci,qbd,qcJ r9,qaW]
   have hset:(qv.cells.zipIdx.foldl (λcs (c,j)=>cs.setIfInBounds (qi*es+j) c) arr).toList=(ds.set qi qv.cells.toList).flatten:=by
    have:=wc qv.cells.toList (qi*es) arr (by simpa using hfit);rw[vh hl hd 0 qv.cells.toList r9 hsp,<-ha,qbv,<-this,<-qcD];simp
   obtain ⟨arr',ds',h1,h2,h3,h4⟩:=Ay (els:=els.set qi xs) (ds:=ds.set qi qv.cells.toList) (arr:=qv.cells.zipIdx.foldl (λcs (c,j)=>cs.setIfInBounds (qi*es+j) c) arr) (vparts:=vr) h hset
    (by
     obtain ⟨g1,g2⟩:=dh.1 hv;refine dh.2 ⟨by simp[g1],λj a' d' ha' hd'=>?_⟩;by_cases e:j=qi
     ·subst e;rw[qaE o3] at ha';rw[qaE o3] at hd';cases ha'; cases hd'; exact hvs
     ·rw[qao (qbi e)] at ha' hd';exact g2 j a' d' ha' hd')
    (λd' hd'=>by
     rcases qdC hd' with h' | rfl
     ·exact hl d' h'
     ·simpa using hsz)
    (λp hpm=>by have:=hc p (by simp[hpm]); simpa using this) ⟨by simpa using hp.1,λj p' hj=>by have:=hp.2 (j+1) p' (by simpa using hj); simpa using this⟩
   refine⟨arr',ds',?_,h2,h3,h4⟩;unfold Instr.fill;simp only
   rw[qah (by simp[hsz]; omega)];exact h1
theorem oD {t:TypeId} {len:Nat} {parts:List (Nat×A)} {vparts:Array (Nat×Value)} {y:A} (h:bC P t len parts=some y) (hp:oQ H g w parts vparts.toList) :
  ∃ e es els arr' ds,y=.imm els true/\kE P t=some e/\cY P e=some es/\es≠0/\(Instr.buildSlice t len vparts).run P w=.ok (.slice (some ⟨w.heap.size,0,none⟩) len len) (w.alloc (.cells arr' e))/\els.length=len/\arr'.toList=ds.flatten/\bK H g w els ds/\∀ d∈ds,d.length=es:=by
 unfold bC at h;replace h:=bN h;obtain ⟨e,he,h⟩:=h;have hu:=lO he;replace h:=bN h;obtain ⟨es,hes,h⟩:=h;replace h:=bN h;obtain ⟨z,hz,h⟩:=h;replace h:=fq h;obtain ⟨h0,h⟩:=h;replace h:=bJ h;obtain ⟨hc,h⟩:=h;simp only[qbh,qbR,qa5,qag,qa6] at h0;obtain ⟨⟨h0,h1⟩,h2⟩:=h0;obtain ⟨it,v,hi,hv,rfl⟩:=il hz;obtain ⟨it',hi',hsz⟩:=iW hes;rw[hi] at hi'; cases hi';have hvs:v.cells.size=es:=by simpa using h1
 cases hse:ow (List.replicate len (v.cells.toList.map BF)) parts with
 | none=>rw[hse] at h; cases h
 | some els=>
  rw[hse] at h;cases h;have hz0:0<v.cells.size:=o3;have hall:∀ p∈parts,p.1<(List.replicate len (v.cells.toList.map BF)).length/\∃ xs,p.2.cells? = some xs/\xs.length=es:=λp hpm=>by
   have:=qak.1 hc p hpm;simp only[Z9,qag] at this;refine⟨by simpa using this.1,?_⟩;have h3:=this.2;split at h3
   ·rename_i xs hx; exact⟨xs,hx,by simpa using h3⟩
   ·cases h3
  have hrep:bK H g w (List.replicate len (v.cells.toList.map BF)) (List.replicate len v.cells.toList):=dh.2 ⟨r8,λi a d ha hd=>by
   rw[qbJ] at ha hd;split at ha
   ·rename_i hlt; rw[qaf hlt] at hd; cases ha; cases hd; exact kh _
   ·cases ha⟩
  obtain ⟨arr',ds',f1,f2,f3,f4⟩:=Ay (es:=es) (arr:=madeCells v.cells (len*es)) hse (by rw[<-hvs]; exact qc _ _ hz0) hrep (λd hd=>by rw[(qcG.1 hd).2]; simpa using hvs) hall hp;have hb:Below w.heap.size w (w.alloc (.cells arr' e)):=(Below.refl _ w).alloc (qab _) _;have hlen:els.length=len:=by
   have gen:∀ (parts:List (Nat×A)) (els els':List (List A)),ow els parts=some els'->els'.length=els.length:=by
    intro parts
    induction parts with
    | nil=>intro els els' h; simp only[ow,qaG] at h; rw[h]
    | cons p r ih=>
     intro els els' h;obtain ⟨i,x⟩:=p;simp only[ow] at h;obtain ⟨xs,_,h⟩:=bN h;rw[ih _ _ h]; simp
   rw[gen _ _ _ hse]; simp
  refine⟨e,es,els,arr',ds',rfl,he,hes,h0,?_,hlen,f2,f3,f4⟩;unfold Instr.buildSlice;have hsz':(sizeOf e).run P w=.ok es w:=fk hes w;have hbig:¬ (16777216<len*es):=o3;by_cases hle:len*es=0
  ·rw[hle] at f1;rw[show madeCells v.cells 0=#[] by simp[madeCells]] at f1;simp[qap hu,hsz',hle,show Array.range 0=#[] from rfl,f1,newRow,newObj];rfl
  ·unfold madeCells at f1;simp[qap hu,hsz',hle,hbig,zeroValue,typeInfo,hi,hv,f1,newRow,newObj];rfl
theorem rn (hr:Rel H g w0 w) {t:TypeId} {len:Nat} {parts:List (Nat×A)} {vparts:Array (Nat×Value)} {y:A} (h:bC P t len parts=some y) (hp:oQ H g w parts vparts.toList) :
  ∃ d w',(Instr.buildSlice t len vparts).run P w=.ok d w'/\Below w.heap.size w w'/\VR H g w' y d:=by
 obtain ⟨e,es,els,arr',ds',rfl,_,_,_,hrun,hlen,f2,f3,f4⟩:=oD h hp;have hb:Below w.heap.size w (w.alloc (.cells arr' e)):=(Below.refl _ w).alloc (qab _) _;refine⟨_,_,hrun,hb,?_⟩;rw[VR];have he:=Ext.below hr hb;refine⟨_,len,ds',es,by rw[hlen],o3,λ_=>hlen.symm,f4,λ_=>⟨w.heap.size,0,rfl,?_⟩,bK.ext he _ _ f3⟩;exact po hr (qbM w _) λj v hj=>by rw[<-f2] at hj; simpa using hj
theorem tJ (hr:Rel H g w0 w) {t:TypeId} {len:Nat} {parts:List (Nat×A)} {vparts:Array (Nat×Value)} {y:A} {H':Heap} (lo:Nat) (h:sv P t len parts H=some (y,H')) (hp:oQ H g w parts vparts.toList) :
  Step H g w0 w lo ((Instr.buildSlice t len vparts).run P w) y H':=by
 unfold sv at h;obtain ⟨e0,h1,h⟩:=bN h;obtain ⟨es0,h2,h⟩:=bN h;obtain ⟨y0,h3,h⟩:=bN h;obtain ⟨e,es,els,arr',ds',rfl,g1,g2,g3,hrun,hlen,f2,f3,f4⟩:=oD h3 hp;rw[h1] at g1; cases g1;rw[h2] at g2; cases g2;simp only[qaG,qcU] at h;obtain ⟨rfl,rfl⟩:=h;have hb:Below w.heap.size w (w.alloc (.cells arr' e0)):=(Below.refl _ w).alloc (qab _) _;obtain ⟨k1,k2⟩:=hr.push hb (.row true es0 els) (some w.heap.size) [] (λk hk=>by cases hk; exact⟨rfl,by show w.heap.size<(w.heap.push _).size; rw[Array.size_push]; exact qcy _⟩) (λhe=>⟨ds',bK.ext he _ _ f3,f4,λ_=>⟨w.heap.size,arr',e0,Gh.bQ _ _ _ _,qbM w _,λj v hj=>by rw[<-f2] at hj; simpa using hj⟩⟩);refine⟨_,_,_,hrun,k1,k2,?_,r8,λb _ hb=>qat hb,rfl⟩;rw[VR,fg];exact⟨r8,_,len,by rw[hlen],o3,λ_=>hlen.symm,λ_=>⟨w.heap.size,Gh.bQ _ _ _ _,r8⟩,λh=>by cases h⟩
theorem K3 {x:A} {c:Value} (h:VR H g w x c):VR H g w (wT x) c:=by
 cases x with
 | imm els cl=>
  simp only[wT]
  rw[VR] at h ⊢;obtain ⟨a,cap,ds,es,h1,h2,_,h4,h5,h6⟩:=h;exact⟨a,cap,ds,es,h1,h2,λh=>(by cases h),h4,h5,h6⟩
 | _=>exact h
theorem sb:∀ {cs:List A} {ds:List Value},bL H g w cs ds->bL H g w (cs.map wT) ds
 | [],_,h=>h
 | a :: as,_,h=>by
  rw[bL] at h;obtain ⟨d,ds',rfl,h1,h2⟩:=h;rw[qbc,bL];exact⟨d,ds',rfl,K3 h1,sb h2⟩
theorem uC (hr:Rel H g w0 w) {t:TypeId} {n c y:A} {cn cc:Value} {H':Heap} (h:jy P t n c H=some (y,H')) (hn:VR H g w n cn) (hc:VR H g w c cc):H'=H/\∃ d w',(Instr.makeSlice t cn cc).run P w=.ok d w'/\Below w.heap.size w w'/\VR H g w' y d:=by
 unfold jy at h;obtain ⟨e,he,h⟩:=bN h;have hu:=lO he;obtain ⟨es,hes,h⟩:=bN h;obtain ⟨by_,hby,h⟩:=bN h;obtain ⟨z,hz,h⟩:=bN h;obtain ⟨ni,hni,h⟩:=bN h;obtain ⟨ci,hci,h⟩:=bN h;obtain ⟨h0,h⟩:=fq h;simp only[qbh,qbR,qa5,qag,qa6] at h0;obtain ⟨⟨⟨⟨h0,h1⟩,h2⟩,h3⟩,h4⟩:=h0;cases h;obtain ⟨it,v,hi,hv,rfl⟩:=il hz;obtain ⟨it',hi',hsz⟩:=iW hes;rw[hi] at hi'; cases hi';have hvs:v.cells.size=es:=by simpa using h1
 have hbv:it.bytes=by_:=by unfold jS at hby; rw[hi] at hby; simpa using hby
 obtain ⟨kn,zn,rfl,hn0,rfl⟩:=qR hni hn;obtain ⟨kc,zc,rfl,hc0,rfl⟩:=qR hci hc;unfold dt at h2 h3;have hbz:(it.bytes:Int)*zc<=281474976710656:=by
  have:((zc.toNat*by_:Nat):Int)<=140737488355328:=o3;rw[qcH,qc0 hc0,qeg,<-hbv] at this;omega
 have hrun:=run_make (P:=P) w t e it v hu hi hv kn kc zn zc hn0 o3 hbz o3;have hb:Below w.heap.size w (w.alloc (.cells (madeCells v.cells (zc.toNat*it.size)) e)):=(Below.refl _ w).alloc (qab _) _;rw[hsz] at hrun hb;have hz0:0<v.cells.size:=o3;refine⟨rfl,_,_,hrun,hb,?_⟩;rw[VR];refine⟨_,zc.toNat,List.replicate zn.toNat v.cells.toList,es,r8,r9,λh=>(by cases h),λd hd=>by rw[(qcG.1 hd).2]; simpa using hvs,λ_=>⟨w.heap.size,0,rfl,?_⟩,dh.2 ⟨r8,λi a d ha hd=>?_⟩⟩
 ·exact po hr (qbM w _) λj x hj=>by rw[<-qaZ,<-hvs,qc _ _ hz0,<-h4]; exact hj
 ·rw[qbJ] at ha hd;split at ha
  ·rename_i hlt; rw[qaf hlt] at hd; cases ha; cases hd; exact sb (kh _)
  ·cases ha
theorem ml {ck:Bool} (hr:Rel H g w0 w) {t:TypeId} {n c y:A} {cn cc:Value} {H':Heap} (lo:Nat) (h:cR ck P t n c H=some (y,H')) (hn:VR H g w n cn) (hc:VR H g w c cc):Step H g w0 w lo ((Instr.makeSlice t cn cc).run P w) y H':=by
 unfold cR at h;replace h:=bN h;obtain ⟨e,he,h⟩:=h;have hu:=lO he;replace h:=bN h;obtain ⟨es,hes,h⟩:=h;replace h:=bN h;obtain ⟨by_,hby,h⟩:=h;replace h:=bN h;obtain ⟨z,hz,h⟩:=h;replace h:=bN h;obtain ⟨ni,hni,h⟩:=h;replace h:=bN h;obtain ⟨ci,hci,h⟩:=h;replace h:=fq h;obtain ⟨h0,h⟩:=h;simp only[qbh,qbR,qa5,qag,qa6] at h0;obtain ⟨⟨⟨⟨h0,h1⟩,h2⟩,h3⟩,h4⟩:=h0;obtain ⟨it,v,hi,hv,rfl⟩:=il hz;obtain ⟨it',hi',hsz⟩:=iW hes;rw[hi] at hi'; cases hi';have hvs:v.cells.size=es:=by simpa using h1
 have hbv:it.bytes=by_:=by unfold jS at hby; rw[hi] at hby; simpa using hby
 obtain ⟨kn,zn,rfl,hn0,rfl⟩:=qR hni hn;obtain ⟨kc,zc,rfl,hc0,rfl⟩:=qR hci hc;unfold dt at h2 h3;have hbz:(it.bytes:Int)*zc<=281474976710656:=by
  have:((zc.toNat*by_:Nat):Int)<=140737488355328:=o3;rw[qcH,qc0 hc0,qeg,<-hbv] at this;omega
 have hrun:=run_make (P:=P) w t e it v hu hi hv kn kc zn zc hn0 o3 hbz o3;have hb:Below w.heap.size w (w.alloc (.cells (madeCells v.cells (zc.toNat*it.size)) e)):=(Below.refl _ w).alloc (qab _) _;rw[hsz] at hrun hb;have hz0:0<v.cells.size:=o3;rw[bP] at h;split at h
 ·rename_i hnc;have hnc:zn.toNat=zc.toNat:=by simpa using hnc
  cases h;obtain ⟨r1,r2⟩:=hr.push hb (.row true es (List.replicate zn.toNat (bif ck then v.cells.toList.map BF else (v.cells.toList.map BF).map wT))) (some w.heap.size) [] (λk hk=>by cases hk; exact⟨rfl,r8⟩) (λhe'=>by
   refine⟨List.replicate zn.toNat v.cells.toList,dh.2 ⟨r8,λi a d ha hd=>?_⟩,λd hd=>by rw[(qcG.1 hd).2]; simpa using hvs,λ_=>⟨w.heap.size,_,e,Gh.bQ _ _ _ _,qbM w _,λj x hj=>?_⟩⟩
   ·rw[qbJ] at ha hd;split at ha
    ·rename_i hlt; rw[qaf hlt] at hd; cases ha; cases hd; cases ck; exact sb (kh _); exact kh _
    ·cases ha
   ·rw[<-qaZ,<-hvs,qc _ _ hz0,<-hnc]; exact hj)
  refine⟨_,_,_,hrun,r1,r2,?_,r8,ke _ _ _,rfl⟩;rw[VR,fg];refine⟨r8,_,zc.toNat,rfl,o3,λ_=>o3,λ_=>⟨w.heap.size,Gh.bQ _ _ _ _,r8⟩,λ_ _ _ hlt=>o3⟩
 ·rw[bP] at h;split at h
  ·rename_i hn00;have hn00:zn.toNat=0:=by simpa using hn00
   cases h;obtain ⟨r1,r2⟩:=hr.push hb (.row false es []) (some w.heap.size) [] (λk hk=>by cases hk; exact⟨rfl,r8⟩) (λhe'=>by
    refine⟨?_,?_⟩
    ·rw[Gh.iG,bK]
    ·rw[Gh.iG]; simp)
   refine⟨_,_,_,hrun,r1,r2,?_,r8,ke _ _ _,rfl⟩;rw[VR,fg];refine⟨r8,_,zc.toNat,by rw[hn00],o3,λh=>(by cases h),λh=>absurd h r8,λ_ _ _ _=>⟨w.heap.size,_,e,Gh.bQ _ _ _ _,rfl,qbM w _,by rw[size_madeCells]; exact qab _⟩⟩
  ·cases h
end
section
open Go.RowKit
variable {P:Program} {H:Heap} {g:Gh} {w0 w:World}
theorem qW {t:TypeId} (h:mS P t=true):P.underlying t=some .string∨∃ e,P.underlying t=some (.slice e):=by
 unfold mS at h;split at h
 ·rename_i e hu; exact .inr ⟨e,hu⟩
 ·rename_i hu; exact .inl hu
 ·cases h
theorem qT {t:TypeId} (h:yW P t=true):∃ k,P.underlying t=some (.int k):=by
 unfold yW at h;split at h
 ·rename_i k hu; exact⟨k,hu⟩
 ·cases h
def Src (P:Program) (t2:TypeId) (i:TypeInfo) (c:Value) (m:Nat) (news:List Value) (w w2:World):Prop:=
 (mS P t2=true/\(Builtin.lenOf c).run P w=.ok m w/\(Builtin.firstCells i.size m c).run P w2=.ok news.toArray w2)∨∃ z,yW P t2=true/\c=.int .i64 (m:Int)/\i.zero=some z/\m*i.bytes<=281474976710656/\m<=140737488355328/\i.size≠0/\news.toArray=Builtin.zeroCells z.cells m
set_option maxHeartbeats 800000 in
theorem nG {t t2 ty e:TypeId} {i:TypeInfo} (ht:P.underlying t=some (.slice e)) (hi:P.info? e=some i) {a:Addr} {n cap m:Nat} {c:Value} {news:List Value} (h2:Src P t2 i c m news w w) (hroom:n+m<=cap):(Builtin.append_ #[t,t2] ty #[.slice (some a) n cap,c]).run P w=((storeCells (a.add (n*i.size)) news).run P w).andThen λ_ w'=>.ok (.slice (some a) (n+m) cap) w':=by
 rcases h2 with ⟨h2,hlen,hf⟩ | ⟨z,h2,rfl,hz,h3,h4,h6,h5⟩
 ·have hd:=qW h2;rcases hd with hd | ⟨e2,hd⟩<;>simp[Builtin.append_,qap ht,qap hd,sizeOf,typeInfo,hi,hlen,hf,hroom]
 ·obtain ⟨k,hd⟩:=qT h2;have hw:IntKind.i64.wrap (m:Int)=(m:Int):=by simp only[IntKind.wrap,IntKind.bits,IntKind.signed]; simp; omega
  have hb:¬ (281474976710656<(m:Int)*(i.bytes:Int)):=by rw[<-qcH]; omega
  have hn0:¬ ((m:Int)<0):=o3;have e5:news=(Builtin.zeroCells z.cells m).toList:=by rw[<-h5]
  by_cases hm:m=0
  ·subst hm;have:news=[]:=by rw[e5]; simp[Builtin.zeroCells]
   subst this;have hroom':n<=cap:=o3;have hw0:IntKind.i64.wrap (0:Int)=(0:Int):=by decide
   simp[Builtin.append_,qap ht,qap hd,sizeOf,typeInfo,zeroValue,asInt,asIntOf,hi,hz,hroom',hw0]
  ·have hms:¬ (m*i.size=0):=Nat.mul_ne_zero hm h6;simp[Builtin.append_,qap ht,qap hd,sizeOf,typeInfo,zeroValue,asInt,asIntOf,hi,hz,hroom,hw,hb,hn0,e5];intro h0; exact absurd h0 hms
set_option maxHeartbeats 800000 in
theorem sX {t t2 ty e:TypeId} {i:TypeInfo} (ht:P.underlying t=some (.slice e)) (hi:P.info? e=some i) {n cap:Nat} {base:Option Addr} {c:Value} (h2:Src P t2 i c 0 [] w w) (hroom:n<=cap):(Builtin.append_ #[t,t2] ty #[.slice base n cap,c]).run P w=.ok (.slice base n cap) w:=by
 rcases h2 with ⟨h2,hlen,hf⟩ | ⟨z,h2,rfl,hz,h3,h4,h6,h5⟩
 ·have hd:=qW h2;rcases hd with hd | ⟨e2,hd⟩<;>cases base<;>simp[Builtin.append_,qap ht,qap hd,sizeOf,typeInfo,hi,hlen,hf,hroom,storeCells]
 ·obtain ⟨k,hd⟩:=qT h2;have hw:IntKind.i64.wrap (0:Int)=(0:Int):=by decide
  cases base<;>simp[Builtin.append_,qap ht,qap hd,sizeOf,typeInfo,zeroValue,asInt,asIntOf,hi,hz,hroom,hw,storeCells]
set_option maxHeartbeats 800000 in
theorem nF {t t2 ty e:TypeId} {i:TypeInfo} {z:Value} (ht:P.underlying t=some (.slice e)) (hi:P.info? e=some i) (hz:i.zero=some z) {base:Option Addr} {n cap m:Nat} {c:Value} {news olds:List Value} (h2:Src P t2 i c m news w w.drew)
  (hfo:(Builtin.firstCells i.size n (.slice base n cap)).run P w.drew=.ok olds.toArray w.drew) (hg:cap<n+m) (h63:n+m<=9223372036854775807) (hfit:Builtin.nextslicecap (n+m) cap*i.bytes<=281474976710656) :
  (Builtin.append_ #[t,t2] ty #[.slice base n cap,c]).run P w=.ok (.slice (some ⟨w.heap.size,0,none⟩) (n+m) (grownCap w (n+m) cap e)) (w.drew.alloc (.cells (olds.toArray++news.toArray++Builtin.zeroCells z.cells (grownCap w (n+m) cap e - (n+m))) e)):=by
 have hn:¬ (n+m<=cap):=o3;have h63':¬ (9223372036854775807<((n:Int)+(m:Int))):=o3;have h48':¬ (281474976710656<Builtin.nextslicecap (n+m) cap*i.bytes):=o3;rcases h2 with ⟨h2,hlen,hf⟩ | ⟨z',h2,rfl,hz',h3,h4,h6,h5⟩
 ·have hd:=qW h2;rcases hd with hd | ⟨e2,hd⟩
  all_goals
   simp[Builtin.append_,qap ht,qap hd,sizeOf,typeInfo,zeroValue,hi,hz,hlen,hn,h63',h48',Question.forced,hf,hfo,newRow,grownCap];congr 2;apply qcc;simp[qaV]
 ·obtain ⟨k,hd⟩:=qT h2;rw[hz] at hz'; cases hz';have hw:IntKind.i64.wrap (m:Int)=(m:Int):=by simp only[IntKind.wrap,IntKind.bits,IntKind.signed]; simp; omega
  have hb:¬ (281474976710656<(m:Int)*(i.bytes:Int)):=by rw[<-qcH]; omega
  have hn0:¬ ((m:Int)<0):=o3;have e5:news=(Builtin.zeroCells z.cells m).toList:=by rw[<-h5]
  have hmax:IntKind.i64.max=9223372036854775807:=by decide
  have h63m:¬ (IntKind.i64.max<((n:Int)+(m:Int))):=by rw[hmax]; exact h63'
  by_cases hm:m=0
  ·subst hm;have:news=[]:=by rw[e5]; simp[Builtin.zeroCells]
   subst this;have hw0:IntKind.i64.wrap (0:Int)=(0:Int):=by decide
   have hn':¬ (n<=cap):=o3;have g63:¬ (9223372036854775807<(n:Int)):=o3;have g48:¬ (281474976710656<Builtin.nextslicecap n cap*i.bytes):=h48';simp[Builtin.append_,qap ht,qap hd,sizeOf,typeInfo,zeroValue,asInt,asIntOf,hi,hz,hw0,hn',g63,g48,hfo,Question.forced,newRow,grownCap]
  ·simp[Builtin.append_,qap ht,qap hd,sizeOf,typeInfo,zeroValue,asInt,asIntOf,hi,hz,hw,hb,hn0,e5,hn,h63',h63m,h48',Question.forced,hfo,newRow,grownCap];intro h0; exact absurd h0 (Nat.mul_ne_zero hm h6)
theorem wS {ds:List (List Value)} {m:Nat} {j:Nat} {v:Value} (h:(ds.take m).flatten[j]? = some v):ds.flatten[j]? = some v:=by
 have:ds.flatten=(ds.take m).flatten++(ds.drop m).flatten:=ZU;rw[this,qat (qad.1 h).1];exact h
theorem Ek (hr:Rel H g w0 w) {y:A} {ys:List (List A)} {c:Value} {es:Nat} (h:els? H y=some ys) (hy:VR H g w y c) (hes:∀ cs∈ys,cs.length=es) :
  ∃ ds,bK H g w ys ds/\(∀ d∈ds,d.length=es)/\∀ w',(∀ a,w'.cell? a=w.cell? a)->(Builtin.lenOf c).run P w'=.ok ys.length w'/\∀ m,m<=ys.length->(Builtin.firstCells es m c).run P w'=.ok (ds.take m).flatten.toArray w':=by
 have lens:∀ {ds:List (List Value)},bK H g w ys ds->∀ d∈ds,d.length=es:=λ{ds} hv d hd=>by
  obtain ⟨i,hi,rfl⟩:=qa2 hd;have hl:=hv.length;obtain ⟨d',hd',hv'⟩:=hv.get (i:=i) (Z7 o3);rw[Z7 hi] at hd';cases hd';rw[hv'.length];exact hes _ (qaB _)
 rcases xf hr h hy with ⟨s,rfl,rfl⟩ | ⟨a,cap,ds,es',rfl,h2,h3,h4,h5⟩
 ·simp only[els?,qaG] at h;have hv:bK H g w ys (s.data.toList.map λb=>[.int .u8 b.toNat]):=by
   rw[<-h];refine dh.2 ⟨r8,λi a d ha hd=>?_⟩;simp only[qaO,qa0] at ha hd;obtain ⟨b,hb,rfl⟩:=ha;obtain ⟨b',hb',rfl⟩:=hd;rw[hb] at hb'; cases hb';rw[bL]; exact⟨_,[],rfl,y9,An⟩
  have hn:ys.length=s.size:=by rw[<-h,qbH,qcB]; rfl
  refine⟨_,hv,lens hv,λw' _=>⟨by rw[hn]; rfl,λm hm=>?_⟩⟩;have e:(Array.map (λb:UInt8=>Value.int IntKind.u8 (b.toNat:Int)) (s.extract 0 m).data)=((s.data.toList.map λb=>[Value.int .u8 (b.toNat:Int)]).take m).flatten.toArray:=by
   rw[<-qcp,pj];apply qcc;simp[ByteArray.data_extract,qcp]
  simp only[Builtin.firstCells]
  rw[e];rfl
 ·refine⟨ds,h4,lens h4,λw' hw'=>⟨rfl,λm hm=>?_⟩⟩;have hl:=h4.length;cases a with
  | none=>
   have:ys.length=0:=by
    by_cases hp:0<ys.length
    ·obtain ⟨k,off,e1,_⟩:=h5 hp; cases e1
    ·omega
   obtain rfl:m=0:=o3;simp[Builtin.firstCells]
  | some a=>
   refine qbO (P:=P) w' es m a _ cap _ (iB (lens h4) o3) λj v hj=>?_;rw[hw'];by_cases hp:0<ys.length
   ·obtain ⟨k,off,e1,hc⟩:=h5 hp;cases e1;rw[qbx];exact hc j v (wS hj)
   ·obtain rfl:m=0:=by omega
    simp at hj
theorem bK.one {els:List (List A)} {ds:List (List Value)} (h:bK H g w els ds) (hc:∀ cs∈els,∀ a∈cs,a.cell=true):∀ x∈ds.flatten,x.oneCell'=true:=λx hx=>by
 obtain ⟨d,hd,hxd⟩:=qdH.1 hx;obtain ⟨i,hi,rfl⟩:=qa2 hd;have hl:=h.length;obtain ⟨d',hd',hv'⟩:=h.get (i:=i) (Z7 o3);rw[Z7 hi] at hd';cases hd';obtain ⟨j,hj,rfl⟩:=qa2 hxd;have hl':=hv'.length;obtain ⟨x',hx',hvx⟩:=hv'.get (i:=j) (Z7 o3);rw[Z7 hj] at hx';cases hx';exact uM (hc _ (qaB _) _ (qaB _)) hvx
def isCells:Obj->Bool
 | .cells ..=>true
 | _=>false
theorem Rel.grow (hr:Rel H g w0 w) {b es:Nat} {els new:List (List A)} (hB:H[b]? = some (.row false es els)) {w':World} {γ:List (List Value)} {ko:Option Nat} (hbelow:Below w0.heap.size w w')
  (hcell:∀ k o v,ft H g k o->w.cell? ⟨k,o,none⟩=some v->w'.cell? ⟨k,o,none⟩=some v)
  (hobj:∀ k,k<w.heap.size->g.mu b≠some k->w'.heap[k]? = w.heap[k]?) (hkept:∀ (k:Nat) (o:Obj),w.heap[k]? = some o->isCells o=false->w'.heap[k]? = some o) (hsize:w.heap.size<=w'.heap.size)
  (hnew:bK (H.set b (.row false es (els++new))) (g.put b ko (g.ga b++γ)) w' new γ∨bK H g w new γ) (hγ:∀ d∈γ,d.length=es)
  (hko:(ko=g.mu b/\∀ k arr ty,g.mu b=some k->w.heap[k]? = some (.cells arr ty (0,0))->∃ arr',w'.heap[k]? = some (.cells arr' ty (0,0))/\arr.size<=arr'.size)∨(ko=some w.heap.size/\w.heap.size<w'.heap.size/\new≠[])) :
  Rel (H.set b (.row false es (els++new))) (g.put b ko (g.ga b++γ)) w0 w'/\Ext H g w (H.set b (.row false es (els++new))) (g.put b ko (g.ga b++γ)) w':=by
 have hlt:b<H.length:=(qad.1 hB).1;have hlen:=(hr.blk b _ hB).len;have hother:∀ c k,c≠b->g.mu c=some k->w'.heap[k]? = w.heap[k]?:=λc k hc hk=>hobj k (hr.dom c k hk).2.2 λh=>hc (hr.inj c b k hk h);have hkb:∀ k,ko=some k->g.mu b=some k∨k=w.heap.size:=λk hk=>by
  rcases hko with ⟨h1,_⟩ | ⟨h1,_⟩
  ·exact .inl (h1 ▸ hk)
  ·rw[h1] at hk; cases hk; exact .inr rfl
 have he:Ext H g w (H.set b (.row false es (els++new))) (g.put b ko (g.ga b++γ)) w':=by
  refine⟨λk o v hs hc=>⟨hcell k o v hs hc,hs.1,λc hck=>?_⟩,λc C hC=>?_,λk x h=>hkept k _ h rfl,hsize,λk arr cl hs hm=>⟨hkept k _ hm rfl,hs.1,λc hck=>?_⟩,λk hk hn=>hobj k hk (hn b),λc k h=>?_⟩
  rotate_right 1
  ·by_cases e:c=b
   ·subst e;rw[Gh.bQ] at h;rcases hkb k h with h1 | h1
    ·exact .inl ⟨c,h1⟩
    ·exact .inr (qc3 h1.symm)
   ·exact .inl ⟨c,by rwa [Gh.aL _ _ _ e] at h⟩
  ·by_cases e:c=b
   ·subst e;rw[Gh.bQ] at hck;refine⟨es,els++new,by rw[qaE hlt],?_⟩;rcases hkb k hck with h1 | rfl
    ·obtain ⟨es',els',h2,h3⟩:=hs.2 c h1;rw[hB] at h2; cases h2;have:=qb0 es (show els.length<=(els++new).length by simp);omega
    ·exact absurd (qbW w ⟨_,o,none⟩ hc) r8
   ·rw[Gh.aL _ _ _ e] at hck;obtain ⟨es',els',h2,h3⟩:=hs.2 c hck;exact⟨es',els',by rw[qao (qbi e)]; exact h2,h3⟩
  ·by_cases e:c=b
   ·subst e;rw[hB] at hC; cases hC;refine⟨.row false es (els++new),by rw[qaE hlt],rfl,⟨γ,Gh.iG _ _ _ _⟩,hlen,r8,λhl=>?_⟩;have hn0:new=[]:=by simpa using hl
    rcases hko with ⟨h1,h2⟩ | ⟨_,_,h3⟩
    ·exact⟨by rw[Gh.bQ,h1],h2⟩
    ·exact absurd hn0 h3
   ·refine⟨C,by rw[qao (qbi e)]; exact hC,?_⟩;cases C with
    | box _=>exact Gh.aL _ _ _ e
    | row wr es' els'=>cases wr with
     | true=>exact⟨rfl,rfl,Gh.aL _ _ _ e,λk arr ty hk ha=>⟨arr,(hother c k e hk).trans ha,qab _⟩⟩
     | false=>exact⟨rfl,⟨[],by rw[Gh.fm _ _ _ e]; simp⟩,(hr.blk c _ hC).len,qab _,λ_=>⟨Gh.aL _ _ _ e,λk arr ty hk ha=>⟨arr,(hother c k e hk).trans ha,qab _⟩⟩⟩
    | rng _=>exact⟨Gh.aL _ _ _ e,rfl⟩
    | mp _ _ _=>exact Gh.aL _ _ _ e
    | dead=>trivial
    | hole=>trivial
  ·by_cases e:c=b
   ·subst e;rw[Gh.bQ] at hck;refine⟨es,els++new,by rw[qaE hlt],?_⟩;rcases hkb k hck with h1 | rfl
    ·obtain ⟨es',els',h2,h3⟩:=hs.2 c h1;rw[hB] at h2; cases h2;have:=qb0 es (show els.length<=(els++new).length by simp);omega
    ·exact absurd (qaj.1 hm).1 r8
   ·rw[Gh.aL _ _ _ e] at hck;obtain ⟨es',els',h2,h3⟩:=hs.2 c hck;exact⟨es',els',by rw[qao (qbi e)]; exact h2,h3⟩
 have hsz:=hbelow.size;refine⟨⟨hr.below.trans hbelow,λc k hck=>?_,λc d k h1 h2=>?_,hr.A5 he,hr.zo he,λc C hC=>?_⟩,he⟩
 ·by_cases e:c=b
  ·subst e;rw[Gh.bQ] at hck;rcases hko with ⟨h1,_⟩ | ⟨h1,h2,_⟩
   ·have:=hr.dom c k (h1 ▸ hck);exact⟨by simpa using this.1,this.2.1,o3⟩
   ·rw[h1] at hck; cases hck;exact⟨by simpa using hlt,hr.below.size,h2⟩
  ·rw[Gh.aL _ _ _ e] at hck;have:=hr.dom c k hck;exact⟨by simpa using this.1,this.2.1,o3⟩
 ·by_cases e:c=b
  ·by_cases e':d=b
   ·rw[e,e']
   ·subst e;rw[Gh.bQ] at h1;rw[Gh.aL _ _ _ e'] at h2;rcases hkb k h1 with h | rfl
    ·exact hr.inj _ _ k h h2
    ·have:=(hr.dom d _ h2).2.2; omega
  ·by_cases e':d=b
   ·subst e';rw[Gh.bQ] at h2;rw[Gh.aL _ _ _ e] at h1;rcases hkb k h2 with h | rfl
    ·exact hr.inj _ _ k h1 h
    ·have:=(hr.dom c _ h1).2.2; omega
   ·rw[Gh.aL _ _ _ e] at h1;rw[Gh.aL _ _ _ e'] at h2;exact hr.inj c d k h1 h2
 ·by_cases e:c=b
  ·subst e;rw[qaE hlt] at hC; cases hC;obtain ⟨h1,h2⟩:=hr.blk c _ hB;refine⟨?_,?_⟩
   ·rw[Gh.iG];exact(bK.ext he _ _ h1).append (hnew.elim id (λh=>bK.ext he _ _ h))
   ·rw[Gh.iG];intro d hd;rcases qa8.1 hd with hd | hd
    ·exact h2 d hd
    ·exact hγ d hd
  ·rw[qao (qbi e)] at hC;have h:=hr.blk c C hC;cases C with
   | box cs=>obtain ⟨k,arr,ty,h1,h2,h3⟩:=h; exact⟨k,arr,ty,(Gh.aL _ _ _ e).trans h1,(hother c k e h1).trans h2,bL.ext he _ _ h3⟩
   | row wr es' els'=>cases wr with
    | true=>
     obtain ⟨ds,h1,h2,h3⟩:=h;exact⟨ds,bK.ext he _ _ h1,h2,λhp=>let ⟨k,arr,ty,e1,e2,e3⟩:=h3 hp; ⟨k,arr,ty,(Gh.aL _ _ _ e).trans e1,(hother c k e e1).trans e2,e3⟩⟩
    | false=>
     obtain ⟨h1,h2⟩:=h;refine⟨?_,?_⟩
     ·rw[Gh.fm _ _ _ e]; exact bK.ext he _ _ h1
     ·rw[Gh.fm _ _ _ e]; exact h2
   | rng st=>obtain ⟨k,h1,h2⟩:=h; exact⟨k,(Gh.aL _ _ _ e).trans h1,(hother c k e h1).trans h2⟩
   | mp _ _ _=>obtain ⟨k,arr,cl,h1,h2,h3,h4⟩:=h; exact⟨k,arr,cl,(Gh.aL _ _ _ e).trans h1,(hother c k e h1).trans h2,h3,bL.ext he _ _ h4⟩
   | dead=>exact(Gh.aL _ _ _ e).trans h
   | hole=>exact(Gh.aL _ _ _ e).trans h
theorem wD (hr:Rel H g w0 w) {t t2 ty:TypeId} {wr:Bool} {x y z:A} {cx cy:Value} {H':Heap} {lo:Nat} (h:bU P t t2 wr x y H lo=some (z,H')) (hx:VR H g w x cx) (hy:VR H g w y cy):Step H g w0 w lo ((Builtin.append_ #[t,t2] ty #[cx,cy]).run P w) z H':=by
 unfold bU at h;replace h:=bN h;obtain ⟨e,he,h⟩:=h;have hu:=lO he;replace h:=bN h;obtain ⟨es,hes,h⟩:=h;replace h:=bN h;obtain ⟨by_,hby,h⟩:=h;replace h:=bN h;obtain ⟨zz,hz,h⟩:=h;replace h:=bN h;obtain ⟨ys,hys,h⟩:=h;replace h:=fq h;obtain ⟨h0,h⟩:=h;simp only[qbh,qbR,qa5,qa6] at h0;obtain ⟨⟨⟨h0,hb0⟩,h1⟩,h3⟩:=h0;obtain ⟨it,v,hi,hv,rfl⟩:=il hz;obtain ⟨it',hi',hsz⟩:=iW hes;rw[hi] at hi'; cases hi';have hvs:v.cells.size=es:=by simpa using h1
 have hbv:it.bytes=by_:=by unfold jS at hby; rw[hi] at hby; simpa using hby
 have hys3:∀ cs∈ys,cs.length=es/\∀ a∈cs,a.cell=true:=λcs hcs=>by
  have:=qak.1 h3 cs hcs;simp only[Z9,qa5] at this;exact⟨this.1,qak.1 this.2⟩
 obtain ⟨ds,hvd,hld,hsA,hsB⟩:∃ ds,bK H g w ys ds/\(∀ d∈ds,d.length=es)/\Src P t2 it cy ys.length ds.flatten w w/\Src P t2 it cy ys.length ds.flatten w w.drew:=by
  unfold Cf at hys;rw[bP] at hys;split at hys
  ·rename_i hn;obtain ⟨ds,hvd,hld,hsrc⟩:=Ek (P:=P) hr hys hy (λcs hcs=>(hys3 cs hcs).1);obtain ⟨hlen,hfirst⟩:=hsrc w (λ_=>rfl);obtain ⟨_,hfirstd⟩:=hsrc w.drew (λ_=>r8);have hdl:=hvd.length;have hall:(ds.take ys.length).flatten=ds.flatten:=by rw[qaK o3]
   have hf:=hfirst ys.length (qab _);have hfd:=hfirstd ys.length (qab _);rw[hall,<-hsz] at hf hfd;exact⟨ds,hvd,hld,.inl ⟨hn,hlen,hf⟩,.inl ⟨hn,hlen,hfd⟩⟩
  ·split at hys
   ·rename_i n;replace hys:=bJ hys;obtain ⟨hc,hys⟩:=hys;simp only[Z9,qag] at hc;obtain ⟨⟨⟨c1,c2⟩,c3⟩,c4⟩:=hc;cases hys;rw[VR] at hy;subst hy;unfold dt at c3 c4;have hz0:0<v.cells.size:=o3;have hb:n.toNat*it.bytes<=281474976710656:=by
     rw[hbv];have:((n.toNat*by_:Nat):Int)<=140737488355328:=by rw[qcH,qc0 c2]; exact c3
     omega
    have hsrc:∀ w',Src P t2 it (.int .i64 n) (List.replicate n.toNat ((v.cells.toList.map BF).map wT)).length (List.replicate n.toNat v.cells.toList).flatten w w':=λw'=>by
     rw[qb5];refine .inr ⟨v,c1,by rw[qc0 c2],hv,hb,o3,o3,?_⟩;rw[<-qc v.cells n.toNat hz0];rfl
    refine⟨List.replicate n.toNat v.cells.toList,dh.2 ⟨r8,λi a d ha hd=>?_⟩,λd hd=>by rw[(qcG.1 hd).2]; simpa using hvs,hsrc w,hsrc w.drew⟩;rw[qbJ] at ha hd;split at ha
    ·rename_i hlt; rw[qaf hlt] at hd; cases ha; cases hd; exact sb (kh _)
    ·cases ha
   ·cases hys
 have hdl:=hvd.length;have hone:=hvd.one (λcs hcs=>(hys3 cs hcs).2);have hfl:ds.flatten.length=ys.length*es:=by rw[cE hld,hdl]
 have small:∀ {n:Nat},(n+ys.length)*by_<=dt->n+ys.length<=9223372036854775807/\(n+ys.length)*it.bytes<=140737488355328:=λ{n} hl=>by
  unfold dt at hl;refine⟨?_,by rw[hbv]; exact hl⟩;have:(n+ys.length)*1<=(n+ys.length)*by_:=qb0 _ o3;omega
 have zero:∀ {n cap:Nat} {base:Option Addr},cx=.slice base n cap->n<=cap->ys.length=0->(Builtin.append_ #[t,t2] ty #[cx,cy]).run P w=.ok cx w:=λ{n cap base} hc hle hy0=>by
  subst hc;have hd0:ds=[]:=qaw o3;rw[hy0,hd0] at hsA;exact sX hu hi hsA hle
 have grows:∀ {n cap:Nat} {base:Option Addr} {olds:List Value},cx=.slice base n cap->cap<n+ys.length->(n+ys.length)*by_<=dt->olds.length=n*es->(Builtin.firstCells es n (.slice base n cap)).run P w.drew=.ok olds.toArray w.drew ->
   ∃ c2 arr,(Builtin.append_ #[t,t2] ty #[cx,cy]).run P w=.ok (.slice (some ⟨w.heap.size,0,none⟩) (n+ys.length) c2) (w.drew.alloc (.cells arr e))/\n+ys.length<=c2/\c2*es<=arr.size/\∀ (j:Nat) x,(olds++ds.flatten)[j]? = some x->arr[j]? = some x:=λ{n cap base olds} hc hlt hl hol hfo=>by
  subst hc;obtain ⟨s1,s2⟩:=small hl;have hrun:=nF (P:=P) (ty:=ty) hu hi hv hsB (by rw[hsz]; exact hfo) hlt s1 (qd0 hlt s2);refine⟨_,_,hrun,qdt w _ _ _,?_,λj x hj=>?_⟩
  ·have:=qdt w (n+ys.length) cap e;simp only[qdA,List.size_toArray,size_zeroCells,hvs,hol,hfl]
   rw[<-qbk,<-qbk];exact qbV _ o3
  ·have hlt:=(qad.1 hj).1;rw[qbK (by simpa using hlt)];have:(olds.toArray++ds.flatten.toArray)[j]? = (olds++ds.flatten)[j]?:=r8;rw[this]; exact hj
 have hbd:∀ arr,Below w.heap.size w (w.drew.alloc (.cells arr e)):=λarr=>((Below.refl _ w).drew).alloc (qab _) _;have hnew:∀ arr,(w.drew.alloc (.cells arr e)).heap[w.heap.size]? = some (.cells arr e (0,0)):=λarr=>qbM w.drew _;have fresh:∀ {n:Nat} {a:Option Addr} {xs:List (List A)} {xds:List (List Value)},cx=.slice a n n->xs.length=n->bK H g w xs xds->(∀ d∈xds,d.length=es)->(0<n->∃ k off,a=some ⟨k,off,none⟩/\bS H g w k off xds.flatten)->(n+ys.length)*by_<=dt ->
   Step H g w0 w lo ((Builtin.append_ #[t,t2] ty #[cx,cy]).run P w) (.sl H.length 0 (n+ys.length) false) (H++[.row false es (xs++ys)]):=λ{n a xs xds} hc hxl hxv hxd hcell hl=>by
  have hxdl:=hxv.length;have hlens:∀ d∈xds++ds,d.length=es:=λd hd=>(qa8.1 hd).elim (hxd d) (hld d);have hall2:((xds++ds).drop 0).take (n+ys.length)=xds++ds:=by rw[qaM,qaK r9]
  have hblk:∀ {ko:Option Nat} {w':World},Ext H g w (H++[.row false es (xs++ys)]) (g.put H.length ko (xds++ds)) w'->nL (H++[.row false es (xs++ys)]) (g.put H.length ko (xds++ds)) w' H.length (.row false es (xs++ys)):=λ{ko w'} he'=>
   ⟨by rw[Gh.iG]; exact(bK.ext he' _ _ hxv).append (bK.ext he' _ _ hvd),by rw[Gh.iG]; exact hlens⟩
  by_cases hy0:ys.length=0
  ·have hyn:ys=[]:=qaw hy0;have hdn:ds=[]:=qaw o3;obtain ⟨r1,r2⟩:=hr.push (Below.refl _ _) (.row false es (xs++ys)) none (xds++ds) (λk hk=>by cases hk) (λhe'=>hblk he');refine⟨_,_,_,zero hc (qab _) hy0,r1,r2,?_,r8,ke _ _ _,rfl⟩;rw[VR,fg,Gh.iG,hall2];refine⟨r9,a,n,by rw[hc,hy0]; rfl,o3,λh=>(by cases h),λhp=>?_,λ_ _ _ h=>absurd h o3⟩;obtain ⟨k,off,e1,e2⟩:=hcell o3;exact⟨k,off,e1,by rw[hdn,qaW] at r2 ⊢; exact e2.ext r2⟩
  ·have hfo:(Builtin.firstCells es n (.slice a n n)).run P w.drew=.ok xds.flatten.toArray w.drew:=by
    cases a with
    | none=>
     have hn0:n=0:=by
      by_cases hp:0<n
      ·obtain ⟨k,off,e1,_⟩:=hcell hp; cases e1
      ·omega
     have:xds=[]:=qaw o3;subst this;subst hn0;simp[Builtin.firstCells]
    | some a=>
     refine qbO (P:=P) w.drew es n a n n _ (by rw[cE hxd,hxdl,hxl]) λj x hj=>?_;by_cases hp:0<n
     ·obtain ⟨k,off,e1,hcc⟩:=hcell hp;cases e1;rw[qbx]; exact(hcc j x hj).1
     ·have:xds=[]:=qaw o3;subst this;simp at hj
   obtain ⟨c2,arr,hrun,k1,k2,k3⟩:=grows (olds:=xds.flatten) hc o3 hl (by rw[cE hxd,hxdl,hxl]) hfo;obtain ⟨r1,r2⟩:=hr.push (hbd arr) (.row false es (xs++ys)) (some w.heap.size) (xds++ds) (λk hk=>by cases hk; exact⟨rfl,r8⟩) (λhe'=>hblk he');refine⟨_,_,_,hrun,r1,r2,?_,r8,ke _ _ _,rfl⟩;rw[VR,fg,Gh.iG,hall2];refine⟨r9,_,c2,rfl,k1,λh=>(by cases h),λ_=>⟨w.heap.size,0,rfl,λj x hj=>?_⟩,λ_ _ _ _=>⟨w.heap.size,arr,e,Gh.bQ _ _ _ _,rfl,hnew arr,k2⟩⟩;refine⟨by rw[qaU,qbL _ _ j arr e (0,0) (hnew arr)]; exact k3 j x (by rw[<-qbY]; exact hj),hr.out _ _ (qab _),λb hb=>?_⟩;have hbe:b=H.length:=by
    by_cases e':b=H.length
    ·exact e'
    ·rw[Gh.aL _ _ _ e'] at hb; exact absurd (hr.dom b _ hb).2.2 (qcg _)
   subst hbe;refine⟨es,xs++ys,fg _ _,?_⟩;have:=(qad.1 hj).1;rw[cE hlens,qby] at this;simp only[qar] at this ⊢;rw[hxdl,hdl] at this;omega
 split at h
 ·rename_i xs;replace h:=fq h;obtain ⟨hl,h⟩:=h;have hl:(xs.length+ys.length)*by_<=dt:=by simpa using hl
  rw[VR] at hx;obtain ⟨a,cap,xds,xes,rfl,g1,g2,g3,g4,g5⟩:=hx;have hcap:=g2 rfl;subst hcap;rw[bP] at h;split at h
  ·rename_i hemp;simp only[Z9] at hemp;obtain ⟨hwr,hemp⟩:=hemp;subst hwr;have hx0:xs=[]:=by simpa using hemp
   subst hx0;cases h;by_cases hy0:ys.length=0
   ·have hyn:ys=[]:=qaw hy0;subst hyn;have hdn:ds=[]:=qaw (by simpa using hdl);subst hdn;have hrun:=zero rfl r8 rfl;obtain ⟨r1,r2⟩:=hr.push (Below.refl _ _) (.row true es []) none [] (λk hk=>by cases hk) (λ_=>⟨[],by rw[bK],r8,r8⟩);refine⟨_,_,_,hrun,r1,r2,?_,r8,ke _ _ _,rfl⟩;rw[VR,fg];exact⟨r8,a,0,rfl,qab _,λ_=>rfl,λh=>absurd h r8,λ_ _ _ hlt=>absurd hlt (qcg _)⟩
   ·obtain ⟨c2,arr,hrun,k1,k2,k3⟩:=grows (olds:=[]) rfl r9 hl r8 (by
     cases a with
     | none=>simp[Builtin.firstCells]
     | some a=>exact qbO (P:=P) w.drew es 0 a 0 _ [] r8 (λj v hj=>by simp at hj))
    simp only[qaq,qaU,qbd] at hrun k1 k3;obtain ⟨r1,r2⟩:=hr.push (hbd arr) (.row true es ys) (some w.heap.size) [] (λk hk=>by cases hk; exact⟨rfl,r8⟩) (λhe'=>⟨ds,bK.ext he' _ _ hvd,hld,λ_=>⟨w.heap.size,arr,e,Gh.bQ _ _ _ _,hnew arr,k3⟩⟩);refine⟨_,_,_,hrun,r1,r2,?_,r8,ke _ _ _,rfl⟩;rw[VR,fg];exact⟨r8,_,c2,rfl,k1,λh=>(by cases h),λ_=>⟨w.heap.size,Gh.bQ _ _ _ _,r8⟩,λ_ _ _ _=>⟨w.heap.size,arr,e,Gh.bQ _ _ _ _,rfl,hnew arr,k2⟩⟩
  ·replace h:=bJ h;obtain ⟨hxa,h⟩:=h;cases h;have hxes:∀ cs∈xs,cs.length=es/\∀ a∈cs,a.cell=true:=λcs hcs=>by
    have:=qak.1 hxa cs hcs;simp only[Z9,qa5] at this;exact⟨this.1,qak.1 this.2⟩
   refine fresh rfl rfl g5 (λd hd=>?_) g4 hl;have hxp:0<xs.length:=by have:=qcj hd; have:=g5.length; omega
   obtain rfl:xes=es:=g5.lens g3 (Z7 hxp) (hxes _ (qaB _)).1;exact g3 d hd
 ·rename_i b o n cl;split at h
  ·rename_i es' els hb;replace h:=fq h;obtain ⟨hl,h⟩:=h;simp only[qbh,qbR,qa5,qag] at hl;obtain ⟨⟨hl,hee⟩,hon⟩:=hl;subst hee;rw[VR,hb] at hx;obtain ⟨_,a,cap,rfl,g1,g2,g3,g4⟩:=hx;obtain ⟨hga,hgl⟩:=hr.blk b _ hb;have hgll:=hga.length;have hsub:∀ d∈((g.ga b).drop o).take n,d.length=es':=λd hd=>hgl d (qaL (qaJ hd));have hsl:(((g.ga b).drop o).take n).length=n:=r9;have holdr:(Builtin.firstCells es' n (.slice a n cap)).run P w.drew=.ok (((g.ga b).drop o).take n).flatten.toArray w.drew:=by
    cases a with
    | none=>
     have hn0:n=0:=by
      by_cases hp:0<n
      ·obtain ⟨k,off,e1,_⟩:=g3 hp; cases e1
      ·omega
     subst hn0;simp[Builtin.firstCells]
    | some a=>
     refine qbO (P:=P) w.drew es' n a n cap _ (by rw[cE hsub,hsl]) λj x hj=>?_;by_cases hp:0<n
     ·obtain ⟨k,off,e1,hc⟩:=g3 hp;cases e1;rw[qbx]; exact(hc j x hj).1
     ·obtain rfl:n=0:=by omega
      simp at hj
   rw[bP] at h;split at h
   ·rename_i hcl;subst hcl;cases h;have hcap:=g2 rfl;subst hcap;exact fresh rfl r9 ((hga.drop o).take cap) hsub g3 hl
   ·rename_i hcl;have hcl:cl=false:=by simpa using hcl
    subst hcl;replace h:=bJ h;obtain ⟨hcc,h⟩:=h;simp only[Z9,qag,qa5] at hcc;obtain ⟨⟨hlo,ho0⟩,hnl⟩:=hcc;subst ho0;cases h;have hlt:b<H.length:=(qad.1 hb).1;have hgall:(g.ga b).take n=g.ga b:=qaK o3;rw[qaM,hgall] at g3 holdr hsub hsl;have hsame:∀ (ko:Option Nat),(H.set b (.row false es' (els++ys)))[b]? = some (.row false es' (els++ys)):=λ_=>qaE hlt;have htake:(((g.ga b++ds).drop 0).take (n+ys.length))=g.ga b++ds:=by rw[qaM,qaK r9]
    by_cases hroom:n+ys.length<=cap
    ·by_cases hy0:ys.length=0
     ·
      have hyn:ys=[]:=qaw hy0;subst hyn;have hdn:ds=[]:=qaw (by simpa using hdl);subst hdn;obtain ⟨r1,r2⟩:=hr.grow (new:=[]) (γ:=[]) (ko:=g.mu b) hb (Below.refl _ _) (λ_ _ _ _ h=>h) (λ_ _ _=>rfl) (λ_ _ h _=>h) (qab _) (.inr (by rw[bK])) r8 (.inl ⟨rfl,λk arr ty _ ha=>⟨arr,ha,qab _⟩⟩);refine⟨_,_,_,zero rfl g1 rfl,r1,r2,?_,r8,n8 _ _ hlo,rfl⟩;refine VR.ext r2 _ _ ?_;rw[VR,hb];refine⟨r9,a,cap,r8,by simpa using g1,λh=>(by cases h),λhp=>?_,λ_ _ _ hlt=>g4 rfl rfl hnl (by simpa using hlt)⟩;obtain ⟨k,off,e1,e2⟩:=g3 (by simpa using hp);exact⟨k,off,e1,by simpa [hgall] using e2⟩
     ·
      obtain ⟨k,arr,ty',m1,m2,m3,m4⟩:=g4 rfl rfl hnl o3;subst m2;have hmul:(n+ys.length)*es'<=cap*es':=qbV _ hroom;have hmul2:(n+ys.length)*es'=n*es'+ys.length*es':=qbk _ _ _;have hst:=qdz P k (n*es') ty' ds.flatten 0 arr w m3 (by simp[hfl]; omega) hone;have hrun:=nG (P:=P) (ty:=ty) (a:=⟨k,0,none⟩) hu hi hsA hroom;rw[qbx,qaU,hsz,hst] at hrun;simp only[qaT,qbv] at hrun;obtain ⟨arr',harr'⟩:∃ arr':Array Value,arr'=(arr.toList.take (n*es')++ds.flatten++arr.toList.drop (n*es'+ds.flatten.length)).toArray:=⟨_,rfl⟩
      rw[<-harr'] at hrun;have hsp:arr'.toList=bI arr.toList (n*es') ds.flatten:=by rw[harr']; rfl
      have hfit:n*es'+ds.flatten.length<=arr.toList.length:=by simp[hfl]; omega
      have hasz:arr'.size=arr.size:=by rw[<-qcB,hsp,kj _ _ _ hfit]; simp
      have hnk:(w.setRow k arr').heap[k]? = some (.cells arr' ty' (0,0)):=setRow_heap w k arr arr' ty' (0,0) m3;have hok:∀ j,j≠k->(w.setRow k arr').heap[j]? = w.heap[j]?:=λj hj=>setRow_other w k j arr' hj;have hszw:(w.setRow k arr').heap.size=w.heap.size:=by simp[World.setRow]
      have hbw:Below w0.heap.size w (w.setRow k arr'):=⟨rfl,rfl,rfl,by rw[hszw]; exact qab _,λj hj=>hok j (by have:=(hr.dom b k m1).2.1; omega)⟩
      have harrg:∀ j,arr'[j]? = if n*es'<=j/\j<n*es'+ds.flatten.length then ds.flatten[j - n*es']? else arr[j]?:=λj=>by
       rw[<-qaZ,hsp,je _ _ _ _ hfit]; simp
      obtain ⟨r1,r2⟩:=hr.grow (new:=ys) (γ:=ds) (ko:=g.mu b) hb hbw (λk' o v hs hc=>by
        by_cases e:k'=k
        ·subst e;obtain ⟨es2,els2,q1,q2⟩:=hs.2 b m1;rw[hb] at q1; cases q1;rw[qbL _ _ o arr ty' (0,0) m3] at hc;rw[qbL _ _ o arr' ty' (0,0) hnk,harrg,qah (by rw[hnl,qby]; omega)];exact hc
        ·exact(qca (a:=⟨k',o,none⟩) (hok k' e)).trans hc) (λk' _ hn=>hok k' (λe=>hn (e ▸ m1))) (λk' o ho hd=>(hok k' (λe=>by subst e; rw[m3] at ho; cases ho; cases hd)).trans ho) (by rw[hszw]; exact qab _) (.inr hvd) hld (.inl ⟨rfl,λk' arr1 ty1 hk1 ha1=>by
        rw[m1] at hk1; cases hk1;rw[m3] at ha1; cases ha1;exact⟨arr',hnk,o3⟩⟩)
      refine⟨_,_,_,hrun,r1,r2,?_,r8,n8 _ _ hlo,rfl⟩;rw[VR,hsame none];refine⟨r9,_,cap,rfl,hroom,λh=>(by cases h),λ_=>⟨k,0,rfl,?_⟩,λ_ _ _ _=>⟨k,arr',ty',by rw[Gh.bQ,m1],rfl,hnk,o3⟩⟩;rw[Gh.iG,htake,qbY];intro j x hj;have hgfl:(g.ga b).flatten.length=n*es':=by rw[cE hsub,hsl]
      refine⟨?_,?_⟩
      ·rw[qaU,qbL _ _ j arr' ty' (0,0) hnk,harrg];rw[qcb,hgfl] at hj;split at hj
       ·rename_i hj1;rw[qah o3];have hn0:0<n:=by
         rcases qcF n with h | h
         ·rw[h] at hj1; simp at hj1
         ·exact h
        obtain ⟨k',off',e1,e2⟩:=g3 hn0;cases e1;have:=(e2 j x hj).1;rw[qaU,qbL _ _ j arr ty' (0,0) m3] at this;exact this
       ·rename_i hj1;have:=(qad.1 hj).1;rw[qaf o3];exact hj
      ·refine⟨by have h:=hr.own b k (0+j) m1; exact h,λc hc=>?_⟩;have hcb:c=b:=r1.inj c b k hc (by rw[Gh.bQ,m1]);subst hcb;refine⟨es',els++ys,hsame none,?_⟩;have:=(qad.1 hj).1;rw[qar,hgfl,hfl] at this;simp only[qar,qcZ]
       rw[qby es' els.length,qby es' ys.length,<-hnl];omega
    ·
     have hyp:ys≠[]:=λe=>by subst e; simp at hroom; omega
     obtain ⟨c2,arr,hrun,k1,k2,k3⟩:=grows (olds:=(g.ga b).flatten) rfl o3 hl (by rw[cE hsub,hsl]) holdr;obtain ⟨r1,r2⟩:=hr.grow (new:=ys) (γ:=ds) (ko:=some w.heap.size) hb ((hbd arr).mono hr.below.size) (λk' o v _ hc=>((hbd arr).cell (p:=⟨k',o,none⟩) (qbW w _ hc)).trans hc) (λk' hk' _=>(hbd arr).block k' hk') (λk' o ho _=>((hbd arr).block k' (qaj.1 ho).1).trans ho) (hbd arr).size (.inr hvd) hld (.inr ⟨rfl,r8,hyp⟩);refine⟨_,_,_,hrun,r1,r2,?_,r8,n8 _ _ hlo,rfl⟩;rw[VR,hsame none];refine⟨r9,_,c2,rfl,k1,λh=>(by cases h),λ_=>⟨w.heap.size,0,rfl,?_⟩,λ_ _ _ _=>⟨w.heap.size,arr,e,Gh.bQ _ _ _ _,rfl,hnew arr,k2⟩⟩;rw[Gh.iG,htake,qbY];intro j x hj;refine⟨by rw[qaU,qbL _ _ j arr e (0,0) (hnew arr)]; exact k3 j x hj,hr.out _ _ (qab _),λc hc=>?_⟩;have hcb:c=b:=r1.inj c b _ hc (by rw[Gh.bQ]);subst hcb;refine⟨es',els++ys,hsame none,?_⟩;have:=(qad.1 hj).1;rw[qar,cE hsub,hsl,hfl] at this;simp only[qar,qcZ]
     rw[qby es' els.length,qby es' ys.length,<-hnl];omega
  ·cases h
 ·cases h
theorem IJ {t t2 ty e:TypeId} {es m n cap:Nat} {a:Option Addr} {c:Value} {news:List Value} (hu:P.underlying t=some (.slice e)) (hes:cY P e=some es) (hlen:(Builtin.lenOf c).run P w=.ok m w) (hf:(Builtin.firstCells es (min m n) c).run P w=.ok news.toArray w) :
  (Builtin.copy_ #[t,t2] ty #[.slice a n cap,c]).run P w=match a with | none=>.ok (.int .i64 (min m n:Nat)) w | some a=>((storeCells a news).run P w).andThen λ_ w'=>.ok (.int .i64 (min m n:Nat)) w':=by
 have hs:=fk hes w;have hf':(Builtin.firstCells es (Nat.min m n) c).run P w=.ok news.toArray w:=hf;cases a with
 | none=>simp[Builtin.copy_,qap hu,hlen,hs,hf',goInt]
 | some a=>simp[Builtin.copy_,qap hu,hlen,hs,hf',goInt]
theorem zY (hr:Rel H g w0 w) {t t2 ty:TypeId} {x y z:A} {cx cy:Value} {H':Heap} {lo:Nat} (h:oU P t x y H lo=some (z,H')) (hx:VR H g w x cx) (hy:VR H g w y cy):Step H g w0 w lo ((Builtin.copy_ #[t,t2] ty #[cx,cy]).run P w) z H':=by
 unfold oU at h;replace h:=bN h;obtain ⟨e,he,h⟩:=h;have hu:=lO he;replace h:=bN h;obtain ⟨es,hes,h⟩:=h;replace h:=bN h;obtain ⟨ys,hys,h⟩:=h;replace h:=fq h;obtain ⟨h0,h⟩:=h;simp only[qbh,qbR,qa6] at h0;have hys3:∀ cs∈ys,cs.length=es/\∀ a∈cs,a.cell=true:=λcs hcs=>by
  have:=qak.1 h0.2 cs hcs;simp only[Z9,qa5] at this;exact⟨this.1,qak.1 this.2⟩
 obtain ⟨ds,hvd,hld,hsrc⟩:=Ek (P:=P) hr hys hy (λcs hcs=>(hys3 cs hcs).1);obtain ⟨hlen,hfirst⟩:=hsrc w (λ_=>rfl);have hdl:=hvd.length;split at h
 ·rename_i b o n cl;split at h
  ·rename_i es' els hb;replace h:=bJ h;obtain ⟨hc,h⟩:=h;simp only[Z9,qag,qa5] at hc;obtain ⟨hlo,rfl⟩:=hc;cases h;rw[VR,hb] at hx;obtain ⟨hon,a,cap,rfl,g1,g2,g3,_⟩:=hx;have hlt:b<H.length:=(qad.1 hb).1;have hf:=hfirst (min ys.length n) (Nat.min_le_left _ _);have hrun:=IJ (P:=P) (t2:=t2) (ty:=ty) (a:=a) (cap:=cap) hu hes hlen hf;have hxl:(ys.take n).length=min ys.length n:=by simp[Nat.min_comm]
   have htk:ds.take n=ds.take (min ys.length n):=by
    rw[<-hdl];rcases qdI ds.length n with h | h
    ·rw[qbP h,qaK h,qaK (qab _)]
    ·rw[Nat.min_eq_right h]
   by_cases hm:min ys.length n=0
   ·have hyt:ys.take n=[]:=qaw o3;have hspl:bI els o (ys.take n)=els:=by rw[hyt]; simp[bI]
    have hset:H.set b (.row true es' (bI els o (ys.take n)))=H:=by
     rw[hspl];apply qbz;intro c;by_cases e:c=b
     ·subst e; rw[qaE hlt,hb]
     ·rw[qao (qbi e)]
    rw[hset];have hrun':(Builtin.copy_ #[t,t2] ty #[.slice a n cap,cy]).run P w=.ok (.int .i64 (min ys.length n:Nat)) w:=by
     rw[hrun];cases a with
     | none=>rfl
     | some a=>
      rw[hm];simp[storeCells]
    exact⟨_,_,g,hrun',hr,Ext.below hr (Below.refl _ _),y9,qab _,λ_ _ _=>rfl,rfl⟩
   ·obtain ⟨k,hk,rfl⟩:=g3 o3;obtain ⟨rds,hv,hl,hrow⟩:=hr.blk b _ hb;obtain ⟨k',arr,ty',hk',har,hcell⟩:=hrow o3;rw[hk] at hk'; cases hk';have hrl:=hv.length;have hnl:(ds.take (min ys.length n)).flatten.length=min ys.length n*es':=iB hld o3;have hone:∀ x∈(ds.take (min ys.length n)).flatten,x.oneCell'=true:=λx hx=>by
     obtain ⟨d,hd,hxd⟩:=qdH.1 hx;exact hvd.one (λcs hcs=>(hys3 cs hcs).2) x (qdH.2 ⟨d,qaJ hd,hxd⟩)
    have hfl:=cE hl;have hmul:(o+min ys.length n)*es'<=rds.length*es':=qbV _ o3;rw[qbk] at hmul;have hal:rds.flatten.length<=arr.size:=by
     by_cases hz:rds.flatten.length=0
     ·omega
     ·have:=hcell (rds.flatten.length - 1) _ (Z7 o3);have:=(qaj.1 this).1;omega
    have hst:=qdz P k (o*es') ty' (ds.take (min ys.length n)).flatten 0 arr w har (by rw[hnl]; omega) hone;simp only[qbv] at hst;simp only[hst,qaT] at hrun;obtain ⟨arr',harr'⟩:∃ arr':Array Value,arr'=(arr.toList.take (o*es')++(ds.take (min ys.length n)).flatten++arr.toList.drop (o*es'+(ds.take (min ys.length n)).flatten.length)).toArray:=⟨_,rfl⟩
    rw[<-harr'] at hrun;have hsp:arr'.toList=bI arr.toList (o*es') (ds.take (min ys.length n)).flatten:=by rw[harr']; rfl
    have hdtl:(ds.take n).length=min ys.length n:=by rw[htk]; simp; omega
    obtain ⟨r1,r2⟩:=hr.write hk har (arr':=arr') (B':=.row true es' (bI els o (ys.take n))) hb (.inr ⟨es',els,_,rfl,rfl,by rw[kj _ _ _ o3],by rw[harr']; exact tc _ _ _⟩) (λhe hnew=>by
     refine⟨bI rds o (ds.take n),?_,?_,λ_=>⟨k,arr',ty',hk,hnew,λj x hj=>?_⟩⟩
     ·have h1:=bK.ext he _ _ hv;have h2:=bK.ext he _ _ (hvd.take n);have h3:=h2.length;unfold bI;rw[h3];exact((h1.take o).append h2).append (h1.drop _)
     ·intro d hd;unfold bI at hd;rcases qa8.1 hd with hd | hd
      ·rcases qa8.1 hd with hd | hd
       ·exact hl d (qaJ hd)
       ·exact hld d (qaJ hd)
      ·exact hl d (qaL hd)
     ·rw[pn o hl (λd hd=>hld d (qaJ hd)) o3,htk,je _ _ _ _ o3] at hj;rw[<-qaZ,hsp,je _ _ _ _ (by have:=hnl; simp only[qcB] at *; omega)];split at hj
      ·rename_i hin; rw[qaf hin]; exact hj
      ·rename_i hin; rw[qah hin]; simpa using hcell j x hj)
    exact⟨_,_,g,hrun,r1,r2,y9,r8,n8 _ _ hlo,rfl⟩
  ·cases h
 ·cases h
end
end Go.Proofs.Ytebkhfhcipnfgaa
