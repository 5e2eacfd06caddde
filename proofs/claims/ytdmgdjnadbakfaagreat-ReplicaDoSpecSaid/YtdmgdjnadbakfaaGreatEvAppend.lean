/-
 append and copy: as the model's.
-/
import Derived.Below
import Derived.ChangeArms
import Derived.Deep.Slices
import Derived.RangeFuncNested
import Derived.RangeFuncCalls
import Derived.RangeFuncLeaves
import Derived.OrdersIn
import Derived.TacticsIn
import Derived.Maps.AppendAt
import Derived.OwnWalkIn
import Derived.OwnWalk
import Derived.Deep.MidRow
import Derived.DeepKeys
import Derived.Laws.StructEq
import Derived.Laws.Tables
import Derived.Laws.IdiomStrings
import Derived.Laws.BytesString
import Derived.Laws.Slices
import Derived.Laws.MakeOwn
import Derived.KernelRfl
namespace Go.Proofs.YtdmgdjnadbakfaaGreat
set_option linter.unusedVariables false
set_option linter.unusedSimpArgs false
set_option linter.defProp false
theorem j6 {p:Prop} (h:p:=by omega):p:=h
theorem r7 {p:Prop} (h:p:=by simp):p:=h
theorem r8 {p:Prop} (h:p:=by simp; omega):p:=h
theorem s8 {p:Prop} (h:p:=by rw[VR]):p:=h
theorem u3 {p:Prop} (h:p:=by rw[List.length_take]; omega):p:=h
theorem H4 {p:Prop} (h:p:=by rw[bC]):p:=h
theorem XI {p:Prop} (h:p:=by rw[VR]; trivial):p:=h
theorem XM {p:Prop} (h:p:=by rw[<-List.flatten_append,List.take_append_drop]):p:=h
def XV:=@Option.bind_some
def XX:=@cond_false
def XY:=@cond_true
def XZ:=@Bool.and_eq_true
def X1:=@Nat.le_refl
def X2:=@List.getElem?_eq_some_iff
def X3:=@List.getElem?_eq_getElem
def X4:=@if_pos
def X5:=@Array.getElem?_eq_some_iff
def X6:=@decide_eq_true_eq
def X7:=@of_decide_eq_true
def X8:=@if_neg
def X9:=@List.length_cons
def Ya:=@run_underlying
def Yb:=@List.all_eq_true
def Yd:=@List.getElem?_set_ne
def Ye:=@List.length_append
def Yf:=@List.getElem?_append_left
def Yg:=@Bool.true_and
def Yh:=@Nat.lt_of_lt_of_le
def Yi:=@List.getElem?_take
def Yj:=@List.getElem?_map
def Yk:=@List.mem_of_getElem?
def Yl:=@List.eq_nil_of_length_eq_zero
def Ym:=@List.getElem?_set_self
def Yn:=@List.mem_range
def Yo:=@List.getElem?_append_right
def Yp:=@Nat.le_trans
def Yr:=@List.mem_of_mem_take
def Ys:=@Option.bind_assoc
def Yt:=@Result.andThen_ok
def Yv:=@List.drop_drop
def Yw:=@List.cons_append
def Yx:=@Array.getElem?_toList
def Yy:=@Sem.run_bind
def YC:=@List.mem_of_mem_drop
def YD:=@List.append_assoc
def YE:=@Option.map_eq_some_iff
def YF:=@List.drop_eq_getElem_cons
def YG:=@List.append_nil
def YJ:=@List.mem_cons
def YK:=@Option.some.injEq
def YL:=@List.take_of_length_le
def YO:=@Bool.or_eq_false_iff
def YP:=@Nat.zero_add
def YQ:=@Array.getD_eq_getD_getElem?
def YR:=@List.getElem_of_mem
def YS:=@Nat.add_mul
def YU:=@Bool.or_eq_true
def YV:=@List.length_take
def YW:=@Ne.symm
def YX:=@List.map_cons
def YZ:=@List.take_append_drop
def Y1:=@Array.getElem?_eq_getElem
def Y4:=@beq_iff_eq
def Y5:=@List.nil_append
def Y6:=@List.mem_append
def Y7:=@List.getElem?_eq_none
def Y8:=@List.getElem_mem
def Y9:=@Nat.mul_comm
def Za:=@Bool.not_eq_true'
def Zc:=@List.length_map
def Zd:=@Addr.add_mid
def Zf:=@List.flatten_cons
def Zh:=@if_true
def Zi:=@List.drop_zero
def Zj:=@List.getElem?_drop
def Zm:=@List.countP_eq_length_filter
def Zn:=@Nat.min_eq_left
def Zp:=@World.putObj_heap_other
def Zq:=@Nat.lt_of_not_le
def Zr:=@Nat.add_zero
def Zs:=@cell_of_row
def Zt:=@heap_alloc_new
def Zv:=@List.ext_getElem?
def Zx:=@Bool.not_eq_false'
def ZA:=@List.getElem?_replicate
def ZB:=@Nat.mul_le_mul_left
def ZG:=@Array.getElem?_setIfInBounds_ne
def ZH:=@World.cell?_of_block
def ZI:=@List.getElem?_append
def ZJ:=@Array.ext'
def ZK:=@Nat.mul_le_mul_right
def ZN:=@Nat.add_assoc
def ZO:=@List.take_append_of_le_length
def ZQ:=@World.block_lt_of_cell?
def ZR:=@List.flatten_append
def ZS:=@beq_eq_false_iff_ne
def ZT:=@Nat.le_of_not_lt
def ZX:=@List.length_pos_of_mem
def Z0:=@List.length_nil
def Z4:=@getD_set_ne
def Z5:=@Array.all_eq_true_iff_forall_mem
def Z6:=@Sem.run_pure
def Z7:=@Array.length_toList
def Z8:=@Nat.lt_irrefl
def Z9:=@Array.foldl_toList
def qaa:=@mem_ready
def qab:=@Nat.eq_zero_or_pos
def qac:=@List.mem_replicate
def qad:=@Int.natCast_mul
def qaj:=@Nat.beq_eq
def qan:=@Array.getElem?_append_left
def qao:=@List.map_take
def qar:=@Nat.mul_add
def qas:=@List.take_succ_cons
def qat:=@Int.toNat_of_nonneg
def qau:=@run_firstCells_some
def qav:=@Nat.le_of_eq
def qax:=@Nat.mod_lt
def qaF:=@List.length_filter_le
def qaI:=@List.mem_map
def qaJ:=@List.mem_filter
def qaK:=@Nat.le_antisymm
def qaP:=@List.drop_append_of_le_length
def qaS:=@List.take_zero
def qaX:=@List.all_cons
def qaY:=@run_storeCells_at
def qa3:=@List.mem_or_eq_of_mem_set
def qa6:=@Nat.add_comm
def qa7:=@List.mem_flatten
def qa8:=@Nat.le_total
def qbe:=@List.nodup_cons
def qbf:=@List.foldl_cons
def qbg:=@Nat.div_add_mod
def qbi:=@List.drop_of_length_le
def qbj:=@Nat.one_mul
def qbq:=@List.countP_mono_left
def qbt:=@Classical.not_forall
def qbu:=@Nat.div_lt_of_lt_mul
def qby:=@Oper.semAt_eq
def qbC:=@Bool.true_or
def qbD:=@Int.mul_comm
def qbH:=@grownCap_ge
section
open Go.RowKit
def AX:Obj->Bool
 | .cells ..=>true
 | .map ..=>true
 | _=>false
def LZ (B:Nat) (w w':World):Prop:=∀ (k:Nat) (o:Obj),k<B->w.heap[k]? = some o->AX o=true->w'.heap[k]? = some o
structure U4 (α:Type) where
 k:Nat
 rd:Nat->World->List Value->α->Prop
 len:∀ {B:Nat} {w:World} {cs:List Value} {a:α},rd B w cs a->cs.length=k
 mono:∀ {B B':Nat} {w:World} {cs:List Value} {a:α},B<=B'->rd B w cs a->rd B' w cs a
 stab:∀ {B:Nat} {w w':World} {cs:List Value} {a:α},LZ B w w'->rd B w cs a->rd B w' cs a
end
section
open Go.RowKit
structure eb (B:Nat) (W W':World):Prop where
 os:W'.os=W.os
 tape:W'.tape=W.tape
 output:W'.output=W.output
 size:W.heap.size<=W'.heap.size
 low:∀ (k:Nat),k<B->k<W.heap.size->W'.heap[k]? = W.heap[k]?
 data:∀ (k:Nat) (o:Obj),W.heap[k]? = some o->AX o=true->W'.heap[k]? = some o
theorem eb.refl (B:Nat) (W:World):eb B W W:=⟨rfl,rfl,rfl,X1 _,fun _ _ _=>rfl,fun _ _ h _=>h⟩
theorem eb.trans {B:Nat} {X Y Z:World} (h:eb B X Y) (k:eb B Y Z):eb B X Z:=
 ⟨k.os.trans h.os,k.tape.trans h.tape,k.output.trans h.output,Yp h.size k.size,fun i hi hs=>(k.low i hi (Yh hs h.size)).trans (h.low i hi hs),fun i o hi ho=>k.data i o (h.data i o hi ho) ho⟩
theorem eb.putObj {B:Nat} {W:World} {l:Nat} {o:Obj} (o':Obj) (hB:B<=l) (hl:W.heap[l]? = some o) (ho:AX o=false):eb B W (W.putObj l o'):=
 ⟨rfl,rfl,rfl,r7,fun k hk _=>Zp j6,fun k _ hk hd=>by
  by_cases e:k=l
  ·subst e; rw[hl] at hk; cases hk; rw[ho] at hd; cases hd
  ·exact(Zp e).trans hk⟩
def Calm (B:Nat) (I:World->Prop):Prop:=∀ W W',I W->eb B W W'->I W'
theorem Calm.cell {B:Nat} (a:Addr) (v:Value):Calm B fun W=>W.cell? a=some v:=fun W W' h hc=>by
 have h1:W.cell? a=some v:=h
 obtain ⟨o,ho,hc1⟩:=cells_of_cell h1
 have h2:=hc.data _ _ ho (by cases o<;>first | rfl | (cases hc1))
 show W'.cell? a=some v
 rw[<-h1]
 exact ZH (h2.trans ho.symm)
theorem Calm.below {B n₀:Nat} {w:World} (hn:n₀<=w.heap.size) (hB:n₀<=B):Calm B fun W=>Below n₀ w W:=fun W W' h hc=>
 h.trans ⟨hc.os,hc.tape,hc.output,hc.size,fun k hk=>hc.low k j6 (by have:=h.size; omega)⟩
def BF (F:Fence):Prop:=F.depth=none/\∀ f,F.fn f
variable {F:Fence} {n:Nat} {P:Program}
def Marks (B:Nat) (W:World) (ds:List Deferred):Prop:=∃ rs:List Nat,ds=rs.map (fun r=>{ target:=.collected r,args:=#[] })/\rs.Nodup/\∀ r∈rs,B<=r/\W.heap[r]? = some (.deferred (some []))
theorem Marks.nil (B:Nat) (W:World):Marks B W []:=⟨[],rfl,List.nodup_nil,fun _ h=>by cases h⟩
theorem Marks.cons {B D:Nat} {W:World} {ds:List Deferred} (h:Marks B W ds) (hD:B<=D) (hW:W.heap[D]? = some (.deferred (some []))) (hn:∀ r,(⟨.collected r,#[]⟩:Deferred)∈ds->r≠D):Marks B W ({ target:=.collected D,args:=#[] } :: ds):=by
 obtain ⟨rs,rfl,h2,h3⟩:=h
 refine⟨D :: rs,rfl,qbe.2 ⟨fun hm=>hn D (qaI.2 ⟨D,hm,rfl⟩) rfl,h2⟩,fun r hr=>?_⟩
 rcases YJ.1 hr with rfl | hr
 ·exact⟨hD,hW⟩
 ·exact h3 r hr
theorem Marks.lt {B:Nat} {W:World} {ds:List Deferred} (h:Marks B W ds) {r:Nat} (hr:(⟨.collected r,#[]⟩:Deferred)∈ds):r<W.heap.size:=by
 obtain ⟨rs,rfl,h2,h3⟩:=h
 obtain ⟨q,hq,e⟩:=qaI.1 hr
 cases e
 exact(X5.1 (h3 _ hq).2).1
end
section
def zX (F:Fence) (n:Nat) (P:Program) (o:Oper) (ev:Operand->Value) (w:World) (R:Value->World->Prop):Prop:=
 match (execOp ev o).run P w with
 | .ok (.value v) w'=>R v w'
 | .ok .skip w'=>R undef w'
 | .ok (.enter f args) w'=>CallsIn F (n - 1) P f args w' fun
   | .returned v,w''=>R v w''
   | _,_=>False
 | .ok (.row row args) w'=>RowsIn F (n - 1) P row args w' R
 | .ok (.round l f tmps assign body) w'=>RoundIn F (n - 1) P l f tmps assign body w' fun
   | .returned v,w''=>R v w''
   | _,_=>False
 | _=>False
theorem zX.mono {F:Fence} {n:Nat} {P:Program} {o:Oper} {ev:Operand->Value} {w:World} {R R':Value->World->Prop} (h:zX F n P o ev w R) (hr:∀ v w',R v w'->R' v w'):zX F n P o ev w R':=by
 unfold zX at *
 generalize (execOp ev o).run P w=r at *
 cases r with
 | ok x w'=>
  cases x<;>simp only at h ⊢<;>first
   | exact hr _ _ h
   | exact h.mono fun e w'' he=>by cases e<;>first | exact hr _ _ he | exact he
   | exact h.mono fun v w'' he=>hr _ _ he
 | halt x w'=>exact h
def slot (a:Act) (t:Nat):Value:=a.tmps.getD t undef
def cK (ops:Array Oper) (i:Nat):Option Nat:=(ops[i]?).bind (·.dst)
def fX (ops:Array Oper) (i j:Nat):Bool:=((Region.before ops).getD i 0).testBit j
def ng (o:Oper):Bool:=match o.op with | .select ..=>false | .defer _=>false | _=>true
def uY (ops:Array Oper) (N:Nat):Bool:=
 (List.range ops.size).all fun i=>match ops[i]? with
  | none=>true
  | some o=>ng o&&(match o.dst with | some d=>decide (d<N) | none=>true) &&
   (o.after.all fun e=>!Region.binds .any e || decide (e.on<i)) &&
   ((List.range ops.size).all fun j=>i==j || o.dst.isNone || cK ops j != o.dst) &&
   ((List.range ops.size).all fun j=>match cK ops j with
    | none=>true
    | some t=>!(o.looksAt ops).contains t || i==j || fX ops i j || fX ops j i) &&
   !fX ops i i
def eX (_ops:Array Oper) (listed:Array Bool) (i:Nat):Prop:=listed.getD i false=true
variable {F:Fence} {n:Nat} {P:Program} {ops:Array Oper} {Q:Exit->Act->World->Prop}
inductive ph (ops:Array Oper):Nat->Nat->Prop
 | edge {i:Nat} {o:Oper} {e:Edge} (ho:ops[i]? = some o) (he:e∈o.after) (hb:Region.binds .any e=true):ph ops i e.on
 | thru {i j:Nat} {o:Oper} {e:Edge} (ho:ops[i]? = some o) (he:e∈o.after) (hb:Region.binds .any e=true) (h:ph ops e.on j):ph ops i j
theorem td (acc:Array Nat) (hacc:∀ i j,(acc.getD i 0).testBit j=true->ph ops i j) {i:Nat} {o:Oper} (ho:ops[i]? = some o) :
  ∀ (l:List Edge) (s:Nat),(∀ e∈l,e∈o.after)->(∀ j,s.testBit j=true->ph ops i j)->∀ j,(l.foldl (fun s e=>if Region.binds .any e then s ||| 2 ^ e.on ||| acc.getD e.on 0 else s) s).testBit j=true->ph ops i j
 | [],s,_,hs,j,h=>hs j h
 | e :: l,s,hl,hs,j,h=>by
  rw[qbf] at h
  refine td acc hacc ho l _ (fun e he=>hl e (by simp[he])) (fun j hj=>?_) j h
  split at hj
  ·rename_i hb
   rw[Nat.testBit_or,Nat.testBit_or,YU,YU] at hj
   rcases hj with (hj | hj) | hj
   ·exact hs j hj
   ·rw[Nat.testBit_two_pow] at hj
    obtain rfl:e.on=j:=by simpa using hj
    exact .edge ho (hl e r7) hb
   ·exact .thru ho (hl e r7) hb (hacc _ _ hj)
  ·exact hs j hj
theorem gC (i j:Nat) (h:fX ops i j=true):ph ops i j:=by
 unfold fX Region.before at h
 rw[<-Z9] at h
 have key:∀ (l:List Oper) (k:Nat) (acc:Array Nat),(∀ m,l[m]? = ops[k+m]?)->acc.size=k->(∀ i j,(acc.getD i 0).testBit j=true->ph ops i j) ->
   ∀ i j,((l.foldl (fun acc o=>acc.push (o.after.foldl (fun s e=>if Region.binds .any e then s ||| 2 ^ e.on ||| acc.getD e.on 0 else s) 0)) acc).getD i 0).testBit j=true->ph ops i j:=by
  intro l
  induction l with
  | nil=>intro k acc _ _ hacc i j h; exact hacc i j h
  | cons o l ih=>
   intro k acc hl hk hacc i j h
   refine ih (k+1) _ (fun m=>by have:=hl (m+1); simpa [ZN,qa6 1 m] using this) (by simp[hk]) (fun i j hij=>?_) i j h
   have ho:ops[k]? = some o:=by simpa using (hl 0).symm
   by_cases e:i=acc.size
   ·subst e
    rw[hk]
    have e2:∀ X:Nat,(acc.push X).getD acc.size 0=X:=fun X=>r7
    rw[e2,<-Z9] at hij
    exact td acc hacc ho _ 0 (fun e he=>Array.mem_toList_iff.1 he) (fun j hj=>by simp at hj) j hij
   ·refine hacc i j ?_
    have:(acc.push (o.after.foldl (fun s e=>if Region.binds .any e then s ||| 2 ^ e.on ||| acc.getD e.on 0 else s) 0)).getD i 0=acc.getD i 0:=by
     simp only[YQ,Array.getElem?_push,X8 e]
    rw[this] at hij; exact hij
 exact key ops.toList 0 #[] r7 rfl (fun i j h=>by simp at h) i j h
theorem mc {listed:Array Bool} (hcl:∀ i o,ops[i]? = some o->eX ops listed i->∀ e∈o.after,Region.binds .any e=true->eX ops listed e.on)
  (i j:Nat) (hi:∃ o,ops[i]? = some o/\∀ e∈o.after,Region.binds .any e=true->eX ops listed e.on) (h:fX ops i j=true):eX ops listed j:=by
 have hw:=gC i j h
 clear h
 induction hw with
 | edge ho he hb=>
  obtain ⟨o',ho',hall⟩:=hi
  rw[ho] at ho'; cases ho'
  exact hall _ he hb
 | thru ho he hb hw ih=>
  obtain ⟨o',ho',hall⟩:=hi
  rw[ho] at ho'; cases ho'
  refine ih ?_
  have hc:=hall _ he hb
  cases hw with
  | edge ho2 _ _=>exact⟨_,ho2,hcl _ _ ho2 hc⟩
  | thru ho2 _ _ _=>exact⟨_,ho2,hcl _ _ ho2 hc⟩
theorem filter_lt {α:Type} (p q:α->Bool):∀ l:List α,(∀ x∈l,q x=true->p x=true)->(∃ x∈l,p x=true/\q x=false)->(l.filter q).length<(l.filter p).length
 | [],_,⟨x,hx,_⟩=>by cases hx
 | y :: l,h,⟨x,hx,hp,hq⟩=>by
  have hle:(l.filter q).length<=(l.filter p).length:=by
   clear hx hp hq
   induction l with
   | nil=>simp
   | cons z l ih=>
    have hz:=h z r7
    have:=ih (fun x hx=>h x (by rcases YJ.1 hx with rfl | hx; simp; simp[hx]))
    simp only[List.filter_cons]
    cases hqz:q z<;>cases hpz:p z<;>simp<;>first | omega | skip
    rw[hz hqz] at hpz; cases hpz
  have hy:=h y r7
  simp only[List.filter_cons]
  rcases YJ.1 hx with rfl | hx
  ·rw[hp,hq]; simp; omega
  ·have:=filter_lt p q l (fun x hx=>h x (by simp[hx])) ⟨x,hx,hp,hq⟩
   cases hqy:q y<;>cases hpy:p y<;>simp<;>first | omega | skip
   rw[hy hqy] at hpy; cases hpy
def CJ (ops:Array Oper) (listed:Array Bool):Nat:=((List.range ops.size).filter fun i=>!listed.getD i true).length
theorem fK {a:Act} {d:Nat} {v:Value} (h:d<a.tmps.size):slot (a.put (some d) v) d=v:=by
 simp[slot,Act.put,h]
theorem dV {a:Act} {dst:Option Nat} {t:Nat} {v:Value} (h:dst≠some t):slot (a.put dst v) t=slot a t:=by
 cases dst with
 | none=>rfl
 | some d=>
  have hne:d≠t:=fun e=>h (by rw[e])
  simp[slot,Act.put,ZG hne]
theorem lS (hWF:BF F) {i:Nat} {o:Oper} (ho:ops[i]? = some o) (hp:ng o=true) {a:Act} {w:World} {K:Act->World->Prop} {R:Value->World->Prop}
  (h:if Region.wanted o (yielded ops a.tmps)=true then zX F n P o a.eval w R else R undef w) (hK:∀ v w',R v w'->K (a.put o.dst v) w'):wpOpIn F n P ops Q i K a w:=by
 unfold wpOpIn
 simp only[ho]
 split
 ·rename_i hw
  rw[X4 hw] at h
  refine⟨fun f _=>hWF.2 f,?_⟩
  rw[qby _ _ _ (fun c hc=>by unfold ng at hp; rw[hc] at hp; cases hp)]
  unfold zX at h
  generalize (execOp a.eval o).run P w=r at *
  have hd:F.depth.isSome=true->1<=n:=fun hs=>by rw[hWF.1] at hs; cases hs
  cases r with
  | ok x w'=>
   cases x<;>simp only[Oper.uponIn] at h ⊢<;>first
    | exact hK _ _ h
    | exact⟨hd,h.mono fun e w'' he=>by cases e<;>first | exact hK _ _ he | exact he.elim⟩
    | exact⟨hd,h.mono fun v w'' he=>hK _ _ he⟩
    | exact h.elim
  | halt x w'=>exact h.elim
 ·rename_i hw
  rw[X8 hw] at h
  exact⟨fun f _=>hWF.2 f,hK _ _ h⟩
def tD (ops:Array Oper) (k:Nat):Array Bool:=((List.range ops.size).map fun i=>decide (i<k)).toArray
def fO (ops:Array Oper) (m:Nat):Bool:=decide (m<=ops.size)&&((List.range ops.size).all fun i=>decide (i<m) || (List.range m).all fun j=>fX ops i j)&&(List.range (ops.size+1)).all fun k=>decide (k<m) || (Region.ready .any ops (tD ops k)==if k<ops.size then [k] else [])
theorem vA {listed:Array Bool} {k:Nat} (hls:listed.size=ops.size) (hc:∀ i,i<ops.size->(eX ops listed i↔i<k)):listed=tD ops k:=by
 refine Array.ext (by simp[tD,hls]) fun i h1 h2=>?_
 have:=hc i j6
 unfold eX at this
 simp only[tD,List.getElem_toArray,List.getElem_map,List.getElem_range]
 have e:listed.getD i false=listed[i]:=by simp[h1]
 rw[e] at this
 cases h:listed[i] with
 | true=>rw[h] at this; simpa using this.1 rfl
 | false=>rw[h] at this; simp at this; simp; exact this
theorem qM {m:Nat} (ht:fO ops m=true) :
  ∀ (r k:Nat),k+r=ops.size->m<=k->∀ (fuel:Nat) (listed:Array Bool) (a:Act) (w:World),r<=fuel->listed.size=ops.size->(∀ i,i<ops.size->(eX ops listed i↔i<k)) ->
   wpListIn F n P ops Q (ops.toList.drop k) a w->wpAnyIn F n P .any ops Q fuel listed a w:=by
 have hready:∀ k,k<=ops.size->m<=k->Region.ready .any ops (tD ops k)=if k<ops.size then [k] else []:=fun k hk hm=>by
  simp only[fO,XZ] at ht
  have:=Yb.1 ht.2 k (Yn.2 j6)
  simp only[YU,X6,Y4] at this
  exact this.resolve_left j6
 intro r
 induction r with
 | zero=>
  intro k hk hm fuel listed a w _ hls hc h
  have e:=vA hls hc
  have hr:Region.ready .any ops listed=[]:=by rw[e,hready k j6 hm,X8 j6]
  rw[qbi r8] at h
  exact wpAnyIn_done hr h fuel
 | succ r ih=>
  intro k hk hm fuel listed a w hf hls hc h
  have e:=vA hls hc
  have hr:Region.ready .any ops listed=[k]:=by rw[e,hready k j6 hm,X4 j6]
  obtain ⟨fuel,rfl⟩:∃ f,fuel=f+1:=⟨fuel - 1,j6⟩
  have hlt:k<ops.toList.length:=r8
  rw[YF hlt] at h
  have ho:ops[k]? = some ops.toList[k]:=by rw[Array.getElem_toList]; exact Y1 _
  refine wpAnyIn_all hr r7 fun i hi=>?_
  obtain rfl:i=k:=by simpa using hi
  unfold wpOpIn
  simp only[ho]
  have next:∀ a w,wpListIn F n P ops Q (ops.toList.drop (i+1)) a w->wpAnyIn F n P .any ops Q fuel (listed.setIfInBounds i true) a w:=fun a w h'=>by
   refine ih (i+1) j6 j6 fuel _ a w j6 (by simpa using hls) (fun j hj=>?_) h'
   by_cases e:j=i
   ·subst e; unfold eX; simp[hls,hj]
   ·have:=hc j hj
    unfold eX at this ⊢
    rw[Z4 false (YW e),this]; omega
  unfold wpListIn at h
  split
  ·rename_i hw; rw[X4 hw] at h; exact Oper.wpIn_mono next h
  ·rename_i hw; rw[X8 hw] at h; exact⟨h.1,next _ _ h.2⟩
def LW (F:Fence) (n:Nat) (P:Program) (ops:Array Oper) (Q:Exit->Act->World->Prop) (a:Act) (w:World):Prop:=∀ t,wpOpsIn F n P ops Q (Region.schedule (P.follows .mixedOrders) ops t) a { w with drawn:=w.drawn+1 }
theorem LW.wpIn {id:Nat} {a:Act} {w:World} (h:LW F n P ops Q a w):(Code.region id ops true).wpIn F n P Q a w:=wpIn_region_draw h
theorem DQ {a:Act} {w:World} (hm:P.follows .mixedOrders=true) (h:wpAnyIn F n P .any ops Q ops.size (Array.replicate ops.size false) a { w with drawn:=w.drawn+1 }):LW F n P ops Q a w:=fun t=>by
 simp only[Region.schedule,hm,qbC,Zh]
 exact wpAnyIn_sound ops.size t _ a _ h
theorem Dy {a0:Act} {w0:World} (hWF:BF F) (hm:P.follows .mixedOrders=true) (N m:Nat) (hN:a0.tmps.size=N) (iX:uY ops N=true) (chkt:fO ops m=true)
  (S:World->Prop) (Ext:World->World->Prop) (V:Nat->Value->World->Prop) (hV:∀ i v w w',V i v w->Ext w w'->V i v w') (hS:S w0.drew)
  (hstep:∀ i o,i<m->ops[i]? = some o->∀ (a:Act) (w:World),S w ->
   (∀ t∈o.looksAt ops,∀ j,cK ops j=some t->fX ops i j=true->V j (slot a t) w) ->
   (∀ t∈o.looksAt ops,(∀ j,cK ops j=some t->fX ops i j=false)->slot a t=slot a0 t)->a.tmps.size=N ->
   if Region.wanted o (yielded ops a.tmps)=true then zX F n P o a.eval w (fun v w'=>V i v w'/\S w'/\Ext w w') else V i undef w/\S w/\Ext w w)
  (hend:∀ (a:Act) (w:World),S w->a.defers=a0.defers->a.tmps.size=N->(∀ i t,i<m->cK ops i=some t->V i (slot a t) w)->(∀ t,(∀ i,i<m->cK ops i≠some t)->slot a t=slot a0 t) ->
   (∀ i o,i<m->ops[i]? = some o->o.dst=none->∃ v,V i v w)->wpListIn F n P ops Q (ops.toList.drop m) a w) :
  LW F n P ops Q a0 w0:=by
 have chk1:∀ i o,ops[i]? = some o->ng o=true/\(∀ d,o.dst=some d->d<N)/\(∀ e∈o.after,Region.binds .any e=true->e.on<i)/\(∀ j d,i≠j->o.dst=some d->cK ops j≠some d) ∧
   (∀ j t,cK ops j=some t->t∈o.looksAt ops->i=j∨fX ops i j=true∨fX ops j i=true)/\fX ops i i=false:=by
  intro i o ho
  have hi:i<ops.size:=(X5.1 ho).1
  have h:=Yb.1 iX i (Yn.2 hi)
  simp only[ho,XZ] at h
  obtain ⟨⟨⟨⟨⟨h1,h2⟩,h3⟩,h4⟩,h5⟩,h6⟩:=h
  refine⟨h1,fun d hd=>by rw[hd] at h2; simpa using h2,fun e he hb=>?_,fun j d hij hd hj=>?_,fun j t hj ht=>?_,by simpa using h6⟩
  ·have:=Z5.1 h3 e he
   rw[hb] at this; simpa using this
  ·have hjs:j<ops.size:=by
    unfold cK at hj
    cases hx:ops[j]? with
    | none=>rw[hx] at hj; cases hj
    | some _=>exact(X5.1 hx).1
   have:=Yb.1 h4 j (Yn.2 hjs)
   rw[hd,hj] at this
   simp at this
   exact hij this
  ·have hjs:j<ops.size:=by
    unfold cK at hj
    cases hx:ops[j]? with
    | none=>rw[hx] at hj; cases hj
    | some _=>exact(X5.1 hx).1
   have:=Yb.1 h5 j (Yn.2 hjs)
   rw[hj] at this
   simp[ht] at this
   rcases this with (h | h) | h
   ·exact .inl h
   ·exact .inr (.inl h)
   ·exact .inr (.inr h)
 have hm2:m<=ops.size:=by simp only[fO,XZ,X6] at chkt; exact chkt.1.1
 have main:∀ (fuel:Nat) (listed:Array Bool) (a:Act) (w:World),CJ ops listed<=fuel->listed.size=ops.size->S w->a.defers=a0.defers->a.tmps.size=N ->
   (∀ i o,ops[i]? = some o->eX ops listed i->∀ e∈o.after,Region.binds .any e=true->eX ops listed e.on)->(∀ i,m<=i->i<ops.size->¬ eX ops listed i) ->
   (∀ i t,i<m->cK ops i=some t->eX ops listed i->V i (slot a t) w)->(∀ t,(∀ i,i<m->cK ops i=some t->¬ eX ops listed i)->slot a t=slot a0 t) ->
   (∀ i o,i<m->ops[i]? = some o->o.dst=none->eX ops listed i->∃ v,V i v w)->wpAnyIn F n P .any ops Q fuel listed a w:=by
  have getD_eq:∀ (listed:Array Bool) (i:Nat),i<listed.size->listed.getD i true=listed.getD i false:=fun listed i hi=>by simp[hi]
  intro fuel
  induction fuel with
  | zero=>
   intro listed a w hu hls hSw hdf hsz hcl hnt hv hno hns
   have all:∀ i,i<ops.size->eX ops listed i:=fun i hi=>by
    cases hc:listed.getD i false with
    | true=>exact hc
    | false=>
     have hmem:i∈(List.range ops.size).filter (fun i=>!listed.getD i true):=qaJ.2 ⟨Yn.2 hi,by rw[getD_eq _ _ j6,hc]; rfl⟩
     have:=ZX hmem
     unfold CJ at hu; omega
   have hmm:m=ops.size:=qaK hm2 (ZT fun h=>hnt m (X1 _) h (all m h))
   exact qM chkt 0 ops.size j6 hm2 0 listed a w (X1 _) hls (fun i hi=>⟨fun _=>hi,fun _=>all i hi⟩)
    (by rw[<-hmm]; exact hend a w hSw hdf hsz (fun i t hi h=>hv i t hi h (all i j6)) (fun t h=>hno t (fun i hi hi2=>absurd hi2 (h i hi))) (fun i o hi ho hd=>hns i o hi ho hd (all i j6)))
  | succ fuel ih=>
   intro listed a w hu hls hSw hdf hsz hcl hnt hv hno hns
   by_cases hall:∀ i,i<m->eX ops listed i
   ·refine qM chkt (ops.size - m) m j6 (X1 _) (fuel+1) listed a w ?_ hls (fun i hi=>⟨fun h=>Zq fun hle=>hnt i hle hi h,fun h=>hall i h⟩)
     (hend a w hSw hdf hsz (fun i t hi h=>hv i t hi h (hall i hi)) (fun t h=>hno t (fun i hi hi2=>absurd hi2 (h i hi))) (fun i o hi ho hd=>hns i o hi ho hd (hall i hi)))
    refine Yp ?_ hu
    unfold CJ
    have:((List.range ops.size).filter fun i=>decide (m<=i)).length=ops.size - m:=by
     rw[<-Zm]
     have:∀ s,(List.range s).countP (fun i=>decide (m<=i))=s - m:=by
      intro s
      induction s with
      | zero=>simp
      | succ s ih=>rw[List.range_succ,List.countP_append,ih]; simp[List.countP_cons]; split<;>omega
     exact this _
    rw[<-this]
    rw[<-Zm,<-Zm]
    refine qbq fun i hi h=>?_
    have hi:=Yn.1 hi
    have hn:=hnt i (by simpa using h) hi
    unfold eX at hn
    rw[getD_eq _ _ j6]
    simpa using hn
   ·simp only[qbt] at hall
    obtain ⟨i0,hi0,hni0⟩:=hall
    refine⟨fun hrd=>?_,fun i hi=>?_⟩
    ·exfalso
     have:∀ i,i<m->eX ops listed i:=by
      intro i
      induction i using Nat.strongRecOn with
      | _ i ih2=>
       intro hi
       cases hc:listed.getD i false with
       | true=>exact hc
       | false=>
        have:i∈Region.ready .any ops listed:=by
         refine qaa.2 ⟨by rw[getD_eq _ _ j6]; exact hc,_,Y1 j6,fun e he hb=>?_⟩
         have hlt:=(chk1 i _ (Y1 j6)).2.2.1 e he hb
         exact ih2 e.on hlt j6
        rw[hrd] at this; cases this
     exact hni0 (this i0 hi0)
    obtain ⟨hun,o,ho,hall⟩:=qaa.1 hi
    have his:i<ops.size:=(X5.1 ho).1
    have him:i<m:=Zq fun hle=>by
     simp only[fO,XZ] at chkt
     have h1:=Yb.1 chkt.1.2 i (Yn.2 his)
     simp only[YU,X6] at h1
     have h2:=Yb.1 (h1.resolve_left j6) i0 (Yn.2 hi0)
     exact hni0 (mc hcl i i0 ⟨o,ho,hall⟩ h2)
    obtain ⟨c1,c2,c3,c4,c5,c6⟩:=chk1 i o ho
    have hnot:¬ eX ops listed i:=by unfold eX; rw[<-getD_eq _ _ j6,hun]; simp
    have hdst:∀ t,o.dst=some t->cK ops i=some t:=fun t h=>by unfold cK; rw[ho]; exact h
    refine lS hWF ho c1 (hstep i o him ho a w hSw (fun t ht j hj hb=>?_) (fun t ht hj=>hno t fun j hjm hjt hcj=>?_) hsz) ?_
    ·have hcj:=mc hcl i j ⟨o,ho,hall⟩ hb
     have hjs:j<ops.size:=by
      unfold cK at hj
      cases hx:ops[j]? with
      | none=>rw[hx] at hj; cases hj
      | some _=>exact(X5.1 hx).1
     exact hv j t (Zq fun hle=>hnt j hle hjs hcj) hj hcj
    ·rcases c5 j t hjt ht with rfl | h | h
     ·exact hnot hcj
     ·rw[hj j hjt] at h; cases h
     ·cases hoj:ops[j]? with
      | none=>unfold cK at hjt; rw[hoj] at hjt; cases hjt
      | some oj=>exact hnot (mc hcl j i ⟨oj,hoj,hcl j oj hoj hcj⟩ h)
    ·rintro v w' ⟨hv1,hS1,hE1⟩
     have come_set:∀ k,eX ops (listed.setIfInBounds i true) k↔k=i∨eX ops listed k:=fun k=>by
      unfold eX
      by_cases e:k=i
      ·subst e; simp[hls,his]
      ·rw[Z4 false (YW e)]; simp[e]
     refine ih _ _ _ ?_ (by simpa using hls) hS1 ?_ ?_ ?_ ?_ ?_ ?_ ?_
     ·have:=filter_lt (fun k=>!listed.getD k true) (fun k=>!(listed.setIfInBounds i true).getD k true) (List.range ops.size) (fun x hx hq=>by
       by_cases e:i=x
       ·subst e; rw[hun]; rfl
       ·rw[Z4 true e] at hq; exact hq) ⟨i,Yn.2 his,by rw[hun]; rfl,by simp[hls,his]⟩
      unfold CJ at *; omega
     ·cases hd:o.dst<;>simp[Act.put,hdf]
     ·cases hd:o.dst<;>simp[Act.put,hsz]
     ·intro k ok hok hk e he hb
      rw[come_set]
      rcases (come_set k).1 hk with rfl | hk
      ·rw[ho] at hok; cases hok
       exact .inr (hall e he hb)
      ·exact .inr (hcl k ok hok hk e he hb)
     ·intro k hk hks hc
      rcases (come_set k).1 hc with rfl | hc
      ·omega
      ·exact hnt k hk hks hc
     ·intro k t hkm hkt hk
      rcases (come_set k).1 hk with rfl | hk
      ·have hd:o.dst=some t:=by unfold cK at hkt; rw[ho] at hkt; exact hkt
       rw[hd,fK (by rw[hsz]; exact c2 t hd)]
       exact hv1
      ·have hne:k≠i:=fun e=>hnot (e ▸ hk)
       rw[dV (fun hd=>c4 k t (YW hne) hd hkt)]
       exact hV k _ _ _ (hv k t hkm hkt hk) hE1
     ·intro t ht
      rw[dV (fun hd=>ht i him (hdst t hd) ((come_set i).2 (.inl rfl)))]
      exact hno t fun k hkm hk hck=>ht k hkm hk ((come_set k).2 (.inr hck))
     ·intro k ok hkm hok hd hk
      rcases (come_set k).1 hk with rfl | hk
      ·exact⟨v,hv1⟩
      ·obtain ⟨u,hu⟩:=hns k ok hkm hok hd hk
       exact⟨u,hV k _ _ _ hu hE1⟩
 have h0:∀ i,¬ eX ops (Array.replicate ops.size false) i:=fun i hc=>by
  unfold eX at hc
  by_cases h:i<ops.size<;>simp[Array.getD,h] at hc
 refine DQ hm (main _ _ _ _ ?_ r7 hS rfl hN ?_ ?_ ?_ ?_ ?_)
 ·unfold CJ
  exact Yp (qaF _ _) r7
 ·intro i o _ hc; exact absurd hc (h0 i)
 ·intro i _ _ hc; exact h0 i hc
 ·intro i t _ _ hc; exact absurd hc (h0 i)
 ·intro t _; rfl
 ·intro i o _ _ _ hc; exact absurd hc (h0 i)
end
section
open Go.RowKit
variable {α:Type} {L:U4 α} {e:TypeId} {base B:Nat} {w:World} {v:Value} {l:List α}
end
inductive A where
 | any
 | v (x:Value)
 | ptr (b o:Nat)
 | ep (b i o:Nat)
 | ip (cs:List A)
 | imm (els:List (List A)) (clip:Bool)
 | sl (b o n:Nat) (clip:Bool)
 | agg (cs:List A)
 | tup (cs:List A)
 | fn (f:Fn) (first cap:List A)
 | ifc (t:TypeId) (x:A)
 | yld (b:Nat)
 | nq (els:List (List A))
 | mr (b:Nat)
 | mv (k:IntKind) (ks:List Int) (vs:List A)
 deriving Inhabited
inductive IP where
 | exit (id:Nat)
 | goto (l:Nat)
 | ret
inductive cX where
 | ready
 | busy
 | done (j:IP)
inductive az where
 | box (cs:List A)
 | row (wr:Bool) (es:Nat) (els:List (List A))
 | rng (st:cX)
 | dead
 | hole
 | mp (k:IntKind) (ks:List Int) (vs:List A)
 deriving Inhabited
abbrev aB:=List az
inductive E where
 | normal
 | exit (id:Nat)
 | goto (l:Nat)
 | ret
 | pan (v:A)
inductive Out where
 | ret (a:A)
 | pan (a:A)
abbrev R:=Out×aB
structure St where
 fr:List (Nat×A)
 H:aB
structure Cx where
 P:Program
 glob:Nat->Option (List Value)
 isOrc:Nat->Bool
 isOrcV:Nat->Bool
 C:Nat->List A->Option A
 keep:Nat->Nat->List Nat
 wrAt:Nat->Nat->Bool
 acts:Nat->Nat->List (Nat×Nat×Nat)
 loud:Nat->Nat->Bool
 arr:Nat->Nat->Bool
 join:Nat->Nat->List Nat:=fun _ _=>[]
 cut:Nat->Nat:=fun _=>0
 fre:Nat->Bool:=fun _=>false
 deep:Nat->Bool:=fun _=>false
def xp (f r:Nat):List ((Nat×Nat)×List Nat)->List Nat
 | []=>[]
 | p :: l=>bif Nat.beq p.1.1 f then bif Nat.beq p.1.2 r then p.2 else xp f r l else xp f r l
def EI (f r:Nat):List ((Nat×Nat)×List (Nat×Nat×Nat))->List (Nat×Nat×Nat)
 | []=>[]
 | p :: l=>bif Nat.beq p.1.1 f then bif Nat.beq p.1.2 r then p.2 else EI f r l else EI f r l
def Jk (k:Nat):List (Nat×Nat)->Nat
 | []=>0
 | p :: l=>bif Nat.beq p.1 k then p.2 else Jk k l
def zh (f r:Nat):List (Nat×Nat)->Bool
 | []=>false
 | p :: l=>bif Nat.beq p.1 f&&Nat.beq p.2 r then true else zh f r l
def FG (k:Nat):List Nat->Bool
 | []=>true
 | x :: l=>bif Nat.beq x k then false else FG k l
def look:List (Nat×A)->Nat->A
 | [],_=>.any
 | (s,a) :: r,t=>bif Nat.beq s t then a else look r t
def St.put (s:St) (dst:Option Nat) (a:A):St:=match dst with | some d=>{ s with fr:=(d,a) :: s.fr } | none=>s
def cZ {α:Type} (P:Program):Sem α->Option α
 | .pure a=>some a
 | .program k=>cZ P (k P)
 | .mark _ k=>cZ P k
 | _=>none
mutual
def A.rD:A->Option Value
 | .v x=>some x
 | .agg cs=>(DB cs).map fun l=>.agg l.toArray
 | .ifc t x=>(A.rD x).map (.iface t)
 | .fn (.func f) [] []=>some (.func (.func f) #[] #[])
 | _=>none
def DB:List A->Option (List Value)
 | []=>some []
 | a :: as=>(A.rD a).bind fun x=>(DB as).map (x :: ·)
end
def A7:Value->A
 | .slice none 0 0=>.imm [] true
 | x=>.v x
def zw:Value->A
 | .agg cs=>.agg (cs.toList.map A7)
 | x=>A7 x
def m8 (P:Program) (t:TypeId):Bool:=match P.underlying t with | some (.struct _) | some (.array _ _)=>true | _=>false
def df (P:Program) (t:TypeId):Option Nat:=(P.underlying t).bind fun _=>(P.info? t).map (·.size)
def mS (P:Program) (t:TypeId):Option Nat:=(P.info? t).map (·.bytes)
def iR (P:Program) (t:TypeId):Option (List A):=(P.info? t).bind fun i=>i.zero.map fun z=>z.cells.toList.map A7
def nC (P:Program) (t:TypeId):Option TypeId:=match P.underlying t with | some (.slice e)=>some e | _=>none
def A.cell:A->Bool
 | .any | .agg _ | .tup _ | .nq _=>false
 | .v x=>x.oneCell'
 | _=>true
def A.cells?:A->Option (List A)
 | .agg cs=>bif cs.all A.cell then some cs else none
 | .v x=>bif x.oneCell' then some [.v x] else none
 | .any | .tup _ | .nq _=>none
 | a=>some [a]
def join (P:Program) (t:TypeId) (cs:List A):Option A:=bif m8 P t then some (.agg cs) else match cs with | [c]=>some c | _=>none
def chunk {α:Type} (es:Nat):Nat->List α->List (List α)
 | 0,_=>[]
 | q+1,xs=>xs.take es :: chunk es q (xs.drop es)
def nM (P:Program) (t:TypeId) (a:A) (H:aB):Option A:=
 (df P t).bind fun n=>bif n==0 then none else
 match a with
 | .ptr b o=>match H[b]? with
  | some (.box cs)=>bif decide (o+n<=cs.length) then join P t ((cs.drop o).take n) else none
  | _=>none
 | .ep b i o=>match H[b]? with
  | some (.row true _ els)=>match els[i]? with
   | some cs=>bif decide (o+n<=cs.length) then join P t ((cs.drop o).take n) else
    bif Nat.beq o 0&&Nat.beq ((els.drop i).take (n / cs.length)).flatten.length n then join P t ((els.drop i).take (n / cs.length)).flatten else none
   | none=>none
  | _=>none
 | .ip cs=>bif decide (n<=cs.length) then join P t (cs.take n) else none
 | _=>none
def bB {α:Type} (cs:List α) (o:Nat) (xs:List α):List α:=cs.take o++xs++cs.drop (o+xs.length)
def lK (P:Program) (t:TypeId) (a x:A) (H:aB) (lo:Nat):Option aB:=
 (df P t).bind fun n=>x.cells?.bind fun xs=>bif n==0 || !(xs.length==n) then none else
 match a with
 | .ptr b o=>match H[b]? with
  | some (.box cs)=>bif decide (lo<=b)&&decide (o+n<=cs.length) then some (H.set b (.box (bB cs o xs))) else none
  | _=>none
 | .ep b i o=>match H[b]? with
  | some (.row true es els)=>match els[i]? with
   | some cs=>bif decide (lo<=b)&&decide (o+n<=cs.length) then some (H.set b (.row true es (els.set i (bB cs o xs)))) else
    bif decide (lo<=b)&&Nat.beq o 0&&Nat.beq (n / es*es) n&&decide (i+n / es<=els.length) then some (H.set b (.row true es (bB els i (chunk es (n / es) xs)))) else none
   | none=>none
  | _=>none
 | _=>none
def mL (P:Program) (t:TypeId) (H:aB):Option (A×aB):=(iR P t).map fun cs=>(.ptr H.length 0,H++[.box cs])
def Al (x:A) (H:aB):Option (A×aB):=x.cells?.map fun cs=>(.ptr H.length 0,H++[.box cs])
def rowOf (P:Program) (t:TypeId) (cs:List A) (H:aB):Option (A×aB):=match P.underlying t with
 | some (.array n e)=>(df P e).bind fun es=>bif Nat.beq es 0 || Nat.beq n 0 || !Nat.beq cs.length (n*es) then none else some (.ep H.length 0 0,H++[.row true es (chunk es n cs)])
 | _=>none
def oK (P:Program) (t:TypeId) (H:aB):Option (A×aB):=(iR P t).bind fun cs=>rowOf P t cs H
def vi (P:Program) (t:TypeId) (x:A) (H:aB):Option (A×aB):=x.cells?.bind fun cs=>rowOf P t cs H
def pG (b:Bool) (P:Program) (t:TypeId) (H:aB):Option (A×aB):=bif b then oK P t H else mL P t H
def Aw (b:Bool) (P:Program) (t:TypeId) (x:A) (H:aB):Option (A×aB):=bif b then vi P t x H else Al x H
def rep (c:Bool):Operand:=if c then .const .nilIface else .tmp 0
def Lu:Operand->Bool | .const _=>true | _=>false
def tr (P:Program) (q:TypeId->Value->Value->Option Bool) (xs ys:Array Value):List Field->Option Bool
 | []=>some true
 | [f]=>bif f.name == "_" then some true else (cZ P (part f.type xs f.offset)).bind fun a=>(cZ P (part f.type ys f.offset)).bind fun b=>q f.type a b
 | f :: fs=>bif f.name == "_" then tr P q xs ys fs else (cZ P (part f.type xs f.offset)).bind fun a=>(cZ P (part f.type ys f.offset)).bind fun b=>(q f.type a b).bind fun r=>(tr P q xs ys fs).map fun r'=>r&&r'
def vq (P:Program) (q:TypeId->Value->Value->Option Bool) (e:TypeId) (c:Nat) (xs ys:Array Value):List Nat->Option Bool
 | []=>some true
 | [i]=>(cZ P (part e xs (i*c))).bind fun a=>(cZ P (part e ys (i*c))).bind fun b=>q e a b
 | i :: is=>(cZ P (part e xs (i*c))).bind fun a=>(cZ P (part e ys (i*c))).bind fun b=>(q e a b).bind fun r=>(vq P q e c xs ys is).map fun r'=>r&&r'
def MW (P:Program):Nat->TypeId->Value->Value->Option Bool
 | 0,_,_,_=>none
 | d+1,t,x,y=>match P.underlying t,x,y with
  | some (.int _),.int k a,.int k' b=>bif decide (k=k') then some (a==b) else none
  | some .bool,.bool a,.bool b=>some (a==b)
  | some .string,.string a,.string b=>some (a==b)
  | some (.struct _),.agg xs,.agg ys=>bif P.stoodInHeld t then none else tr P (MW P d) xs ys (P.fieldsOf t).toList
  | some (.array n e),.agg xs,.agg ys=>(P.info? e).bind fun _=>vq P (MW P d) e (P.cellsOf e) xs ys (List.range n)
  | _,_,_=>none
def vv (P:Program) (t:TypeId) (x y:A):Option Bool:=bif P.eqGuardType P.depth t then none else x.rD.bind fun a=>y.rD.bind fun b=>MW P 20 t a b
def kT (P:Program) (op:BinOp) (t:TypeId) (c d:Bool) (x y:A):Option A:=
 match op,x,y with
 | .eql,.agg _,.agg _=>(vv P t x y).map fun r=>.v (.bool r)
 | .neq,.agg _,.agg _=>(vv P t x y).map fun r=>.v (.bool (!r))
 | _,_,_=>x.rD.bind fun a=>y.rD.bind fun b=>(cZ P (do eqGuard op t (rep c) (rep d) a b; binOp op t a b)).map zw
def gB (P:Program) (op:UnOp) (x:A):Option A:=x.rD.bind fun a=>(cZ P (Op.unary op a)).map zw
def BG (mn:Bool) (x y:A):Option A:=match x,y with
 | .v (.int k a),.v (.int l b)=>bif k==l then some (.v (.int k (if mn then (if b<a then b else a) else (if a<b then b else a)))) else none
 | _,_=>none
def Jh (mn:Bool):A->List A->Option A
 | x,[]=>some x
 | x,y :: r=>(BG mn x y).bind fun z=>Jh mn z r
def xq (P:Program) (t:TypeId):Option (IntKind×TypeId):=match P.underlying t with
 | some (.map kt vt)=>match P.underlying kt with | some (.int k)=>some (k,vt) | _=>none
 | _=>none
def keyOf (k:IntKind):A->Option Int
 | .v (.int j n)=>bif decide (j=k) then some n else none
 | _=>none
def iz (a:Int):List Int->List A->Option A
 | x :: ks,v :: vs=>bif decide (a=x) then some v else iz a ks vs
 | _,_=>none
def Dv (a:Int) (y:A):List Int->List A->List Int×List A
 | x :: ks,v :: vs=>bif decide (a=x) then (x :: ks,y :: vs) else (x :: (Dv a y ks vs).1,v :: (Dv a y ks vs).2)
 | _,_=>([a],[y])
def qe (P:Program) (t:TypeId) (H:aB):Option (A×aB):=(xq P t).map fun p=>(.mr H.length,H++[.mp p.1 [] []])
def iy (P:Program) (t:TypeId) (m i x:A) (H:aB) (lo:Nat):Option aB:=(xq P t).bind fun p=>(keyOf p.1 i).bind fun a=>match m with
 | .mr b=>match H[b]? with
  | some (.mp k ks vs)=>bif decide (lo<=b)&&decide (k=p.1) then some (H.set b (.mp k (Dv a x ks vs).1 (Dv a x ks vs).2)) else none
  | _=>none
 | _=>none
def Gt (P:Program) (vt:TypeId) (c:Bool) (r:Option A):Option A:=match r with
 | some y=>some (bif c then .tup [y,.v (.bool true)] else y)
 | none=>(P.info? vt).bind fun i=>i.zero.map fun z=>bif c then .tup [zw z,.v (.bool false)] else zw z
def gS (P:Program) (t:TypeId) (m i:A) (c:Bool) (H:aB):Option A:=(xq P t).bind fun p=>(keyOf p.1 i).bind fun a=>match m with
 | .mv k ks vs=>bif decide (k=p.1) then Gt P p.2 c (iz a ks vs) else none
 | .mr b=>match H[b]? with
  | some (.mp k ks vs)=>bif decide (k=p.1) then Gt P p.2 c (iz a ks vs) else none
  | _=>none
 | _=>none
def nL (x:A) (i:Nat):Option A:=match x with | .tup cs=>cs[i]? | _=>none
def Ap (P:Program) (t:TypeId) (x:A) (i:Nat):Option A:=
 match P.underlying t,x with
 | some (.struct fs),.agg cs=>fs[i]?.bind fun f=>(df P f.type).bind fun n=>bif decide (f.offset+n<=cs.length) then join P f.type ((cs.drop f.offset).take n) else none
 | _,_=>none
def idx:A->Option Nat
 | .v (.int _ n)=>bif decide (0<=n) then some n.toNat else none
 | _=>none
def wF (P:Program) (t:TypeId) (x i:A):Option A:=
 (idx i).bind fun j=>
 match P.underlying t,x with
 | some (.array len e),.agg cs=>(df P e).bind fun n=>bif decide (j<len)&&decide (j*n+n<=cs.length) then join P e ((cs.drop (j*n)).take n) else none
 | some .string,.v (.string s)=>s[j]?.map fun b=>.v (.int .u8 b.toNat)
 | _,_=>none
def fT (H:aB):A->Bool
 | .ptr b _=>match H[b]? with | some (.box _)=>true | _=>false
 | .ep b _ _=>match H[b]? with | some (.row true _ _)=>true | _=>false
 | .sl b _ _ _=>match H[b]? with | some (.row ..)=>true | _=>false
 | .mr b=>match H[b]? with | some (.mp ..)=>true | _=>false
 | _=>true
def gg (P:Program) (t:TypeId) (x:A) (i:Nat) (H:aB):Option A:=
 bif fT H x then
 match P.underlying t with
 | some (.struct fs)=>fs[i]?.bind fun f=>(df P f.type).bind fun n=>bif n==0 then none else
  match x with
  | .ptr b o=>some (.ptr b (o+f.offset))
  | .ep b j o=>some (.ep b j (o+f.offset))
  | .ip cs=>some (.ip (cs.drop f.offset))
  | _=>none
 | _=>none
 else none
def c7 (P:Program) (t:TypeId) (x i:A) (H:aB):Option A:=
 (idx i).bind fun j=>bif fT H x then
 match P.underlying t with
 | some (.slice e)=>(df P e).bind fun n=>match x with
  | .imm els _=>els[j]?.bind fun cs=>bif cs.length==n then some (.ip cs) else none
  | .sl b o m _=>bif decide (j<m) then match H[b]? with
   | some (.row true es _)=>bif es==n then some (.ep b (o+j) 0) else none
   | some (.row false es els)=>bif es==n then els[o+j]?.map .ip else none
   | _=>none else none
  | _=>none
 | some (.array len e)=>(df P e).bind fun n=>bif !decide (j<len) then none else match x with
  | .ptr b o=>some (.ptr b (o+j*n))
  | .ep b k o=>match H[b]? with
   | some (.row _ es els)=>bif Nat.beq es n&&Nat.beq o 0&&decide (k+j<els.length) then some (.ep b (k+j) 0) else some (.ep b k (o+j*n))
   | _=>none
  | .ip cs=>some (.ip (cs.drop (j*n)))
  | _=>none
 | _=>none
 else none
def qX (P:Program) (t:TypeId) (x:A) (H:aB):Option A:=
 bif fT H x then
 match P.underlying t,x with
 | some .string,.v (.string s)=>some (.v (.int .i64 s.size))
 | some (.slice _),.imm els _=>some (.v (.int .i64 els.length))
 | some (.slice _),.sl _ _ n _=>some (.v (.int .i64 n))
 | _,_=>none
 else none
def ru (H:aB):A->Bool
 | .ptr b o=>fT H (.ptr b o)
 | .ep b i o=>fT H (.ep b i o)
 | .ip _=>true
 | .fn (.func _) _ _=>true
 | _=>false
def CO (a:A) (H:aB):Option A:=bif ru H a then some a else none
def lQ (d:Nat):Option A->Option Nat
 | none=>some d
 | some a=>idx a
def eI (P:Program) (t:TypeId) (x:A) (lo hi mx:Option A) (H:aB):Option A:=
 match P.underlying t,x with
 | some .string,.v (.string s)=>bif mx.isSome then none else
  (lQ s.size hi).bind fun h=>(lQ 0 lo).bind fun l=>bif decide (l<=h)&&decide (h<=s.size) then some (.v (.string (s.extract l h))) else none
 | some (.slice e),.imm els c=>(df P e).bind fun n=>(lQ els.length hi).bind fun h=>(lQ 0 lo).bind fun l=>
  bif decide (l<=h)&&decide (h<=els.length)&&(l==0 || match els[l]? with | some cs=>cs.length==n | none=>true) then match mx with
   | none=>some (.imm ((els.drop l).take (h - l)) (c&&h==els.length))
   | some m=>(idx m).bind fun m=>bif m==h then some (.imm ((els.drop l).take (h - l)) true) else none
  else none
 | some (.slice e),.sl b o n c=>(df P e).bind fun z=>(lQ n hi).bind fun h=>(lQ 0 lo).bind fun l=>
  bif decide (l<=h)&&decide (h<=n)&&(match H[b]? with | some (.row _ es _)=>es==z | _=>false) then match mx with
   | none=>some (.sl b (o+l) (h - l) (c&&h==n))
   | some m=>(idx m).bind fun m=>bif m==h then some (.sl b (o+l) (h - l) true) else none
  else none
 | some (.array n e),.ip cs=>(df P e).bind fun z=>(lQ n hi).bind fun h=>(lQ 0 lo).bind fun l=>
  bif decide (l<=h)&&decide (h<=n)&&decide (n*z<=cs.length)&&mx.isNone&&!Nat.beq z 0 then some (.imm (((chunk z n cs).drop l).take (h - l)) (Nat.beq h n)) else none
 | some (.array n e),.ep b k o=>(df P e).bind fun z=>(lQ n hi).bind fun h=>(lQ 0 lo).bind fun l=>
  bif decide (l<=h)&&decide (h<=n)&&mx.isNone&&Nat.beq o 0&&(match H[b]? with | some (.row true es els)=>Nat.beq es z&&decide (k+n<=els.length) | _=>false) then some (.sl b (k+l) (h - l) (Nat.beq h n)) else none
 | _,_=>none
def els? (H:aB):A->Option (List (List A))
 | .imm els _=>some els
 | .sl b o n _=>match H[b]? with
  | some (.row _ _ els)=>some ((els.drop o).take n)
  | _=>none
 | .v (.string s)=>some (s.data.toList.map fun c=>[.v (.int .u8 c.toNat)])
 | _=>none
def yz (H:aB):A->Option (List (List A))
 | .v _=>none
 | x=>els? H x
def fg:Nat:=140737488355328
def om (P:Program) (t:TypeId):Bool:=match P.underlying t with | some (.slice _) | some .string=>true | _=>false
def xm (P:Program) (t:TypeId):Bool:=match P.underlying t with | some (.int _)=>true | _=>false
def zT:A->A
 | .imm els _=>.imm els false
 | a=>a
def AE (P:Program) (H:aB) (t2:TypeId) (by_:Nat) (z:List A) (y:A):Option (List (List A)):=bif om P t2 then els? H y else match y with
 | .v (.int .i64 n)=>bif xm P t2&&decide (0<=n)&&decide (n*by_<=fg)&&decide (n<=fg) then some (List.replicate n.toNat (z.map zT)) else none
 | _=>none
def bp (P:Program) (t t2:TypeId) (wr:Bool) (x y:A) (H:aB) (lo:Nat):Option (A×aB):=
 (nC P t).bind fun e=>(df P e).bind fun es=>(mS P e).bind fun by_=>(iR P e).bind fun z=>(AE P H t2 by_ z y).bind fun ys=>
 bif es==0 || by_==0 || !(z.length==es) || !(ys.all fun cs=>cs.length==es&&cs.all A.cell) then none else
 match x with
 | .imm xs true=>
  bif !decide ((xs.length+ys.length)*by_<=fg) then none else
  bif wr&&xs.isEmpty then some (.sl H.length 0 ys.length false,H++[.row true es ys]) else
  bif xs.all (fun cs=>cs.length==es&&cs.all A.cell) then some (.sl H.length 0 (xs.length+ys.length) false,H++[.row false es (xs++ys)]) else none
 | .sl b o n c=>match H[b]? with
  | some (.row false es' els)=>
   bif !decide ((n+ys.length)*by_<=fg) || !(es'==es) || !decide (o+n<=els.length) then none else
   bif c then some (.sl H.length 0 (n+ys.length) false,H++[.row false es ((els.drop o).take n++ys)]) else
   bif decide (lo<=b)&&o==0&&n==els.length then some (.sl b 0 (n+ys.length) false,H.set b (.row false es (els++ys))) else none
  | _=>none
 | _=>none
def hJ (ck:Bool) (P:Program) (t:TypeId) (n c:A) (H:aB):Option (A×aB):=
 (nC P t).bind fun e=>(df P e).bind fun es=>(mS P e).bind fun by_=>(iR P e).bind fun z=>(idx n).bind fun n=>(idx c).bind fun c=>
 bif es==0 || !(z.length==es) || !decide (c*by_<=fg) || !decide (c<=fg) || !decide (n<=c) then none else
 bif n==c then some (.sl H.length 0 n ck,H++[.row true es (List.replicate n (z.map zT))]) else
 bif n==0 then some (.sl H.length 0 0 false,H++[.row false es []]) else none
def iV (P:Program) (t:TypeId) (n c:A) (H:aB):Option (A×aB):=hJ false P t n c H
def nN (P:Program) (t:TypeId) (n c:A) (H:aB):Option (A×aB):=
 (nC P t).bind fun e=>(df P e).bind fun es=>(mS P e).bind fun by_=>(iR P e).bind fun z=>(idx n).bind fun n=>(idx c).bind fun c=>
 bif es==0 || !(z.length==es) || !decide (c*by_<=fg) || !decide (c<=fg) || !(n==c) then none else some (.imm (List.replicate n (z.map zT)) false,H)
def vQ (b:Bool) (P:Program) (t:TypeId) (n c:A) (H:aB):Option (A×aB):=bif b then nN P t n c H else iV P t n c H
def vz (place:Nat->Option (Nat×Nat)) (cs:List A):List (Nat×A)->Option (List A)
 | []=>some cs
 | (i,x) :: r=>(place i).bind fun p=>x.cells?.bind fun xs=>bif xs.length==p.2&&decide (p.1+p.2<=cs.length) then vz place (bB cs p.1 xs) r else none
def Ct (P:Program) (t:TypeId):Option (Nat->Option (Nat×Nat)):=match P.underlying t with
 | some (.struct fs)=>(fs.toList.mapM fun f=>(P.info? f.type).map fun i=>(f.offset,i.size)).map fun places=>(places.toArray[·]?)
 | some (.array _ e)=>(P.info? e).map fun i=>fun j=>some (j*i.size,i.size)
 | _=>none
def wC (P:Program) (t:TypeId) (parts:List (Nat×A)):Option A:=
 (iR P t).bind fun z=>(Ct P t).bind fun place=>(vz place z parts).map .agg
def nr (els:List (List A)):List (Nat×A)->Option (List (List A))
 | []=>some els
 | (i,x) :: r=>x.cells?.bind fun xs=>nr (els.set i xs) r
def aF (P:Program) (t:TypeId) (len:Nat) (parts:List (Nat×A)):Option A:=
 (nC P t).bind fun e=>(df P e).bind fun es=>(iR P e).bind fun z=>bif es==0 || !(z.length==es) || !decide (len*es<=16777216) then none else
 bif parts.all (fun p=>decide (p.1<len)&&(match p.2.cells? with | some xs=>xs.length==es | none=>false)) then (nr (List.replicate len z) parts).map fun els=>.imm els true else none
def qU (P:Program) (t:TypeId) (len:Nat) (parts:List (Nat×A)) (H:aB):Option (A×aB):=
 (nC P t).bind fun e=>(df P e).bind fun es=>(aF P t len parts).bind fun a=>match a with
  | .imm els true=>some (.sl H.length 0 els.length true,H++[.row true es els])
  | _=>none
def rK (P:Program) (t:TypeId) (x y:A) (H:aB) (lo:Nat):Option (A×aB):=
 (nC P t).bind fun e=>(df P e).bind fun es=>(els? H y).bind fun ys=>bif es==0 || !(ys.all fun cs=>cs.length==es&&cs.all A.cell) then none else
 match x with
 | .sl b o n _=>match H[b]? with
  | some (.row true es' els)=>bif decide (lo<=b)&&es'==es then some (.v (.int .i64 (min ys.length n:Nat)),H.set b (.row true es (bB els o (ys.take n)))) else none
  | _=>none
 | _=>none
def bytesOf:List (List A)->Option (List UInt8)
 | []=>some []
 | [.v (.int .u8 n)] :: r=>(bytesOf r).map (n.toNat.toUInt8 :: ·)
 | _=>none
def bz (P:Program) (s d:TypeId) (x:A) (H:aB):Option A:=
 match P.underlying s,P.underlying d,x with
 | some (.slice e),some .string,x=>match P.underlying e,df P e with
  | some (.int .u8),some 1=>(yz H x).bind fun els=>(bytesOf els).map fun l=>.v (.string ⟨l.toArray⟩)
  | _,_=>none
 | some .string,some (.slice e),.v (.string s)=>match P.underlying e with
  | some (.int .u8)=>some (.imm (s.data.toList.map fun c=>[.v (.int .u8 c.toNat)]) false)
  | _=>none
 | _,_,x=>x.rD.bind fun a=>(cZ P (convert s d a)).map zw
def EE (P:Program) (t:TypeId) (x:A):Option A:=match P.underlying t with | some (.interface _)=>none | none=>none | some _=>some (.ifc t x)
def xz (P:Program) (t:TypeId) (c:Bool):Option A:=bif c then (P.info? t).bind fun i=>i.zero.map fun z=>.tup [zw z,.v (.bool false)] else none
def mM (P:Program) (x:A) (t:TypeId) (c:Bool):Option A:=match P.underlying t with
 | none=>none
 | some (.interface _)=>none
 | some _=>match x with
  | .ifc t' y=>bif Nat.beq t' t then some (bif c then .tup [y,.v (.bool true)] else y) else xz P t c
  | .v .nilIface=>xz P t c
  | _=>none
mutual
def cO (g:Nat->Nat->Nat->A):A->A
 | .sl b o m _=>g b o m
 | .imm els _=>.imm (dx g els) false
 | .agg cs=>.agg (bc g cs)
 | .tup cs=>.tup (bc g cs)
 | .ifc t x=>.ifc t (cO g x)
 | .mv k ks vs=>.mv k ks (bc g vs)
 | .v x=>.v x
 | .fn f [] []=>.fn f [] []
 | _=>.any
def bc (g:Nat->Nat->Nat->A):List A->List A
 | []=>[]
 | a :: as=>cO g a :: bc g as
def dx (g:Nat->Nat->Nat->A):List (List A)->List (List A)
 | []=>[]
 | a :: as=>bc g a :: dx g as
end
def iQ:Nat->aB->Nat->Nat->Nat->A
 | 0,_,_,_,_=>.any
 | n+1,H,b,o,m=>match H[b]? with
  | some (.row false _ els)=>.imm (dx (iQ n H) ((els.drop o).take m)) false
  | _=>.any
def snap (H:aB) (a:A):A:=cO (iQ 4 H) a
def jK:Nat->aB->Nat->Nat->Nat->A
 | 0,_,_,_,_=>.any
 | n+1,H,b,o,m=>match H[b]? with
  | some (.row _ _ els)=>.imm (dx (jK n H) ((els.drop o).take m)) false
  | _=>.any
def aK (H:aB) (a:A):A:=match a with
 | .mr b=>match H[b]? with
  | some (.mp k ks vs)=>.mv k ks (bc (jK 4 H) vs)
  | _=>.any
 | a=>cO (jK 4 H) a
def vj (lo:Nat) (a:A) (H:aB):Option (A×aB):=match a with
 | .sl b o n _=>match H[b]? with
  | some (.row true _ els)=>bif decide (lo<=b) then some (.imm (dx (iQ 4 H) ((els.drop o).take n)) false,H.set b .dead) else none
  | some (.row false _ els)=>some (.imm (dx (iQ 4 H) ((els.drop o).take n)) false,H)
  | _=>none
 | .ptr b o=>match H[b]? with
  | some (.box cs)=>bif decide (lo<=b)&&Nat.beq o 0 then some (.ip cs,H.set b .dead) else none
  | _=>none
 | _=>none
def EF (P:Program) (s t:TypeId) (x:A) (H:aB) (lo:Nat):Option (A×aB):=
 match P.underlying s with
 | some (.slice e)=>match P.underlying e with
  | some (.int .u8)=>match x with
   | .sl b _ n _=>match H[b]? with
    | some (.row true _ _)=>bif Nat.beq s t&&decide (0<n) then vj lo x H else none
    | _=>none
   | _=>none
  | _=>none
 | _=>none
def Di (H:aB) (a:A):A:=match a with | .sl b o n c=>snap H (.sl b o n c) | .imm els _=>.imm els false | a=>a
def cC (H:aB) (a:A):A:=match a with | .sl b o n c=>snap H (.sl b o n c) | .agg cs=>.agg (cs.map (Di H)) | a=>a
def bF (a:A) (H:aB) (x:A):A:=match a with | .ep ..=>cC H x | _=>x
mutual
def A.under (L:Nat):A->Bool
 | .any | .v _ | .nq _=>true
 | .ptr b _ | .ep b _ _ | .sl b _ _ _ | .yld b | .mr b=>decide (b<L)
 | .mv _ _ vs=>bh L vs
 | .ip cs | .agg cs | .tup cs=>bh L cs
 | .imm els _=>aR L els
 | .fn _ a b=>bh L a&&bh L b
 | .ifc _ x=>A.under L x
def bh (L:Nat):List A->Bool
 | []=>true
 | a :: as=>A.under L a&&bh L as
def aR (L:Nat):List (List A)->Bool
 | []=>true
 | a :: as=>bh L a&&aR L as
end
def az.under (L:Nat):az->Bool
 | .box cs=>bh L cs
 | .row _ _ els=>aR L els
 | .rng _=>true
 | .dead=>true
 | .hole=>true
 | .mp _ _ vs=>bh L vs
def trim (L:Nat) (H:aB):Option aB:=bif H.length==L then some H else bif (H.take L).all (az.under L) then some (H.take L) else none
def cD (cx:Cx) (s:St):Operand->A
 | .tmp t=>look s.fr t
 | .const x=>zw x
 | .global g=>match cx.glob g with | some vs=>.ip (vs.map .v) | none=>.any
 | .func f=>.fn (.func f) [] []
def di {β:Type} (a:A) (x y:Option β):Option β:=match a with | .v (.bool b)=>bif b then x else y | _=>none
noncomputable def both {β:Type} (x y:Option β):Option β:=open Classical in if x=y then y else none
noncomputable def Me {β:Type} (els:List (List A)) (x y:Option β):Option β:=match els with | []=>both x y | _ :: _=>y
noncomputable def aY {β:Type} (a:A) (x y:Option β):Option β:=match a with | .nq els=>Me els x y | a=>di a x y
def QR (P:Program) (t:TypeId) (x:A):Option A:=match P.underlying t,x with | some (.slice _),.imm els _=>some (.nq els) | _,_=>none
def KF (op:BinOp) (y:Operand):Bool:=match op,y with | .eql,.const (.slice none 0 0)=>true | _,_=>false
def Mf (b:Bool) (P:Program) (op:BinOp) (t:TypeId) (c d:Bool) (x y:A):Option A:=bif b then QR P t x else kT P op t c d x y
abbrev bj:=Nat->List A->aB->Nat->Option R
def qq {β:Type} (cx:Cx) (f lo:Nat) (dst:Option Nat) (c:Call) (s:St) (k:A->aB->Option β):Option β:=
 match c.callee,c.args.toList,c.argTypes.toList with
 | .builtin .len,[x],[t]=>(qX cx.P t (cD cx s x) s.H).bind fun a=>k a s.H
 | .builtin .append,[x,y],[t,t2]=>(bp cx.P t t2 (cx.wrAt f (dst.getD 0)) (cD cx s x) (cD cx s y) s.H lo).bind fun r=>k r.1 r.2
 | .builtin .copy,[x,y],[t,_]=>(rK cx.P t (cD cx s x) (cD cx s y) s.H lo).bind fun r=>k r.1 r.2
 | .builtin .min,x :: r,_=>(Jh true (cD cx s x) (r.map (cD cx s))).bind fun a=>k a s.H
 | .builtin .max,x :: r,_=>(Jh false (cD cx s x) (r.map (cD cx s))).bind fun a=>k a s.H
 | _,_,_=>none
def b7 {β:Type} (cx:Cx) (f:Nat) (lo:Nat) (o:Oper) (s:St) (k:A->aB->Option β):Option β:=
 match o.op with
 | .move x | .assign x=>k (cD cx s x) s.H
 | .alloc t=>(pG (cx.arr f t) cx.P t s.H).bind fun r=>k r.1 r.2
 | .box t x=>(Aw (cx.arr f t) cx.P t (cD cx s x) s.H).bind fun r=>k r.1 r.2
 | .build t parts=>(wC cx.P t (parts.toList.map fun p=>(p.1,cD cx s p.2))).bind fun a=>k a s.H
 | .buildSlice t n parts=>(aF cx.P t n (parts.toList.map fun p=>(p.1,cC s.H (cD cx s p.2)))).bind fun a=>k a s.H
 | .load t a=>(nM cx.P t (cD cx s a) s.H).bind fun a=>k a s.H
 | .store t a x=>(lK cx.P t (cD cx s a) (bF (cD cx s a) s.H (cD cx s x)) s.H lo).bind fun H=>k .any H
 | .binOp op t x y _=>(Mf (KF op y) cx.P op t (Lu x) (Lu y) (cD cx s x) (cD cx s y)).bind fun a=>k a s.H
 | .unOp op _ x=>(gB cx.P op (cD cx s x)).bind fun a=>k a s.H
 | .convert a b x=>(bz cx.P a b (cD cx s x) s.H).bind fun a=>k a s.H
 | .makeInterface t x=>(EE cx.P t (cD cx s x)).bind fun a=>k a s.H
 | .makeFunc fn a b=>k (.fn fn (a.toList.map (cD cx s)) (b.toList.map (cD cx s))) s.H
 | .makeSlice t n c=>(vQ (cx.loud f (o.dst.getD 0)) cx.P t (cD cx s n) (cD cx s c) s.H).bind fun r=>k r.1 r.2
 | .slice t x lo hi mx=>(bif mx.isNone || hi.isSome then eI cx.P t (cD cx s x) (lo.map (cD cx s)) (hi.map (cD cx s)) (mx.map (cD cx s)) s.H else none).bind fun a=>k a s.H
 | .fieldAddr t x i=>(gg cx.P t (cD cx s x) i s.H).bind fun a=>k a s.H
 | .field t x i=>(Ap cx.P t (cD cx s x) i).bind fun a=>k a s.H
 | .indexAddr t x i=>(c7 cx.P t (cD cx s x) (cD cx s i) s.H).bind fun a=>k a s.H
 | .index t x i=>(wF cx.P t (cD cx s x) (cD cx s i)).bind fun a=>k a s.H
 | .extract x i=>(nL (cD cx s x) i).bind fun a=>k a s.H
 | .nilCheck x=>(CO (cD cx s x) s.H).bind fun a=>k a s.H
 | .makeMap t none=>(qe cx.P t s.H).bind fun r=>k r.1 r.2
 | .insert t m i x=>(iy cx.P t (cD cx s m) (cD cx s i) (cD cx s x) s.H lo).bind fun H=>k .any H
 | .mapUpdate t m i x=>(iy cx.P t (cD cx s m) (cD cx s i) (cD cx s x) s.H lo).bind fun H=>k .any H
 | .lookup t m i c=>(gS cx.P t (cD cx s m) (cD cx s i) c s.H).bind fun a=>k a s.H
 | .typeAssert x _ t c=>(mM cx.P (cD cx s x) t c).bind fun a=>k a s.H
 | .call c=>qq cx f lo o.dst c s k
 | _=>none
def db (P:Program) (k:Nat):Bool:=match P.funcs[k]? with | some fn=>fn.body.isSome&&!(fn.name == "runtime.NumGoroutine") | none=>false
def callee? (cx:Cx) (s:St):Op->Option (Nat×List A)
 | .call c=>match c.callee with
  | .value g=>match cD cx s g with
   | .fn (.func k) first cap=>bif db cx.P k then some (k,first++c.args.toList.map (cD cx s)++cap) else none
   | _=>none
  | _=>none
 | _=>none
def yldOf? (cx:Cx) (s:St):Op->Option (Nat×List A)
 | .call c=>match c.callee with
  | .value g=>match cD cx s g with
   | .yld b=>some (b,c.args.toList.map (cD cx s))
   | _=>none
  | _=>none
 | _=>none
def zl (H:aB) (b:Nat):Bool:=match H[b]? with | some (.rng _)=>true | _=>false
def JO {α β:Type} (x:Option α) (k:α->Option β) (e:Option β):Option β:=match x with | some a=>k a | none=>e
def je:Op->Bool
 | .call c=>match c.callee with | .value _=>true | _=>false
 | _=>false
def cf (x:Out) (k:A->Option R) (pan:A->Option R):Option R:=match x with | .ret a=>k a | .pan a=>pan a
def oy (L:Nat) (r:R):Option A:=match r.1 with
 | .ret a=>bif A.under L a then some a else none
 | .pan _=>none
def jz (cx:Cx) (s:St):Op->A
 | .call c=>match c.callee with | .value g=>cD cx s g | _=>.any
 | _=>.any
def fm (cx:Cx) (s:St):Op->List A
 | .call c=>c.args.toList.map (cD cx s)
 | _=>[]
def dJ (cx:Cx) (call:bj) (fv:A) (args:List A) (H:aB) (lo:Nat) (k:A->aB->Option R) (pan:A->aB->Option R):Option R:=
 match fv with
 | .yld b=>bif zl H b then (call (cx.P.funcs.size+b) args H lo).bind fun r=>cf r.1 (fun a=>k a r.2) (fun _=>none) else none
 | .fn (.func q) first cap=>bif db cx.P q then
   bif cx.isOrc q then (cx.C q ((first++args++cap).map (snap H))).bind fun a=>k a H
   else (call q (first++args++cap) H lo).bind fun r=>cf r.1 (fun a=>k a r.2) (fun a=>pan a r.2)
  else none
 | _=>none
theorem tl {cx:Cx} {call:bj} {s:St} {op:Op} {lo:Nat} {k:A->aB->Option R} {pan:A->aB->Option R}:dJ cx call (jz cx s op) (fm cx s op) s.H lo k pan =
   JO (yldOf? cx s op) (fun p=>bif zl s.H p.1 then (call (cx.P.funcs.size+p.1) p.2 s.H lo).bind fun r=>cf r.1 (fun a=>k a r.2) (fun _=>none) else none)
   ((callee? cx s op).bind fun p=>bif cx.isOrc p.1 then (cx.C p.1 (p.2.map (snap s.H))).bind fun a=>k a s.H
    else (call p.1 p.2 s.H lo).bind fun r=>cf r.1 (fun a=>k a r.2) (fun a=>pan a r.2)):=by
 cases op with
 | call c=>
  cases hc:c.callee with
  | value g=>
   cases hf:cD cx s g with
   | fn f first cap=>cases f with
    | func q=>
     simp only[dJ,jz,fm,yldOf?,callee?,JO,hc,hf]
     cases db cx.P q<;>rfl
    | _=>simp only[dJ,jz,fm,yldOf?,callee?,JO,hc,hf]; rfl
   | yld b=>simp only[dJ,jz,fm,yldOf?,callee?,JO,hc,hf]
   | _=>simp only[dJ,jz,fm,yldOf?,callee?,JO,hc,hf]; rfl
  | _=>simp only[dJ,jz,fm,yldOf?,callee?,JO,hc]; rfl
 | _=>rfl
def sd {β:Type} (cx:Cx) (call:bj) (fv:A) (args:List A) (H:aB) (k:A->Option β):Option β:=
 match fv with
 | .fn (.func q) first cap=>bif db cx.P q then
   bif cx.isOrcV q then (cx.C q ((first++args++cap).map (snap H))).bind k
   else ((call q (first++args++cap) H H.length).bind fun r=>oy H.length r).bind k
  else none
 | _=>none
def Du {β:Type} (x:A) (k:A->Option β):Option β:=match x with | .ifc t y=>k (.ifc t y) | _=>none
def tt (cx:Cx) (call:bj) (f lo:Nat) (o:Oper) (s:St) (k:St->Option R) (pan:A->St->Option R):Option R:=
 match o.op with
 | .pick c a b=>(di (cD cx s c) (some (cD cx s a)) (some (cD cx s b))).bind fun x=>k (s.put o.dst x)
 | .panic x=>Du (cD cx s x) fun a=>pan a s
 | .buildSlice t n parts=>bif cx.wrAt f (o.dst.getD 0) then (qU cx.P t n (parts.toList.map fun p=>(p.1,cC s.H (cD cx s p.2))) s.H).bind fun r=>k ({ s with H:=r.2 }.put o.dst r.1) else b7 cx f lo o s fun a H=>k ({ s with H:=H }.put o.dst a)
 | .makeSlice t n c=>bif cx.wrAt f (o.dst.getD 0) then (hJ true cx.P t (cD cx s n) (cD cx s c) s.H).bind fun r=>k ({ s with H:=r.2 }.put o.dst r.1) else b7 cx f lo o s fun a H=>k ({ s with H:=H }.put o.dst a)
 | .convert t t' x=>bif Nat.beq t t' then (EF cx.P t t' (cD cx s x) s.H lo).bind fun r=>k ({ s with H:=r.2 }.put o.dst r.1) else b7 cx f lo o s fun a H=>k ({ s with H:=H }.put o.dst a)
 | .call _=>bif je o.op then
   dJ cx call (jz cx s o.op) (fm cx s o.op) s.H lo (fun a H=>k ({ s with H:=H }.put o.dst a)) (fun a H=>pan a { s with H:=H })
  else b7 cx f lo o s fun a H=>k ({ s with H:=H }.put o.dst a)
 | _=>b7 cx f lo o s fun a H=>k ({ s with H:=H }.put o.dst a)
def cz (ops:Array Oper) (o:Oper):Option (Nat×Bool):=match o.guard with
 | some (j,want)=>match ops[j]? with
  | some q=>match q.dst with
   | some t=>some (t,want)
   | none=>none
  | none=>none
 | none=>none
theorem jS (ops:Array Oper) (o:Oper):cz ops o=match o.guard with | some (j,want)=>((ops[j]?).bind (·.dst)).map (·,want) | none=>none:=by
 unfold cz
 split
 ·rename_i j want h
  cases ops[j]? with
  | none=>rfl
  | some q=>show _=(Option.bind (some q) (·.dst)).map _; cases h:q.dst<;>simp[h]
 ·rfl
def qC {β:Type} (g:A) (want:Bool) (run skip:Option β):Option β:=match g with
 | .v (.bool b)=>bif b then bif want then run else skip else bif want then skip else run
 | .v (.tuple _)=>skip
 | _=>none
theorem wV {β:Type} {cx:Cx} {call:bj} {s:St} {op:Op} {k:A->Option β}:sd cx call (jz cx s op) (fm cx s op) s.H k =
   ((callee? cx s op).bind fun p=>bif cx.isOrcV p.1 then cx.C p.1 (p.2.map (snap s.H))
    else (call p.1 p.2 s.H s.H.length).bind fun r=>oy s.H.length r).bind k:=by
 cases op with
 | call c=>
  cases hc:c.callee with
  | value g=>
   cases hf:cD cx s g with
   | fn f first cap=>cases f with
    | func q=>
     simp only[sd,jz,fm,callee?,hc,hf]
     cases db cx.P q with
     | false=>rfl
     | true=>
      simp only[XY,XV]
      cases cx.isOrcV q<;>rfl
    | _=>simp only[sd,jz,fm,callee?,hc,hf]; rfl
   | _=>simp only[sd,jz,fm,callee?,hc,hf]; rfl
  | _=>simp only[sd,jz,fm,callee?,hc]; rfl
 | _=>rfl
def il (cx:Cx) (call:bj) (f:Nat) (o:Oper) (s:St):Option A:=
 match o.op with
 | .pick c a b=>di (cD cx s c) (some (cD cx s a)) (some (cD cx s b))
 | .alloc _ | .box .. | .store .. | .makeSlice .. | .panic _ | .makeMap .. | .insert .. | .mapUpdate ..=>none
 | .call c=>bif je o.op then
   sd cx call (jz cx s o.op) (fm cx s o.op) s.H some
  else match c.callee with
   | .builtin .len=>b7 cx f 0 o s fun a _=>some a
   | _=>none
 | _=>b7 cx f 0 o s fun a _=>some a
def tC {β:Type} (cx:Cx) (call:bj) (f:Nat) (o:Oper) (s:St) (k:A->Option β):Option β:=
 match o.op with
 | .pick c a b=>(di (cD cx s c) (some (cD cx s a)) (some (cD cx s b))).bind k
 | .alloc _ | .box .. | .store .. | .makeSlice .. | .panic _ | .makeMap .. | .insert .. | .mapUpdate ..=>none
 | .call c=>bif je o.op then
   sd cx call (jz cx s o.op) (fm cx s o.op) s.H k
  else match c.callee with
   | .builtin .len=>b7 cx f 0 o s fun a _=>k a
   | _=>none
 | _=>b7 cx f 0 o s fun a _=>k a
def quiet (cx:Cx) (f:Nat) (o:Oper):Bool:=
 match o.op with
 | .alloc _ | .box .. | .store .. | .makeSlice .. | .panic _ | .makeMap .. | .insert .. | .mapUpdate ..=>false
 | .call c=>match c.callee with
  | .value (.func k)=>cx.isOrc k
  | .value _=>match o.dst with | some d=>!cx.loud f d | none=>true
  | .builtin .len=>true
  | _=>false
 | _=>true
def bE {β:Type} (l:List A) (k:A->List A->Option β):Option β:=match l with | a :: r=>k a r | []=>none
def Ix {β:Type}:List Nat->List A->(List (Nat×A)->Option β)->Option β
 | [],_,k=>k []
 | d :: ds,l,k=>bE l fun a r=>Ix ds r fun fr=>k ((d,a) :: fr)
def jJ (t:Nat):List Nat->Bool
 | []=>false
 | x :: l=>bif Nat.beq x t then true else jJ t l
def lM (o:Oper):List Nat:=match o.dst with | some d=>[d] | none=>[]
def tS (ops:Array Oper) (g:Nat) (w:Bool) (ds:List Nat) (o:Oper):Bool:=
 match o.guard with
 | none=>false
 | some _=>match cz ops o with
  | none=>false
  | some (t,w')=>bif jJ g (lM o) then false else bif Nat.beq t g then (bif w then w' else !w') else jJ t ds
def cq (ops:Array Oper) (g:Nat) (w:Bool):List Nat->List Oper->List Oper×List Oper
 | _,[]=>([],[])
 | ds,o :: os=>bif tS ops g w ds o then (o :: (cq ops g w (lM o++ds) os).1,(cq ops g w (lM o++ds) os).2) else ([],o :: os)
def iL:List Oper->List Nat
 | []=>[]
 | o :: os=>iL os++lM o
def qf (cx:Cx) (f:Nat):List Oper->Bool
 | []=>true
 | o :: os=>bif quiet cx f o then qf cx f os else false
def um (ops:Array Oper) (asm:Option (Nat×Bool)) (o:Oper):Bool:=
 match o.guard with
 | none=>true
 | some _=>match asm,cz ops o with
  | some (g,w),some (t,w')=>bif Nat.beq t g then (bif w then w' else !w') else false
  | _,_=>false
def wY (ops:Array Oper) (asm:Option (Nat×Bool)) (g:Nat):List Oper->Option (Nat×Operand×Operand)
 | o :: _=>bif um ops asm o then (match o.op,o.dst with
  | .pick (.tmp t) a b,some d=>bif Nat.beq t g then some (d,a,b) else none
  | _,_=>none) else none
 | []=>none
def AD (d:Option Nat) (x:A) (dl:List (Nat×A)):List (Nat×A):=match d with | some d=>(d,x) :: dl | none=>dl
def eG (dl:List (Nat×A)) (s:St):St:=⟨dl++s.fr,s.H⟩
def rE (ds:List Nat):List (Nat×A):=ds.map fun d=>(d,.v undef)
def yP (cx:Cx) (fin:Option (Nat×Operand)) (dl:List (Nat×A)) (s:St):List (Nat×A):=match fin with | some (d,x)=>(d,cD cx (eG dl s) x) :: dl | none=>dl
def M0 {β:Type} (ops:Array Oper) (asm:Option (Nat×Bool)) (g:Nat) (w:Bool) (os:List Oper) (s:St) (vals:Option (Nat×Operand)->List Oper->Option (List A)) (ud:Option (Nat×Operand)->List Oper->Option (List A)) (k:List Oper->List (Nat×A)->Option β):Option β:=
 match wY ops asm g (cq ops g w [] os).2 with
 | some (d,a,b)=>(di (look s.fr g) (bif w then vals (some (d,a)) (cq ops g w [] os).1 else ud (some (d,a)) (cq ops g w [] os).1) (bif w then ud (some (d,b)) (cq ops g w [] os).1 else vals (some (d,b)) (cq ops g w [] os).1)).bind fun l=>
   Ix (d :: iL (cq ops g w [] os).1) l fun fr=>k (cq ops g w [] os).2.tail fr
 | none=>(qC (look s.fr g) w (vals none (cq ops g w [] os).1) (ud none (cq ops g w [] os).1)).bind fun l=>
   Ix (iL (cq ops g w [] os).1) l fun fr=>k (cq ops g w [] os).2 fr
def PH (cx:Cx) (s:St) (fin:Option (Nat×Operand)) (run:List Oper):Option (List A):=some ((yP cx fin (rE (iL run)) s).map (·.2))
def pK (cx:Cx) (call:bj) (f:Nat) (ops:Array Oper):Nat->Option (Nat×Bool)->Option (Nat×Operand)->List Oper->List (Nat×A)->St->Option (List A)
 | 0,_,_,_,_,_=>none
 | _+1,_,fin,[],dl,s=>some ((yP cx fin dl s).map (·.2))
 | q+1,asm,fin,o :: os,dl,s=>bif um ops asm o then tC cx call f o (eG dl s) fun x=>pK cx call f ops q asm fin os (AD o.dst x dl) s
  else match cz ops o with
   | none=>none
   | some (t,w)=>bif tS ops t w [] o then M0 ops asm t w (o :: os) (eG dl s) (fun fin' run=>pK cx call f ops q (some (t,w)) fin' run [] (eG dl s)) (PH cx (eG dl s)) (fun rest fr=>pK cx call f ops q asm fin rest (fr++dl) s) else none
def gk (cx:Cx) (call:bj) (f lo:Nat) (ops:Array Oper):List Oper->St->(E->St->Option R)->Option R
 | [],s,k=>k .normal s
 | o :: os,s,k=>match o.guard with
  | none=>tt cx call f lo o s (fun s=>gk cx call f lo ops os s k) (fun a s=>k (.pan a) s)
  | some _=>match cz ops o with
   | none=>none
   | some (g,want)=>bif quiet cx f o then (qC (look s.fr g) want (il cx call f o s) (some (.v undef))).bind fun x=>gk cx call f lo ops os (s.put o.dst x) k
    else qC (look s.fr g) want (tt cx call f lo o s (fun s=>gk cx call f lo ops os s k) (fun a s=>k (.pan a) s)) (gk cx call f lo ops os (s.put o.dst (.v undef)) k)
def gY (cx:Cx) (call:bj) (f lo:Nat) (ops:Array Oper):Nat->List Oper->St->(E->St->Option R)->Option R
 | 0,_,_,_=>none
 | _+1,[],s,k=>k .normal s
 | q+1,o :: os,s,k=>match o.guard with
  | none=>tt cx call f lo o s (fun s=>gY cx call f lo ops q os s k) (fun a s=>k (.pan a) s)
  | some _=>match cz ops o with
   | none=>none
   | some (t,w)=>bif tS ops t w [] o&&qf cx f (cq ops t w [] (o :: os)).1 then
     M0 ops none t w (o :: os) s (fun fin run=>pK cx call f ops q (some (t,w)) fin run [] s) (PH cx s) (fun rest fr=>gY cx call f lo ops q rest (eG fr s) k)
    else bif quiet cx f o then (qC (look s.fr t) w (il cx call f o s) (some (.v undef))).bind fun x=>gY cx call f lo ops q os (s.put o.dst x) k
    else qC (look s.fr t) w (tt cx call f lo o s (fun s=>gY cx call f lo ops q os s k) (fun a s=>k (.pan a) s)) (gY cx call f lo ops q os (s.put o.dst (.v undef)) k)
def jM (cx:Cx) (call:bj) (f:Nat) (ops:Array Oper):List Oper->St->(St->Option R)->Option R
 | [],s,k=>k s
 | o :: os,s,k=>match o.guard with
  | none=>(il cx call f o s).bind fun x=>jM cx call f ops os (s.put o.dst x) k
  | some _=>match cz ops o with
   | none=>none
   | some (g,want)=>(qC (look s.fr g) want (il cx call f o s) (some (.v undef))).bind fun x=>jM cx call f ops os (s.put o.dst x) k
def rj (cx:Cx) (call:bj) (f:Nat) (ops:Array Oper):Nat->List Oper->St->(St->Option R)->Option R
 | 0,_,_,_=>none
 | _+1,[],s,k=>k s
 | q+1,o :: os,s,k=>match o.guard with
  | none=>tC cx call f o s fun x=>rj cx call f ops q os (s.put o.dst x) k
  | some _=>match cz ops o with
   | none=>none
   | some (t,w)=>bif tS ops t w [] o then
     M0 ops none t w (o :: os) s (fun fin run=>pK cx call f ops q (some (t,w)) fin run [] s) (PH cx s) (fun rest fr=>rj cx call f ops q rest (eG fr s) k)
    else none
def dW (o:Oper):Bool:=match o.op with
 | .store .. | .alloc _ | .box .. | .makeSlice ..=>true
 | .call c=>match c.callee with | .builtin .append | .builtin .copy=>true | _=>false
 | _=>false
def dH (ops:Array Oper) (i:Nat):Bool:=match ops[i]? with | some o=>dW o | none=>false
def blk?:A->Option Nat
 | .ptr b _ | .ep b _ _ | .sl b _ _ _ | .mr b=>some b
 | _=>none
def apart (a e:A):Bool:=match blk? a with
 | none=>true
 | some b=>match blk? e with | some c=>!Nat.beq b c | none=>true
def dE (cx:Cx) (s:St):Op->A
 | .store _ a _=>cD cx s a
 | .call c=>match c.args.toList with | x :: _=>cD cx s x | []=>.any
 | _=>.any
def addrOf (cx:Cx) (s:St):Op->A
 | .load _ a=>cD cx s a
 | .fieldAddr _ x _=>cD cx s x
 | .indexAddr _ x _=>cD cx s x
 | .slice _ x _ _ _=>cD cx s x
 | .nilCheck x=>cD cx s x
 | .convert _ _ x=>cD cx s x
 | .lookup _ x _ _=>cD cx s x
 | .call c=>match c.args.toList with | x :: _=>cD cx s x | []=>.any
 | _=>.any
def cd (o:Oper):Nat:=match o.op with
 | .pick .. | .move _ | .assign _ | .extract .. | .field .. | .unOp .. | .binOp .. | .index .. | .build .. | .makeFunc .. | .makeInterface .. | .typeAssert ..=>0
 | .load .. | .fieldAddr .. | .indexAddr .. | .slice .. | .nilCheck ..=>1
 | .convert .. | .lookup ..=>1
 | .call c=>match c.callee with | .builtin .len=>1 | .value (.func _)=>4 | _=>3
 | .buildSlice ..=>2
 | _=>3
def Ax (o:Oper):Bool:=match o.op with
 | .store .. | .alloc _ | .box ..=>true
 | .call c=>match c.callee with | .builtin .copy=>true | _=>false
 | _=>false
def wM (ops:Array Oper) (i:Nat):Bool:=match ops[i]? with | some o=>Ax o | none=>false
def vX (cx:Cx) (o:Oper):Bool:=match o.op with
 | .call c=>match c.callee with | .value (.func q)=>db cx.P q&&cx.isOrcV q | _=>false
 | _=>false
def Jo:A->Bool
 | .sl ..=>false
 | _=>true
def kJ:A->Bool
 | .sl ..=>false
 | .agg cs=>cs.all Jo
 | _=>true
def partsOf (cx:Cx) (s:St):Op->List A
 | .buildSlice _ _ parts=>parts.toList.map fun p=>cD cx s p.2
 | _=>[]
def qy:List A->Bool
 | []=>true
 | a :: l=>bif kJ a then qy l else false
def ma (ops:Array Oper) (i:Nat) (a:A):List (Nat×A)->Bool
 | []=>true
 | p :: l=>bif fX ops i p.1 || fX ops p.1 i then ma ops i a l else bif apart a p.2 then ma ops i a l else false
def lH (ops:Array Oper) (i:Nat) (e:A):List (Nat×A)->Bool
 | []=>true
 | p :: l=>bif fX ops i p.1 || fX ops p.1 i then lH ops i e l else bif apart p.2 e then lH ops i e l else false
def wO (ops:Array Oper) (m:Nat):Bool:=(List.range m).all fun i=>(List.range m).all fun j=>!(dH ops i&&dH ops j&&decide (i<j)) || fX ops j i
def Fb (ops:Array Oper) (m:Nat):Bool:=(List.range m).any (dH ops)
def Ji (ops:Array Oper) (m i:Nat):Bool:=(List.range m).all fun e=>!dH ops e || wM ops e || e==i || fX ops i e || fX ops e i
def xd (cx:Cx) (f:Nat) (o:Oper):Option TypeId:=match o.op with
 | .alloc t=>bif cx.arr f t then none else some t
 | _=>none
def tV (cx:Cx) (f:Nat) (ops:Array Oper) (i:Nat):Bool:=match ops[i]? with | some o=>(xd cx f o).isSome | none=>false
def ti (cx:Cx) (f:Nat) (ops:Array Oper) (m:Nat):Bool:=(List.range m).all fun i=>(List.range m).all fun j=>!(dH ops i&&dH ops j&&decide (i<j)&&!tV cx f ops i&&!tV cx f ops j) || fX ops j i
def dc (i:Nat):List (Nat×A)->Option A
 | []=>none
 | p :: l=>bif Nat.beq p.1 i then some p.2 else dc i l
def ahead {β:Type} (cx:Cx) (f:Nat):Nat->List Oper->aB->(List (Nat×A)->aB->Option β)->Option β
 | _,[],H,k=>k [] H
 | i,o :: os,H,k=>match xd cx f o with
  | some t=>(mL cx.P t H).bind fun r=>ahead cx f (i+1) os r.2 fun fl H=>k ((i,r.1) :: fl) H
  | none=>ahead cx f (i+1) os H k
def jW (fl:List (Nat×A)) (ops:Array Oper) (m i:Nat):Bool:=(List.range m).all fun e=>!dH ops e || (dc e fl).isSome || e==i || fX ops i e || fX ops e i
def pW (cx:Cx) (o:Oper):Bool:=Nat.beq (cd o) 0 || Nat.beq (cd o) 1 || Nat.beq (cd o) 2 || (Nat.beq (cd o) 4&&vX cx o)
def yQ (ops:Array Oper) (i:Nat):List (Nat×A)->Bool
 | []=>true
 | p :: l=>bif fX ops i p.1 then yQ ops i l else false
def Hm (cx:Cx) (s:St) (o:Oper):Bool:=match o.op with
 | .call c=>bif je (.call c) then match jz cx s (.call c) with | .fn (.func q) _ _=>db cx.P q&&cx.isOrcV q | _=>false else false
 | _=>false
def tv (cx:Cx) (call:bj) (f lo:Nat) (ops:Array Oper) (m:Nat) (fl:List (Nat×A)) (i:Nat) (o:Oper) (effs seen:List (Nat×A)) (s:St) (rec:List (Nat×A)->List (Nat×A)->St->Option R):Option R:=
 match dc i fl with
 | some a=>rec effs seen (s.put o.dst a)
 | none=>bif dW o then bif lH ops i (dE cx s o.op) seen then b7 cx f lo o s fun a H=>rec ((i,dE cx s o.op) :: effs) seen ({ s with H:=H }.put o.dst a) else none
  else bif jW fl ops m i&&(pW cx o || yQ ops i fl || Hm cx s o) then tC cx call f o s fun x=>rec effs seen (s.put o.dst x)
  else bif Nat.beq (cd o) 0 then tC cx call f o s fun x=>rec effs seen (s.put o.dst x)
  else bif Nat.beq (cd o) 1 then bif ma ops i (addrOf cx s o.op) effs then tC cx call f o s fun x=>rec effs ((i,addrOf cx s o.op) :: seen) (s.put o.dst x) else none
  else bif (Nat.beq (cd o) 2 || (Nat.beq (cd o) 4&&vX cx o))&&Ji ops m i then tC cx call f o s fun x=>rec effs seen (s.put o.dst x)
  else bif Nat.beq (cd o) 2 then bif qy (partsOf cx s o.op) then tC cx call f o s fun x=>rec effs seen (s.put o.dst x) else none
  else none
def w7 (cx:Cx) (ops:Array Oper) (m:Nat) (fl:List (Nat×A)) (i:Nat) (o:Oper) (effs seen:List (Nat×A)) (s:St) (rec:List (Nat×A)->List (Nat×A)->St->Option R):Option R:=
 bif dW o then bif lH ops i (dE cx s o.op) seen then rec ((i,dE cx s o.op) :: effs) seen (s.put o.dst (.v undef)) else none
 else bif Nat.beq (cd o) 1 then bif jW fl ops m i then rec effs seen (s.put o.dst (.v undef)) else bif ma ops i (addrOf cx s o.op) effs then rec effs ((i,addrOf cx s o.op) :: seen) (s.put o.dst (.v undef)) else none
 else rec effs seen (s.put o.dst (.v undef))
def gn (cx:Cx) (call:bj) (f lo:Nat) (ops:Array Oper) (m:Nat) (fl:List (Nat×A)):Nat->List Oper->List (Nat×A)->List (Nat×A)->St->(St->Option R)->Option R
 | _,[],_,_,s,k=>k s
 | i,o :: os,effs,seen,s,k=>match o.guard with
  | some _=>match cz ops o with
   | none=>none
   | some (t,w)=>bif Nat.beq (cd o) 0&&!dW o&&(dc i fl).isNone then (qC (look s.fr t) w (il cx call f o s) (some (.v undef))).bind fun x=>gn cx call f lo ops m fl (i+1) os effs seen (s.put o.dst x) k
    else bif (dc i fl).isNone then di (look s.fr t)
     (bif w then tv cx call f lo ops m fl i o effs seen (s.put (some t) (.v (.bool true))) (fun effs seen s=>gn cx call f lo ops m fl (i+1) os effs seen s k) else w7 cx ops m fl i o effs seen (s.put (some t) (.v (.bool true))) (fun effs seen s=>gn cx call f lo ops m fl (i+1) os effs seen s k))
     (bif w then w7 cx ops m fl i o effs seen (s.put (some t) (.v (.bool false))) (fun effs seen s=>gn cx call f lo ops m fl (i+1) os effs seen s k) else tv cx call f lo ops m fl i o effs seen (s.put (some t) (.v (.bool false))) (fun effs seen s=>gn cx call f lo ops m fl (i+1) os effs seen s k))
    else none
  | none=>tv cx call f lo ops m fl i o effs seen s fun effs seen s=>gn cx call f lo ops m fl (i+1) os effs seen s k
def xj:Op->Bool
 | .alloc _ | .box .. | .store .. | .makeSlice .. | .call _ | .makeMap .. | .insert .. | .mapUpdate ..=>true
 | _=>false
def rC (ops:Array Oper):Option Nat:=(List.range (ops.size+1)).find? (fO ops)
def BN (ops:Array Oper) (N:Nat):Bool:=ops.toList.all fun o=>match o.dst with | some d=>decide (d<N) | none=>true
def xk (cx:Cx) (o:Oper):Bool:=match o.op with
 | .call c=>match c.callee with | .value (.func q)=>db cx.P q&&!cx.isOrc q&&(!Nat.beq (cx.cut q) 0 || cx.fre q) | _=>false
 | _=>false
def GK (cx:Cx) (o:Oper):Nat:=match o.op with
 | .call c=>match c.callee with | .value (.func q)=>cx.cut q | _=>0
 | _=>0
def Gs (cx:Cx) (o:Oper) (lo:Nat) (H:aB):Nat:=match o.op with
 | .call c=>match c.callee with | .value (.func q)=>bif cx.fre q then H.length else lo | _=>lo
 | _=>lo
def EN (cx:Cx):Nat->List Oper->Option Nat
 | _,[]=>none
 | i,o :: os=>bif xk cx o then some i else EN cx (i+1) os
def NO (ops:Array Oper) (c m:Nat):List Nat:=(List.range m).filter fun i=>fX ops c i&&(dH ops i || (List.range m).any fun e=>dH ops e&&fX ops i e)
def re (ops:Array Oper) (c m:Nat):List Nat:=NO ops c m++c :: (List.range m).filter fun i=>fX ops i c
def CA (ops:Array Oper) (c m:Nat):List Nat:=(List.range m).filter fun i=>(re ops c m).all fun j=>!Nat.beq i j
def wP (ops:Array Oper):List Nat->List Nat->Bool
 | _,[]=>true
 | ps,i :: is=>bif ps.all (fun p=>fX ops i p) then wP ops (i :: ps) is else false
def Mk (ops:Array Oper) (L T:List Nat):Bool:=L.all fun i=>T.all fun j=>!fX ops i j
def uX (o:Oper):Bool:=match o.guard with | none=>true | some _=>false
def Uj (o:Oper):Bool:=uX o&&(Nat.beq (cd o) 0 || Nat.beq (cd o) 1 || Nat.beq (cd o) 2)
def Ul (o:Oper):Bool:=uX o&&(dW o || !xj o.op)&&!je o.op
def Px (cx:Cx) (call:bj) (f:Nat) (ops:Array Oper):List Nat->List (Nat×A)->St->(List (Nat×A)->St->Option R)->Option R
 | [],seen,s,k=>k seen s
 | i :: is,seen,s,k=>match ops[i]? with
  | none=>none
  | some o=>bif Uj o then bif (bif Nat.beq (cd o) 2 then qy (partsOf cx s o.op) else true) then tC cx call f o s fun x=>Px cx call f ops is (bif Nat.beq (cd o) 1 then (i,addrOf cx s o.op) :: seen else seen) (s.put o.dst x) k else none else none
def cN (m:Nat) (a:A):Bool:=match blk? a with | none=>true | some b=>Nat.ble m b
def wh (ops:Array Oper) (c m:Nat):List (Nat×A)->Bool
 | []=>true
 | p :: l=>bif fX ops c p.1 then wh ops c m l else bif cN m p.2 then wh ops c m l else false
def Lr (cx:Cx) (call:bj) (f lo:Nat) (ops:Array Oper) (c:Nat) (kp:A->aB->Option R):List Nat->List (Nat×A)->St->(St->Option R)->Option R
 | [],_,s,k=>k s
 | i :: is,seen,s,k=>match ops[i]? with
  | none=>none
  | some o=>bif Nat.beq i c then bif wh ops c (GK cx o) seen then dJ cx call (jz cx s o.op) (fm cx s o.op) s.H (Gs cx o lo s.H) (fun a H=>Lr cx call f lo ops c kp is seen ({ s with H:=H }.put o.dst a) k) kp else none
   else bif Ul o then bif (bif dW o then lH ops i (dE cx s o.op) seen else true) then b7 cx f lo o s fun a H=>Lr cx call f lo ops c kp is seen ({ s with H:=H }.put o.dst a) k else none else none
def JT (cx:Cx) (N:Nat) (ops:Array Oper) (c m:Nat) (o:Oper):Bool:=(ops.toList.take m).all uX&&xk cx o&&uY ops N&&wP ops [] (re ops c m)&&Mk ops (CA ops c m) (re ops c m)&&(re ops c m).all fun i=>Nat.blt i m
def Kh (cx:Cx) (ops:Array Oper):Option Nat:=match rC ops with | none=>none | some m=>EN cx 0 (ops.toList.take m)
def BV (cx:Cx) (call:bj) (f lo N:Nat) (ops:Array Oper) (c:Nat) (s:St) (k:E->St->Option R):Option R:=
 match ops[c]? with
 | none=>none
 | some o=>(rC ops).bind fun m=>bif JT cx N ops c m o then Px cx call f ops (CA ops c m) [] s fun seen s1=>
   Lr cx call f lo ops c (fun a H=>k (.pan a) ⟨[],H⟩) (re ops c m) seen s1 fun s=>gY cx call f lo ops (ops.size+1) (ops.toList.drop m) s k
  else none
def cA:Code->Nat
 | .region id _ _=>id
 | .seq a _=>cA a
 | .block _ c=>cA c
 | .scope c=>cA c
 | .loop c=>cA c
 | _=>0
def GU (H:aB) (a:A):A:=match a with | .sl b o n c=>snap H (.sl b o n c) | .imm els _=>.imm els false | a=>a
def Jp (H:aB) (a:A):A:=match a with | .sl b o n c=>snap H (.sl b o n c) | .imm els _=>.imm els false | .agg cs=>.agg (cs.map (GU H)) | a=>a
def eA (es:Nat) (H:aB):A->A×aB
 | .imm els true=>bif els.all (fun cs=>Nat.beq cs.length es) then (.sl H.length 0 els.length false,H++[.row false es els]) else (.imm els true,H)
 | a=>(a,H)
def mB (es:Nat) (H:aB):A->A×aB
 | .imm [] true=>(.sl H.length 0 0 false,H++[.row true es []])
 | a=>(a,H)
def mC (es:Nat) (H:aB):A->A×aB
 | .imm els true=>bif els.all (fun cs=>Nat.beq cs.length es) then (.sl H.length 0 els.length false,H++[.row false es els]) else (.imm els true,H++[.dead])
 | a=>(a,H++[.dead])
def bR (lo off m:Nat) (a:A) (H:aB):aB:=
 match a with
 | .ptr b o=>match H[b]? with
  | some (.box cs)=>match cs[o+off]? with
   | some c=>bif decide (lo<=b) then match m with
    | 0=>H.set b (.box (cs.set (o+off) (Jp H c)))
    | es+1=>(eA es H c).2.set b (.box (cs.set (o+off) (eA es H c).1))
    else H
   | none=>H
  | _=>H
 | _=>H
def pE (lo:Nat) (p:Nat×Nat×Nat) (s:St):St:=
 match p.2.1 with
 | 0=>match p.2.2 with
  | 0=>⟨(p.1,Jp s.H (look s.fr p.1)) :: s.fr,s.H⟩
  | es+1=>bif Nat.ble 500000 es then (bif Nat.ble 1000000 es then ⟨(p.1,(mC (es - 1000000) s.H (look s.fr p.1)).1) :: s.fr,(mC (es - 1000000) s.H (look s.fr p.1)).2⟩ else ⟨(p.1,(mB (es - 500000) s.H (look s.fr p.1)).1) :: s.fr,(mB (es - 500000) s.H (look s.fr p.1)).2⟩) else ⟨(p.1,(eA es s.H (look s.fr p.1)).1) :: s.fr,(eA es s.H (look s.fr p.1)).2⟩
 | off+1=>⟨s.fr,bR lo off p.2.2 (look s.fr p.1) s.H⟩
def eu (lo:Nat):List (Nat×Nat×Nat)->St->St
 | [],s=>s
 | p :: ps,s=>eu lo ps (pE lo p s)
def sH (lo:Nat):List (Nat×Nat×Nat)->St->(St->Option R)->Option R
 | [],s,k=>k s
 | p :: ps,s,k=>(vj lo (look s.fr p.1) s.H).bind fun r=>sH lo ps ⟨(p.1,r.1) :: s.fr,r.2⟩ k
def AN:List (Nat×Nat×Nat)->List (Nat×Nat×Nat)
 | []=>[]
 | p :: ps=>match p.2.2 with | 0=>p :: AN ps | _+1=>AN ps
def dU (keep:List Nat) (s:St):St:=⟨keep.map fun t=>(t,look s.fr t),s.H⟩
def aP (L:Nat) (fr:List (Nat×A)):List Nat->Bool
 | []=>true
 | t :: ts=>bif A.under L (look fr t) then aP L fr ts else false
theorem n8 (L:Nat) (fr:List (Nat×A)):∀ keep:List Nat,aP L fr keep=true->keep.all (fun t=>A.under L (look fr t))=true
 | [],_=>rfl
 | t :: ts,h=>by
  rw[aP] at h
  cases hu:A.under L (look fr t) with
  | false=>rw[hu] at h; cases h
  | true=>
   rw[hu] at h
   rw[qaX,hu,Yg]
   exact n8 L fr ts h
def zv (keep:List Nat) (L:Nat) (s:St) (k:St->Option R):Option R:=
 (trim L s.H).bind fun H=>bif (bif Nat.beq s.H.length L then true else aP L s.fr keep) then k ⟨keep.map fun t=>(t,look s.fr t),H⟩ else none
def zN:List (Nat×Nat×Nat)->Option (Nat×Nat×Nat)
 | []=>none
 | p :: ps=>match ps with
  | []=>match p.2.1 with
   | 0=>bif Nat.ble 1000001 p.2.2 then some p else none
   | _+1=>none
  | _ :: _=>zN ps
def NP (n:Nat):Nat:=n - 1
def Ku:A->Bool | .imm _ true=>true | _=>false
def JK (lo:Nat) (keep:List Nat) (p:Nat×Nat×Nat) (L:Nat) (s:St) (k:St->Option R):Option R:=
 bif Ku (look s.fr p.1) then zv keep (NP L) s fun s=>bif Nat.beq (pE lo p s).H.length L then k (dU keep (pE lo p s)) else none else zv keep L s k
def FE (lo:Nat) (keep:List Nat) (acts:List (Nat×Nat×Nat)) (L:Nat) (s:St) (k:St->Option R):Option R:=
 match zN acts with
 | none=>zv keep L (eu lo (AN acts) s) k
 | some p=>JK lo keep p L (eu lo (AN acts) s) k
def Gk (s:St) (keep:List Nat) (k:Nat->St->Option R):Option R:=k s.H.length (dU keep s)
def iter (lo:Nat) (keep:List Nat) (acts:List (Nat×Nat×Nat)) (L:Nat) (f:St->(E->St->Option R)->Option R) (kx kg:Nat->St->Option R) (kr:St->Option R) (kp:A->St->Option R):Nat->St->Option R
 | 0,_=>none
 | n+1,s=>f s fun e s'=>match e with
  | .normal=>FE lo keep acts L s' fun s'=>iter lo keep acts L f kx kg kr kp n s'
  | .exit i=>kx i (dU keep s')
  | .goto l=>kg l (dU keep s')
  | .ret=>kr (dU keep s')
  | .pan a=>kp a (dU keep s')
def jO:Code->Bool
 | .seq a b=>jO a&&jO b
 | .cond _ a b=>jO a&&jO b
 | .block _ c=>jO c
 | .loop c=>jO c
 | .rangeFunc .. | .scope _=>false
 | _=>true
def Cu:List Nat->List A->List (Nat×A)->List (Nat×A)
 | p :: ps,a :: as,fr=>Cu ps as ((p,a) :: fr)
 | _,_,fr=>fr
def DI {β:Type} (H:aB) (b:Nat) (x:Option β):Option β:=match H[b]? with | some (.rng .ready)=>x | _=>none
def BJ {β:Type} (H:aB) (b:Nat) (x:Option β):Option β:=match H[b]? with | some (.rng .busy)=>x | _=>none
def KW (b:Nat) (e:E) (H:aB):Option R:=
 match e with
 | .normal=>BJ H b (some (.ret (.v (.bool true)),H.set b (.rng .ready)))
 | .exit i=>BJ H b (some (.ret (.v (.bool false)),H.set b (.rng (.done (.exit i)))))
 | .goto l=>BJ H b (some (.ret (.v (.bool false)),H.set b (.rng (.done (.goto l)))))
 | .ret=>BJ H b (some (.ret (.v (.bool false)),H.set b (.rng (.done .ret))))
 | .pan _=>none
def roundOf (F1 F2:St->(E->St->Option R)->Option R) (lo b:Nat) (ps:List Nat) (fr:List (Nat×A)) (args:List A) (H:aB) (lo':Nat):Option R:=
 bif Nat.beq args.length ps.length&&Nat.ble lo' lo then
  DI H b (F1 ⟨Cu ps args fr,H⟩ fun e s=>match e with
   | .normal=>DI s.H b (F2 ⟨s.fr,s.H.set b (.rng .busy)⟩ fun e s=>KW b e s.H)
   | _=>none)
 else none
def sx (q:Nat) (call:bj) (b:Nat) (rnd:List A->aB->Nat->Option R):bj:=fun k args H lo=>bif Nat.beq k (q+b) then rnd args H lo else call k args H lo
def nm {β:Type} (b:Nat) (H:aB) (kn:aB->Option β) (kx kg:Nat->aB->Option β) (kr:aB->Option β):Option β:=
 match H[b]? with
 | some (.rng .ready)=>kn (H.set b .dead)
 | some (.rng (.done (.exit i)))=>kx i (H.set b .dead)
 | some (.rng (.done (.goto l)))=>kg l (H.set b .dead)
 | some (.rng (.done .ret))=>kr (H.set b .dead)
 | _=>none
def Be (b:Nat) (H:aB) (k:E->aB->Option R):Option R:=nm b H (fun H=>k .normal H) (fun i H=>k (.exit i) H) (fun l H=>k (.goto l) H) (fun H=>k .ret H)
def oD (s:St) (k:St->Option R):Option R:=k s
def Dd (P:Program):A->Option (Nat×List A)
 | .fn (.func gf) [] cap=>bif db P gf then some (gf,cap) else none
 | _=>none
def ym (N:Nat):List Nat->Bool
 | []=>true
 | p :: ps=>bif Nat.blt p N then ym N ps else false
def Bd (body:Code):Nat:=1000000+cA body
def pM:Code->Nat
 | .region id _ _=>id
 | .seq a _=>pM a
 | .block _ c=>pM c
 | .scope c=>pM c
 | .loop c=>pM c
 | .cond _ a _=>pM a
 | _=>0
def Jv (keep:List Nat) (e:E) (s:St):Option R:=match e with
 | .normal=>some (.ret (.tup (keep.map (look s.fr))),s.H)
 | _=>none
def NY {β:Type} (r:R) (k:List A->aB->Option β):Option β:=match r with
 | (.ret (.tup l),H)=>k l H
 | _=>none
theorem CI {β:Type} (fr:List (Nat×A)):∀ (keep:List Nat) (k:List (Nat×A)->Option β),Ix keep (keep.map (look fr)) k=k (keep.map fun t=>(t,look fr t))
 | [],_=>rfl
 | d :: ds,k=>by
  show Ix ds (ds.map (look fr)) (fun r=>k ((d,look fr d) :: r))=_
  rw[CI fr ds]; rfl
def xn:Code->Nat
 | .block _ c=>pM c
 | .cond _ a _=>500000+pM a
 | .seq _ b=>xn b
 | _=>999999
def SZ (js:List Nat) (X:(E->St->Option R)->Option R) (Y:St->Option R) (k:E->St->Option R):Option R:=match js with
 | []=>X fun e s'=>match e with | .normal=>Y s' | e=>k e s'
 | j :: js=>(X (Jv (j :: js))).bind fun r=>NY r fun l H=>Ix (j :: js) l fun fr=>Y ⟨fr,H⟩
noncomputable def py (cx:Cx) (call:bj) (rg:bj->bj) (n f lo N:Nat):Code->St->(E->St->Option R)->Option R
 | .skip,s,k=>k .normal s
 | .label _,s,k=>k .normal s
 | .region id ops draw,s,k=>sH lo (cx.acts f (2000000+id)) s fun s=>bif BN ops N then
  bif draw then match Kh cx ops with | some c=>BV cx call f lo N ops c s k | none=>bif uY ops N then (rC ops).bind fun m=>bif Fb ops m then bif wO ops m then gn cx call f lo ops m [] 0 (ops.toList.take m) [] [] s fun s=>gY cx call f lo ops (ops.size+1) (ops.toList.drop m) s k else bif ti cx f ops m then ahead cx f 0 (ops.toList.take m) s.H fun fl H=>gn cx call f lo ops m fl 0 (ops.toList.take m) [] [] ⟨s.fr,H⟩ fun s=>gY cx call f lo ops (ops.size+1) (ops.toList.drop m) s k else none else rj cx call f ops (ops.size+1) (ops.toList.take m) s fun s=>gY cx call f lo ops (ops.size+1) (ops.toList.drop m) s k else none
  else gY cx call f lo ops (ops.size+1) ops.toList s k
  else none
 | .seq a b,s,k=>SZ (cx.join f (xn a)) (fun k=>py cx call rg n f lo N a s k) (fun s=>py cx call rg n f lo N b s k) k
 | .cond c a b,s,k=>aY (cD cx s c) (py cx call rg n f lo N a s k) (py cx call rg n f lo N b s k)
 | .block id c,s,k=>py cx call rg n f lo N c s fun e s'=>match e with | .exit j=>bif Nat.beq j id then k .normal s' else k (.exit j) s' | e=>k e s'
 | .scope c,s,k=>py cx call rg n f lo N c s fun e s'=>match e with | .goto _=>none | e=>k e s'
 | .loop c,s,k=>Gk (eu lo (cx.acts f (cA c)) (dU (cx.keep f (cA c)) s)) (cx.keep f (cA c)) fun L s=>iter lo (cx.keep f (cA c)) (cx.acts f (cA c)) L (fun s k=>py cx call rg n f lo N c s k) (fun i s=>k (.exit i) s) (fun l s=>k (.goto l) s) (fun s=>k .ret s) (fun a s=>k (.pan a) s) n s
 | .exit id,s,k=>k (.exit id) s
 | .goto l,s,k=>k (.goto l) s
 | .ret,s,k=>k .ret s
 | .rangeFunc g ps asg body,s,k=>oD (eu lo (cx.acts f (Bd body)) s) fun s=>(Dd cx.P (cD cx s g)).bind fun p=>bif ym N ps.toList&&jO asg&&jO body&&Nat.ble lo s.H.length then
   (rg (sx cx.P.funcs.size call s.H.length (roundOf (fun s k=>py cx call rg n f lo N asg s k) (fun s k=>py cx call rg n f lo N body s k) lo s.H.length ps.toList (dU (cx.keep f (Bd body)) s).fr)) p.1 (.yld s.H.length :: p.2) (s.H++[.rng .ready]) lo).bind fun r=>
    cf r.1 (fun _=>Be s.H.length r.2 fun e H=>k e ⟨s.fr,H⟩) (fun _=>none)
  else none
 | _,_,_=>none
def jl:Code->List Code
 | .loop c=>c :: jl c
 | .seq a b=>jl a++jl b
 | .cond _ a b=>jl a++jl b
 | .block _ c=>jl c
 | .scope c=>jl c
 | .rangeFunc _ _ a b=>jl a++jl b
 | _=>[]
def AZ (cx:Cx) (f i:Nat):Code:=match (cx.P.funcs[f]?).bind (·.body) with | some c=>(jl c).getD i .skip | none=>.skip
def Se (cx:Cx) (f:Nat):Nat:=match cx.P.funcs[f]? with | some fn=>fn.ntmps | none=>0
def jC:Code->List (List Nat×Code×Code)
 | .loop c=>jC c
 | .seq a b=>jC a++jC b
 | .cond _ a b=>jC a++jC b
 | .block _ c=>jC c
 | .scope c=>jC c
 | .rangeFunc _ ps a b=>[(ps.toList,a,b)]
 | _=>[]
def rangeAt (cx:Cx) (f i:Nat):List Nat×Code×Code:=match (cx.P.funcs[f]?).bind (·.body) with | some c=>(jC c).getD i ([],.skip,.skip) | none=>([],.skip,.skip)
noncomputable def lR (cx:Cx) (call:bj) (rg:bj->bj) (n f lo i b:Nat) (fr:List (Nat×A)) (args:List A) (H:aB) (lo':Nat):Option R:=
 roundOf (fun s k=>py cx call rg n f lo (Se cx f) (rangeAt cx f i).2.1 s k) (fun s k=>py cx call rg n f lo (Se cx f) (rangeAt cx f i).2.2 s k) lo b (rangeAt cx f i).1 fr args H lo'
noncomputable def aH (cx:Cx) (call:bj) (rg:bj->bj) (n f lo i L:Nat) (kx kg:Nat->St->Option R) (kr:St->Option R) (kp:A->St->Option R) (m:Nat) (s:St):Option R:=
 iter lo (cx.keep f (cA (AZ cx f i))) (cx.acts f (cA (AZ cx f i))) L (fun s k=>py cx call rg n f lo (Se cx f) (AZ cx f i) s k) kx kg kr kp m s
def tz (cx:Cx) (s:St):ResultVar->Option A
 | .tmp t=>some (look s.fr t)
 | .cell a t=>nM cx.P t (look s.fr a) s.H
def pJ (cx:Cx) (s:St):List ResultVar->Option (List A)
 | []=>some []
 | r :: rs=>(tz cx s r).bind fun a=>(pJ cx s rs).bind fun l=>some (a :: l)
def BU (cx:Cx) (fn:Func) (s:St):Option A:=match fn.results.toList with
 | [r]=>tz cx s r
 | rs=>(pJ cx s rs).bind fun l=>some (.tup l)
def w9 (cx:Cx) (s:St):List ResultVar->(List A->Option R)->Option R
 | [],k=>k []
 | r :: rs,k=>(tz cx s r).bind fun a=>w9 cx s rs fun l=>k (a :: l)
def m0 (cx:Cx) (fn:Func) (s:St):Option R:=match fn.results.toList with
 | [r]=>(tz cx s r).bind fun a=>some (.ret a,s.H)
 | rs=>w9 cx s rs fun l=>some (.ret (.tup l),s.H)
theorem vx (cx:Cx) (s:St):∀ (rs:List ResultVar) (k:List A->Option R),w9 cx s rs k=(pJ cx s rs).bind k
 | [],_=>rfl
 | r :: rs,k=>by
  rw[w9,pJ,Ys]
  congr 1; funext a
  rw[vx cx s rs,Ys]
  rfl
theorem Dc (cx:Cx) (fn:Func) (s:St):m0 cx fn s=(BU cx fn s).bind fun a=>some (.ret a,s.H):=by
 unfold m0 BU
 split
 ·rename_i h; rfl
 ·rw[vx,Ys]
  rfl
def frame (args:List A):List (Nat×A):=args.zipIdx.map fun p=>(p.2,p.1)
noncomputable def Kq (cx:Cx) (call:bj) (rg:bj->bj) (n f lo:Nat) (fn:Func) (c:Code) (args:List A) (H:aB):Option R:=
 py cx call rg n f lo fn.ntmps c ⟨frame args,H⟩ fun e s=>match e with
  | .normal | .ret=>oD (eu lo (cx.acts f 3000000) s) fun s=>m0 cx fn s
  | .pan a=>some (.pan a,s.H)
  | _=>none
def GY (o:Oper):Bool:=match o.op with | .defer _=>true | _=>false
def zp:List Oper->Option (List Oper×Oper)
 | []=>none
 | o :: os=>match os with
  | []=>some ([],o)
  | _ :: _=>(zp os).map fun p=>(o :: p.1,p.2)
def zf:Code->Bool
 | .seq _ (.seq (.region _ ops false) _)=>ops.toList.any GY
 | _=>false
def Uh (cx:Cx) (q:Nat) (o:Oper):Bool:=db cx.P q&&uX o&&o.dst.isNone
def EP (cx:Cx) (s:St) (o:Oper):Option (Nat×List A):=match o.op with
 | .defer c=>match c.callee,c.args.toList with
  | .value g,[]=>match cD cx s g with
   | .fn (.func q) [] cap=>bif Uh cx q o then some (q,cap) else none
   | _=>none
  | _,_=>none
 | _=>none
def nj (o:Oper):Option Nat:=match o.op with
 | .call c=>match c.callee,c.args.toList with
  | .builtin .recover,[]=>bif uX o then o.dst else none
  | _,_=>none
 | _=>none
def recAt:Nat->List Oper->Option (Nat×Nat)
 | _,[]=>none
 | i,o :: os=>match nj o with | some d=>some (i,d) | none=>recAt (i+1) os
def lF (ops:Array Oper) (i d:Nat):Array Oper:=match ops[i]? with | some o=>ops.setIfInBounds i { o with op:=.move (.tmp d) } | none=>ops
def jT (d:Nat) (o:Oper):Bool:=uX o&&(match o.op with | .load _ (.tmp t)=>!Nat.beq t d | _=>false)&&(match o.dst with | some e=>!Nat.beq e d | none=>false)
def zk (d:Nat) (ops:Array Oper) (j:Nat):Bool:=match ops[j]? with | some o=>jT d o | none=>true
def JS (ops:Array Oper) (i d:Nat):Bool:=(List.range ops.size).all fun j=>Nat.beq j i || match ops[j]? with | some o=>jT d o || o.after.any fun e=>Region.binds .any e&&!zk d ops e.on | none=>false
def Uk (cap:List A) (ops:Array Oper) (fn:Func) (rest:Code):Bool:=decide (cap.length<=fn.ntmps)&&BN ops fn.ntmps&&jO rest&&fn.results.toList.isEmpty
def Ui (ops:Array Oper) (N:Nat) (a:Code):Bool:=BN ops N&&jO a
def w8 (cx:Cx) (call:bj) (f lo N:Nat) (ops:Array Oper) (s:St) (k:E->St->Option R):Option R:=
 bif BN ops N then
  match Kh cx ops with | some c=>BV cx call f lo N ops c s k | none=>bif uY ops N then (rC ops).bind fun m=>bif Fb ops m then bif wO ops m then gn cx call f lo ops m [] 0 (ops.toList.take m) [] [] s fun s=>gY cx call f lo ops (ops.size+1) (ops.toList.drop m) s k else bif ti cx f ops m then ahead cx f 0 (ops.toList.take m) s.H fun fl H=>gn cx call f lo ops m fl 0 (ops.toList.take m) [] [] ⟨s.fr,H⟩ fun s=>gY cx call f lo ops (ops.size+1) (ops.toList.drop m) s k else none else rj cx call f ops (ops.size+1) (ops.toList.take m) s fun s=>gY cx call f lo ops (ops.size+1) (ops.toList.drop m) s k else none
 else none
def Um (cap:List A) (ops:Array Oper) (fn:Func) (p:Nat×Nat):Bool:=decide (cap.length<=fn.ntmps)&&decide (p.2<fn.ntmps)&&JS ops p.1 p.2&&(match ops[p.1]? with | some o=>o.after.toList.isEmpty | none=>false)&&fn.results.toList.isEmpty
noncomputable def yG (cx:Cx) (call:bj) (rg:bj->bj) (n lo q:Nat) (cap:List A) (v:A) (H:aB) (k:aB->Option R):Option R:=
 (cx.P.funcs[q]?).bind fun fn=>fn.body.bind fun c=>match c with
  | .seq (.region _ ops false) rest=>match ops.toList with
   | o :: os=>(nj o).bind fun d=>bif Uk cap ops fn rest then gk cx call q lo ops os ⟨(d,v) :: frame cap,H⟩ fun e s=>match e with
     | .normal=>py cx call rg n q lo fn.ntmps rest s fun e s=>match e with
      | .normal | .ret=>k s.H
      | _=>none
     | _=>none
    else none
   | []=>none
  | .region _ ops true=>(recAt 0 ops.toList).bind fun p=>bif Um cap ops fn p then w8 cx call q lo fn.ntmps (lF ops p.1 p.2) ⟨(p.2,v) :: frame cap,H⟩ fun e s=>match e with
    | .normal=>k s.H
    | _=>none
   else none
  | _=>none
noncomputable def w5 (cx:Cx) (call:bj) (rg:bj->bj) (n f lo:Nat) (fn:Func) (c:Code) (args:List A) (H:aB):Option R:=match c with
 | .seq a (.seq (.region _ ops false) rest)=>bif Ui ops fn.ntmps a then py cx call rg n f lo fn.ntmps a ⟨frame args,H⟩ fun e s=>match e with
  | .normal=>(zp ops.toList).bind fun p=>gk cx call f lo ops p.1 s fun e s=>match e with
   | .normal=>(EP cx s p.2).bind fun z=>py cx call rg n f lo fn.ntmps rest s fun e s=>match e with
    | .normal | .ret=>yG cx call rg n lo z.1 z.2 (.v .nilIface) s.H fun H=>oD (eu lo (cx.acts f 3000000) ⟨s.fr,H⟩) fun s=>m0 cx fn s
    | .pan x=>yG cx call rg n lo z.1 z.2 x s.H fun H=>oD (eu lo (cx.acts f 3000000) ⟨s.fr,H⟩) fun s=>m0 cx fn s
    | _=>none
   | _=>none
  | _=>none
  else none
 | _=>none
noncomputable def aE (cx:Cx) (call:bj) (rg:bj->bj) (n f:Nat) (args:List A) (H:aB) (lo:Nat):Option R:=
 (cx.P.funcs[f]?).bind fun fn=>fn.body.bind fun c=>bif decide (args.length<=fn.ntmps) then bif zf c then w5 cx call rg n f lo fn c args H else Kq cx call rg n f lo fn c args H else none
def Hi:bj:=fun _ _ _ _=>none
def iK:Nat->aB->A->A
 | 0,_,_=>.any
 | n+1,H,.ptr b o=>match H[b]? with | some (.box cs)=>.ip ((cs.drop o).map (iK n H)) | _=>.any
 | n+1,H,.fn f p q=>.fn f (p.map (iK n H)) (q.map (iK n H))
 | n+1,H,.agg cs=>.agg (cs.map (iK n H))
 | _+1,H,a=>cO (jK 4 H) a
def Kv:A->Bool | .v _=>true | _=>false
def gO (cx:Cx) (k:Nat) (H:aB):Bool:=bif cx.deep k then bif Nat.beq H.length 0 then false else true else false
def kG (cx:Cx) (k:Nat) (args:List A) (H:aB):Option R:=(cx.C k (args.map (iK 6 H))).bind fun r=>bif Kv r then some (.ret r,H) else none
def gD (cx:Cx) (k:Nat) (H:aB):Bool:=bif Nat.beq (cx.cut k) 0 then false else bif Nat.ble (cx.cut k) H.length then true else bif Nat.beq H.length 0 then false else Nat.beq (cx.cut k) 999999999
def cutAt (cx:Cx) (k:Nat) (H:aB):Nat:=bif Nat.ble (cx.cut k) H.length then cx.cut k else H.length
def qG (m:Nat):Out->Bool
 | .ret a=>A.under m a
 | .pan a=>A.under m a
def oP (m:Nat) (f:aB->Option R) (args:List A) (H:aB):Option R:=
 bif bh m args&&(H.take m).all (az.under m) then (f (H.take m)).bind fun r=>bif Nat.ble m r.2.length&&(r.2.take m).all (az.under m)&&qG m r.1 then some (r.1,r.2.take m++H.drop m) else none else none
noncomputable def bq (cx:Cx):Nat->bj->bj
 | 0,base,k,args,H,lo=>bif Nat.ble cx.P.funcs.size k then base k args H lo else none
 | n+1,base,k,args,H,lo=>bif Nat.ble cx.P.funcs.size k then base k args H lo else bif gD cx k H then oP (cutAt cx k H) (fun H=>aE cx (bq cx n Hi) (bq cx n) n k args H lo) args H else bif gO cx k H then kG cx k args H else aE cx (bq cx n base) (bq cx n) n k args H lo
noncomputable def dS (cx:Cx) (n:Nat):bj:=bq cx n Hi
section
open Go.RowKit
structure Gh where
 mu:Nat->Option Nat
 ga:Nat->List (List Value)
 S:Nat->Nat->Prop
 lr:Nat->Loop
def Jy:Loop:={ state:=.ready,pending:=none,fn:=0,tmps:=#[],params:=#[],assign:=.skip,body:=.skip,defers:=0 }
def IP.code:IP->Code
 | .exit id=>.exit id
 | .goto l=>.goto l
 | .ret=>.ret
def jD (r:Loop):cX->Loop
 | .ready=>{ r with state:=.ready,pending:=none }
 | .busy=>{ r with state:=.busy,pending:=none }
 | .done j=>{ r with state:=.done,pending:=some j.code }
def fq (H:aB) (g:Gh) (k o:Nat):Prop:=g.S k o/\∀ b,g.mu b=some k->∃ es els,H[b]? = some (.row false es els)/\o<es*els.length
def bQ (H:aB) (g:Gh) (w:World) (k off:Nat) (ds:List Value):Prop:=∀ j v,ds[j]? = some v->w.cell? ⟨k,off+j,none⟩=some v/\fq H g k (off+j)
mutual
def VR (H:aB) (g:Gh) (w:World):A->Value->Prop
 | .any,_=>True
 | .v x,c=>c=x
 | .ptr b o,c=>match H[b]? with
  | some (.box _)=>∃ k,g.mu b=some k/\c=.pointer (some ⟨k,o,none⟩)
  | some .hole=>False
  | some _=>c.oneCell'=true
  | none=>False
 | .ep b i o,c=>match H[b]? with
  | some (.row true es els)=>i<els.length/\∃ k,g.mu b=some k/\c=.pointer (some ⟨k,i*es+o,none⟩)
  | some .hole=>False
  | some _=>c.oneCell'=true
  | none=>False
 | .ip cs,c=>∃ k off ds,c=.pointer (some ⟨k,off,none⟩)/\bQ H g w k off ds/\bC H g w cs ds
 | .imm els clip,c=>∃ a cap ds es,c=.slice a els.length cap/\els.length<=cap/\(clip=true->cap=els.length)/\(∀ d∈ds,d.length=es)/\(0<els.length->∃ k off,a=some ⟨k,off,none⟩/\bQ H g w k off ds.flatten)/\bw H g w els ds
 | .sl b o n clip,c=>match H[b]? with
  | some (.row true es els)=>o+n<=els.length/\∃ a cap,c=.slice a n cap/\n<=cap/\(clip=true->cap=n)/\(0<n->∃ k,g.mu b=some k/\a=some ⟨k,o*es,none⟩)
  | some (.row false es els)=>o+n<=els.length/\∃ a cap,c=.slice a n cap/\n<=cap/\(clip=true->cap=n)/\(0<n->∃ k off,a=some ⟨k,off,none⟩/\bQ H g w k off (((g.ga b).drop o).take n).flatten) ∧
    (clip=false->o=0->n=els.length->n<cap->∃ k arr ty,g.mu b=some k/\a=some ⟨k,0,none⟩/\w.heap[k]? = some (.cells arr ty (0,0))/\cap*es<=arr.size)
  | some .hole=>False
  | some _=>c.oneCell'=true
  | none=>False
 | .agg cs,c=>∃ ds,c=.agg ds/\bC H g w cs ds.toList
 | .tup cs,c=>∃ ds,c=.tuple ds/\bC H g w cs ds.toList
 | .fn f a b,c=>∃ ds es,c=.func f ds es/\bC H g w a ds.toList/\bC H g w b es.toList
 | .ifc t x,c=>∃ d,c=.iface t d/\VR H g w x d
 | .yld b,c=>match H[b]? with
  | some (.rng _)=>∃ k,g.mu b=some k/\c=.func (.yield k) #[] #[]
  | some .hole=>False
  | some _=>c.oneCell'=true
  | none=>False
 | .nq els,c=>∃ b,c=.bool b/\(b=true->els=[])
 | .mr b,c=>match H[b]? with
  | some (.mp ..)=>∃ k,g.mu b=some k/\c=.map (some k)
  | some .hole=>False
  | some _=>c.oneCell'=true
  | none=>False
 | .mv k ks vs,c=>∃ r arr cl,c=.map (some r)/\fq H g r 0/\w.heap[r]? = some (.map arr cl)/\arr.toList.map (·.key)=ks.map (.int k)/\bC H g w vs (arr.toList.map (·.val))
def bC (H:aB) (g:Gh) (w:World):List A->List Value->Prop
 | [],ds=>ds=[]
 | a :: as,ds=>∃ d ds',ds=d :: ds'/\VR H g w a d/\bC H g w as ds'
def bw (H:aB) (g:Gh) (w:World):List (List A)->List (List Value)->Prop
 | [],ds=>ds=[]
 | a :: as,ds=>∃ d ds',ds=d :: ds'/\bC H g w a d/\bw H g w as ds'
end
def mH (H:aB) (g:Gh) (w:World) (b:Nat):az->Prop
 | .box cs=>∃ k arr ty,g.mu b=some k/\w.heap[k]? = some (.cells arr ty (0,0))/\bC H g w cs arr.toList
 | .row true es els=>∃ ds,bw H g w els ds/\(∀ d∈ds,d.length=es)/\(0<els.length->∃ (k:Nat) (arr:Array Value) (ty:TypeId),g.mu b=some k/\w.heap[k]? = some (.cells arr ty (0,0))/\∀ (j:Nat) (v:Value),ds.flatten[j]? = some v->arr[j]? = some v)
 | .row false es els=>bw H g w els (g.ga b)/\(∀ d∈g.ga b,d.length=es)
 | .rng st=>∃ k,g.mu b=some k/\w.heap[k]? = some (.loop (jD (g.lr b) st))
 | .dead=>g.mu b=none
 | .hole=>g.mu b=none
 | .mp k ks vs=>∃ r arr cl,g.mu b=some r/\w.heap[r]? = some (.map arr cl)/\arr.toList.map (·.key)=ks.map (.int k)/\bC H g w vs (arr.toList.map (·.val))
structure Rel (H:aB) (g:Gh) (w0 w:World):Prop where
 below:Below w0.heap.size w0 w
 dom:∀ b k,g.mu b=some k->b<H.length/\w0.heap.size<=k/\k<w.heap.size
 inj:∀ b c k,g.mu b=some k->g.mu c=some k->b=c
 out:∀ k o,w.heap.size<=k->g.S k o
 own:∀ b k o,g.mu b=some k->g.S k o
 blk:∀ b B,H[b]? = some B->mH H g w b B
def BT (g:Gh) (w:World) (g':Gh) (w':World) (b:Nat):az->az->Prop
 | .box _,.box _=>g'.mu b=g.mu b
 | .row true es els,.row true es' els'=>es'=es/\els'.length=els.length/\g'.mu b=g.mu b
 | .row false es els,.row false es' els'=>es'=es/\(∃ r,g'.ga b=g.ga b++r)/\(g.ga b).length=els.length/\els.length<=els'.length/\(els'.length=els.length->g'.mu b=g.mu b/\∀ k arr ty,g.mu b=some k->w.heap[k]? = some (.cells arr ty (0,0))->∃ arr',w'.heap[k]? = some (.cells arr' ty (0,0))/\arr.size<=arr'.size)
 | .rng _,.rng _=>g'.mu b=g.mu b/\g'.lr b=g.lr b
 | .mp ..,.mp ..=>g'.mu b=g.mu b
 | .hole,_=>True
 | _,.dead=>True
 | _,_=>False
structure xO (H:aB) (g:Gh) (w:World) (H':aB) (g':Gh) (w':World):Prop where
 cell:∀ k o v,fq H g k o->w.cell? ⟨k,o,none⟩=some v->w'.cell? ⟨k,o,none⟩=some v/\fq H' g' k o
 blk:∀ (b:Nat) (B:az),H[b]? = some B->∃ B',H'[b]? = some B'/\BT g w g' w' b B B'
 map:∀ k arr cl,fq H g k 0->w.heap[k]? = some (.map arr cl)->w'.heap[k]? = some (.map arr cl)/\fq H' g' k 0
structure Ext (H:aB) (g:Gh) (w:World) (H':aB) (g':Gh) (w':World):Prop where
 cell:∀ k o v,fq H g k o->w.cell? ⟨k,o,none⟩=some v->w'.cell? ⟨k,o,none⟩=some v/\fq H' g' k o
 blk:∀ (b:Nat) (B:az),H[b]? = some B->∃ B',H'[b]? = some B'/\BT g w g' w' b B B'
 kept:∀ (k:Nat) (x:Option (List Deferred)),w.heap[k]? = some (.deferred x)->w'.heap[k]? = some (.deferred x)
 size:w.heap.size<=w'.heap.size
 map:∀ k arr cl,fq H g k 0->w.heap[k]? = some (.map arr cl)->w'.heap[k]? = some (.map arr cl)/\fq H' g' k 0
 obj:∀ k,k<w.heap.size->(∀ b,g.mu b≠some k)->w'.heap[k]? = w.heap[k]?
 fresh:∀ b k,g'.mu b=some k->(∃ c,g.mu c=some k)∨w.heap.size<=k
variable {H H':aB} {g g':Gh} {w0 w w':World}
theorem bC.length:∀ {cs:List A} {ds:List Value},bC H g w cs ds->ds.length=cs.length
 | [],_,h=>by rw[bC] at h; subst h; rfl
 | a :: as,_,h=>by rw[bC] at h; obtain ⟨d,ds',rfl,_,h2⟩:=h; simp[bC.length h2]
theorem bw.length:∀ {cs:List (List A)} {ds:List (List Value)},bw H g w cs ds->ds.length=cs.length
 | [],_,h=>by rw[bw] at h; subst h; rfl
 | a :: as,_,h=>by rw[bw] at h; obtain ⟨d,ds',rfl,_,h2⟩:=h; simp[bw.length h2]
theorem bQ.fB (he:xO H g w H' g' w') {k off:Nat} {ds:List Value} (h:bQ H g w k off ds):bQ H' g' w' k off ds:=fun j v hj=>let ⟨h1,h2⟩:=h j v hj; he.cell _ _ _ h2 h1
mutual
theorem VR.fB (he:xO H g w H' g' w'):∀ (a:A) (c:Value),VR H g w a c->VR H' g' w' a c
 | .any,_,_=>XI
 | .v x,c,h=>by rw[VR] at h ⊢; exact h
 | .ptr b o,c,h=>by
  rw[VR] at h ⊢
  cases hb:H[b]? with
  | none=>rw[hb] at h; exact h.elim
  | some B=>
   obtain ⟨B',hB',ht⟩:=he.blk b B hb
   rw[hb] at h; rw[hB']
   cases B with
   | box _=>cases B' with
    | box _=>obtain ⟨k,h1,h2⟩:=h; exact⟨k,(show g'.mu b=g.mu b from ht).trans h1,h2⟩
    | row wr _ _=>exact False.elim ht
    | rng _=>exact False.elim ht
    | mp _ _ _=>exact False.elim ht
    | dead=>obtain ⟨k,h1,h2⟩:=h; subst h2; rfl
    | hole=>exact False.elim ht
   | row wr _ _=>cases B' with
    | box _=>cases wr<;>exact False.elim ht
    | row _ _ _=>exact h
    | rng _=>cases wr<;>exact False.elim ht
    | mp _ _ _=>cases wr<;>exact False.elim ht
    | dead=>exact h
    | hole=>cases wr<;>exact False.elim ht
   | rng _=>cases B'<;>first | exact h | (exact False.elim ht)
   | mp _ _ _=>cases B'<;>first | exact h | (exact False.elim ht)
   | dead=>cases B'<;>first | exact h | (exact False.elim ht)
   | hole=>exact False.elim h
 | .ep b i o,c,h=>by
  rw[VR] at h ⊢
  cases hb:H[b]? with
  | none=>rw[hb] at h; exact h.elim
  | some B=>
   obtain ⟨B',hB',ht⟩:=he.blk b B hb
   rw[hb] at h; rw[hB']
   cases B with
   | box _=>cases B' with
    | box _=>exact h
    | row wr _ _=>exact False.elim ht
    | rng _=>exact False.elim ht
    | mp _ _ _=>exact False.elim ht
    | dead=>exact h
    | hole=>exact False.elim ht
   | row wr es els=>cases wr with
    | true=>cases B' with
     | box _=>exact False.elim ht
     | row wr' es' els'=>cases wr' with
      | true=>
       obtain ⟨e1,e2,e3⟩:=ht
       obtain ⟨h0,k,h1,h2⟩:=h
       subst e1
       exact⟨j6,k,e3.trans h1,h2⟩
      | false=>exact False.elim ht
     | rng _=>exact False.elim ht
     | mp _ _ _=>exact False.elim ht
     | dead=>obtain ⟨_,k,h1,h2⟩:=h; subst h2; rfl
     | hole=>exact False.elim ht
    | false=>cases B' with
     | box _=>exact False.elim ht
     | row wr' es' els'=>cases wr' with
      | true=>exact False.elim ht
      | false=>exact h
     | rng _=>exact False.elim ht
     | mp _ _ _=>exact False.elim ht
     | dead=>exact h
     | hole=>exact False.elim ht
   | rng _=>cases B'<;>first | exact h | (exact False.elim ht)
   | mp _ _ _=>cases B'<;>first | exact h | (exact False.elim ht)
   | dead=>cases B'<;>first | exact h | (exact False.elim ht)
   | hole=>exact False.elim h
 | .ip cs,c,h=>by
  rw[VR] at h ⊢
  obtain ⟨k,off,ds,h1,h2,h3⟩:=h
  exact⟨k,off,ds,h1,h2.fB he,bC.fB he cs ds h3⟩
 | .imm els clip,c,h=>by
  rw[VR] at h ⊢
  obtain ⟨a,cap,ds,es,h1,h2,h3,h4,h5,h6⟩:=h
  exact⟨a,cap,ds,es,h1,h2,h3,h4,fun hp=>let ⟨k,off,e1,e2⟩:=h5 hp; ⟨k,off,e1,e2.fB he⟩,bw.fB he els ds h6⟩
 | .sl b o n clip,c,h=>by
  rw[VR] at h ⊢
  cases hb:H[b]? with
  | none=>rw[hb] at h; exact h.elim
  | some B=>
   obtain ⟨B',hB',ht⟩:=he.blk b B hb
   rw[hb] at h; rw[hB']
   cases B with
   | box _=>cases B' with
    | box _=>exact h
    | row wr _ _=>exact False.elim ht
    | rng _=>exact False.elim ht
    | mp _ _ _=>exact False.elim ht
    | dead=>exact h
    | hole=>exact False.elim ht
   | row wr es els=>cases wr with
    | true=>cases B' with
     | box _=>exact False.elim ht
     | row wr' es' els'=>cases wr' with
      | true=>
       obtain ⟨e1,e2,e3⟩:=ht
       obtain ⟨h0,a,cap,h1,h2,h3,h4⟩:=h
       subst e1
       exact⟨j6,a,cap,h1,h2,h3,fun hp=>let ⟨k,g1,g2⟩:=h4 hp; ⟨k,e3.trans g1,g2⟩⟩
      | false=>exact False.elim ht
     | rng _=>exact False.elim ht
     | mp _ _ _=>exact False.elim ht
     | dead=>obtain ⟨_,a,cap,h1,_⟩:=h; subst h1; rfl
     | hole=>exact False.elim ht
    | false=>cases B' with
     | box _=>exact False.elim ht
     | row wr' es' els'=>cases wr' with
      | true=>exact False.elim ht
      | false=>
       obtain ⟨e1,⟨r,e2⟩,e3,e4,e5⟩:=ht
       obtain ⟨h0,a,cap,h1,h2,h3,h4,h5⟩:=h
       subst e1
       refine⟨j6,a,cap,h1,h2,h3,fun hp=>?_,fun hc ho hn hlt=>?_⟩
       ·obtain ⟨k,off,g1,g2⟩:=h4 hp
        refine⟨k,off,g1,?_⟩
        have:((g'.ga b).drop o).take n=((g.ga b).drop o).take n:=by
         rw[e2,qaP j6,ZO r8]
        rw[this]
        exact g2.fB he
       ·have hel:els'.length=els.length:=by omega
        obtain ⟨k,arr,ty,g1,g2,g3,g4⟩:=h5 hc ho j6 hlt
        obtain ⟨m1,m2⟩:=e5 hel
        obtain ⟨arr',m3,m4⟩:=m2 k arr ty g1 g3
        exact⟨k,arr',ty,m1.trans g1,g2,m3,j6⟩
     | rng _=>exact False.elim ht
     | mp _ _ _=>exact False.elim ht
     | dead=>obtain ⟨_,a,cap,h1,_⟩:=h; subst h1; rfl
     | hole=>exact False.elim ht
   | rng _=>cases B'<;>first | exact h | (exact False.elim ht)
   | mp _ _ _=>cases B'<;>first | exact h | (exact False.elim ht)
   | dead=>cases B'<;>first | exact h | (exact False.elim ht)
   | hole=>exact False.elim h
 | .agg cs,c,h=>by
  rw[VR] at h ⊢
  obtain ⟨ds,h1,h2⟩:=h
  exact⟨ds,h1,bC.fB he cs _ h2⟩
 | .tup cs,c,h=>by
  rw[VR] at h ⊢
  obtain ⟨ds,h1,h2⟩:=h
  exact⟨ds,h1,bC.fB he cs _ h2⟩
 | .fn f a b,c,h=>by
  rw[VR] at h ⊢
  obtain ⟨ds,es,h1,h2,h3⟩:=h
  exact⟨ds,es,h1,bC.fB he a _ h2,bC.fB he b _ h3⟩
 | .ifc t x,c,h=>by
  rw[VR] at h ⊢
  obtain ⟨d,h1,h2⟩:=h
  exact⟨d,h1,VR.fB he x d h2⟩
 | .yld b,c,h=>by
  rw[VR] at h ⊢
  cases hb:H[b]? with
  | none=>rw[hb] at h; exact h.elim
  | some B=>
   obtain ⟨B',hB',ht⟩:=he.blk b B hb
   rw[hb] at h; rw[hB']
   cases B with
   | rng st=>cases B' with
    | rng st'=>obtain ⟨k,h1,h2⟩:=h; exact⟨k,(show g'.mu b=g.mu b from ht.1).trans h1,h2⟩
    | dead=>obtain ⟨k,h1,h2⟩:=h; subst h2; rfl
    | hole=>exact False.elim ht
    | box _=>exact False.elim ht
    | row _ _ _=>exact False.elim ht
    | mp _ _ _=>exact False.elim ht
   | row wr _ _=>cases wr<;>cases B'<;>first | exact h | (exact False.elim ht)
   | dead=>cases B'<;>first | exact h | (exact False.elim ht)
   | box _=>cases B'<;>first | exact h | (exact False.elim ht)
   | mp _ _ _=>cases B'<;>first | exact h | (exact False.elim ht)
   | hole=>exact False.elim h
 | .nq els,c,h=>by rw[VR] at h ⊢; exact h
 | .mr b,c,h=>by
  rw[VR] at h ⊢
  cases hb:H[b]? with
  | none=>rw[hb] at h; exact h.elim
  | some B=>
   obtain ⟨B',hB',ht⟩:=he.blk b B hb
   rw[hb] at h; rw[hB']
   cases B with
   | mp _ _ _=>cases B' with
    | mp _ _ _=>obtain ⟨k,h1,h2⟩:=h; exact⟨k,(show g'.mu b=g.mu b from ht).trans h1,h2⟩
    | dead=>obtain ⟨k,h1,h2⟩:=h; subst h2; rfl
    | hole=>exact False.elim ht
    | box _=>exact False.elim ht
    | row _ _ _=>exact False.elim ht
    | rng _=>exact False.elim ht
   | row wr _ _=>cases wr<;>cases B'<;>first | exact h | (exact False.elim ht)
   | dead=>cases B'<;>first | exact h | (exact False.elim ht)
   | box _=>cases B'<;>first | exact h | (exact False.elim ht)
   | rng _=>cases B'<;>first | exact h | (exact False.elim ht)
   | hole=>exact False.elim h
 | .mv k ks vs,c,h=>by
  rw[VR] at h ⊢
  obtain ⟨r,arr,cl,h1,h2,h3,h4,h5⟩:=h
  obtain ⟨e1,e2⟩:=he.map r arr cl h2 h3
  exact⟨r,arr,cl,h1,e2,e1,h4,bC.fB he vs _ h5⟩
theorem bC.fB (he:xO H g w H' g' w'):∀ (cs:List A) (ds:List Value),bC H g w cs ds->bC H' g' w' cs ds
 | [],_,h=>by rw[bC] at h ⊢; exact h
 | a :: as,_,h=>by
  rw[bC] at h ⊢
  obtain ⟨d,ds',h1,h2,h3⟩:=h
  exact⟨d,ds',h1,VR.fB he a d h2,bC.fB he as ds' h3⟩
theorem bw.fB (he:xO H g w H' g' w'):∀ (cs:List (List A)) (ds:List (List Value)),bw H g w cs ds->bw H' g' w' cs ds
 | [],_,h=>by rw[bw] at h ⊢; exact h
 | a :: as,_,h=>by
  rw[bw] at h ⊢
  obtain ⟨d,ds',h1,h2,h3⟩:=h
  exact⟨d,ds',h1,bC.fB he a d h2,bw.fB he as ds' h3⟩
end
theorem Ext.PG (he:Ext H g w H' g' w'):xO H g w H' g' w':=⟨he.cell,he.blk,he.map⟩
theorem bQ.ext (he:Ext H g w H' g' w') {k off:Nat} {ds:List Value} (h:bQ H g w k off ds):bQ H' g' w' k off ds:=h.fB he.PG
theorem VR.ext (he:Ext H g w H' g' w') (a:A) (c:Value) (h:VR H g w a c):VR H' g' w' a c:=VR.fB he.PG a c h
theorem bC.ext (he:Ext H g w H' g' w') (cs:List A) (ds:List Value) (h:bC H g w cs ds):bC H' g' w' cs ds:=bC.fB he.PG cs ds h
theorem bw.ext (he:Ext H g w H' g' w') (cs:List (List A)) (ds:List (List Value)) (h:bw H g w cs ds):bw H' g' w' cs ds:=bw.fB he.PG cs ds h
theorem mH.len {b es:Nat} {els:List (List A)} (h:mH H g w b (.row false es els)):(g.ga b).length=els.length:=h.1.length
theorem Rel.A8 (hr:Rel H g w0 w) (he:Ext H g w H' g' w') (hS:g'.S=g.S:=by rfl):∀ k o,w'.heap.size<=k->g'.S k o:=fun k o hk=>by rw[hS]; exact hr.out k o (Yp he.size hk)
theorem Rel.zA (hr:Rel H g w0 w) (he:Ext H g w H' g' w') (hS:g'.S=g.S:=by rfl):∀ b k o,g'.mu b=some k->g'.S k o:=fun b k o h=>by
 rw[hS]
 rcases he.fresh b k h with ⟨c,hc⟩ | hl
 ·exact hr.own c k o hc
 ·exact hr.out k o hl
theorem Ext.below (hr:Rel H g w0 w) (hb:Below w.heap.size w w'):Ext H g w H g w':=by
 refine⟨fun k o v hs hc=>⟨(hb.cell (p:=⟨k,o,none⟩) (ZQ w _ hc)).trans hc,hs⟩,fun b B hB=>⟨B,hB,?_⟩,fun k o ho=>(hb.block k (X5.1 ho).1).trans ho,hb.size,fun k arr cl hs hm=>⟨(hb.block k (X5.1 hm).1).trans hm,hs⟩,fun k hk _=>hb.block k hk,fun b k h=>.inl ⟨b,h⟩⟩
 cases B with
 | box _=>rfl
 | mp _ _ _=>rfl
 | row wr es els=>cases wr with
  | true=>exact⟨rfl,rfl,rfl⟩
  | false=>exact⟨rfl,⟨[],r7⟩,(hr.blk b _ hB).len,X1 _,fun _=>⟨rfl,fun k arr ty hk ha=>⟨arr,(hb.block k (hr.dom b k hk).2.2).trans ha,X1 _⟩⟩⟩
 | rng _=>exact⟨rfl,rfl⟩
 | dead=>trivial
 | hole=>trivial
theorem mH.below {b:Nat} {B:az} (hr:Rel H g w0 w) (hb:Below w.heap.size w w') (h:mH H g w b B):mH H g w' b B:=by
 have he:=Ext.below hr hb
 cases B with
 | box cs=>obtain ⟨k,arr,ty,h1,h2,h3⟩:=h; exact⟨k,arr,ty,h1,(hb.block k (hr.dom b k h1).2.2).trans h2,bC.ext he _ _ h3⟩
 | row wr es els=>cases wr with
  | true=>
   obtain ⟨ds,h1,h2,h3⟩:=h
   exact⟨ds,bw.ext he _ _ h1,h2,fun hp=>let ⟨k,arr,ty,e1,e2,e3⟩:=h3 hp; ⟨k,arr,ty,e1,(hb.block k (hr.dom b k e1).2.2).trans e2,e3⟩⟩
  | false=>exact⟨bw.ext he _ _ h.1,h.2⟩
 | rng st=>obtain ⟨k,h1,h2⟩:=h; exact⟨k,h1,(hb.block k (hr.dom b k h1).2.2).trans h2⟩
 | mp _ _ _=>obtain ⟨k,arr,cl,h1,h2,h3,h4⟩:=h; exact⟨k,arr,cl,h1,(hb.block k (hr.dom b k h1).2.2).trans h2,h3,bC.ext he _ _ h4⟩
 | dead=>exact h
 | hole=>exact h
theorem Rel.jB (hr:Rel H g w0 w) (hb:Below w.heap.size w w'):Rel H g w0 w':=
 ⟨hr.below.trans (hb.mono hr.below.size),fun b k hk=>⟨(hr.dom b k hk).1,(hr.dom b k hk).2.1,Yh (hr.dom b k hk).2.2 hb.size⟩,hr.inj,fun k o hk=>hr.out k o (Yp hb.size hk),hr.own,fun b B hB=>(hr.blk b B hB).below hr hb⟩
theorem Rel.yu (hr:Rel H g w0 w) {B:Nat} (hc:eb B w w'):xO H g w H g w':=by
 refine⟨fun k o v hs h=>⟨Calm.cell (B:=B) ⟨k,o,none⟩ v w w' h hc,hs⟩,fun b Bk hB=>⟨Bk,hB,?_⟩,fun k arr cl hs hm=>⟨hc.data _ _ hm rfl,hs⟩⟩
 cases Bk with
 | box _=>rfl
 | mp _ _ _=>rfl
 | row wr es els=>cases wr with
  | true=>exact⟨rfl,rfl,rfl⟩
  | false=>exact⟨rfl,⟨[],r7⟩,(hr.blk b _ hB).len,X1 _,fun _=>⟨rfl,fun k arr ty hk ha=>⟨arr,hc.data _ _ ha rfl,X1 _⟩⟩⟩
 | rng _=>exact⟨rfl,rfl⟩
 | dead=>trivial
 | hole=>trivial
theorem Rel.calm (hr:Rel H g w0 w) {B:Nat} (hB:w0.heap.size<=B) (hc:eb B w w') (hl:∀ (k:Nat) (o:Loop),w.heap[k]? = some (.loop o)->w'.heap[k]? = some (.loop o)):Rel H g w0 w':=by
 have he:=hr.yu hc
 refine⟨Calm.below (X1 _) hB w w' hr.below hc,fun b k hk=>⟨(hr.dom b k hk).1,(hr.dom b k hk).2.1,Yh (hr.dom b k hk).2.2 hc.size⟩,hr.inj,fun k o hk=>hr.out k o (Yp hc.size hk),hr.own,fun b Bk hBk=>?_⟩
 have h:=hr.blk b Bk hBk
 cases Bk with
 | box cs=>obtain ⟨k,arr,ty,h1,h2,h3⟩:=h; exact⟨k,arr,ty,h1,hc.data _ _ h2 rfl,bC.fB he _ _ h3⟩
 | row wr es els=>cases wr with
  | true=>
   obtain ⟨ds,h1,h2,h3⟩:=h
   exact⟨ds,bw.fB he _ _ h1,h2,fun hp=>let ⟨k,arr,ty,e1,e2,e3⟩:=h3 hp; ⟨k,arr,ty,e1,hc.data _ _ e2 rfl,e3⟩⟩
  | false=>exact⟨bw.fB he _ _ h.1,h.2⟩
 | rng st=>obtain ⟨k,h1,h2⟩:=h; exact⟨k,h1,hl k _ h2⟩
 | mp _ _ _=>obtain ⟨k,arr,cl,h1,h2,h3,h4⟩:=h; exact⟨k,arr,cl,h1,hc.data _ _ h2 rfl,h3,bC.fB he _ _ h4⟩
 | dead=>exact h
 | hole=>exact h
theorem Ext.calm {H0:aB} {g0:Gh} {ws:World} (he:Ext H0 g0 ws H g w) (hr:Rel H g w0 w) {B:Nat} (hB:ws.heap.size<=B) (hc:eb B w w'):Ext H0 g0 ws H g w':=by
 have h0:=hr.yu hc
 refine⟨fun k o v hs h=>?_,fun b Bk hBk=>?_,fun k o ho=>?_,Yp he.size hc.size,fun k arr cl hs hm=>let ⟨c1,s1⟩:=he.map k arr cl hs hm; h0.map k arr cl s1 c1,fun k hk hn=>(hc.low k j6 (Yh hk he.size)).trans (he.obj k hk hn),he.fresh⟩
 ·obtain ⟨c1,s1⟩:=he.cell k o v hs h
  exact h0.cell k o v s1 c1
 ·obtain ⟨B',hB',ht⟩:=he.blk b Bk hBk
  refine⟨B',hB',?_⟩
  cases Bk with
  | row wr es els=>cases wr with
   | false=>cases B' with
    | row wr' es' els'=>cases wr' with
     | false=>
      obtain ⟨e1,e2,e3,e4,e5⟩:=ht
      refine⟨e1,e2,e3,e4,fun hl=>⟨(e5 hl).1,fun k arr ty hk ha=>?_⟩⟩
      obtain ⟨arr',q1,q2⟩:=(e5 hl).2 k arr ty hk ha
      exact⟨arr',hc.data _ _ q1 rfl,q2⟩
     | true=>exact ht
    | _=>exact ht
   | true=>cases B' with
    | row wr' es' els'=>cases wr'<;>exact ht
    | _=>exact ht
  | _=>cases B'<;>exact ht
 ·have hk:=he.kept k o ho
  have hlt:=(X5.1 ho).1
  exact(hc.low k j6 (X5.1 hk).1).trans hk
end
section
open Go.RowKit
variable {P:Program} {H:aB} {g:Gh} {w0 w:World}
theorem er {α:Type} {P:Program}:∀ {s:Sem α} {a:α},cZ P s=some a->∀ w,s.run P w=.ok a w
 | .pure a,_,h,w=>by simp only[cZ,YK] at h; subst h; rfl
 | .program k,a,h,w=>by simp only[cZ] at h; exact er (s:=k P) h w
 | .mark _ k,a,h,w=>by simp only[cZ] at h; exact er (s:=k) h w
 | .load ..,_,h,_ | .store ..,_,h,_ | .new ..,_,h,_ | .shape ..,_,h,_ | .freeze ..,_,h,_ | .frozen ..,_,h,_ | .getObj ..,_,h,_ | .setObj ..,_,h,_ | .choose ..,_,h,_ | .sys ..,_,h,_ | .halt _,_,h,_=>by cases h
theorem dQ:∀ {cs:List A} {ds:List Value},bC H g w cs ds↔ds.length=cs.length/\∀ (i:Nat) a d,cs[i]? = some a->ds[i]? = some d->VR H g w a d
 | [],ds=>by
  rw[bC]
  exact⟨fun h=>by subst h; simp,fun h=>by simpa using h.1⟩
 | a :: as,ds=>by
  rw[bC]
  constructor
  ·rintro ⟨d,ds',rfl,h1,h2⟩
   obtain ⟨h3,h4⟩:=dQ.1 h2
   refine⟨by simp[h3],fun i x y hx hy=>?_⟩
   cases i with
   | zero=>simp at hx hy; subst hx; subst hy; exact h1
   | succ i=>exact h4 i x y (by simpa using hx) (by simpa using hy)
  ·rintro ⟨h1,h2⟩
   cases ds with
   | nil=>simp at h1
   | cons d ds'=>exact⟨d,ds',rfl,h2 0 a d rfl rfl,dQ.2 ⟨by simpa using h1,fun i x y hx hy=>h2 (i+1) x y (by simpa using hx) (by simpa using hy)⟩⟩
theorem da:∀ {cs:List (List A)} {ds:List (List Value)},bw H g w cs ds↔ds.length=cs.length/\∀ (i:Nat) a d,cs[i]? = some a->ds[i]? = some d->bC H g w a d
 | [],ds=>by
  rw[bw]
  exact⟨fun h=>by subst h; simp,fun h=>by simpa using h.1⟩
 | a :: as,ds=>by
  rw[bw]
  constructor
  ·rintro ⟨d,ds',rfl,h1,h2⟩
   obtain ⟨h3,h4⟩:=da.1 h2
   refine⟨by simp[h3],fun i x y hx hy=>?_⟩
   cases i with
   | zero=>simp at hx hy; subst hx; subst hy; exact h1
   | succ i=>exact h4 i x y (by simpa using hx) (by simpa using hy)
  ·rintro ⟨h1,h2⟩
   cases ds with
   | nil=>simp at h1
   | cons d ds'=>exact⟨d,ds',rfl,h2 0 a d rfl rfl,da.2 ⟨by simpa using h1,fun i x y hx hy=>h2 (i+1) x y (by simpa using hx) (by simpa using hy)⟩⟩
theorem bC.get {cs:List A} {ds:List Value} (h:bC H g w cs ds) {i:Nat} {a:A} (ha:cs[i]? = some a):∃ d,ds[i]? = some d/\VR H g w a d:=by
 obtain ⟨h1,h2⟩:=dQ.1 h
 have hi:i<ds.length:=by rw[h1]; exact(X2.1 ha).1
 exact⟨ds[i],X3 hi,h2 i a _ ha (X3 hi)⟩
theorem bw.get {cs:List (List A)} {ds:List (List Value)} (h:bw H g w cs ds) {i:Nat} {a:List A} (ha:cs[i]? = some a):∃ d,ds[i]? = some d/\bC H g w a d:=by
 obtain ⟨h1,h2⟩:=da.1 h
 have hi:i<ds.length:=by rw[h1]; exact(X2.1 ha).1
 exact⟨ds[i],X3 hi,h2 i a _ ha (X3 hi)⟩
theorem bC.drop {cs:List A} {ds:List Value} (h:bC H g w cs ds) (n:Nat):bC H g w (cs.drop n) (ds.drop n):=by
 obtain ⟨h1,h2⟩:=dQ.1 h
 exact dQ.2 ⟨by simp[h1],fun i a d ha hd=>h2 (n+i) a d (by simpa using ha) (by simpa using hd)⟩
theorem bC.take {cs:List A} {ds:List Value} (h:bC H g w cs ds) (n:Nat):bC H g w (cs.take n) (ds.take n):=by
 obtain ⟨h1,h2⟩:=dQ.1 h
 refine dQ.2 ⟨by simp[h1],fun i a d ha hd=>?_⟩
 rw[Yi] at ha hd
 split at ha
 ·rename_i hlt; rw[X4 hlt] at hd; exact h2 _ _ _ ha hd
 ·cases ha
theorem bC.append {cs cs':List A} {ds ds':List Value} (h:bC H g w cs ds) (h':bC H g w cs' ds'):bC H g w (cs++cs') (ds++ds'):=by
 obtain ⟨h1,h2⟩:=dQ.1 h
 obtain ⟨h3,h4⟩:=dQ.1 h'
 refine dQ.2 ⟨by simp[h1,h3],fun i a d ha hd=>?_⟩
 rw[ZI] at ha hd
 rw[h1] at hd
 split at ha
 ·rename_i hlt; rw[X4 hlt] at hd; exact h2 _ _ _ ha hd
 ·rename_i hlt; rw[X8 hlt] at hd; exact h4 _ _ _ ha hd
theorem bw.drop {cs:List (List A)} {ds:List (List Value)} (h:bw H g w cs ds) (n:Nat):bw H g w (cs.drop n) (ds.drop n):=by
 obtain ⟨h1,h2⟩:=da.1 h
 exact da.2 ⟨by simp[h1],fun i a d ha hd=>h2 (n+i) a d (by simpa using ha) (by simpa using hd)⟩
theorem bw.take {cs:List (List A)} {ds:List (List Value)} (h:bw H g w cs ds) (n:Nat):bw H g w (cs.take n) (ds.take n):=by
 obtain ⟨h1,h2⟩:=da.1 h
 refine da.2 ⟨by simp[h1],fun i a d ha hd=>?_⟩
 rw[Yi] at ha hd
 split at ha
 ·rename_i hlt; rw[X4 hlt] at hd; exact h2 _ _ _ ha hd
 ·cases ha
theorem bw.append {cs cs':List (List A)} {ds ds':List (List Value)} (h:bw H g w cs ds) (h':bw H g w cs' ds'):bw H g w (cs++cs') (ds++ds'):=by
 obtain ⟨h1,h2⟩:=da.1 h
 obtain ⟨h3,h4⟩:=da.1 h'
 refine da.2 ⟨by simp[h1,h3],fun i a d ha hd=>?_⟩
 rw[ZI] at ha hd
 rw[h1] at hd
 split at ha
 ·rename_i hlt; rw[X4 hlt] at hd; exact h2 _ _ _ ha hd
 ·rename_i hlt; rw[X8 hlt] at hd; exact h4 _ _ _ ha hd
theorem bC.bB {cs xs:List A} {ds ys:List Value} (h:bC H g w cs ds) (h':bC H g w xs ys) (o:Nat):bC H g w (bB cs o xs) (bB ds o ys):=by
 unfold Go.Proofs.YtdmgdjnadbakfaaGreat.bB
 rw[h'.length]
 exact((h.take o).append h').append (h.drop _)
theorem bw.bB {cs xs:List (List A)} {ds ys:List (List Value)} (h:bw H g w cs ds) (h':bw H g w xs ys) (o:Nat):bw H g w (bB cs o xs) (bB ds o ys):=by
 unfold Go.Proofs.YtdmgdjnadbakfaaGreat.bB
 rw[h'.length]
 exact((h.take o).append h').append (h.drop _)
theorem iB {α:Type} (es:Nat):∀ (q:Nat) (xs:List α),(chunk es q xs).length=q
 | 0,_=>rfl
 | q+1,xs=>by rw[chunk,X9,iB es q]
theorem kE {α:Type} {es:Nat}:∀ {q:Nat} {xs:List α},xs.length=q*es->∀ d∈chunk es q xs,d.length=es
 | 0,_,_,d,hd=>by cases hd
 | q+1,xs,h,d,hd=>by
  rw[YS,qbj] at h
  rcases YJ.1 hd with rfl | hd
  ·simp; omega
  ·exact kE r8 d hd
theorem mU {α:Type} {es:Nat}:∀ {q:Nat} {xs:List α},xs.length=q*es->(chunk es q xs).flatten=xs
 | 0,xs,h=>by
  have:xs=[]:=Yl (by simpa using h)
  subst this; rfl
 | q+1,xs,h=>by
  rw[YS,qbj] at h
  rw[chunk,Zf,mU r8]
  exact YZ _ _
theorem bC.chunk {es:Nat}:∀ (q:Nat) {cs:List A} {ds:List Value},bC H g w cs ds->bw H g w (chunk es q cs) (chunk es q ds)
 | 0,_,_,_=>by rw[Go.Proofs.YtdmgdjnadbakfaaGreat.chunk,Go.Proofs.YtdmgdjnadbakfaaGreat.chunk,bw]
 | q+1,cs,ds,h=>by
  rw[Go.Proofs.YtdmgdjnadbakfaaGreat.chunk,Go.Proofs.YtdmgdjnadbakfaaGreat.chunk,bw]
  exact⟨_,_,rfl,h.take es,bC.chunk q (h.drop es)⟩
theorem bw.flat:∀ {els:List (List A)} {ds:List (List Value)},bw H g w els ds->bC H g w els.flatten ds.flatten
 | [],_,h=>by rw[bw] at h; subst h; rw[List.flatten_nil,bC]; rfl
 | a :: els,_,h=>by
  rw[bw] at h
  obtain ⟨d,ds',rfl,h1,h2⟩:=h
  rw[Zf,Zf]
  exact h1.append (bw.flat h2)
theorem FO (x:Value):VR H g w (A7 x) x:=by
 unfold A7
 split
 ·rw[VR]; exact⟨none,0,[],0,rfl,X1 _,fun _=>rfl,r7,r7,by rw[bw]⟩
 ·rw[VR]
theorem jV (l:List Value):bC H g w (l.map A7) l:=
 dQ.2 ⟨r7,fun i a d ha hd=>by rw[Yj,hd] at ha; cases ha; exact FO d⟩
theorem pZ (x:Value):VR H g w (zw x) x:=by
 unfold zw
 split
 ·rename_i cs; rw[VR]; exact⟨cs,rfl,jV _⟩
 ·exact FO _
mutual
theorem oE:∀ (a:A) {v c:Value},a.rD=some v->VR H g w a c->c=v
 | .any,_,_,h,_=>by simp[A.rD] at h
 | .v x,_,_,h,hr=>by simp[A.rD] at h; rw[VR] at hr; rw[hr,h]
 | .ptr ..,_,_,h,_=>by simp[A.rD] at h
 | .ep ..,_,_,h,_=>by simp[A.rD] at h
 | .ip _,_,_,h,_=>by simp[A.rD] at h
 | .imm ..,_,_,h,_=>by simp[A.rD] at h
 | .sl ..,_,_,h,_=>by simp[A.rD] at h
 | .agg cs,_,_,h,hr=>by
  simp[A.rD] at h
  obtain ⟨l,hl,rfl⟩:=h
  rw[VR] at hr
  obtain ⟨ds,rfl,h2⟩:=hr
  have:=CH cs hl h2
  rw[<-this]
 | .tup _,_,_,h,_=>by simp[A.rD] at h
 | .fn (.func f) [] [],_,_,h,hr=>by
  simp[A.rD] at h
  subst h
  rw[VR] at hr
  obtain ⟨ds,es,rfl,h1,h2⟩:=hr
  rw[bC] at h1 h2
  have e1:ds=#[]:=by cases ds; simp_all
  have e2:es=#[]:=by cases es; simp_all
  rw[e1,e2]
 | .fn (.func _) (_ :: _) _,_,_,h,_=>by simp[A.rD] at h
 | .fn (.func _) [] (_ :: _),_,_,h,_=>by simp[A.rD] at h
 | .fn (.method _) _ _,_,_,h,_=>by simp[A.rD] at h
 | .fn (.methodOf ..) _ _,_,_,h,_=>by simp[A.rD] at h
 | .fn (.via ..) _ _,_,_,h,_=>by simp[A.rD] at h
 | .fn (.yield _) _ _,_,_,h,_=>by simp[A.rD] at h
 | .ifc t x,_,_,h,hr=>by
  simp[A.rD] at h
  obtain ⟨v,hv,rfl⟩:=h
  rw[VR] at hr
  obtain ⟨d,rfl,h2⟩:=hr
  rw[oE x hv h2]
theorem CH:∀ (cs:List A) {l ds:List Value},DB cs=some l->bC H g w cs ds->ds=l
 | [],_,_,h,hr=>by simp[DB] at h; rw[bC] at hr; rw[hr,<-h]
 | a :: as,_,_,h,hr=>by
  rw[DB] at h
  cases hx:a.rD with
  | none=>rw[hx] at h; cases h
  | some x=>
   rw[hx] at h
   cases hl:DB as with
   | none=>rw[hl] at h; cases h
   | some l=>
    rw[hl] at h
    cases h
    rw[bC] at hr
    obtain ⟨d,ds',rfl,h1,h2⟩:=hr
    rw[oE a hx h1,CH as hl h2]
end
theorem th {a:A} {c:Value} (hc:a.cell=true) (h:VR H g w a c):c.oneCell'=true:=by
 cases a with
 | any=>simp[A.cell] at hc
 | v x=>rw[VR] at h; rw[h]; simpa [A.cell] using hc
 | ptr b o=>
  rw[VR] at h
  split at h
  ·obtain ⟨k,_,rfl⟩:=h; rfl
  ·exact h.elim
  ·exact h
  ·exact h.elim
 | ep b i o=>
  rw[VR] at h
  split at h
  ·obtain ⟨_,k,_,rfl⟩:=h; rfl
  ·exact h.elim
  ·exact h
  ·exact h.elim
 | ip cs=>rw[VR] at h; obtain ⟨_,_,_,rfl,_⟩:=h; rfl
 | imm els clip=>rw[VR] at h; obtain ⟨_,_,_,_,rfl,_⟩:=h; rfl
 | sl b o n clip=>
  rw[VR] at h
  split at h
  ·obtain ⟨_,_,_,rfl,_⟩:=h; rfl
  ·obtain ⟨_,_,_,rfl,_⟩:=h; rfl
  ·exact h.elim
  ·exact h
  ·exact h.elim
 | agg _=>simp[A.cell] at hc
 | tup _=>simp[A.cell] at hc
 | fn f a b=>rw[VR] at h; obtain ⟨_,_,rfl,_⟩:=h; rfl
 | ifc t x=>rw[VR] at h; obtain ⟨_,rfl,_⟩:=h; rfl
 | nq _=>simp[A.cell] at hc
 | yld b=>
  rw[VR] at h
  split at h
  ·obtain ⟨_,_,rfl⟩:=h; rfl
  ·exact h.elim
  ·exact h
  ·exact h.elim
 | mr b=>
  rw[VR] at h
  split at h
  ·obtain ⟨_,_,rfl⟩:=h; rfl
  ·exact h.elim
  ·exact h
  ·exact h.elim
 | mv k ks vs=>rw[VR] at h; obtain ⟨_,_,_,rfl,_⟩:=h; rfl
theorem wN {c:Value} (h:c.oneCell'=true):c.cells=#[c]:=by cases c<;>first | rfl | simp[Value.oneCell'] at h
theorem nO {a:A} {c:Value} {cs:List A} (ha:a.cells? = some cs) (h:VR H g w a c):bC H g w cs c.cells.toList/\(∀ x∈c.cells.toList,x.oneCell'=true)/\∀ x∈cs,x.cell=true:=by
 have one:∀ {x:A} {d:Value},x.cell=true->VR H g w x d->bC H g w [x] d.cells.toList/\(∀ y∈d.cells.toList,y.oneCell'=true)/\∀ y∈[x],y.cell=true:=fun {x d} hx hv=>by
  have h1:=th hx hv
  rw[wN h1]
  refine⟨?_,by simp[h1],by simp[hx]⟩
  rw[bC]; exact⟨d,[],rfl,hv,H4⟩
 cases a with
 | any=>simp[A.cells?] at ha
 | tup _=>simp[A.cells?] at ha
 | agg as=>
  simp only[A.cells?,cond_eq_ite] at ha
  split at ha
  ·rename_i hall
   cases ha
   rw[VR] at h
   obtain ⟨ds,rfl,h2⟩:=h
   refine⟨h2,fun x hx=>?_,Yb.1 hall⟩
   obtain ⟨i,hi,rfl⟩:=YR hx
   have hl:=h2.length
   obtain ⟨d,hd,hv⟩:=h2.get (i:=i) (X3 (by simp only[Value.cells] at hi; omega))
   have hd':(Value.agg ds).cells.toList[i]? = some d:=hd
   rw[X3 hi] at hd'
   cases hd'
   exact th (Yb.1 hall _ (Y8 _)) hv
  ·cases ha
 | v x=>
  simp only[A.cells?,cond_eq_ite] at ha
  split at ha
  ·rename_i hx; cases ha; exact one hx h
  ·cases ha
 | nq _=>simp[A.cells?] at ha
 | _=>simp only[A.cells?,YK] at ha; subst ha; exact one rfl h
theorem xo {t:TypeId} {cs:List A} {ds:List Value} {a:A} (hj:join P t cs=some a) (h:bC H g w cs ds):∃ c,VR H g w a c/\(if m8 P t=true then c=.agg ds.toArray else ds=[c]):=by
 unfold Go.Proofs.YtdmgdjnadbakfaaGreat.join at hj
 cases hA:m8 P t
 ·rw[hA] at hj
  simp only[XX] at hj
  split at hj
  ·cases hj
   rw[bC] at h
   obtain ⟨d,ds',rfl,h1,h2⟩:=h
   rw[bC] at h2
   subst h2
   exact⟨d,h1,r7⟩
  ·cases hj
 ·rw[hA] at hj
  simp only[XY,YK] at hj
  subst hj
  exact⟨.agg ds.toArray,by rw[VR]; exact⟨_,rfl,by simpa using h⟩,r7⟩
theorem vO (t:TypeId) {d:TypeDesc} (hu:P.underlying t=some d) (w:World):(isAgg t).run P w=.ok (m8 P t) w:=by
 unfold isAgg m8
 rw[Yy,Ya hu w,hu]
 cases d<;>rfl
theorem mZ {t:TypeId} {n:Nat} (h:df P t=some n):∃ d,P.underlying t=some d:=by
 unfold df at h
 cases hu:P.underlying t with
 | none=>rw[hu] at h; cases h
 | some d=>exact⟨d,rfl⟩
theorem gR {t:TypeId} {n:Nat} (h:df P t=some n):∃ i,P.info? t=some i/\i.size=n:=by
 obtain ⟨d,hu⟩:=mZ h
 unfold df at h
 rw[hu] at h
 cases hi:P.info? t with
 | none=>rw[hi] at h; cases h
 | some i=>rw[hi] at h; exact⟨i,rfl,by simpa using h⟩
theorem eB {t:TypeId} {n:Nat} (h:df P t=some n) (w:World):(sizeOf t).run P w=.ok n w:=by
 obtain ⟨i,hi,rfl⟩:=gR h
 simp[sizeOf,typeInfo,hi]
theorem zq {t:TypeId} {n:Nat} (hs:df P t=some n) {d:TypeDesc} (hu:P.underlying t=some d) {k off:Nat} {ds:List Value} (hl:ds.length=n) (hc:w.rangeAt k off ds) {c:Value} (h:if m8 P t=true then c=.agg ds.toArray else ds=[c]) :
  (loadVar t ⟨k,off,none⟩).run P w=.ok c w:=by
 have hc':(loadCells ⟨k,off,none⟩ ds.length).run P w=.ok ds.toArray w:=
  run_loadCells_list (P:=P) w ⟨k,off,none⟩ ds (fun j v hv=>by rw[Zd]; exact hc j v hv)
 unfold loadVar
 rw[Yy,vO t hu w]
 cases hA:m8 P t
 ·rw[hA] at h
  simp at h
  subst h
  have:=hc 0 c rfl
  simp only[Zr] at this
  simp[load,Sem.run,this]
 ·rw[hA] at h
  simp at h
  subst h
  simp[eB hs,<-hl,hc']
end
section
open Go.RowKit
variable {P:Program} {H:aB} {g:Gh} {w0 w:World}
theorem bH {α β:Type} {x:Option α} {f:α->Option β} {y:β} (h:x.bind f=some y):∃ a,x=some a/\f a=some y:=by
 cases x with
 | none=>cases h
 | some a=>exact⟨a,rfl,h⟩
theorem bG {α:Type} {b:Bool} {x y:α}:(bif b then x else y)=if b=true then x else y:=by cases b<;>rfl
theorem fe {α:Type} {b:Bool} {x:Option α} {y:α} (h:(bif b then none else x)=some y):b=false/\x=some y:=by cases b<;>simp_all
theorem br {α:Type} {b:Bool} {x:Option α} {y:α} (h:(bif b then x else none)=some y):b=true/\x=some y:=by cases b<;>simp_all
theorem bQ.drop {k off:Nat} {ds:List Value} (h:bQ H g w k off ds) (n:Nat):bQ H g w k (off+n) (ds.drop n):=fun j v hj=>by
 rw[Zj] at hj
 rw[ZN]
 exact h (n+j) v hj
theorem bQ.take {k off:Nat} {ds:List Value} (h:bQ H g w k off ds) (n:Nat):bQ H g w k off (ds.take n):=fun j v hj=>by
 rw[Yi] at hj
 split at hj
 ·exact h j v hj
 ·cases hj
theorem bQ.range {k off:Nat} {ds:List Value} (h:bQ H g w k off ds):w.rangeAt k off ds:=fun j v hj=>(h j v hj).1
theorem kK {es:Nat}:∀ {ds:List (List Value)},(∀ d∈ds,d.length=es)->∀ {j:Nat} {d:List Value},ds[j]? = some d->∀ i,i<es->ds.flatten[j*es+i]? = d[i]?
 | [],_,j,d,h,i,_=>by simp at h
 | x :: xs,hl,j,d,h,i,hi=>by
  have hx:=hl x r7
  cases j with
  | zero=>simp at h; subst h; simp[ZI,hx,hi]
  | succ j=>
   have:=kK (ds:=xs) (fun d hd=>hl d (by simp[hd])) (j:=j) (d:=d) (by simpa using h) i hi
   rw[Zf,Yo (by rw[hx,YS]; omega),hx,<-this]
   congr 1
   rw[YS]; omega
theorem cE {es:Nat}:∀ {ds:List (List Value)},(∀ d∈ds,d.length=es)->ds.flatten.length=ds.length*es
 | [],_=>r7
 | x :: xs,hl=>by
  rw[Zf,Ye,hl x r7,cE (fun d hd=>hl d (by simp[hd])),X9,YS]; omega
theorem bQ.elem {k off es:Nat} {ds:List (List Value)} (h:bQ H g w k off ds.flatten) (hl:∀ d∈ds,d.length=es) {j:Nat} {d:List Value} (hd:ds[j]? = some d):bQ H g w k (off+j*es) d:=fun i v hi=>by
 have hdl:d.length=es:=hl d (Yk hd)
 have hi':i<es:=by rw[<-hdl]; exact(X2.1 hi).1
 rw[ZN]
 exact h (j*es+i) v (by rw[kK hl hd i hi']; exact hi)
theorem bQ.sub {k off es:Nat} {ds:List (List Value)} (h:bQ H g w k off ds.flatten) (hl:∀ d∈ds,d.length=es) (l m:Nat):bQ H g w k (off+l*es) ((ds.drop l).take m).flatten:=fun i v hi=>by
 have hl2:∀ d∈(ds.drop l).take m,d.length=es:=fun d hd=>hl d (YC (Yr hd))
 have hlen:=(X2.1 hi).1
 rw[cE hl2] at hlen
 have hes:0<es:=by rcases qab es with h0 | h0; (rw[h0] at hlen; simp at hlen); exact h0
 have hq:i / es<((ds.drop l).take m).length:=qbu (by rw[Y9]; exact hlen)
 have hdm:=qbg i es
 have hr:=qax i hes
 obtain ⟨d,hd⟩:∃ d,((ds.drop l).take m)[i / es]? = some d:=⟨_,X3 hq⟩
 have e1:=kK hl2 hd (i % es) hr
 have e2:i / es*es+i % es=i:=by rw[Y9]; exact hdm
 rw[e2,hi] at e1
 have hd2:ds[l+i / es]? = some d:=by
  rw[Yi] at hd
  split at hd
  ·rwa [Zj] at hd
  ·cases hd
 have e3:=kK hl hd2 (i % es) hr
 have:=h ((l+i / es)*es+i % es) v (by rw[e3,<-e1])
 rwa [show off+((l+i / es)*es+i % es)=off+l*es+i by rw[YS]; omega] at this
theorem pT {a:A} {c:Value} {j:Nat} (h:idx a=some j) (hv:VR H g w a c):∃ k n,c=.int k n/\0<=n/\n.toNat=j:=by
 unfold idx at h
 split at h
 ·rename_i k n
  replace h:=br h
  obtain ⟨h1,h2⟩:=h
  rw[VR] at hv
  exact⟨k,n,hv,by simpa using h1,by simpa using h2⟩
 ·cases h
theorem rL (hr:Rel H g w0 w) {t:TypeId} {x y:A} {c:Value} (h:nM P t x H=some y) (hx:VR H g w x c):∃ d,(Instr.loadAt t c).run P w=.ok d w/\VR H g w y d:=by
 unfold nM at h
 replace h:=bH h
 obtain ⟨n,hn,h⟩:=h
 replace h:=fe h
 obtain ⟨_,h⟩:=h
 obtain ⟨dd,hu⟩:=mZ hn
 have fin:∀ {k off:Nat} {cs:List A} {ds:List Value},c=.pointer (some ⟨k,off,none⟩)->bC H g w cs ds->cs.length=n->w.rangeAt k off ds->join P t cs=some y->∃ d,(Instr.loadAt t c).run P w=.ok d w/\VR H g w y d:=by
  intro k off cs ds hc hv hl hcells hj
  obtain ⟨d,h1,h2⟩:=xo hj hv
  refine⟨d,?_,h1⟩
  subst hc
  simp only[Instr.loadAt,Instr.sureAddr,Yy,Z6,Yt]
  exact zq hn hu (hv.length.trans hl) hcells h2
 have seg:∀ {k:Nat} {arr:Array Value} {ty:TypeId} (o:Nat) (ds:List Value),w.heap[k]? = some (.cells arr ty (0,0))->(∀ (j:Nat) v,ds[j]? = some v->arr[o+j]? = some v)->w.rangeAt k o ds:=fun {k arr ty} o ds hk hd j v hj=>by
  rw[Zs w k (o+j) arr ty (0,0) hk]; exact hd j v hj
 split at h
 ·rename_i b o
  split at h
  ·rename_i cs hb
   replace h:=br h
   obtain ⟨h1,h2⟩:=h
   have h1:=X7 h1
   rw[VR,hb] at hx
   obtain ⟨k,hk,rfl⟩:=hx
   obtain ⟨k',arr,ty,hk',ha,hv⟩:=hr.blk b _ hb
   rw[hk] at hk'; cases hk'
   refine fin rfl ((hv.drop o).take n) r8 (seg o _ ha fun j v hj=>?_) h2
   rw[Yi] at hj
   split at hj
   ·rw[Zj] at hj; simpa using hj
   ·cases hj
  ·cases h
 ·rename_i b i o
  split at h
  ·rename_i es els hb
   split at h
   ·rename_i cs hi
    rw[VR,hb] at hx
    obtain ⟨hlt,k,hk,rfl⟩:=hx
    obtain ⟨ds,hv,hl,hrow⟩:=hr.blk b _ hb
    obtain ⟨k',arr,ty,hk',ha,hcell⟩:=hrow j6
    rw[hk] at hk'; cases hk'
    obtain ⟨d,hd,hvd⟩:=hv.get hi
    rw[bG] at h
    split at h
    rotate_left
    ·replace h:=br h
     obtain ⟨h1,h2⟩:=h
     simp only[XZ,qaj] at h1
     obtain ⟨rfl,h1⟩:=h1
     have hcs:cs.length=es:=by rw[<-hvd.length]; exact hl d (Yk hd)
     refine fin rfl ((hv.drop i).take (n / cs.length)).flat h1 (seg _ _ ha fun j v hj=>?_) h2
     refine hcell _ v ?_
     have e1:ds.flatten=(ds.take i).flatten++(ds.drop i).flatten:=XM
     have e2:(ds.take i).flatten.length=i*es:=by
      have h3:=hv.length
      rw[cE (es:=es) (fun d hd=>hl d (Yr hd)),YV,Zn j6]
     have e3:(ds.drop i).flatten=((ds.drop i).take (n / cs.length)).flatten++((ds.drop i).drop (n / cs.length)).flatten:=XM
     rw[e1,Yo j6,e2,e3]
     rw[Yf (by
      have:=(X2.1 hj).1
      omega)]
     rw[<-hj]; congr 1; omega
    rename_i h1
    have h2:=h
    have h1:=X7 h1
    refine fin rfl ((hvd.drop o).take n) r8 (seg _ _ ha fun j v hj=>?_) h2
    rw[Yi] at hj
    split at hj
    ·rw[Zj] at hj
     have hdl:d.length=es:=hl d (Yk hd)
     have hoj:o+j<es:=by rw[<-hdl]; exact(X2.1 hj).1
     have:=hcell (i*es+(o+j)) v (by rw[kK hl hd _ hoj]; exact hj)
     rwa [<-ZN] at this
    ·cases hj
   ·cases h
  ·cases h
 ·rename_i cs
  replace h:=br h
  obtain ⟨h1,h2⟩:=h
  have h1:=X7 h1
  rw[VR] at hx
  obtain ⟨k,off,ds,rfl,hc,hv⟩:=hx
  exact fin rfl (hv.take n) r8 (hc.take n).range h2
 ·cases h
theorem sW {x y:A} {i:Nat} {c:Value} (h:nL x i=some y) (hx:VR H g w x c):∃ d,(Instr.extract c i).run P w=.ok d w/\VR H g w y d:=by
 unfold nL at h
 split at h
 ·rw[VR] at hx
  obtain ⟨ds,rfl,hv⟩:=hx
  obtain ⟨d,hd,hvd⟩:=hv.get h
  have hd':ds[i]? = some d:=by simpa using hd
  exact⟨d,by simp[Instr.extract,hd'],hvd⟩
 ·cases h
theorem zB {t:TypeId} {n off:Nat} (hs:df P t=some n) {ds:Array Value} {c:Value} (h:if m8 P t=true then c=.agg ((ds.toList.drop off).take n).toArray else (ds.toList.drop off).take n=[c]) :
  (part t ds off).run P w=.ok c w:=by
 obtain ⟨d,hu⟩:=mZ hs
 unfold part
 rw[Yy,vO t hu w]
 cases hA:m8 P t
 ·rw[hA] at h
  simp at h
  have:ds[off]? = some c:=by
   have h0:((ds.toList.drop off).take n)[0]? = some c:=by rw[h]; rfl
   rw[Yi] at h0
   split at h0
   ·simpa using h0
   ·cases h0
  simp[this]
 ·rw[hA] at h
  simp at h
  subst h
  simp[eB hs]
  apply ZJ
  simp[List.take_drop,qa6]
theorem wE {t:TypeId} {x y:A} {i:Nat} {c:Value} (h:Ap P t x i=some y) (hx:VR H g w x c):∃ d,(Instr.field t c i).run P w=.ok d w/\VR H g w y d:=by
 unfold Ap at h
 split at h
 ·rename_i fs cs hu
  replace h:=bH h
  obtain ⟨f,hf,h⟩:=h
  replace h:=bH h
  obtain ⟨n,hn,h⟩:=h
  replace h:=br h
  obtain ⟨h1,h2⟩:=h
  have h1:=X7 h1
  rw[VR] at hx
  obtain ⟨ds,rfl,hv⟩:=hx
  obtain ⟨d,h3,h4⟩:=xo h2 ((hv.drop f.offset).take n)
  refine⟨d,?_,h3⟩
  unfold Instr.field
  rw[Yy,Ya hu w]
  simp[hf,asAgg]
  exact zB hn h4
 ·cases h
theorem wG {t:TypeId} {x i y:A} {c e:Value} (h:wF P t x i=some y) (hx:VR H g w x c) (hi:VR H g w i e):∃ d,(Instr.index t c e).run P w=.ok d w/\VR H g w y d:=by
 unfold wF at h
 replace h:=bH h
 obtain ⟨j,hj,h⟩:=h
 obtain ⟨ik,n,rfl,hn0,rfl⟩:=pT hj hi
 split at h
 ·rename_i len el cs hu
  replace h:=bH h
  obtain ⟨m,hm,h⟩:=h
  replace h:=br h
  obtain ⟨h1,h2⟩:=h
  simp only[XZ,X6] at h1
  rw[VR] at hx
  obtain ⟨ds,rfl,hv⟩:=hx
  obtain ⟨d,h3,h4⟩:=xo h2 ((hv.drop (n.toNat*m)).take m)
  refine⟨d,?_,h3⟩
  have hlt:n<(len:Int):=j6
  unfold Instr.index
  simp[asIntOf,Ya hu,hn0,hlt,eB hm]
  exact zB hm h4
 ·rename_i s hu
  cases hb:s[n.toNat]? with
  | none=>rw[hb] at h; cases h
  | some b=>
   rw[hb] at h
   cases h
   rw[VR] at hx
   subst hx
   refine⟨.int .u8 b.toNat,?_,s8⟩
   unfold Instr.index
   simp[asIntOf,Ya hu,hn0,hb]
 ·cases h
theorem v9 {b o:Nat} (h:fT H (.ptr b o)=true):∃ cs,H[b]? = some (.box cs):=by
 unfold fT at h; cases hb:H[b]? with
 | none=>simp[hb] at h
 | some B=>cases B<;>simp[hb] at h ⊢
theorem zK {b i o:Nat} (h:fT H (.ep b i o)=true):∃ es els,H[b]? = some (.row true es els):=by
 unfold fT at h; cases hb:H[b]? with
 | none=>simp[hb] at h
 | some B=>cases B with
  | row wr _ _=>cases wr<;>simp[hb] at h ⊢
  | _=>simp[hb] at h
theorem Ga {b o n:Nat} {cl:Bool} (h:fT H (.sl b o n cl)=true):∃ wr es els,H[b]? = some (.row wr es els):=by
 unfold fT at h; cases hb:H[b]? with
 | none=>simp[hb] at h
 | some B=>cases B<;>simp[hb] at h ⊢
theorem qV {t:TypeId} {x y:A} {i:Nat} {c:Value} (h:gg P t x i H=some y) (hx:VR H g w x c) :
  ∃ d,(Instr.fieldAt t c i).run P w=.ok d w/\VR H g w y d:=by
 unfold gg at h
 replace h:=br h
 obtain ⟨hok,h⟩:=h
 split at h
 ·rename_i fs hu
  replace h:=bH h
  obtain ⟨f,hf,h⟩:=h
  replace h:=bH h
  obtain ⟨n,hn,h⟩:=h
  replace h:=fe h
  obtain ⟨hn0,h⟩:=h
  have hn0:n≠0:=by simpa using hn0
  have fin:∀ {k off:Nat},c=.pointer (some ⟨k,off,none⟩)->(Instr.fieldAt t c i).run P w=.ok (.pointer (some ⟨k,off+f.offset,none⟩)) w:=fun {k off} hc=>by
   subst hc
   unfold Instr.fieldAt
   rw[Yy,Ya hu w]
   simp[hf,Instr.sureAddr,fieldPlace,eB hn,hn0,Zd]
  split at h
  ·rename_i b o
   cases h
   obtain ⟨cs,hb⟩:=v9 hok
   rw[VR,hb] at hx
   obtain ⟨k,hk,rfl⟩:=hx
   exact⟨_,fin rfl,by rw[VR,hb]; exact⟨k,hk,rfl⟩⟩
  ·rename_i b j o
   cases h
   obtain ⟨es,els,hb⟩:=zK hok
   rw[VR,hb] at hx
   obtain ⟨hlt,k,hk,rfl⟩:=hx
   exact⟨_,fin rfl,by rw[VR,hb]; exact⟨hlt,k,hk,by rw[ZN]⟩⟩
  ·cases h
   rw[VR] at hx
   obtain ⟨k,off,ds,rfl,hc,hv⟩:=hx
   exact⟨_,fin rfl,by rw[VR]; exact⟨k,_,_,rfl,hc.drop _,hv.drop _⟩⟩
  ·cases h
 ·cases h
theorem Ar {x y:A} {c:Value} {t ty:TypeId} (h:qX P t x H=some y) (hx:VR H g w x c):∃ d,(Builtin.len_ #[t] ty #[c]).run P w=.ok d w/\VR H g w y d:=by
 unfold qX at h
 replace h:=br h
 obtain ⟨hok,h⟩:=h
 split at h
 ·rename_i s hu
  cases h
  rw[VR] at hx
  subst hx
  exact⟨_,by simp[Builtin.len_,Ya hu,goInt]; rfl,s8⟩
 ·rename_i e els cl hu
  cases h
  rw[VR] at hx
  obtain ⟨a,cap,ds,es,rfl,_⟩:=hx
  exact⟨_,by simp[Builtin.len_,Ya hu,goInt]; rfl,s8⟩
 ·rename_i e b o n cl hu
  cases h
  obtain ⟨wr,es,els,hb⟩:=Ga hok
  rw[VR,hb] at hx
  cases wr
  ·obtain ⟨_,a,cap,rfl,_⟩:=hx
   exact⟨_,by simp[Builtin.len_,Ya hu,goInt]; rfl,s8⟩
  ·obtain ⟨_,a,cap,rfl,_⟩:=hx
   exact⟨_,by simp[Builtin.len_,Ya hu,goInt]; rfl,s8⟩
 ·cases h
theorem bw.lens {els:List (List A)} {ds:List (List Value)} (h:bw H g w els ds) {es j n:Nat} (hl:∀ d∈ds,d.length=es) {cs:List A} (hj:els[j]? = some cs) (hn:cs.length=n):es=n:=by
 obtain ⟨d,hd,hv⟩:=h.get hj
 rw[<-hl d (Yk hd),hv.length,hn]
theorem qW (hr:Rel H g w0 w) {t:TypeId} {x i y:A} {c e:Value} (h:c7 P t x i H=some y) (hx:VR H g w x c) (hi:VR H g w i e):∃ d,(Instr.indexAt t c e).run P w=.ok d w/\VR H g w y d:=by
 unfold c7 at h
 replace h:=bH h
 obtain ⟨j,hj,h⟩:=h
 obtain ⟨ik,n,rfl,hn0,rfl⟩:=pT hj hi
 replace h:=br h
 obtain ⟨hok,h⟩:=h
 split at h
 ·rename_i el hu
  replace h:=bH h
  obtain ⟨m,hm,h⟩:=h
  have fin:∀ {k off len cap:Nat},c=.slice (some ⟨k,off,none⟩) len cap->n.toNat<len->(Instr.indexAt t c (.int ik n)).run P w=.ok (.pointer (some ⟨k,off+n.toNat*m,none⟩)) w:=fun {k off len cap} hc hlt=>by
   subst hc
   have:n<(len:Int):=j6
   unfold Instr.indexAt
   simp[asIntOf,Ya hu,hn0,this,eB hm,Zd]
  split at h
  ·rename_i els cl
   replace h:=bH h
   obtain ⟨cs,hcs,h⟩:=h
   replace h:=br h
   obtain ⟨h1,h⟩:=h
   cases h
   have h1:cs.length=m:=by simpa using h1
   rw[VR] at hx
   obtain ⟨a,cap,ds,es,rfl,h2,h3,h4,h5,h6⟩:=hx
   have hlt:n.toNat<els.length:=(X2.1 hcs).1
   obtain ⟨k,off,rfl,hc⟩:=h5 j6
   obtain rfl:=h6.lens h4 hcs h1
   obtain ⟨d,hd,hv⟩:=h6.get hcs
   exact⟨_,fin rfl hlt,by rw[VR]; exact⟨k,_,d,rfl,hc.elem h4 hd,hv⟩⟩
  ·rename_i b o len cl
   replace h:=br h
   obtain ⟨hlt,h⟩:=h
   have hlt:=X7 hlt
   rw[VR] at hx
   split at h
   ·rename_i es els hb
    replace h:=br h
    obtain ⟨h1,h⟩:=h
    cases h
    obtain rfl:es=m:=by simpa using h1
    rw[hb] at hx
    obtain ⟨h2,a,cap,rfl,h3,h4,h5⟩:=hx
    obtain ⟨k,hk,rfl⟩:=h5 j6
    refine⟨_,fin rfl hlt,?_⟩
    rw[VR,hb]
    exact⟨j6,k,hk,by rw[YS]; rfl⟩
   ·rename_i es els hb
    replace h:=br h
    obtain ⟨h1,h⟩:=h
    obtain rfl:es=m:=by simpa using h1
    rw[hb] at hx
    obtain ⟨h2,a,cap,rfl,h3,h4,h5,_⟩:=hx
    obtain ⟨k,off,rfl,hc⟩:=h5 j6
    cases hcs:els[o+n.toNat]? with
    | none=>rw[hcs] at h; cases h
    | some cs=>
     rw[hcs] at h
     cases h
     obtain ⟨hga,hgl⟩:=hr.blk b _ hb
     obtain ⟨d,hd,hv⟩:=hga.get hcs
     refine⟨_,fin rfl hlt,?_⟩
     rw[VR]
     refine⟨k,_,d,rfl,hc.elem (fun d hd=>hgl d (YC (Yr hd))) ?_,hv⟩
     rw[Yi,X4 hlt,Zj]; exact hd
   ·cases h
  ·cases h
 ·rename_i len el hu
  replace h:=bH h
  obtain ⟨m,hm,h⟩:=h
  replace h:=fe h
  obtain ⟨hlt,h⟩:=h
  have hlt:n.toNat<len:=by simpa using hlt
  have fin:∀ {k off:Nat},c=.pointer (some ⟨k,off,none⟩)->(Instr.indexAt t c (.int ik n)).run P w=.ok (.pointer (some ⟨k,off+n.toNat*m,none⟩)) w:=fun {k off} hc=>by
   subst hc
   have:n<(len:Int):=j6
   unfold Instr.indexAt
   simp[asIntOf,Ya hu,hn0,this,eB hm,Zd,Instr.sureAddr]
  split at h
  ·rename_i b o
   cases h
   obtain ⟨cs,hb⟩:=v9 hok
   rw[VR,hb] at hx
   obtain ⟨k,hk,rfl⟩:=hx
   exact⟨_,fin rfl,by rw[VR,hb]; exact⟨k,hk,rfl⟩⟩
  ·rename_i b q o
   obtain ⟨es,els,hb⟩:=zK hok
   simp only[hb] at h
   rw[VR,hb] at hx
   obtain ⟨hq,k,hk,rfl⟩:=hx
   rw[bG] at h
   split at h
   ·rename_i hc
    simp only[XZ,qaj,X6] at hc
    obtain ⟨⟨rfl,rfl⟩,hlt2⟩:=hc
    cases h
    exact⟨_,fin rfl,by rw[VR,hb]; exact⟨hlt2,k,hk,by rw[YS]; simp⟩⟩
   ·cases h
    exact⟨_,fin rfl,by rw[VR,hb]; exact⟨hq,k,hk,by rw[ZN]⟩⟩
  ·cases h
   rw[VR] at hx
   obtain ⟨k,off,ds,rfl,hc,hv⟩:=hx
   exact⟨_,fin rfl,by rw[VR]; exact⟨k,_,_,rfl,hc.drop _,hv.drop _⟩⟩
  ·cases h
 ·cases h
theorem Aq {t:TypeId} {x y:A} {c:Value} (h:EE P t x=some y) (hx:VR H g w x c):∃ d,(Instr.makeInterface t c).run P w=.ok d w/\VR H g w y d:=by
 unfold EE at h
 split at h
 ·cases h
 ·cases h
 ·rename_i d hn hu
  cases h
  refine⟨.iface t c,?_,by rw[VR]; exact⟨c,rfl,hx⟩⟩
  unfold Instr.makeInterface
  rw[Yy,Ya hu w]
  cases d<;>first | rfl | exact absurd rfl (hn _)
theorem yE (op:BinOp) (t:TypeId) (x y:Operand) (a b:Value):eqGuard op t x y a b=eqGuard op t (rep (Lu x)) (rep (Lu y)) a b:=by
 unfold eqGuard
 cases x<;>cases y<;>rfl
theorem ri {q:TypeId->Value->Value->Option Bool} {d:Nat} (hq:∀ t x y r,q t x y=some r->∀ w,(Op.equalIn d t x y).run P w=.ok r w) (xs ys:Array Value):∀ (fs:List Field) (r:Bool),tr P q xs ys fs=some r->∀ w,(Op.eqFields d xs ys fs).run P w=.ok r w
 | [],r,h,w=>by cases h; simp[Op.eqFields]
 | [f],r,h,w=>by
  unfold tr at h
  rw[bG] at h
  unfold Op.eqFields
  split at h
  ·rename_i hn
   cases h
   have hn:f.name = "_" := by simpa using hn
   simp[hn,Op.eqFields]
  ·rename_i hn
   have hn:f.name ≠ "_" := by simpa using hn
   obtain ⟨a,ha,h⟩:=bH h
   obtain ⟨b,hb,h⟩:=bH h
   rw[X4 hn]
   simp only[Yy,er ha w,er hb w,hq _ _ _ _ h w,Yt]
   cases r<;>simp[Op.eqFields]
 | f :: g :: fs,r,h,w=>by
  unfold tr at h
  rw[bG] at h
  unfold Op.eqFields
  split at h
  ·rename_i hn
   have hn:f.name = "_" := by simpa using hn
   rw[X8 (by simp[hn])]
   exact ri hq xs ys (g :: fs) r h w
  ·rename_i hn
   have hn:f.name ≠ "_" := by simpa using hn
   obtain ⟨a,ha,h⟩:=bH h
   obtain ⟨b,hb,h⟩:=bH h
   obtain ⟨r1,h1,h⟩:=bH h
   rw[X4 hn]
   simp only[Yy,er ha w,er hb w,hq _ _ _ _ h1 w,Yt]
   cases hf:tr P q xs ys (g :: fs) with
   | none=>rw[hf] at h; cases h
   | some r2=>
    rw[hf] at h; cases h
    have:=ri hq xs ys (g :: fs) r2 hf w
    cases r1<;>simp[this]
theorem vu {q:TypeId->Value->Value->Option Bool} {d:Nat} (hq:∀ t x y r,q t x y=some r->∀ w,(Op.equalIn d t x y).run P w=.ok r w) (e:TypeId) (c:Nat) (xs ys:Array Value):∀ (is:List Nat) (r:Bool),vq P q e c xs ys is=some r->∀ w,(Op.eqItems d e c xs ys is).run P w=.ok r w
 | [],r,h,w=>by cases h; simp[Op.eqItems]
 | [i],r,h,w=>by
  unfold vq at h
  unfold Op.eqItems
  obtain ⟨a,ha,h⟩:=bH h
  obtain ⟨b,hb,h⟩:=bH h
  simp only[Yy,er ha w,er hb w,hq _ _ _ _ h w,Yt]
  cases r<;>simp[Op.eqItems]
 | i :: j :: is,r,h,w=>by
  unfold vq at h
  unfold Op.eqItems
  obtain ⟨a,ha,h⟩:=bH h
  obtain ⟨b,hb,h⟩:=bH h
  obtain ⟨r1,h1,h⟩:=bH h
  simp only[Yy,er ha w,er hb w,hq _ _ _ _ h1 w,Yt]
  cases hf:vq P q e c xs ys (j :: is) with
  | none=>rw[hf] at h; cases h
  | some r2=>
   rw[hf] at h; cases h
   have:=vu hq e c xs ys (j :: is) r2 hf w
   cases r1<;>simp[this]
theorem BS (D:Nat):∀ (d:Nat) (t:TypeId) (x y:Value) (r:Bool),MW P d t x y=some r->∀ w,(Op.equalIn (D+d) t x y).run P w=.ok r w
 | 0,_,_,_,_,h,_=>by cases h
 | d+1,t,x,y,r,h,w=>by
  have ih:=BS D d
  unfold MW at h
  split at h
  ·rename_i k0 k a k' b hu
   obtain ⟨hk,h⟩:=br h
   cases h
   have hk:k=k':=by simpa using hk
   subst hk
   simp[Op.equalIn,Ya hu]
  ·rename_i a b hu
   cases h
   simp[Op.equalIn,Ya hu]
  ·rename_i a b hu
   cases h
   simp[Op.equalIn,Ya hu]
  ·rename_i fs xs ys hu
   obtain ⟨hs,h⟩:=fe h
   have hfs:P.fieldsOf t=fs:=by simp[Program.fieldsOf,hu]
   exact(run_equalIn_struct w (D+d) t xs ys (by rw[hfs]; exact hu) hs).trans (ri ih xs ys _ r h w)
  ·rename_i n e xs ys hu
   obtain ⟨i,hi,h⟩:=bH h
   exact(run_equalIn_array w (D+d) xs ys hu hi).trans (vu ih e (P.cellsOf e) xs ys _ r h w)
  ·cases h
theorem Ak {op:BinOp} {t:TypeId} {x y z:A} {c d:Value} {p q:Operand} (h:kT P op t (Lu p) (Lu q) x y=some z) (hx:VR H g w x c) (hy:VR H g w y d) :
  ∃ e,(do eqGuard op t p q c d; binOp op t c d:Sem Value).run P w=.ok e w/\VR H g w z e:=by
 unfold kT at h
 have eqs:∀ {r:Bool} {xs ys:List A} (op:BinOp),vv P t (.agg xs) (.agg ys)=some r->VR H g w (.agg xs) c->VR H g w (.agg ys) d->∃ cs ds,c=.agg cs/\d=.agg ds/\(eqGuard op t p q c d).run P w=.ok () w/\(Op.equalIn 10000 t c d).run P w=.ok r w:=by
  intro r xs ys op h hx hy
  unfold vv at h
  obtain ⟨hg,h⟩:=fe h
  obtain ⟨a,ha,h⟩:=bH h
  obtain ⟨b,hb,h⟩:=bH h
  obtain rfl:=oE _ ha hx
  obtain rfl:=oE _ hb hy
  rw[VR] at hx hy
  obtain ⟨cs,rfl,_⟩:=hx
  obtain ⟨ds,rfl,_⟩:=hy
  exact⟨cs,ds,rfl,rfl,run_eqGuard_agg w op t p q cs ds hg,BS 9980 20 t _ _ r h w⟩
 split at h
 ·cases hr:vv P t (.agg _) (.agg _) with
  | none=>rw[hr] at h; cases h
  | some r=>
   rw[hr] at h; cases h
   obtain ⟨cs,ds,rfl,rfl,h1,h2⟩:=eqs .eql hr hx hy
   exact⟨.bool r,by simp only[Yy,h1,Yt,run_eql_struct,h2],s8⟩
 ·cases hr:vv P t (.agg _) (.agg _) with
  | none=>rw[hr] at h; cases h
  | some r=>
   rw[hr] at h; cases h
   obtain ⟨cs,ds,rfl,rfl,h1,h2⟩:=eqs .neq hr hx hy
   exact⟨.bool (!r),by simp only[Yy,h1,Yt,run_neq_struct,h2],s8⟩
 replace h:=bH h
 obtain ⟨a,ha,h⟩:=h
 replace h:=bH h
 obtain ⟨b,hb,h⟩:=h
 obtain rfl:=oE x ha hx
 obtain rfl:=oE y hb hy
 rw[<-yE] at h
 cases he:cZ P (do eqGuard op t p q c d; binOp op t c d:Sem Value) with
 | none=>rw[he] at h; cases h
 | some e=>rw[he] at h; cases h; exact⟨e,er he w,pZ e⟩
theorem CQ {op:UnOp} {x z:A} {c:Value} (h:gB P op x=some z) (hx:VR H g w x c):∃ e,(Op.unary op c).run P w=.ok e w/\VR H g w z e:=by
 unfold gB at h
 replace h:=bH h
 obtain ⟨a,ha,h⟩:=h
 obtain rfl:=oE x ha hx
 cases he:cZ P (Op.unary op c) with
 | none=>rw[he] at h; cases h
 | some e=>rw[he] at h; cases h; exact⟨e,er he w,pZ e⟩
theorem vp (hr:Rel H g w0 w) {x:A} {els:List (List A)} {c:Value} (h:els? H x=some els) (hx:VR H g w x c):(∃ s,c=.string s/\x=.v (.string s))∨∃ a cap ds es,c=.slice a els.length cap/\els.length<=cap/\(∀ d∈ds,d.length=es)/\bw H g w els ds/\(0<els.length->∃ k off,a=some ⟨k,off,none⟩/\w.rangeAt k off ds.flatten):=by
 unfold els? at h
 split at h
 ·cases h
  rw[VR] at hx
  obtain ⟨a,cap,ds,es,rfl,h2,h3,h4,h5,h6⟩:=hx
  exact .inr ⟨a,cap,ds,es,rfl,h2,h4,h6,fun hp=>let ⟨k,off,e1,e2⟩:=h5 hp; ⟨k,off,e1,e2.range⟩⟩
 ·rename_i b o n cl
  split at h
  ·rename_i wr es els' hb
   cases h
   rw[VR,hb] at hx
   cases wr
   ·obtain ⟨h2,a,cap,rfl,h3,h4,h5,_⟩:=hx
    obtain ⟨hga,hgl⟩:=hr.blk b _ hb
    have hlen:((els'.drop o).take n).length=n:=r8
    refine .inr ⟨a,cap,((g.ga b).drop o).take n,es,by rw[hlen],j6,fun d hd=>hgl d (YC (Yr hd)),(hga.drop o).take n,fun hp=>?_⟩
    obtain ⟨k,off,e1,e2⟩:=h5 j6
    exact⟨k,off,e1,e2.range⟩
   ·obtain ⟨h2,a,cap,rfl,h3,h4,h5⟩:=hx
    obtain ⟨ds,hv,hl,hrow⟩:=hr.blk b _ hb
    have hlen:((els'.drop o).take n).length=n:=r8
    refine .inr ⟨a,cap,(ds.drop o).take n,es,by rw[hlen],j6,fun d hd=>hl d (YC (Yr hd)),(hv.drop o).take n,fun hp=>?_⟩
    obtain ⟨k,hk,rfl⟩:=h5 j6
    obtain ⟨k',arr,ty,hk',ha,hcell⟩:=hrow j6
    rw[hk] at hk'; cases hk'
    have hall:w.rangeAt k 0 ds.flatten:=fun j v hj=>by
     rw[Zs w k (0+j) arr ty (0,0) ha,YP]; exact hcell j v hj
    refine⟨k,_,rfl,fun j v hj=>?_⟩
    have hw:bQ [] ⟨fun _=>none,fun _=>[],fun _ _=>True,fun _=>Jy⟩ w k 0 ds.flatten:=fun j v hj=>⟨hall j v hj,trivial,fun b hb=>by cases hb⟩
    have:=(hw.sub hl o n j v hj).1
    rwa [YP] at this
  ·cases h
 ·exact .inl ⟨_,by rw[VR] at hx; exact hx,rfl⟩
 ·cases h
theorem yt:∀ {els:List (List A)} {l:List UInt8} {ds:List (List Value)},bytesOf els=some l->bw H g w els ds->∃ ns:List Int,ds=ns.map (fun n=>[.int .u8 n])/\l=ns.map (fun n=>n.toNat.toUInt8)
 | [],_,_,h,hv=>by simp only[bytesOf,YK] at h; rw[bw] at hv; exact⟨[],by simp[hv],by simp[<-h]⟩
 | e :: r,l,ds,h,hv=>by
  unfold bytesOf at h
  split at h
  ·rename_i heq; cases heq
  ·rename_i n r' heq
   cases heq
   cases hr:bytesOf r with
   | none=>rw[hr] at h; cases h
   | some l'=>
    rw[hr] at h
    cases h
    rw[bw] at hv
    obtain ⟨d,ds',rfl,h1,h2⟩:=hv
    obtain ⟨ns,rfl,rfl⟩:=yt hr h2
    rw[bC] at h1
    obtain ⟨x,xs,rfl,h3,h4⟩:=h1
    rw[VR] at h3
    rw[bC] at h4
    exact⟨n :: ns,by simp[h3,h4],r7⟩
  ·cases h
theorem foldl_push (ns:List Int):∀ r:ByteArray,ns.foldl (fun r n=>r.push (UInt8.ofNat n.toNat)) r=⟨r.data++(ns.map (fun n=>n.toNat.toUInt8)).toArray⟩:=by
 induction ns with
 | nil=>intro r; simp
 | cons n ns ih=>
  intro r
  rw[qbf,ih]
  simp[ByteArray.push]
end
section
open Go.RowKit
variable {P:Program} {H:aB} {g:Gh} {w0 w:World}
theorem oO {a:A} {c:Value} {j y:Nat} (h:idx a=some j) (hv:VR H g w a c) (hy:j<=y) (code:BoundsCode):(Instr.sliceBound c y code).run P w=.ok j w:=by
 obtain ⟨k,n,rfl,h0,rfl⟩:=pT h hv
 have:0<=n/\n<=(y:Int):=⟨h0,j6⟩
 simp[Instr.sliceBound,asIntOf,this]
def Kb (H:aB) (g:Gh) (w:World):Option A->Option Value->Prop
 | none,none=>True
 | some a,some c=>VR H g w a c
 | _,_=>False
def Sd (cap h:Nat):Option A->Prop
 | none=>h<=cap
 | some m=>idx m=some h/\h<=cap
def ue (cap h:Nat):Option A->Nat
 | none=>cap
 | some _=>h
theorem gX {lo hi:Option A} {clo chi cmx:Option Value} {mx:Option A} {len cap h l:Nat} (isS:Bool) (hlo:Kb H g w lo clo) (hhi:Kb H g w hi chi) (hmx:Kb H g w mx cmx)
  (e1:lQ len hi=some h) (e2:lQ 0 lo=some l) (hl:l<=h) (hm:Sd cap h mx) (hhm:mx=none∨hi.isSome=true) :
  (Instr.sliceBounds isS len cap clo chi cmx).run P w=.ok (l,h,ue cap h mx) w:=by
 have hlo':(clo=none/\l=0)∨∃ v,clo=some v/\∀ code,(Instr.sliceBound v h code).run P w=.ok l w:=by
  cases lo with
  | none=>cases clo with
   | none=>simp only[lQ,YK] at e2; exact .inl ⟨rfl,e2.symm⟩
   | some _=>exact hlo.elim
  | some a=>cases clo with
   | none=>exact hlo.elim
   | some v=>exact .inr ⟨v,rfl,fun code=>oO e2 hlo hl code⟩
 clear hlo e2
 unfold Instr.sliceBounds
 cases mx with
 | none=>cases cmx with
  | some _=>exact hmx.elim
  | none=>
   cases hi with
   | none=>cases chi with
    | some _=>exact hhi.elim
    | none=>
     simp only[lQ,YK] at e1
     subst e1
     rcases hlo' with ⟨rfl,rfl⟩ | ⟨v,rfl,hv⟩
     ·simp[ue]
     ·simp[Result.andThen,hv,ue]
   | some a=>cases chi with
    | none=>exact hhi.elim
    | some v=>
     have hb:=fun code=>oO (P:=P) e1 hhi (show h<=cap from hm) code
     rcases hlo' with ⟨rfl,rfl⟩ | ⟨v,rfl,hv⟩
     ·simp[Result.andThen,hb,ue]
     ·simp[Result.andThen,hb,hv,ue]
 | some m=>cases cmx with
  | none=>exact hmx.elim
  | some mv=>
   have hb1:=fun code=>oO (P:=P) hm.1 hmx hm.2 code
   cases hi with
   | none=>simp at hhm
   | some a=>cases chi with
    | none=>exact hhi.elim
    | some v=>
     have hb:=fun code=>oO (P:=P) e1 hhi (X1 h) code
     rcases hlo' with ⟨rfl,rfl⟩ | ⟨v,rfl,hv⟩
     ·simp[Result.andThen,hb,hb1,ue]
     ·simp[Result.andThen,hb,hb1,hv,ue]
theorem jm {t e:TypeId} (hu:P.underlying t=some (.slice e)) {a:Option Addr} {len cap l h m z:Nat} {clo chi cmx:Option Value} (hb:(Instr.sliceBounds true len cap clo chi cmx).run P w=.ok (l,h,m) w) (hz:df P e=some z) :
  (Instr.sliceAt t (.slice a len cap) clo chi cmx).run P w=.ok (.slice (if m=l then a else a.map (·.add (l*z))) (h - l) (m - l)) w:=by
 unfold Instr.sliceAt
 rw[Yy,Ya hu w]
 unfold Instr.slice
 simp[Ya hu,hb,eB hz,Result.andThen]
theorem rV {t e:TypeId} {n:Nat} (hu:P.underlying t=some (.array n e)) {a:Addr} {l h m z:Nat} {clo chi cmx:Option Value} (hb:(Instr.sliceBounds false n n clo chi cmx).run P w=.ok (l,h,m) w) (hz:df P e=some z) :
  (Instr.sliceAt t (.pointer (some a)) clo chi cmx).run P w=.ok (.slice (some (if m=l then a else a.add (l*z))) (h - l) (m - l)) w:=by
 unfold Instr.sliceAt
 rw[Yy,Ya hu w]
 simp[Instr.sureAddr,hb,eB hz,Result.andThen]
theorem wH (hr:Rel H g w0 w) {t:TypeId} {x y:A} {lo hi mx:Option A} {c:Value} {clo chi cmx:Option Value} (h:eI P t x lo hi mx H=some y) (hx:VR H g w x c) (hlo:Kb H g w lo clo) (hhi:Kb H g w hi chi) (hmx:Kb H g w mx cmx) (hhm:mx=none∨hi.isSome=true) :
  ∃ d,(Instr.sliceAt t c clo chi cmx).run P w=.ok d w/\VR H g w y d:=by
 unfold eI at h
 split at h
 ·rename_i s hu
  replace h:=fe h
  obtain ⟨hm,h⟩:=h
  obtain rfl:mx=none:=by cases mx<;>simp at hm ⊢
  replace h:=bH h
  obtain ⟨hh,e1,h⟩:=h
  replace h:=bH h
  obtain ⟨l,e2,h⟩:=h
  replace h:=br h
  obtain ⟨h1,h⟩:=h
  simp only[XZ,X6] at h1
  cases h
  rw[VR] at hx
  subst hx
  have hb:=gX (P:=P) (cap:=s.size) false hlo hhi hmx e1 e2 h1.1 h1.2 (.inl rfl)
  cases cmx with
  | some _=>exact hmx.elim
  | none=>
   refine⟨.string (s.extract l hh),?_,s8⟩
   unfold Instr.sliceAt
   rw[Yy,Ya hu w]
   unfold Instr.slice
   simp[Ya hu,hb,Result.andThen]
 ·rename_i e els cl hu
  replace h:=bH h
  obtain ⟨z,hz,h⟩:=h
  replace h:=bH h
  obtain ⟨hh,e1,h⟩:=h
  replace h:=bH h
  obtain ⟨l,e2,h⟩:=h
  replace h:=br h
  obtain ⟨h1,h⟩:=h
  simp only[XZ,X6,YU,Y4] at h1
  obtain ⟨⟨h1,h2⟩,h3⟩:=h1
  rw[VR] at hx
  obtain ⟨a,cap,ds,es,rfl,g1,g2,g3,g4,g5⟩:=hx
  have hlenn:((els.drop l).take (hh - l)).length=hh - l:=r8
  have fin:∀ (m:Nat) (b:Bool),hh<=m->m<=cap->(b=true->m=hh)->VR H g w (.imm ((els.drop l).take (hh - l)) b) (.slice (if m=l then a else a.map (·.add (l*z))) (hh - l) (m - l)):=fun m b hm1 hm2 hb=>by
   rw[VR]
   refine⟨_,m - l,(ds.drop l).take (hh - l),es,by rw[hlenn],j6,fun hb'=>by rw[hlenn,hb hb'],fun d hd=>g3 d (YC (Yr hd)),fun hp=>?_,(g5.drop l).take _⟩
   have hll:l<hh:=j6
   obtain ⟨k,off,rfl,hc⟩:=g4 j6
   rw[X8 j6]
   refine⟨k,off+l*es,?_,hc.sub g3 l (hh - l)⟩
   rcases h3 with rfl | h3
   ·simp[Zd]
   ·have hlt:l<els.length:=by omega
    rw[X3 hlt] at h3
    simp only[Y4] at h3
    obtain rfl:=g5.lens g3 (X3 hlt) h3
    simp[Zd]
  split at h
  ·cases h
   have hb:=gX (P:=P) (cap:=cap) true hlo hhi hmx e1 e2 h1 (show hh<=cap by omega) (.inl rfl)
   refine⟨_,jm hu hb hz,fin cap _ j6 (X1 _) (fun hc=>?_)⟩
   simp only[XZ,Y4] at hc
   have:=g2 hc.1; omega
  ·rename_i m
   replace h:=bH h
   obtain ⟨m',hm',h⟩:=h
   replace h:=br h
   obtain ⟨hmh,h⟩:=h
   obtain rfl:m'=hh:=by simpa using hmh
   cases h
   have hb:=gX (P:=P) (cap:=cap) true hlo hhi hmx e1 e2 h1 ⟨hm',j6⟩ hhm
   exact⟨_,jm hu hb hz,fin m' _ (X1 _) j6 (fun _=>rfl)⟩
 ·rename_i e b o n cl hu
  replace h:=bH h
  obtain ⟨z,hz,h⟩:=h
  replace h:=bH h
  obtain ⟨hh,e1,h⟩:=h
  replace h:=bH h
  obtain ⟨l,e2,h⟩:=h
  replace h:=br h
  obtain ⟨h1,h⟩:=h
  simp only[XZ,X6] at h1
  obtain ⟨⟨h1,h2⟩,h3⟩:=h1
  obtain ⟨wr,els,hb⟩:∃ wr els,H[b]? = some (.row wr z els):=by
   cases hb:H[b]? with
   | none=>simp[hb] at h3
   | some B=>cases B with
    | row wr es els=>simp[hb] at h3; subst h3; exact⟨wr,els,rfl⟩
    | _=>simp[hb] at h3
  rw[VR,hb] at hx
  have main:∀ (a:Option Addr) (cap:Nat),c=.slice a n cap->n<=cap->(cl=true->cap=n)->(∀ (m:Nat) (q:Bool),hh<=m->m<=cap->(q=true->m=hh)->(q=false->m=cap)->VR H g w (.sl b (o+l) (hh - l) q) (.slice (if m=l then a else a.map (·.add (l*z))) (hh - l) (m - l)))->∃ d,(Instr.sliceAt t c clo chi cmx).run P w=.ok d w/\VR H g w y d:=by
   intro a cap hc hn hcl fin
   subst hc
   split at h
   ·cases h
    have hb:=gX (P:=P) (cap:=cap) true hlo hhi hmx e1 e2 h1 (show hh<=cap by omega) (.inl rfl)
    refine⟨_,jm hu hb hz,fin cap _ j6 (X1 _) (fun hc=>?_) (fun _=>rfl)⟩
    simp only[XZ,Y4] at hc
    have:=hcl hc.1; omega
   ·rename_i m
    replace h:=bH h
    obtain ⟨m',hm',h⟩:=h
    replace h:=br h
    obtain ⟨hmh,h⟩:=h
    obtain rfl:m'=hh:=by simpa using hmh
    cases h
    have hb:=gX (P:=P) (cap:=cap) true hlo hhi hmx e1 e2 h1 ⟨hm',j6⟩ hhm
    exact⟨_,jm hu hb hz,fin m' _ (X1 _) j6 (fun _=>rfl) (fun h=>by cases h)⟩
  cases wr
  ·obtain ⟨g0,a,cap,rfl,g1,g2,g3,g4⟩:=hx
   refine main a cap rfl g1 g2 fun m q hm1 hm2 hq hq2=>?_
   rw[VR,hb]
   refine⟨j6,_,m - l,rfl,j6,fun hc=>by rw[hq hc],fun hp=>?_,fun hc ho hn hlt=>?_⟩
   ·obtain ⟨k,off,rfl,hcell⟩:=g3 j6
    rw[X8 j6]
    refine⟨k,off+l*z,by simp[Zd],?_⟩
    have hga:=(hr.blk b _ hb).2
    have:=hcell.sub (fun d hd=>hga d (YC (Yr hd))) l (hh - l)
    have e3:((((g.ga b).drop o).take n).drop l).take (hh - l)=((g.ga b).drop (o+l)).take (hh - l):=by
     rw[List.drop_take,Yv,List.take_take]; congr 1; omega
    rwa [e3] at this
   ·obtain rfl:l=0:=by omega
    obtain rfl:o=0:=j6
    have hmc:=hq2 hc
    subst hmc
    by_cases hcl:cl=true
    ·have:=g2 hcl; omega
    ·obtain ⟨k,arr,ty,k1,k2,k3,k4⟩:=g4 (by simpa using hcl) rfl j6 j6
     refine⟨k,arr,ty,k1,?_,k3,by simpa using k4⟩
     rw[k2]; split<;>simp[Zd]
  ·obtain ⟨g0,a,cap,rfl,g1,g2,g3⟩:=hx
   refine main a cap rfl g1 g2 fun m q hm1 hm2 hq hq2=>?_
   rw[VR,hb]
   refine⟨j6,_,m - l,rfl,j6,fun hc=>by rw[hq hc],fun hp=>?_⟩
   obtain ⟨k,hk,rfl⟩:=g3 j6
   rw[X8 j6]
   exact⟨k,hk,by simp[Zd,YS]⟩
 ·rename_i n e cs hu
  replace h:=bH h
  obtain ⟨z,hz,h⟩:=h
  replace h:=bH h
  obtain ⟨hh,e1,h⟩:=h
  replace h:=bH h
  obtain ⟨l,e2,h⟩:=h
  replace h:=br h
  obtain ⟨h1,h⟩:=h
  simp only[XZ,X6,Za] at h1
  obtain ⟨⟨⟨⟨h1,h2⟩,h3⟩,h4⟩,h5⟩:=h1
  obtain rfl:mx=none:=by cases mx<;>simp at h4 ⊢
  cases h
  rw[VR] at hx
  obtain ⟨k,off,ds,rfl,hc,hv⟩:=hx
  have hb:(Instr.sliceBounds false n n clo chi cmx).run P w=.ok (l,hh,n) w:=gX (P:=P) (cap:=n) false hlo hhi hmx e1 e2 h1 h2 (.inl rfl)
  cases cmx with
  | some _=>exact hmx.elim
  | none=>
   refine⟨_,rV hu hb hz,?_⟩
   have hdl:=hv.length
   have htl:(ds.take (n*z)).length=n*z:=u3
   have htc:(cs.take (n*z)).length=n*z:=u3
   have hck:∀ {α:Type} (q:Nat) (xs:List α),q*z<=xs.length->chunk z q xs=chunk z q (xs.take (q*z)):=by
    intro α q
    induction q with
    | zero=>intro xs _; rfl
    | succ q ih=>
     intro xs hq
     rw[YS,qbj] at hq
     rw[chunk,chunk,ih (xs.drop z) r8,List.take_take,List.drop_take,Zn (by rw[YS]; omega)]
     congr 3
     rw[YS]; omega
   have hlenn:(((chunk z n cs).drop l).take (hh - l)).length=hh - l:=by simp[iB]; omega
   rw[VR]
   refine⟨_,n - l,((chunk z n (ds.take (n*z))).drop l).take (hh - l),z,by rw[hlenn],j6,fun hb'=>by rw[hlenn]; have:=(qaj ▸ hb':hh=n); omega,fun d hd=>kE htl d (YC (Yr hd)),fun hp=>?_,?_⟩
   ·rw[hlenn] at hp
    rw[X8 j6]
    refine⟨k,off+l*z,by simp[Zd],?_⟩
    refine bQ.sub (es:=z) ?_ (kE htl) l (hh - l)
    rw[mU htl]
    exact hc.take _
   ·rw[hck n cs h3]
    exact(((hv.take (n*z)).chunk n).drop l).take _
 ·rename_i n e b q o hu
  replace h:=bH h
  obtain ⟨z,hz,h⟩:=h
  replace h:=bH h
  obtain ⟨hh,e1,h⟩:=h
  replace h:=bH h
  obtain ⟨l,e2,h⟩:=h
  replace h:=br h
  obtain ⟨h1,h⟩:=h
  simp only[XZ,X6,Za] at h1
  obtain ⟨⟨⟨⟨h1,h2⟩,h4⟩,h5⟩,h6⟩:=h1
  obtain rfl:o=0:=by simpa [qaj] using h5
  obtain rfl:mx=none:=by cases mx<;>simp at h4 ⊢
  cases h
  obtain ⟨els,hbk,hq⟩:∃ els,H[b]? = some (.row true z els)/\q+n<=els.length:=by
   split at h6
   ·rename_i es els hbk
    simp only[XZ,X6,qaj] at h6
    obtain ⟨rfl,h6⟩:=h6
    exact⟨els,hbk,h6⟩
   ·cases h6
  rw[VR,hbk] at hx
  obtain ⟨hqe,k,hk,rfl⟩:=hx
  have hb:(Instr.sliceBounds false n n clo chi cmx).run P w=.ok (l,hh,n) w:=gX (P:=P) (cap:=n) false hlo hhi hmx e1 e2 h1 h2 (.inl rfl)
  cases cmx with
  | some _=>exact hmx.elim
  | none=>
   refine⟨_,rV hu hb hz,?_⟩
   rw[VR,hbk]
   refine⟨j6,_,n - l,rfl,j6,fun hb'=>by have:=(qaj ▸ hb':hh=n); omega,fun hp=>⟨k,hk,?_⟩⟩
   rw[X8 j6]
   simp[Zd,YS]
 ·cases h
theorem nZ (hr:Rel H g w0 w) {w':World} {arr:Array Value} {ty:TypeId} {fr:Nat×Nat} (ha:w'.heap[w.heap.size]? = some (.cells arr ty fr)) {ds:List Value} (hd:∀ (j:Nat) v,ds[j]? = some v->arr[j]? = some v):bQ H g w' w.heap.size 0 ds:=fun j v hj=>by
 refine⟨?_,hr.out _ _ (X1 _),fun b hb=>absurd (hr.dom b _ hb).2.2 (Z8 _)⟩
 rw[YP,Zs w' _ j arr ty fr ha]
 exact hd j v hj
theorem CW {x:A} {els:List (List A)} (h:yz H x=some els):els? H x=some els/\∀ s,x≠.v (.string s):=by
 cases x<;>simp only[yz] at h<;>first | exact⟨h,r7⟩ | cases h
theorem nX {α β:Type} (f:α->β) (l:List α):(l.map fun n=>[f n]).flatten=l.map f:=by
 induction l with
 | nil=>rfl
 | cons n l ih=>simp[ih]
theorem sV (hr:Rel H g w0 w) {s t:TypeId} {x y:A} {c:Value} (h:bz P s t x H=some y) (hx:VR H g w x c):∃ d w',(convert s t c).run P w=.ok d w'/\Below w.heap.size w w'/\VR H g w' y d:=by
 unfold bz at h
 split at h
 ·rename_i e hs hd
  split at h
  ·rename_i he hz
   replace h:=bH h
   obtain ⟨els,h1,h⟩:=h
   cases hb:bytesOf els with
   | none=>rw[hb] at h; cases h
   | some l=>
    rw[hb] at h
    cases h
    refine⟨.string ⟨l.toArray⟩,w,?_,Below.refl _ _,s8⟩
    have h1':=CW h1
    rcases vp hr h1'.1 hx with ⟨s',rfl,rfl⟩ | ⟨a,cap,ds,es,rfl,h2,h3,h4,h5⟩
    ·exact absurd rfl (h1'.2 s')
    ·obtain ⟨ns,rfl,rfl⟩:=yt hb h4
     have hl:els.length=ns.length:=by have:=h4.length; simpa using this.symm
     simp only[convert,Yy,Ya hs,Ya hd,Ya he,Yt]
     cases a with
     | none=>
      have hn:ns=[]:=by
       by_cases hp:0<els.length
       ·obtain ⟨k,off,e1,_⟩:=h5 hp; cases e1
       ·exact Yl j6
      subst hn
      simp[Conv.bytesToString]
      rfl
     | some a=>
      have hl2:(loadCells a els.length).run P w=.ok (ns.map (Value.int .u8)).toArray w:=by
       by_cases hp:0<els.length
       ·obtain ⟨k,off,e1,hc⟩:=h5 hp
        cases e1
        rw[nX] at hc
        have:=run_loadCells_list (P:=P) w ⟨k,off,none⟩ (ns.map (Value.int .u8)) (fun j v hv=>by rw[Zd]; exact hc j v hv)
        rwa [Zc,<-hl] at this
       ·have hn:ns=[]:=Yl j6
        subst hn
        rw[hl]
        rfl
      rw[run_bytesToString w a _ cap ns hl2,foldl_push]
      simp
  ·cases h
 ·rename_i e s' hs hd
  split at h
  ·rename_i he
   cases h
   rw[VR] at hx
   subst hx
   have hr':=run_bytes_of_string (P:=P) w s t e s' hs hd he
   have hb:Below w.heap.size w (w.drew.alloc (.cells (bytesRow s' (grownCap w s'.size 0 e)) e ((bytesRow s' (grownCap w s'.size 0 e)).size,(bytesRow s' (grownCap w s'.size 0 e)).size+1))):=((Below.refl _ w).drew).alloc (X1 _) _
   refine⟨_,_,hr',hb,?_⟩
   rw[VR]
   have hlen:(s'.data.toList.map fun c=>[A.v (.int .u8 c.toNat)]).length=s'.size:=by rw[Zc,Z7]; rfl
   refine⟨_,_,s'.data.toList.map fun c=>[.int .u8 c.toNat],1,by rw[hlen],by rw[hlen]; exact qbH w _ _ _,fun h=>(by cases h),r7,fun _=>⟨w.heap.size,0,rfl,?_⟩,?_⟩
   ·refine nZ hr (Zt w.drew _) fun j v hj=>?_
    rw[nX] at hj
    unfold bytesRow
    rw[qan]
    ·simpa using hj
    ·have:=(X2.1 hj).1
     simpa using this
   ·refine da.2 ⟨r7,fun i a d ha hd=>?_⟩
    simp only[Yj,YE] at ha hd
    obtain ⟨b,hb,rfl⟩:=ha
    obtain ⟨b',hb',rfl⟩:=hd
    rw[hb] at hb'; cases hb'
    rw[bC]; exact⟨_,[],rfl,s8,H4⟩
  ·cases h
 ·replace h:=bH h
  obtain ⟨v,hv,h⟩:=h
  obtain rfl:=oE _ hv hx
  cases he:cZ P (convert s t c) with
  | none=>rw[he] at h; cases h
  | some e=>rw[he] at h; cases h; exact⟨e,w,er he w,Below.refl _ _,pZ e⟩
theorem ux (vs:List Value):∀ (off:Nat) (cs:Array Value),off+vs.length<=cs.size->((vs.zipIdx 0).foldl (fun cs p=>cs.setIfInBounds (off+p.2) p.1) cs).toList=bB cs.toList off vs:=by
 have gen:∀ (vs:List Value) (n off:Nat) (cs:Array Value),off+n+vs.length<=cs.size->((vs.zipIdx n).foldl (fun cs p=>cs.setIfInBounds (off+p.2) p.1) cs).toList=bB cs.toList (off+n) vs:=by
  intro vs
  induction vs with
  | nil=>intro n off cs _; simp[bB]
  | cons v vs ih=>
   intro n off cs h
   rw[List.zipIdx_cons,qbf,ih (n+1) off _ (by simp at h ⊢; omega)]
   simp only[bB,Array.toList_setIfInBounds,X9]
   have hlt:off+n<cs.toList.length:=by simp at h ⊢; omega
   rw[show off+(n+1)=off+n+1 by omega,List.take_succ_eq_append_getElem (by simp; simp at hlt; omega)]
   simp only[List.getElem_set_self]
   rw[List.take_set_of_le (X1 _),YD,YD]
   rw[List.drop_set_of_lt j6]
   have e:off+n+1+vs.length=off+n+(vs.length+1):=j6
   rw[e]
   simp
 intro off cs h
 exact gen vs 0 off cs (by simpa using h)
theorem BW {place:Nat->Option (Nat×Nat)}:∀ {parts:List (Nat×A)} {vparts:List (Nat×Value)} {cs ds:List A} {arr:Array Value},vz place cs parts=some ds->bC H g w cs arr.toList ->
  (∀ i:Nat,(∀ p,parts[i]? = some p->∃ q,vparts[i]? = some q/\q.1=p.1/\VR H g w p.2 q.2))->vparts.length=parts.length->∃ arr',Instr.fill place arr vparts=some arr'/\bC H g w ds arr'.toList
 | [],vparts,cs,ds,arr,h,hv,hp,hl=>by
  simp only[vz,YK] at h
  subst h
  have:vparts=[]:=Yl (by simpa using hl)
  subst this
  exact⟨arr,rfl,hv⟩
 | (i,x) :: r,vparts,cs,ds,arr,h,hv,hp,hl=>by
  cases vparts with
  | nil=>simp at hl
  | cons q vr=>
   obtain ⟨q',hq,e1,hx⟩:=hp 0 (i,x) rfl
   simp at hq
   subst hq
   simp only[vz] at h
   replace h:=bH h
   obtain ⟨p,hpl,h⟩:=h
   replace h:=bH h
   obtain ⟨xs,hxs,h⟩:=h
   replace h:=br h
   obtain ⟨hc,h⟩:=h
   simp only[XZ,Y4,X6] at hc
   obtain ⟨hvs,_,_⟩:=nO hxs hx
   have hvl:=hvs.length
   have hal:=hv.length
   obtain ⟨qi,qv⟩:=q
   simp only at e1
   subst e1
   have hsz:qv.cells.size=p.2:=by simpa [hc.1] using hvl
   have hfit:p.1+qv.cells.size<=arr.size:=by simp at hal; omega
   have hset:(qv.cells.zipIdx.foldl (fun cs (c,j)=>cs.setIfInBounds (p.1+j) c) arr).toList=bB arr.toList p.1 qv.cells.toList:=by
    have:=ux qv.cells.toList p.1 arr (by simpa using hfit)
    rw[<-this,<-Z9]
    simp
   obtain ⟨arr',h1,h2⟩:=BW (place:=place) (arr:=qv.cells.zipIdx.foldl (fun cs (c,j)=>cs.setIfInBounds (p.1+j) c) arr) (vparts:=vr) h (by rw[hset]; exact hv.bB hvs p.1) (fun j p' hj=>by have:=hp (j+1) p' (by simpa using hj); simpa using this) (by simpa using hl)
   refine⟨arr',?_,h2⟩
   unfold Instr.fill
   rw[hpl]
   obtain ⟨p1,p2⟩:=p
   simp only at hsz hfit ⊢
   rw[X8 (by simp[hsz]; omega)]
   exact h1
theorem gw {t:TypeId} {z:List A} (h:iR P t=some z):∃ i v,P.info? t=some i/\i.zero=some v/\z=v.cells.toList.map A7:=by
 unfold iR at h
 cases hi:P.info? t with
 | none=>rw[hi] at h; cases h
 | some i=>
  rw[hi] at h
  simp only[XV] at h
  cases hz:i.zero with
  | none=>rw[hz] at h; cases h
  | some v=>rw[hz] at h; cases h; exact⟨i,v,rfl,hz,rfl⟩
def nH (H:aB) (g:Gh) (w:World) (parts:List (Nat×A)) (vparts:List (Nat×Value)):Prop:=vparts.length=parts.length/\∀ (i:Nat) p,parts[i]? = some p->∃ q,vparts[i]? = some q/\q.1=p.1/\VR H g w p.2 q.2
theorem wD {t:TypeId} {parts:List (Nat×A)} {vparts:Array (Nat×Value)} {y:A} (h:wC P t parts=some y) (hp:nH H g w parts vparts.toList):∃ d,(Instr.build t vparts).run P w=.ok d w/\VR H g w y d:=by
 unfold wC at h
 replace h:=bH h
 obtain ⟨z,hz,h⟩:=h
 replace h:=bH h
 obtain ⟨place,hpl,h⟩:=h
 obtain ⟨it,v,hi,hv,rfl⟩:=gw hz
 cases hf:vz place (v.cells.toList.map A7) parts with
 | none=>rw[hf] at h; cases h
 | some ds=>
  rw[hf] at h
  cases h
  obtain ⟨arr,h1,h2⟩:=BW (arr:=v.cells) hf (jV _) (fun i p hi=>hp.2 i p hi) hp.1
  refine⟨.agg arr,run_build w t vparts arr ?_,by rw[VR]; exact⟨arr,rfl,h2⟩⟩
  unfold Ct at hpl
  unfold Program.built
  rw[hi]
  split at hpl
  ·rename_i fs hu
   rw[hu]
   cases hm:(fs.toList.mapM fun f=>(P.info? f.type).map fun i=>(f.offset,i.size)) with
   | none=>rw[hm] at hpl; cases hpl
   | some places=>
    rw[hm] at hpl
    cases hpl
    simp only[hv,hm]
    exact h1
  ·rename_i n e hu
   rw[hu]
   cases hie:P.info? e with
   | none=>rw[hie] at hpl; cases hpl
   | some ie=>
    rw[hie] at hpl
    cases hpl
    simp only[hv,hie]
    exact h1
  ·cases hpl
end
section
open Go.RowKit
variable {P:Program} {H:aB} {g:Gh} {w0 w:World}
def Gh.put (g:Gh) (b:Nat) (k:Option Nat) (γ:List (List Value)):Gh:={ g with mu:=fun c=>if c=b then k else g.mu c,ga:=fun c=>if c=b then γ else g.ga c }
theorem Gh.bP (g:Gh) (b:Nat) (k:Option Nat) (γ:List (List Value)):(g.put b k γ).mu b=k:=by simp[Gh.put]
theorem Gh.iI (g:Gh) (b:Nat) (k:Option Nat) (γ:List (List Value)):(g.put b k γ).ga b=γ:=by simp[Gh.put]
theorem Gh.aQ (g:Gh) {b c:Nat} (k:Option Nat) (γ:List (List Value)) (h:c≠b):(g.put b k γ).mu c=g.mu c:=by simp[Gh.put,h]
theorem Gh.fE (g:Gh) {b c:Nat} (k:Option Nat) (γ:List (List Value)) (h:c≠b):(g.put b k γ).ga c=g.ga c:=by simp[Gh.put,h]
def Step (H:aB) (g:Gh) (w0 w:World) (lo:Nat) (r:Result Value) (y:A) (H':aB):Prop:=
 ∃ d w' g',r=.ok d w'/\Rel H' g' w0 w'/\Ext H g w H' g' w'/\VR H' g' w' y d/\H.length<=H'.length/\(∀ b,b<lo->b<H.length->H'[b]? = H[b]?)/\g'.S=g.S
theorem eY {k:Nat} {o:Obj} {w w':World} (hb:Below w.heap.size w w') (h:w.heap[k]? = some o):w'.heap[k]? = some o:=(hb.block k (X5.1 h).1).trans h
theorem Rel.push (hr:Rel H g w0 w) {w':World} (hb:Below w.heap.size w w') (B:az) (ko:Option Nat) (γ:List (List Value)) (hk:∀ k,ko=some k->k=w.heap.size/\w.heap.size<w'.heap.size)
  (hB:Ext H g w (H++[B]) (g.put H.length ko γ) w'->mH (H++[B]) (g.put H.length ko γ) w' H.length B):Rel (H++[B]) (g.put H.length ko γ) w0 w'/\Ext H g w (H++[B]) (g.put H.length ko γ) w':=by
 have old:∀ {b k},(g.put H.length ko γ).mu b=some k->k<w.heap.size->b≠H.length/\g.mu b=some k:=fun {b k} h hlt=>by
  by_cases e:b=H.length
  ·subst e; rw[Gh.bP] at h; have:=(hk k h).1; omega
  ·exact⟨e,by rwa [Gh.aQ _ _ _ e] at h⟩
 have he:Ext H g w (H++[B]) (g.put H.length ko γ) w':=by
  refine⟨fun k o v hs hc=>?_,fun b B' hB'=>⟨B',?_,?_⟩,fun k o ho=>(hb.block k (X5.1 ho).1).trans ho,hb.size,fun k arr cl hs hm=>?_,fun k hk' _=>hb.block k hk',fun b k h=>?_⟩
  rotate_right 1
  ·by_cases e:b=H.length
   ·subst e; rw[Gh.bP] at h; exact .inr (qav (hk k h).1.symm)
   ·exact .inl ⟨b,by rwa [Gh.aQ _ _ _ e] at h⟩
  ·have hlt:=ZQ w ⟨k,o,none⟩ hc
   refine⟨(hb.cell (p:=⟨k,o,none⟩) hlt).trans hc,hs.1,fun b hbk=>?_⟩
   obtain ⟨_,h2⟩:=old hbk hlt
   obtain ⟨es,els,h3,h4⟩:=hs.2 b h2
   exact⟨es,els,by rw[Yf (X2.1 h3).1]; exact h3,h4⟩
  ·rw[Yf (X2.1 hB').1]; exact hB'
  ·have hne:b≠H.length:=by have:=(X2.1 hB').1; omega
   cases B' with
   | box _=>exact Gh.aQ _ _ _ hne
   | row wr es els=>cases wr with
    | true=>exact⟨rfl,rfl,Gh.aQ _ _ _ hne⟩
    | false=>exact⟨rfl,⟨[],by rw[Gh.fE _ _ _ hne]; simp⟩,(hr.blk b _ hB').len,X1 _,fun _=>⟨Gh.aQ _ _ _ hne,fun k arr ty hk' ha=>⟨arr,eY hb ha,X1 _⟩⟩⟩
   | rng _=>exact⟨Gh.aQ _ _ _ hne,rfl⟩
   | mp _ _ _=>exact Gh.aQ _ _ _ hne
   | dead=>trivial
   | hole=>trivial
  ·have hlt:=(X5.1 hm).1
   refine⟨(hb.block k hlt).trans hm,hs.1,fun b hbk=>?_⟩
   obtain ⟨_,h2⟩:=old hbk hlt
   obtain ⟨es,els,h3,h4⟩:=hs.2 b h2
   exact⟨es,els,by rw[Yf (X2.1 h3).1]; exact h3,h4⟩
 refine⟨⟨hr.below.trans (hb.mono hr.below.size),fun b k hbk=>?_,fun b c k h1 h2=>?_,hr.A8 he,hr.zA he,fun b B' hB'=>?_⟩,he⟩
 ·by_cases e:b=H.length
  ·subst e; rw[Gh.bP] at hbk
   obtain ⟨rfl,h2⟩:=hk k hbk
   exact⟨r7,hr.below.size,h2⟩
  ·rw[Gh.aQ _ _ _ e] at hbk
   obtain ⟨h1,h2,h3⟩:=hr.dom b k hbk
   exact⟨r8,h2,Yh h3 hb.size⟩
 ·by_cases e:b=H.length
  ·by_cases e':c=H.length
   ·rw[e,e']
   ·subst e
    rw[Gh.bP] at h1
    rw[Gh.aQ _ _ _ e'] at h2
    have:=(hk k h1).1; have:=(hr.dom c k h2).2.2; omega
  ·by_cases e':c=H.length
   ·subst e'
    rw[Gh.bP] at h2
    rw[Gh.aQ _ _ _ e] at h1
    have:=(hk k h2).1; have:=(hr.dom b k h1).2.2; omega
   ·rw[Gh.aQ _ _ _ e] at h1
    rw[Gh.aQ _ _ _ e'] at h2
    exact hr.inj b c k h1 h2
 ·by_cases e:b=H.length
  ·subst e
   rw[Yo (X1 _)] at hB'
   simp at hB'
   subst hB'
   exact hB he
  ·have hlt:b<H.length:=by have:=(X2.1 hB').1; simp at this; omega
   rw[Yf hlt] at hB'
   have h:=hr.blk b B' hB'
   cases B' with
   | box cs=>obtain ⟨k,arr,ty,h1,h2,h3⟩:=h; exact⟨k,arr,ty,(Gh.aQ _ _ _ e).trans h1,eY hb h2,bC.ext he _ _ h3⟩
   | row wr es els=>cases wr with
    | true=>
     obtain ⟨ds,h1,h2,h3⟩:=h
     exact⟨ds,bw.ext he _ _ h1,h2,fun hp=>let ⟨k,arr,ty,e1,e2,e3⟩:=h3 hp; ⟨k,arr,ty,(Gh.aQ _ _ _ e).trans e1,eY hb e2,e3⟩⟩
    | false=>
     obtain ⟨h1,h2⟩:=h
     refine⟨?_,?_⟩
     ·rw[Gh.fE _ _ _ e]; exact bw.ext he _ _ h1
     ·rw[Gh.fE _ _ _ e]; exact h2
   | rng st=>obtain ⟨k,h1,h2⟩:=h; exact⟨k,(Gh.aQ _ _ _ e).trans h1,eY hb h2⟩
   | mp _ _ _=>obtain ⟨k,arr,cl,h1,h2,h3,h4⟩:=h; exact⟨k,arr,cl,(Gh.aQ _ _ _ e).trans h1,eY hb h2,h3,bC.ext he _ _ h4⟩
   | dead=>exact(Gh.aQ _ _ _ e).trans h
   | hole=>exact(Gh.aQ _ _ _ e).trans h
theorem ew (H:aB) (B:az):(H++[B])[H.length]? = some B:=r7
theorem jk (H:aB) (B:az) (lo:Nat):∀ b,b<lo->b<H.length->(H++[B])[b]? = H[b]?:=fun _ _ h=>Yf h
theorem Am (hr:Rel H g w0 w) {t:TypeId} {x y:A} {H':aB} {c:Value} (lo:Nat) (h:Al x H=some (y,H')) (hx:VR H g w x c):Step H g w0 w lo ((Instr.box t c).run P w) y H':=by
 unfold Al at h
 cases hc:x.cells? with
 | none=>rw[hc] at h; cases h
 | some cs=>
  rw[hc] at h
  cases h
  obtain ⟨hv,_,_⟩:=nO hc hx
  have hb:Below w.heap.size w (w.alloc (.cells c.cells t)):=(Below.refl _ w).alloc (X1 _) _
  obtain ⟨h1,h2⟩:=hr.push hb (.box cs) (some w.heap.size) [] (fun k hk=>by cases hk; exact⟨rfl,r7⟩) (fun he=>⟨w.heap.size,c.cells,t,Gh.bP _ _ _ _,Zt w _,bC.ext he _ _ hv⟩)
  refine⟨.pointer (some ⟨w.heap.size,0,none⟩),_,_,by simp[Instr.box,newVar,newRow,newObj]; rfl,h1,h2,?_,r7,jk _ _ _,rfl⟩
  rw[VR,ew]; exact⟨w.heap.size,Gh.bP _ _ _ _,rfl⟩
theorem wA (hr:Rel H g w0 w) {t:TypeId} {y:A} {H':aB} (lo:Nat) (h:mL P t H=some (y,H')):Step H g w0 w lo ((Instr.alloc t true (.tuple #[])).run P w) y H':=by
 unfold mL at h
 cases hz:iR P t with
 | none=>rw[hz] at h; cases h
 | some cs=>
  rw[hz] at h
  cases h
  obtain ⟨i,z,hi,hzz,rfl⟩:=gw hz
  have hb:Below w.heap.size w (w.alloc (.cells z.cells t)):=(Below.refl _ w).alloc (X1 _) _
  obtain ⟨h1,h2⟩:=hr.push hb (.box (z.cells.toList.map A7)) (some w.heap.size) [] (fun k hk=>by cases hk; exact⟨rfl,r7⟩) (fun he=>⟨w.heap.size,z.cells,t,Gh.bP _ _ _ _,Zt w _,jV _⟩)
  refine⟨.pointer (some ⟨w.heap.size,0,none⟩),_,_,by simp[Instr.alloc,zeroValue,typeInfo,hi,hzz,newVar,newRow,newObj]; rfl,h1,h2,?_,r7,jk _ _ _,rfl⟩
  rw[VR,ew]; exact⟨w.heap.size,Gh.bP _ _ _ _,rfl⟩
theorem uv (hr:Rel H g w0 w) {t:TypeId} {cs:List A} {y:A} {H':aB} {arr:Array Value} {ty:TypeId} (h:rowOf P t cs H=some (y,H')) (hv:bC H g w cs arr.toList) :
  Rel H' (g.put H.length (some w.heap.size) []) w0 (w.alloc (.cells arr ty))/\Ext H g w H' (g.put H.length (some w.heap.size) []) (w.alloc (.cells arr ty))/\VR H' (g.put H.length (some w.heap.size) []) (w.alloc (.cells arr ty)) y (.pointer (some ⟨w.heap.size,0,none⟩))/\H.length<=H'.length/\∀ lo b,b<lo->b<H.length->H'[b]? = H[b]?:=by
 unfold rowOf at h
 split at h
 ·rename_i n e hu
  replace h:=bH h
  obtain ⟨es,hes,h⟩:=h
  replace h:=fe h
  obtain ⟨h0,h⟩:=h
  cases h
  simp only[YO,Zx,qaj] at h0
  obtain ⟨⟨h1,h2⟩,h3⟩:=h0
  have h2:n≠0:=fun e=>by rw[e] at h2; cases h2
  have hb:Below w.heap.size w (w.alloc (.cells arr ty)):=(Below.refl _ w).alloc (X1 _) _
  have hal:arr.toList.length=n*es:=by rw[hv.length,h3]
  obtain ⟨r1,r2⟩:=hr.push hb (.row true es (chunk es n cs)) (some w.heap.size) [] (fun k hk=>by cases hk; exact⟨rfl,r7⟩) (fun he=>⟨chunk es n arr.toList,(bC.ext he _ _ hv).chunk n,kE hal,fun _=>⟨w.heap.size,arr,ty,Gh.bP _ _ _ _,Zt w _,fun j v hj=>by
   rw[mU hal] at hj; simpa using hj⟩⟩)
  refine⟨r1,r2,?_,r7,fun lo=>jk _ _ _⟩
  rw[VR,ew]
  exact⟨by rw[iB]; omega,w.heap.size,Gh.bP _ _ _ _,r7⟩
 ·cases h
theorem ye (hr:Rel H g w0 w) {t:TypeId} {x y:A} {H':aB} {c:Value} (lo:Nat) (h:vi P t x H=some (y,H')) (hx:VR H g w x c):Step H g w0 w lo ((Instr.box t c).run P w) y H':=by
 unfold vi at h
 cases hc:x.cells? with
 | none=>rw[hc] at h; cases h
 | some cs=>
  rw[hc] at h
  obtain ⟨hv,_,_⟩:=nO hc hx
  obtain ⟨r1,r2,r3,r4,r5⟩:=uv (P:=P) hr (ty:=t) h hv
  exact⟨.pointer (some ⟨w.heap.size,0,none⟩),_,_,by simp[Instr.box,newVar,newRow,newObj]; rfl,r1,r2,r3,r4,r5 lo,rfl⟩
theorem uN (hr:Rel H g w0 w) {t:TypeId} {y:A} {H':aB} (lo:Nat) (h:oK P t H=some (y,H')):Step H g w0 w lo ((Instr.alloc t true (.tuple #[])).run P w) y H':=by
 unfold oK at h
 cases hz:iR P t with
 | none=>rw[hz] at h; cases h
 | some cs=>
  rw[hz] at h
  obtain ⟨i,z,hi,hzz,rfl⟩:=gw hz
  obtain ⟨r1,r2,r3,r4,r5⟩:=uv (P:=P) hr (arr:=z.cells) (ty:=t) h (jV _)
  exact⟨.pointer (some ⟨w.heap.size,0,none⟩),_,_,by simp[Instr.alloc,zeroValue,typeInfo,hi,hzz,newVar,newRow,newObj]; rfl,r1,r2,r3,r4,r5 lo,rfl⟩
theorem Rel.write (hr:Rel H g w0 w) {b k:Nat} {arr arr':Array Value} {ty:TypeId} (hk:g.mu b=some k) (ha:w.heap[k]? = some (.cells arr ty (0,0))) {B B':az} (hB:H[b]? = some B)
  (hkind:(∃ cs cs',B=.box cs/\B'=.box cs')∨∃ es els els',B=.row true es els/\B'=.row true es els'/\els'.length=els.length)
  (hB':Ext H g w (H.set b B') g (w.setRow k arr')->(w.setRow k arr').heap[k]? = some (.cells arr' ty (0,0))->mH (H.set b B') g (w.setRow k arr') b B'):Rel (H.set b B') g w0 (w.setRow k arr')/\Ext H g w (H.set b B') g (w.setRow k arr'):=by
 have hlt:b<H.length:=(X2.1 hB).1
 have hnew:(w.setRow k arr').heap[k]? = some (.cells arr' ty (0,0)):=setRow_heap w k arr arr' ty (0,0) ha
 have hoth:∀ j,j≠k->(w.setRow k arr').heap[j]? = w.heap[j]?:=fun j hj=>setRow_other w k j arr' hj
 have hnot:∀ {o:Nat},¬ fq H g k o:=fun {o} hs=>by
  obtain ⟨es,els,h1,_⟩:=hs.2 b hk
  rw[hB] at h1
  rcases hkind with ⟨cs,cs',rfl,_⟩ | ⟨es',els1,els',rfl,_⟩<;>cases h1
 have he:Ext H g w (H.set b B') g (w.setRow k arr'):=by
  refine⟨fun k' o v hs hc=>?_,fun c C hC=>?_,fun k' o ho=>(hoth k' (fun e=>by subst e; rw[ha] at ho; cases ho)).trans ho,by simp[World.setRow],fun k' marr cl hs hm=>?_,fun k' _ hn=>hoth k' (fun e=>hn b (e ▸ hk)),fun c k' h=>.inl ⟨c,h⟩⟩
  ·have hne:k'≠k:=fun e=>hnot (e ▸ hs)
   refine⟨(ZH (a:=⟨k',o,none⟩) (hoth k' hne)).trans hc,hs.1,fun c hck=>?_⟩
   obtain ⟨es,els,h1,h2⟩:=hs.2 c hck
   have hcb:c≠b:=fun e=>by subst e; rw[hk] at hck; exact hne (by cases hck; rfl)
   exact⟨es,els,by rw[Yd (YW hcb)]; exact h1,h2⟩
  ·by_cases e:c=b
   ·subst e
    rw[hB] at hC; cases hC
    refine⟨B',by rw[Ym hlt],?_⟩
    rcases hkind with ⟨cs,cs',rfl,rfl⟩ | ⟨es,els,els',rfl,rfl,hl⟩
    ·rfl
    ·exact⟨rfl,hl,rfl⟩
   ·refine⟨C,by rw[Yd (YW e)]; exact hC,?_⟩
    cases C with
    | box _=>rfl
    | row wr es els=>cases wr with
     | true=>exact⟨rfl,rfl,rfl⟩
     | false=>exact⟨rfl,⟨[],r7⟩,(hr.blk c _ hC).len,X1 _,fun _=>⟨rfl,fun k' arr1 ty1 hk1 ha1=>⟨arr1,(hoth k' (fun e2=>e (hr.inj c b k (e2 ▸ hk1) hk))).trans ha1,X1 _⟩⟩⟩
    | rng _=>exact⟨rfl,rfl⟩
    | mp _ _ _=>rfl
    | dead=>trivial
    | hole=>trivial
  ·have hne:k'≠k:=fun e=>by subst e; rw[ha] at hm; cases hm
   refine⟨(hoth k' hne).trans hm,hs.1,fun c hck=>?_⟩
   obtain ⟨es,els,h1,h2⟩:=hs.2 c hck
   have hcb:c≠b:=fun e=>by subst e; rw[hk] at hck; exact hne (by cases hck; rfl)
   exact⟨es,els,by rw[Yd (YW hcb)]; exact h1,h2⟩
 have hsz:(w.setRow k arr').heap.size=w.heap.size:=by simp[World.setRow]
 have hkb:=(hr.dom b k hk).2.1
 refine⟨⟨hr.below.trans ⟨rfl,rfl,rfl,by rw[hsz]; exact X1 _,fun j hj=>hoth j j6⟩,fun c j hcj=>⟨by simpa using (hr.dom c j hcj).1,(hr.dom c j hcj).2.1,by rw[hsz]; exact(hr.dom c j hcj).2.2⟩,hr.inj,hr.A8 he,hr.zA he,fun c C hC=>?_⟩,he⟩
 by_cases e:c=b
 ·subst e
  rw[Ym hlt] at hC; cases hC
  exact hB' he hnew
 ·rw[Yd (YW e)] at hC
  have h:=hr.blk c C hC
  have hmu:∀ {j},g.mu c=some j->j≠k:=fun {j} hj e2=>e (hr.inj c b k (e2 ▸ hj) hk)
  cases C with
  | box cs=>obtain ⟨j,arr1,ty1,h1,h2,h3⟩:=h; exact⟨j,arr1,ty1,h1,(hoth j (hmu h1)).trans h2,bC.ext he _ _ h3⟩
  | row wr es els=>cases wr with
   | true=>
    obtain ⟨ds,h1,h2,h3⟩:=h
    exact⟨ds,bw.ext he _ _ h1,h2,fun hp=>let ⟨j,arr1,ty1,e1,e2,e3⟩:=h3 hp; ⟨j,arr1,ty1,e1,(hoth j (hmu e1)).trans e2,e3⟩⟩
   | false=>exact⟨bw.ext he _ _ h.1,h.2⟩
  | rng st=>obtain ⟨j,h1,h2⟩:=h; exact⟨j,h1,(hoth j (hmu h1)).trans h2⟩
  | mp _ _ _=>obtain ⟨j,arr1,cl,h1,h2,h3,h4⟩:=h; exact⟨j,arr1,cl,h1,(hoth j (hmu h1)).trans h2,h3,bC.ext he _ _ h4⟩
  | dead=>exact h
  | hole=>exact h
theorem oe (H:aB) (B:az) {lo b:Nat} (hb:lo<=b):∀ c,c<lo->c<H.length->(H.set b B)[c]? = H[c]?:=fun _ hc _=>Yd j6
theorem nv {t:TypeId} {n k o:Nat} {c:Value} {arr:Array Value} {ty:TypeId} (hs:df P t=some n) (hn:c.cells.size=n) (ha:w.heap[k]? = some (.cells arr ty (0,0))) (hfit:o+n<=arr.size) (h1:∀ x∈c.cells.toList,x.oneCell'=true) :
  (Instr.storeAt t (.pointer (some ⟨k,o,none⟩)) c).run P w=.ok () (w.setRow k (bB arr.toList o c.cells.toList).toArray):=by
 have:=qaY P k o ty c.cells.toList 0 arr w ha (by simpa [hn] using hfit) h1
 simp only[Zr] at this
 simp only[Instr.storeAt,Instr.sureAddr,Yy,Z6,Yt,storeVar,eB hs]
 rw[X8 (by simp[hn])]
 rw[this]
 simp[bB]
theorem jn {α:Type} (cs xs:List α) (o:Nat) (h:o+xs.length<=cs.length):(bB cs o xs).length=cs.length:=by
 simp[bB]; omega
theorem g7 {α:Type} (cs xs:List α) (o j:Nat) (h:o+xs.length<=cs.length):(bB cs o xs)[j]? = if o<=j/\j<o+xs.length then xs[j - o]? else cs[j]?:=by
 unfold bB
 rw[YD,ZI,YV,Zn j6]
 by_cases h1:j<o
 ·rw[X4 h1,X8 j6,Yi,X4 h1]
 ·rw[X8 h1,ZI]
  by_cases h2:j<o+xs.length
  ·rw[X4 j6,X4 j6]
  ·rw[X8 j6,X8 j6,Zj]
   congr 1; omega
theorem uC {α:Type} (x l xs:List α) (n:Nat):bB (x++l) (x.length+n) xs=x++bB l n xs:=by
 unfold bB
 rw[ZN,List.take_length_add_append,List.drop_length_add_append]
 simp
theorem tF {es:Nat}:∀ {ds:List (List Value)} {i:Nat} {d d':List Value},(∀ d∈ds,d.length=es)->ds[i]? = some d->∀ o xs,o+xs.length<=es->d'=bB d o xs->(ds.set i d').flatten=bB ds.flatten (i*es+o) xs
 | [],i,d,d',_,h,_,_,_,_=>by simp at h
 | x :: r,i,d,d',hl,h,o,xs,hf,hd=>by
  have hx:=hl x r7
  cases i with
  | zero=>
   simp at h; subst h; subst hd
   simp only[List.set_cons_zero,Zf,Nat.zero_mul,YP,bB]
   rw[ZO j6,qaP j6]
   simp
  | succ i=>
   have ih:=tF (ds:=r) (i:=i) (d:=d) (d':=d') (fun d hd=>hl d (by simp[hd])) (by simpa using h) o xs hf hd
   have e:(i+1)*es+o=x.length+(i*es+o):=by rw[hx,YS]; omega
   rw[List.set_cons_succ,Zf,Zf,ih,e,uC]
theorem jg {es:Nat} {ds:List (List Value)} (hl:∀ d∈ds,d.length=es) {m:Nat} (hm:m<=ds.length):(ds.take m).flatten.length=m*es:=by
 rw[cE (fun d hd=>hl d (Yr hd)),YV,Zn hm]
theorem nY {es:Nat}:∀ {ds:List (List Value)} (o:Nat) {xs:List (List Value)},(∀ d∈ds,d.length=es)->(∀ d∈xs,d.length=es)->o+xs.length<=ds.length->(bB ds o xs).flatten=bB ds.flatten (o*es) xs.flatten
 | ds,0,xs,hl,hx,h=>by
  have:ds=ds.take xs.length++ds.drop xs.length:=(YZ _ _).symm
  have h1:(ds.take xs.length).flatten.length=xs.length*es:=jg hl j6
  simp only[bB,qaS,Y5,YP,Nat.zero_mul,ZR]
  congr 1
  have e:ds.flatten=(ds.take xs.length).flatten++(ds.drop xs.length).flatten:=XM
  rw[e,List.drop_append,h1,cE hx]
  simp[h1]
 | [],o+1,xs,hl,hx,h=>by simp at h
 | d :: r,o+1,xs,hl,hx,h=>by
  have ih:=nY (ds:=r) o (xs:=xs) (fun d hd=>hl d (by simp[hd])) hx (by simp at h; omega)
  have e1:bB (d :: r) (o+1) xs=d :: bB r o xs:=by
   simp only[bB,qas,Yw]
   rw[show o+1+xs.length=o+xs.length+1 by omega,List.drop_succ_cons]
  rw[e1,Zf,ih,Zf]
  have e2:(o+1)*es=d.length+o*es:=by rw[hl d r7,YS]; omega
  rw[e2,uC]
theorem wI (hr:Rel H g w0 w) {t:TypeId} {a x:A} {H':aB} {lo:Nat} {ca cx:Value} (h:lK P t a x H lo=some H') (ha:VR H g w a ca) (hx:VR H g w x cx) :
  ∃ w',(Instr.storeAt t ca cx).run P w=.ok () w'/\Rel H' g w0 w'/\Ext H g w H' g w'/\H.length<=H'.length/\∀ b,b<lo->b<H.length->H'[b]? = H[b]?:=by
 unfold lK at h
 replace h:=bH h
 obtain ⟨n,hn,h⟩:=h
 replace h:=bH h
 obtain ⟨xs,hxs,h⟩:=h
 replace h:=fe h
 obtain ⟨h0,h⟩:=h
 simp only[YO,Zx,Y4] at h0
 obtain ⟨hvs,h1,_⟩:=nO hxs hx
 have hsz:cx.cells.size=n:=by have:=hvs.length; simp at this; omega
 split at h
 ·rename_i b o
  split at h
  ·rename_i cs hb
   replace h:=br h
   obtain ⟨hc,h⟩:=h
   simp only[XZ,X6] at hc
   cases h
   rw[VR,hb] at ha
   obtain ⟨k,hk,rfl⟩:=ha
   obtain ⟨k',arr,ty,hk',har,hv⟩:=hr.blk b _ hb
   rw[hk] at hk'; cases hk'
   have hal:arr.size=cs.length:=by simpa using hv.length
   have hrun:=nv (P:=P) hn hsz har (o:=o) j6 h1
   obtain ⟨r1,r2⟩:=hr.write hk har (arr':=(bB arr.toList o cx.cells.toList).toArray) (B':=.box (bB cs o xs)) hb (.inl ⟨_,_,rfl,rfl⟩) (fun he hnew=>⟨k,_,ty,hk,hnew,bC.ext he _ _ (by simpa using hv.bB hvs o)⟩)
   exact⟨_,hrun,r1,r2,r7,oe _ _ hc.1⟩
  ·cases h
 ·rename_i b i o
  split at h
  ·rename_i es els hb
   split at h
   ·rename_i cs hi
    rw[VR,hb] at ha
    obtain ⟨hlt,k,hk,rfl⟩:=ha
    obtain ⟨ds,hv,hl,hrow⟩:=hr.blk b _ hb
    obtain ⟨k',arr,ty,hk',har,hcell⟩:=hrow j6
    rw[hk] at hk'; cases hk'
    obtain ⟨d,hd,hvd⟩:=hv.get hi
    have hdl:d.length=es:=hl d (Yk hd)
    have hcl:cs.length=es:=by rw[<-hvd.length]; exact hdl
    have hfl:=cE hl
    have hvl:=hv.length
    have hbound:i*es+es<=ds.length*es:=by
     have:=ZK es (show i+1<=ds.length by omega)
     rw[YS] at this; omega
    have hal:ds.flatten.length<=arr.size:=by
     by_cases hz:ds.flatten.length=0
     ·omega
     ·have:=hcell (ds.flatten.length - 1) _ (X3 j6)
      have:=(X5.1 this).1
      omega
    have hxl:cx.cells.toList.length=n:=by simpa using hsz
    rw[bG] at h
    split at h
    rotate_left
    ·replace h:=br h
     obtain ⟨hc,h⟩:=h
     simp only[XZ,X6,qaj] at hc
     obtain ⟨⟨⟨hlo,rfl⟩,hq⟩,hfit⟩:=hc
     cases h
     have hxq:cx.cells.toList.length=n / es*es:=j6
     have hq2:i*es+n / es*es<=ds.length*es:=by
      have:=ZK es (show i+n / es<=ds.length by omega)
      rwa [YS] at this
     have hrun:=nv (P:=P) hn hsz har (o:=i*es+0) j6 h1
     have hcl2:=kE (es:=es) hxq
     obtain ⟨r1,r2⟩:=hr.write hk har (arr':=(bB arr.toList (i*es+0) cx.cells.toList).toArray) (B':=.row true es (bB els i (chunk es (n / es) xs))) hb (.inr ⟨es,els,_,rfl,rfl,by rw[jn _ _ _ (by rw[iB]; omega)]⟩) (fun he hnew=>by
      refine⟨bB ds i (chunk es (n / es) cx.cells.toList),?_,?_,fun _=>⟨k,_,ty,hk,hnew,fun j v hj=>?_⟩⟩
      ·have hv2:=bw.ext he _ _ hv
       have hx2:=bw.ext he _ _ (hvs.chunk (es:=es) (n / es))
       exact hv2.bB hx2 i
      ·intro d' hd'
       unfold bB at hd'
       rcases Y6.1 hd' with hd' | hd'
       ·rcases Y6.1 hd' with hd' | hd'
        ·exact hl d' (Yr hd')
        ·exact hcl2 d' hd'
       ·exact hl d' (YC hd')
      ·rw[nY i hl hcl2 (by rw[iB]; omega),mU hxq] at hj
       rw[g7 _ _ _ _ j6] at hj
       have:(bB arr.toList (i*es+0) cx.cells.toList).toArray[j]? = (bB arr.toList (i*es+0) cx.cells.toList)[j]?:=r7
       rw[this,g7 _ _ _ _ r8]
       simp only[Zr]
       split
       ·rename_i hin; rw[X4 hin] at hj; exact hj
       ·rename_i hin; rw[X8 hin] at hj
        have:=hcell j v hj
        simpa using this)
     exact⟨_,hrun,r1,r2,r7,oe _ _ hlo⟩
    rename_i hc
    simp only[XZ,X6] at hc
    cases h
    have hrun:=nv (P:=P) hn hsz har (o:=i*es+o) j6 h1
    obtain ⟨r1,r2⟩:=hr.write hk har (arr':=(bB arr.toList (i*es+o) cx.cells.toList).toArray) (B':=.row true es (els.set i (bB cs o xs))) hb (.inr ⟨es,els,_,rfl,rfl,r7⟩) (fun he hnew=>by
     refine⟨ds.set i (bB d o cx.cells.toList),?_,?_,fun _=>⟨k,_,ty,hk,hnew,fun j v hj=>?_⟩⟩
     ·have hv2:=bw.ext he _ _ hv
      have hvd2:=bC.ext he _ _ (hvd.bB hvs o)
      obtain ⟨g1,g2⟩:=da.1 hv2
      refine da.2 ⟨by simp[g1],fun j a' d' ha' hd'=>?_⟩
      by_cases e:j=i
      ·subst e
       rw[Ym j6] at ha'
       rw[Ym j6] at hd'
       cases ha'; cases hd'; exact hvd2
      ·rw[Yd (YW e)] at ha' hd'
       exact g2 j a' d' ha' hd'
     ·intro d' hd'
      rcases qa3 hd' with h' | rfl
      ·exact hl d' h'
      ·rw[jn _ _ _ j6]; exact hdl
     ·rw[tF hl hd o cx.cells.toList j6 rfl] at hj
      rw[g7 _ _ _ _ j6] at hj
      have:(bB arr.toList (i*es+o) cx.cells.toList).toArray[j]? = (bB arr.toList (i*es+o) cx.cells.toList)[j]?:=r7
      rw[this,g7 _ _ _ _ r8]
      split
      ·rename_i hin; rw[X4 hin] at hj; exact hj
      ·rename_i hin; rw[X8 hin] at hj
       have:=hcell j v hj
       simpa using this)
    exact⟨_,hrun,r1,r2,r7,oe _ _ hc.1⟩
   ·cases h
  ·cases h
 ·cases h
end
section
open Go.RowKit
variable {P:Program} {H:aB} {g:Gh} {w0 w:World}
theorem kH {t e:TypeId} (h:nC P t=some e):P.underlying t=some (.slice e):=by
 unfold nC at h
 split at h
 ·rename_i hu; cases h; exact hu
 ·cases h
theorem oU (z:Array Value) (len:Nat) (hz:0<z.size):(madeCells z (len*z.size)).toList=(List.replicate len z.toList).flatten:=by
 have hl:∀ d∈List.replicate len z.toList,d.length=z.size:=fun d hd=>by rw[(qac.1 hd).2]; simp
 apply Zv
 intro j
 by_cases hj:j<len*z.size
 ·have hq:j / z.size<len:=qbu (by rw[Y9]; exact hj)
  have e:=kK hl (j:=j / z.size) (d:=z.toList) (by rw[ZA,X4 hq]) (j % z.size) (qax _ hz)
  rw[show j / z.size*z.size+j % z.size=j by rw[Y9]; exact qbg _ _] at e
  rw[e]
  have hm:=qax j hz
  have:(madeCells z (len*z.size))[j]? = some (z[j % z.size]!):=by simp[madeCells,hj]
  rw[Yx,this]
  simp[hm]
 ·rw[Y7 (by simp[madeCells]; omega),Y7 (by rw[cE hl]; simp; omega)]
theorem yM {es:Nat}:∀ {parts:List (Nat×A)} {vparts:List (Nat×Value)} {els els':List (List A)} {ds:List (List Value)} {arr:Array Value},nr els parts=some els'->arr.toList=ds.flatten->bw H g w els ds->(∀ d∈ds,d.length=es) ->
  (∀ p∈parts,p.1<els.length/\∃ xs,p.2.cells? = some xs/\xs.length=es)->nH H g w parts vparts->∃ arr' ds',Instr.fill (fun i=>some (i*es,es)) arr vparts=some arr'/\arr'.toList=ds'.flatten/\bw H g w els' ds'/\(∀ d∈ds',d.length=es)
 | [],vparts,els,els',ds,arr,h,ha,hv,hl,_,hp=>by
  simp only[nr,YK] at h
  subst h
  have:vparts=[]:=Yl (by simpa using hp.1)
  subst this
  exact⟨arr,ds,rfl,ha,hv,hl⟩
 | (i,x) :: r,vparts,els,els',ds,arr,h,ha,hv,hl,hc,hp=>by
  cases vparts with
  | nil=>simp[nH] at hp
  | cons q vr=>
   obtain ⟨q',hq,e1,hx⟩:=hp.2 0 (i,x) rfl
   simp at hq
   subst hq
   obtain ⟨hi,xs,hxs,hxl⟩:=hc (i,x) r7
   simp only[nr,hxs,XV] at h
   obtain ⟨hvs,_,_⟩:=nO hxs hx
   have hvl:=hvs.length
   have hel:=hv.length
   obtain ⟨qi,qv⟩:=q
   simp only at e1 hi
   subst e1
   have hsz:qv.cells.size=es:=by simpa [hxl] using hvl
   obtain ⟨d,hd,_⟩:=hv.get (i:=qi) (X3 hi)
   have hdl:d.length=es:=hl d (Yk hd)
   have hfl:=cE hl
   have hfit:qi*es+qv.cells.size<=arr.size:=by
    have e2:arr.size=ds.length*es:=by rw[<-hfl,<-ha]; simp
    have:=ZK es (show qi+1<=ds.length by omega)
    rw[YS] at this; omega
   have hsp:qv.cells.toList=bB d 0 qv.cells.toList:=by
    unfold bB
    rw[qaS,Y5,qbi r8,YG]
   have hset:(qv.cells.zipIdx.foldl (fun cs (c,j)=>cs.setIfInBounds (qi*es+j) c) arr).toList=(ds.set qi qv.cells.toList).flatten:=by
    have:=ux qv.cells.toList (qi*es) arr (by simpa using hfit)
    rw[tF hl hd 0 qv.cells.toList r8 hsp,<-ha,Zr,<-this,<-Z9]
    simp
   obtain ⟨arr',ds',h1,h2,h3,h4⟩:=yM (els:=els.set qi xs) (ds:=ds.set qi qv.cells.toList) (arr:=qv.cells.zipIdx.foldl (fun cs (c,j)=>cs.setIfInBounds (qi*es+j) c) arr) (vparts:=vr) h hset
    (by
     obtain ⟨g1,g2⟩:=da.1 hv
     refine da.2 ⟨by simp[g1],fun j a' d' ha' hd'=>?_⟩
     by_cases e:j=qi
     ·subst e
      rw[Ym j6] at ha'
      rw[Ym j6] at hd'
      cases ha'; cases hd'; exact hvs
     ·rw[Yd (YW e)] at ha' hd'
      exact g2 j a' d' ha' hd')
    (fun d' hd'=>by
     rcases qa3 hd' with h' | rfl
     ·exact hl d' h'
     ·simpa using hsz)
    (fun p hpm=>by have:=hc p (by simp[hpm]); simpa using this) ⟨by simpa using hp.1,fun j p' hj=>by have:=hp.2 (j+1) p' (by simpa using hj); simpa using this⟩
   refine⟨arr',ds',?_,h2,h3,h4⟩
   unfold Instr.fill
   simp only
   rw[X8 (by simp[hsz]; omega)]
   exact h1
theorem nB {t:TypeId} {len:Nat} {parts:List (Nat×A)} {vparts:Array (Nat×Value)} {y:A} (h:aF P t len parts=some y) (hp:nH H g w parts vparts.toList) :
  ∃ e es els arr' ds,y=.imm els true/\nC P t=some e/\df P e=some es/\es≠0/\(Instr.buildSlice t len vparts).run P w=.ok (.slice (some ⟨w.heap.size,0,none⟩) len len) (w.alloc (.cells arr' e))/\els.length=len/\arr'.toList=ds.flatten/\bw H g w els ds/\∀ d∈ds,d.length=es:=by
 unfold aF at h
 replace h:=bH h
 obtain ⟨e,he,h⟩:=h
 have hu:=kH he
 replace h:=bH h
 obtain ⟨es,hes,h⟩:=h
 replace h:=bH h
 obtain ⟨z,hz,h⟩:=h
 replace h:=fe h
 obtain ⟨h0,h⟩:=h
 replace h:=br h
 obtain ⟨hc,h⟩:=h
 simp only[YO,Zx,Y4,X6,ZS] at h0
 obtain ⟨⟨h0,h1⟩,h2⟩:=h0
 obtain ⟨it,v,hi,hv,rfl⟩:=gw hz
 obtain ⟨it',hi',hsz⟩:=gR hes
 rw[hi] at hi'; cases hi'
 have hvs:v.cells.size=es:=by simpa using h1
 cases hse:nr (List.replicate len (v.cells.toList.map A7)) parts with
 | none=>rw[hse] at h; cases h
 | some els=>
  rw[hse] at h
  cases h
  have hz0:0<v.cells.size:=j6
  have hall:∀ p∈parts,p.1<(List.replicate len (v.cells.toList.map A7)).length/\∃ xs,p.2.cells? = some xs/\xs.length=es:=fun p hpm=>by
   have:=Yb.1 hc p hpm
   simp only[XZ,X6] at this
   refine⟨by simpa using this.1,?_⟩
   have h3:=this.2
   split at h3
   ·rename_i xs hx; exact⟨xs,hx,by simpa using h3⟩
   ·cases h3
  have hrep:bw H g w (List.replicate len (v.cells.toList.map A7)) (List.replicate len v.cells.toList):=da.2 ⟨r7,fun i a d ha hd=>by
   rw[ZA] at ha hd
   split at ha
   ·rename_i hlt; rw[X4 hlt] at hd; cases ha; cases hd; exact jV _
   ·cases ha⟩
  obtain ⟨arr',ds',f1,f2,f3,f4⟩:=yM (es:=es) (arr:=madeCells v.cells (len*es)) hse (by rw[<-hvs]; exact oU _ _ hz0) hrep (fun d hd=>by rw[(qac.1 hd).2]; simpa using hvs) hall hp
  have hb:Below w.heap.size w (w.alloc (.cells arr' e)):=(Below.refl _ w).alloc (X1 _) _
  have hlen:els.length=len:=by
   have gen:∀ (parts:List (Nat×A)) (els els':List (List A)),nr els parts=some els'->els'.length=els.length:=by
    intro parts
    induction parts with
    | nil=>intro els els' h; simp only[nr,YK] at h; rw[h]
    | cons p r ih=>
     intro els els' h
     obtain ⟨i,x⟩:=p
     simp only[nr] at h
     obtain ⟨xs,_,h⟩:=bH h
     rw[ih _ _ h]; simp
   rw[gen _ _ _ hse]; simp
  refine⟨e,es,els,arr',ds',rfl,he,hes,h0,?_,hlen,f2,f3,f4⟩
  unfold Instr.buildSlice
  have hsz':(sizeOf e).run P w=.ok es w:=eB hes w
  have hbig:¬ (16777216<len*es):=j6
  by_cases hle:len*es=0
  ·rw[hle] at f1
   rw[show madeCells v.cells 0=#[] by simp[madeCells]] at f1
   simp[Ya hu,hsz',hle,show Array.range 0=#[] from rfl,f1,newRow,newObj]
   rfl
  ·unfold madeCells at f1
   simp[Ya hu,hsz',hle,hbig,zeroValue,typeInfo,hi,hv,f1,newRow,newObj]
   rfl
theorem qd (hr:Rel H g w0 w) {t:TypeId} {len:Nat} {parts:List (Nat×A)} {vparts:Array (Nat×Value)} {y:A} (h:aF P t len parts=some y) (hp:nH H g w parts vparts.toList) :
  ∃ d w',(Instr.buildSlice t len vparts).run P w=.ok d w'/\Below w.heap.size w w'/\VR H g w' y d:=by
 obtain ⟨e,es,els,arr',ds',rfl,_,_,_,hrun,hlen,f2,f3,f4⟩:=nB h hp
 have hb:Below w.heap.size w (w.alloc (.cells arr' e)):=(Below.refl _ w).alloc (X1 _) _
 refine⟨_,_,hrun,hb,?_⟩
 rw[VR]
 have he:=Ext.below hr hb
 refine⟨_,len,ds',es,by rw[hlen],j6,fun _=>hlen.symm,f4,fun _=>⟨w.heap.size,0,rfl,?_⟩,bw.ext he _ _ f3⟩
 exact nZ hr (Zt w _) fun j v hj=>by rw[<-f2] at hj; simpa using hj
theorem rX (hr:Rel H g w0 w) {t:TypeId} {len:Nat} {parts:List (Nat×A)} {vparts:Array (Nat×Value)} {y:A} {H':aB} (lo:Nat) (h:qU P t len parts H=some (y,H')) (hp:nH H g w parts vparts.toList) :
  Step H g w0 w lo ((Instr.buildSlice t len vparts).run P w) y H':=by
 unfold qU at h
 obtain ⟨e0,h1,h⟩:=bH h
 obtain ⟨es0,h2,h⟩:=bH h
 obtain ⟨y0,h3,h⟩:=bH h
 obtain ⟨e,es,els,arr',ds',rfl,g1,g2,g3,hrun,hlen,f2,f3,f4⟩:=nB h3 hp
 rw[h1] at g1; cases g1
 rw[h2] at g2; cases g2
 simp only[YK,Prod.mk.injEq] at h
 obtain ⟨rfl,rfl⟩:=h
 have hb:Below w.heap.size w (w.alloc (.cells arr' e0)):=(Below.refl _ w).alloc (X1 _) _
 obtain ⟨k1,k2⟩:=hr.push hb (.row true es0 els) (some w.heap.size) [] (fun k hk=>by cases hk; exact⟨rfl,by show w.heap.size<(w.heap.push _).size; rw[Array.size_push]; exact Nat.lt_succ_self _⟩) (fun he=>⟨ds',bw.ext he _ _ f3,f4,fun _=>⟨w.heap.size,arr',e0,Gh.bP _ _ _ _,Zt w _,fun j v hj=>by rw[<-f2] at hj; simpa using hj⟩⟩)
 refine⟨_,_,_,hrun,k1,k2,?_,r7,fun b _ hb=>Yf hb,rfl⟩
 rw[VR,ew]
 exact⟨r7,_,len,by rw[hlen],j6,fun _=>hlen.symm,fun _=>⟨w.heap.size,Gh.bP _ _ _ _,r7⟩⟩
theorem Iy {x:A} {c:Value} (h:VR H g w x c):VR H g w (zT x) c:=by
 cases x with
 | imm els cl=>
  simp only[zT]
  rw[VR] at h ⊢
  obtain ⟨a,cap,ds,es,h1,h2,_,h4,h5,h6⟩:=h
  exact⟨a,cap,ds,es,h1,h2,fun h=>(by cases h),h4,h5,h6⟩
 | _=>exact h
theorem qN:∀ {cs:List A} {ds:List Value},bC H g w cs ds->bC H g w (cs.map zT) ds
 | [],_,h=>h
 | a :: as,_,h=>by
  rw[bC] at h
  obtain ⟨d,ds',rfl,h1,h2⟩:=h
  rw[YX,bC]
  exact⟨d,ds',rfl,Iy h1,qN h2⟩
theorem sX (hr:Rel H g w0 w) {t:TypeId} {n c y:A} {cn cc:Value} {H':aB} (h:nN P t n c H=some (y,H')) (hn:VR H g w n cn) (hc:VR H g w c cc):H'=H/\∃ d w',(Instr.makeSlice t cn cc).run P w=.ok d w'/\Below w.heap.size w w'/\VR H g w' y d:=by
 unfold nN at h
 obtain ⟨e,he,h⟩:=bH h
 have hu:=kH he
 obtain ⟨es,hes,h⟩:=bH h
 obtain ⟨by_,hby,h⟩:=bH h
 obtain ⟨z,hz,h⟩:=bH h
 obtain ⟨ni,hni,h⟩:=bH h
 obtain ⟨ci,hci,h⟩:=bH h
 obtain ⟨h0,h⟩:=fe h
 simp only[YO,Zx,Y4,X6,ZS] at h0
 obtain ⟨⟨⟨⟨h0,h1⟩,h2⟩,h3⟩,h4⟩:=h0
 cases h
 obtain ⟨it,v,hi,hv,rfl⟩:=gw hz
 obtain ⟨it',hi',hsz⟩:=gR hes
 rw[hi] at hi'; cases hi'
 have hvs:v.cells.size=es:=by simpa using h1
 have hbv:it.bytes=by_:=by unfold mS at hby; rw[hi] at hby; simpa using hby
 obtain ⟨kn,zn,rfl,hn0,rfl⟩:=pT hni hn
 obtain ⟨kc,zc,rfl,hc0,rfl⟩:=pT hci hc
 unfold fg at h2 h3
 have hbz:(it.bytes:Int)*zc<=281474976710656:=by
  have:((zc.toNat*by_:Nat):Int)<=140737488355328:=j6
  rw[qad,qat hc0,qbD,<-hbv] at this
  omega
 have hrun:=run_make (P:=P) w t e it v hu hi hv kn kc zn zc hn0 j6 hbz j6
 have hb:Below w.heap.size w (w.alloc (.cells (madeCells v.cells (zc.toNat*it.size)) e)):=(Below.refl _ w).alloc (X1 _) _
 rw[hsz] at hrun hb
 have hz0:0<v.cells.size:=j6
 refine⟨rfl,_,_,hrun,hb,?_⟩
 rw[VR]
 refine⟨_,zc.toNat,List.replicate zn.toNat v.cells.toList,es,r7,r8,fun h=>(by cases h),fun d hd=>by rw[(qac.1 hd).2]; simpa using hvs,fun _=>⟨w.heap.size,0,rfl,?_⟩,da.2 ⟨r7,fun i a d ha hd=>?_⟩⟩
 ·exact nZ hr (Zt w _) fun j x hj=>by rw[<-Yx,<-hvs,oU _ _ hz0,<-h4]; exact hj
 ·rw[ZA] at ha hd
  split at ha
  ·rename_i hlt; rw[X4 hlt] at hd; cases ha; cases hd; exact qN (jV _)
  ·cases ha
theorem kZ {ck:Bool} (hr:Rel H g w0 w) {t:TypeId} {n c y:A} {cn cc:Value} {H':aB} (lo:Nat) (h:hJ ck P t n c H=some (y,H')) (hn:VR H g w n cn) (hc:VR H g w c cc):Step H g w0 w lo ((Instr.makeSlice t cn cc).run P w) y H':=by
 unfold hJ at h
 replace h:=bH h
 obtain ⟨e,he,h⟩:=h
 have hu:=kH he
 replace h:=bH h
 obtain ⟨es,hes,h⟩:=h
 replace h:=bH h
 obtain ⟨by_,hby,h⟩:=h
 replace h:=bH h
 obtain ⟨z,hz,h⟩:=h
 replace h:=bH h
 obtain ⟨ni,hni,h⟩:=h
 replace h:=bH h
 obtain ⟨ci,hci,h⟩:=h
 replace h:=fe h
 obtain ⟨h0,h⟩:=h
 simp only[YO,Zx,Y4,X6,ZS] at h0
 obtain ⟨⟨⟨⟨h0,h1⟩,h2⟩,h3⟩,h4⟩:=h0
 obtain ⟨it,v,hi,hv,rfl⟩:=gw hz
 obtain ⟨it',hi',hsz⟩:=gR hes
 rw[hi] at hi'; cases hi'
 have hvs:v.cells.size=es:=by simpa using h1
 have hbv:it.bytes=by_:=by unfold mS at hby; rw[hi] at hby; simpa using hby
 obtain ⟨kn,zn,rfl,hn0,rfl⟩:=pT hni hn
 obtain ⟨kc,zc,rfl,hc0,rfl⟩:=pT hci hc
 unfold fg at h2 h3
 have hbz:(it.bytes:Int)*zc<=281474976710656:=by
  have:((zc.toNat*by_:Nat):Int)<=140737488355328:=j6
  rw[qad,qat hc0,qbD,<-hbv] at this
  omega
 have hrun:=run_make (P:=P) w t e it v hu hi hv kn kc zn zc hn0 j6 hbz j6
 have hb:Below w.heap.size w (w.alloc (.cells (madeCells v.cells (zc.toNat*it.size)) e)):=(Below.refl _ w).alloc (X1 _) _
 rw[hsz] at hrun hb
 have hz0:0<v.cells.size:=j6
 rw[bG] at h
 split at h
 ·rename_i hnc
  have hnc:zn.toNat=zc.toNat:=by simpa using hnc
  cases h
  obtain ⟨r1,r2⟩:=hr.push hb (.row true es (List.replicate zn.toNat ((v.cells.toList.map A7).map zT))) (some w.heap.size) [] (fun k hk=>by cases hk; exact⟨rfl,r7⟩) (fun he'=>by
   refine⟨List.replicate zn.toNat v.cells.toList,da.2 ⟨r7,fun i a d ha hd=>?_⟩,fun d hd=>by rw[(qac.1 hd).2]; simpa using hvs,fun _=>⟨w.heap.size,_,e,Gh.bP _ _ _ _,Zt w _,fun j x hj=>?_⟩⟩
   ·rw[ZA] at ha hd
    split at ha
    ·rename_i hlt; rw[X4 hlt] at hd; cases ha; cases hd; exact qN (jV _)
    ·cases ha
   ·rw[<-Yx,<-hvs,oU _ _ hz0,<-hnc]; exact hj)
  refine⟨_,_,_,hrun,r1,r2,?_,r7,jk _ _ _,rfl⟩
  rw[VR,ew]
  refine⟨r7,_,zc.toNat,rfl,j6,fun _=>j6,fun _=>⟨w.heap.size,Gh.bP _ _ _ _,r7⟩⟩
 ·rw[bG] at h
  split at h
  ·rename_i hn00
   have hn00:zn.toNat=0:=by simpa using hn00
   cases h
   obtain ⟨r1,r2⟩:=hr.push hb (.row false es []) (some w.heap.size) [] (fun k hk=>by cases hk; exact⟨rfl,r7⟩) (fun he'=>by
    refine⟨?_,?_⟩
    ·rw[Gh.iI,bw]
    ·rw[Gh.iI]; simp)
   refine⟨_,_,_,hrun,r1,r2,?_,r7,jk _ _ _,rfl⟩
   rw[VR,ew]
   refine⟨r7,_,zc.toNat,by rw[hn00],j6,fun h=>(by cases h),fun h=>absurd h r7,fun _ _ _ _=>⟨w.heap.size,_,e,Gh.bP _ _ _ _,rfl,Zt w _,by rw[size_madeCells]; exact X1 _⟩⟩
  ·cases h
theorem qZ (hr:Rel H g w0 w) {t:TypeId} {n c y:A} {cn cc:Value} {H':aB} (lo:Nat) (h:iV P t n c H=some (y,H')) (hn:VR H g w n cn) (hc:VR H g w c cc):Step H g w0 w lo ((Instr.makeSlice t cn cc).run P w) y H':=kZ hr lo h hn hc
end
section
open Go.RowKit
variable {P:Program} {H:aB} {g:Gh} {w0 w:World}
theorem pX {t:TypeId} (h:om P t=true):P.underlying t=some .string∨∃ e,P.underlying t=some (.slice e):=by
 unfold om at h
 split at h
 ·rename_i e hu; exact .inr ⟨e,hu⟩
 ·rename_i hu; exact .inl hu
 ·cases h
theorem pV {t:TypeId} (h:xm P t=true):∃ k,P.underlying t=some (.int k):=by
 unfold xm at h
 split at h
 ·rename_i k hu; exact⟨k,hu⟩
 ·cases h
def Src (P:Program) (t2:TypeId) (i:TypeInfo) (c:Value) (m:Nat) (news:List Value) (w w2:World):Prop:=
 (om P t2=true/\(Builtin.lenOf c).run P w=.ok m w/\(Builtin.firstCells i.size m c).run P w2=.ok news.toArray w2)∨∃ z,xm P t2=true/\c=.int .i64 (m:Int)/\i.zero=some z/\m*i.bytes<=281474976710656/\m<=140737488355328/\i.size≠0/\news.toArray=Builtin.zeroCells z.cells m
set_option maxHeartbeats 800000 in
theorem rA {t t2 ty e:TypeId} {i:TypeInfo} (ht:P.underlying t=some (.slice e)) (hi:P.info? e=some i) {a:Addr} {n cap m:Nat} {c:Value} {news:List Value} (h2:Src P t2 i c m news w w) (hroom:n+m<=cap):(Builtin.append_ #[t,t2] ty #[.slice (some a) n cap,c]).run P w=((storeCells (a.add (n*i.size)) news).run P w).andThen fun _ w'=>.ok (.slice (some a) (n+m) cap) w':=by
 rcases h2 with ⟨h2,hlen,hf⟩ | ⟨z,h2,rfl,hz,h3,h4,h6,h5⟩
 ·have hd:=pX h2
  rcases hd with hd | ⟨e2,hd⟩<;>simp[Builtin.append_,Ya ht,Ya hd,sizeOf,typeInfo,hi,hlen,hf,hroom]
 ·obtain ⟨k,hd⟩:=pV h2
  have hw:IntKind.i64.wrap (m:Int)=(m:Int):=by simp only[IntKind.wrap,IntKind.bits,IntKind.signed]; simp; omega
  have hb:¬ (281474976710656<(m:Int)*(i.bytes:Int)):=by rw[<-qad]; omega
  have hn0:¬ ((m:Int)<0):=j6
  have e5:news=(Builtin.zeroCells z.cells m).toList:=by rw[<-h5]
  by_cases hm:m=0
  ·subst hm
   have:news=[]:=by rw[e5]; simp[Builtin.zeroCells]
   subst this
   have hroom':n<=cap:=j6
   have hw0:IntKind.i64.wrap (0:Int)=(0:Int):=by decide
   simp[Builtin.append_,Ya ht,Ya hd,sizeOf,typeInfo,zeroValue,asInt,asIntOf,hi,hz,hroom',hw0]
  ·have hms:¬ (m*i.size=0):=Nat.mul_ne_zero hm h6
   simp[Builtin.append_,Ya ht,Ya hd,sizeOf,typeInfo,zeroValue,asInt,asIntOf,hi,hz,hroom,hw,hb,hn0,e5]
   intro h0; exact absurd h0 hms
set_option maxHeartbeats 800000 in
theorem rz {t t2 ty e:TypeId} {i:TypeInfo} (ht:P.underlying t=some (.slice e)) (hi:P.info? e=some i) {n cap:Nat} {base:Option Addr} {c:Value} (h2:Src P t2 i c 0 [] w w) (hroom:n<=cap):(Builtin.append_ #[t,t2] ty #[.slice base n cap,c]).run P w=.ok (.slice base n cap) w:=by
 rcases h2 with ⟨h2,hlen,hf⟩ | ⟨z,h2,rfl,hz,h3,h4,h6,h5⟩
 ·have hd:=pX h2
  rcases hd with hd | ⟨e2,hd⟩<;>cases base<;>simp[Builtin.append_,Ya ht,Ya hd,sizeOf,typeInfo,hi,hlen,hf,hroom,storeCells]
 ·obtain ⟨k,hd⟩:=pV h2
  have hw:IntKind.i64.wrap (0:Int)=(0:Int):=by decide
  cases base<;>simp[Builtin.append_,Ya ht,Ya hd,sizeOf,typeInfo,zeroValue,asInt,asIntOf,hi,hz,hroom,hw,storeCells]
set_option maxHeartbeats 800000 in
theorem ry {t t2 ty e:TypeId} {i:TypeInfo} {z:Value} (ht:P.underlying t=some (.slice e)) (hi:P.info? e=some i) (hz:i.zero=some z) {base:Option Addr} {n cap m:Nat} {c:Value} {news olds:List Value} (h2:Src P t2 i c m news w w.drew)
  (hfo:(Builtin.firstCells i.size n (.slice base n cap)).run P w.drew=.ok olds.toArray w.drew) (hg:cap<n+m) (h63:n+m<=9223372036854775807) (hfit:Builtin.nextslicecap (n+m) cap*i.bytes<=281474976710656) :
  (Builtin.append_ #[t,t2] ty #[.slice base n cap,c]).run P w=.ok (.slice (some ⟨w.heap.size,0,none⟩) (n+m) (grownCap w (n+m) cap e)) (w.drew.alloc (.cells (olds.toArray++news.toArray++Builtin.zeroCells z.cells (grownCap w (n+m) cap e - (n+m))) e)):=by
 have hn:¬ (n+m<=cap):=j6
 have h63':¬ (9223372036854775807<((n:Int)+(m:Int))):=j6
 have h48':¬ (281474976710656<Builtin.nextslicecap (n+m) cap*i.bytes):=j6
 rcases h2 with ⟨h2,hlen,hf⟩ | ⟨z',h2,rfl,hz',h3,h4,h6,h5⟩
 ·have hd:=pX h2
  rcases hd with hd | ⟨e2,hd⟩
  all_goals
   simp[Builtin.append_,Ya ht,Ya hd,sizeOf,typeInfo,zeroValue,hi,hz,hlen,hn,h63',h48',Question.forced,hf,hfo,newRow,grownCap]
   congr 2
   apply ZJ
   simp[YD]
 ·obtain ⟨k,hd⟩:=pV h2
  rw[hz] at hz'; cases hz'
  have hw:IntKind.i64.wrap (m:Int)=(m:Int):=by simp only[IntKind.wrap,IntKind.bits,IntKind.signed]; simp; omega
  have hb:¬ (281474976710656<(m:Int)*(i.bytes:Int)):=by rw[<-qad]; omega
  have hn0:¬ ((m:Int)<0):=j6
  have e5:news=(Builtin.zeroCells z.cells m).toList:=by rw[<-h5]
  have hmax:IntKind.i64.max=9223372036854775807:=by decide
  have h63m:¬ (IntKind.i64.max<((n:Int)+(m:Int))):=by rw[hmax]; exact h63'
  by_cases hm:m=0
  ·subst hm
   have:news=[]:=by rw[e5]; simp[Builtin.zeroCells]
   subst this
   have hw0:IntKind.i64.wrap (0:Int)=(0:Int):=by decide
   have hn':¬ (n<=cap):=j6
   have g63:¬ (9223372036854775807<(n:Int)):=j6
   have g48:¬ (281474976710656<Builtin.nextslicecap n cap*i.bytes):=h48'
   simp[Builtin.append_,Ya ht,Ya hd,sizeOf,typeInfo,zeroValue,asInt,asIntOf,hi,hz,hw0,hn',g63,g48,hfo,Question.forced,newRow,grownCap]
  ·simp[Builtin.append_,Ya ht,Ya hd,sizeOf,typeInfo,zeroValue,asInt,asIntOf,hi,hz,hw,hb,hn0,e5,hn,h63',h63m,h48',Question.forced,hfo,newRow,grownCap]
   intro h0; exact absurd h0 (Nat.mul_ne_zero hm h6)
theorem u0 {ds:List (List Value)} {m:Nat} {j:Nat} {v:Value} (h:(ds.take m).flatten[j]? = some v):ds.flatten[j]? = some v:=by
 have:ds.flatten=(ds.take m).flatten++(ds.drop m).flatten:=XM
 rw[this,Yf (X2.1 h).1]
 exact h
theorem CF (hr:Rel H g w0 w) {y:A} {ys:List (List A)} {c:Value} {es:Nat} (h:els? H y=some ys) (hy:VR H g w y c) (hes:∀ cs∈ys,cs.length=es) :
  ∃ ds,bw H g w ys ds/\(∀ d∈ds,d.length=es)/\∀ w',(∀ a,w'.cell? a=w.cell? a)->(Builtin.lenOf c).run P w'=.ok ys.length w'/\∀ m,m<=ys.length->(Builtin.firstCells es m c).run P w'=.ok (ds.take m).flatten.toArray w':=by
 have lens:∀ {ds:List (List Value)},bw H g w ys ds->∀ d∈ds,d.length=es:=fun {ds} hv d hd=>by
  obtain ⟨i,hi,rfl⟩:=YR hd
  have hl:=hv.length
  obtain ⟨d',hd',hv'⟩:=hv.get (i:=i) (X3 j6)
  rw[X3 hi] at hd'
  cases hd'
  rw[hv'.length]
  exact hes _ (Y8 _)
 rcases vp hr h hy with ⟨s,rfl,rfl⟩ | ⟨a,cap,ds,es',rfl,h2,h3,h4,h5⟩
 ·simp only[els?,YK] at h
  have hv:bw H g w ys (s.data.toList.map fun b=>[.int .u8 b.toNat]):=by
   rw[<-h]
   refine da.2 ⟨r7,fun i a d ha hd=>?_⟩
   simp only[Yj,YE] at ha hd
   obtain ⟨b,hb,rfl⟩:=ha
   obtain ⟨b',hb',rfl⟩:=hd
   rw[hb] at hb'; cases hb'
   rw[bC]; exact⟨_,[],rfl,s8,H4⟩
  have hn:ys.length=s.size:=by rw[<-h,Zc,Z7]; rfl
  refine⟨_,hv,lens hv,fun w' _=>⟨by rw[hn]; rfl,fun m hm=>?_⟩⟩
  have e:(Array.map (fun b:UInt8=>Value.int IntKind.u8 (b.toNat:Int)) (s.extract 0 m).data)=((s.data.toList.map fun b=>[Value.int .u8 (b.toNat:Int)]).take m).flatten.toArray:=by
   rw[<-qao,nX]
   apply ZJ
   simp[ByteArray.data_extract,qao]
  simp only[Builtin.firstCells]
  rw[e]
  rfl
 ·refine⟨ds,h4,lens h4,fun w' hw'=>⟨rfl,fun m hm=>?_⟩⟩
  have hl:=h4.length
  cases a with
  | none=>
   have:ys.length=0:=by
    by_cases hp:0<ys.length
    ·obtain ⟨k,off,e1,_⟩:=h5 hp; cases e1
    ·omega
   obtain rfl:m=0:=j6
   simp[Builtin.firstCells]
  | some a=>
   refine qau (P:=P) w' es m a _ cap _ (jg (lens h4) j6) fun j v hj=>?_
   rw[hw']
   by_cases hp:0<ys.length
   ·obtain ⟨k,off,e1,hc⟩:=h5 hp
    cases e1
    rw[Zd]
    exact hc j v (u0 hj)
   ·obtain rfl:m=0:=by omega
    simp at hj
theorem bw.one {els:List (List A)} {ds:List (List Value)} (h:bw H g w els ds) (hc:∀ cs∈els,∀ a∈cs,a.cell=true):∀ x∈ds.flatten,x.oneCell'=true:=fun x hx=>by
 obtain ⟨d,hd,hxd⟩:=qa7.1 hx
 obtain ⟨i,hi,rfl⟩:=YR hd
 have hl:=h.length
 obtain ⟨d',hd',hv'⟩:=h.get (i:=i) (X3 j6)
 rw[X3 hi] at hd'
 cases hd'
 obtain ⟨j,hj,rfl⟩:=YR hxd
 have hl':=hv'.length
 obtain ⟨x',hx',hvx⟩:=hv'.get (i:=j) (X3 j6)
 rw[X3 hj] at hx'
 cases hx'
 exact th (hc _ (Y8 _) _ (Y8 _)) hvx
def isCells:Obj->Bool
 | .cells ..=>true
 | _=>false
theorem Rel.grow (hr:Rel H g w0 w) {b es:Nat} {els new:List (List A)} (hB:H[b]? = some (.row false es els)) {w':World} {γ:List (List Value)} {ko:Option Nat} (hbelow:Below w0.heap.size w w')
  (hcell:∀ k o v,fq H g k o->w.cell? ⟨k,o,none⟩=some v->w'.cell? ⟨k,o,none⟩=some v)
  (hobj:∀ k,k<w.heap.size->g.mu b≠some k->w'.heap[k]? = w.heap[k]?) (hkept:∀ (k:Nat) (o:Obj),w.heap[k]? = some o->isCells o=false->w'.heap[k]? = some o) (hsize:w.heap.size<=w'.heap.size)
  (hnew:bw (H.set b (.row false es (els++new))) (g.put b ko (g.ga b++γ)) w' new γ∨bw H g w new γ) (hγ:∀ d∈γ,d.length=es)
  (hko:(ko=g.mu b/\∀ k arr ty,g.mu b=some k->w.heap[k]? = some (.cells arr ty (0,0))->∃ arr',w'.heap[k]? = some (.cells arr' ty (0,0))/\arr.size<=arr'.size)∨(ko=some w.heap.size/\w.heap.size<w'.heap.size/\new≠[])) :
  Rel (H.set b (.row false es (els++new))) (g.put b ko (g.ga b++γ)) w0 w'/\Ext H g w (H.set b (.row false es (els++new))) (g.put b ko (g.ga b++γ)) w':=by
 have hlt:b<H.length:=(X2.1 hB).1
 have hlen:=(hr.blk b _ hB).len
 have hother:∀ c k,c≠b->g.mu c=some k->w'.heap[k]? = w.heap[k]?:=fun c k hc hk=>hobj k (hr.dom c k hk).2.2 fun h=>hc (hr.inj c b k hk h)
 have hkb:∀ k,ko=some k->g.mu b=some k∨k=w.heap.size:=fun k hk=>by
  rcases hko with ⟨h1,_⟩ | ⟨h1,_⟩
  ·exact .inl (h1 ▸ hk)
  ·rw[h1] at hk; cases hk; exact .inr rfl
 have he:Ext H g w (H.set b (.row false es (els++new))) (g.put b ko (g.ga b++γ)) w':=by
  refine⟨fun k o v hs hc=>⟨hcell k o v hs hc,hs.1,fun c hck=>?_⟩,fun c C hC=>?_,fun k x h=>hkept k _ h rfl,hsize,fun k arr cl hs hm=>⟨hkept k _ hm rfl,hs.1,fun c hck=>?_⟩,fun k hk hn=>hobj k hk (hn b),fun c k h=>?_⟩
  rotate_right 1
  ·by_cases e:c=b
   ·subst e
    rw[Gh.bP] at h
    rcases hkb k h with h1 | h1
    ·exact .inl ⟨c,h1⟩
    ·exact .inr (qav h1.symm)
   ·exact .inl ⟨c,by rwa [Gh.aQ _ _ _ e] at h⟩
  ·by_cases e:c=b
   ·subst e
    rw[Gh.bP] at hck
    refine⟨es,els++new,by rw[Ym hlt],?_⟩
    rcases hkb k hck with h1 | rfl
    ·obtain ⟨es',els',h2,h3⟩:=hs.2 c h1
     rw[hB] at h2; cases h2
     have:=ZB es (show els.length<=(els++new).length by simp)
     omega
    ·exact absurd (ZQ w ⟨_,o,none⟩ hc) r7
   ·rw[Gh.aQ _ _ _ e] at hck
    obtain ⟨es',els',h2,h3⟩:=hs.2 c hck
    exact⟨es',els',by rw[Yd (YW e)]; exact h2,h3⟩
  ·by_cases e:c=b
   ·subst e
    rw[hB] at hC; cases hC
    refine⟨.row false es (els++new),by rw[Ym hlt],rfl,⟨γ,Gh.iI _ _ _ _⟩,hlen,r7,fun hl=>?_⟩
    have hn0:new=[]:=by simpa using hl
    rcases hko with ⟨h1,h2⟩ | ⟨_,_,h3⟩
    ·exact⟨by rw[Gh.bP,h1],h2⟩
    ·exact absurd hn0 h3
   ·refine⟨C,by rw[Yd (YW e)]; exact hC,?_⟩
    cases C with
    | box _=>exact Gh.aQ _ _ _ e
    | row wr es' els'=>cases wr with
     | true=>exact⟨rfl,rfl,Gh.aQ _ _ _ e⟩
     | false=>exact⟨rfl,⟨[],by rw[Gh.fE _ _ _ e]; simp⟩,(hr.blk c _ hC).len,X1 _,fun _=>⟨Gh.aQ _ _ _ e,fun k arr ty hk ha=>⟨arr,(hother c k e hk).trans ha,X1 _⟩⟩⟩
    | rng _=>exact⟨Gh.aQ _ _ _ e,rfl⟩
    | mp _ _ _=>exact Gh.aQ _ _ _ e
    | dead=>trivial
    | hole=>trivial
  ·by_cases e:c=b
   ·subst e
    rw[Gh.bP] at hck
    refine⟨es,els++new,by rw[Ym hlt],?_⟩
    rcases hkb k hck with h1 | rfl
    ·obtain ⟨es',els',h2,h3⟩:=hs.2 c h1
     rw[hB] at h2; cases h2
     have:=ZB es (show els.length<=(els++new).length by simp)
     omega
    ·exact absurd (X5.1 hm).1 r7
   ·rw[Gh.aQ _ _ _ e] at hck
    obtain ⟨es',els',h2,h3⟩:=hs.2 c hck
    exact⟨es',els',by rw[Yd (YW e)]; exact h2,h3⟩
 have hsz:=hbelow.size
 refine⟨⟨hr.below.trans hbelow,fun c k hck=>?_,fun c d k h1 h2=>?_,hr.A8 he,hr.zA he,fun c C hC=>?_⟩,he⟩
 ·by_cases e:c=b
  ·subst e
   rw[Gh.bP] at hck
   rcases hko with ⟨h1,_⟩ | ⟨h1,h2,_⟩
   ·have:=hr.dom c k (h1 ▸ hck)
    exact⟨by simpa using this.1,this.2.1,j6⟩
   ·rw[h1] at hck; cases hck
    exact⟨by simpa using hlt,hr.below.size,h2⟩
  ·rw[Gh.aQ _ _ _ e] at hck
   have:=hr.dom c k hck
   exact⟨by simpa using this.1,this.2.1,j6⟩
 ·by_cases e:c=b
  ·by_cases e':d=b
   ·rw[e,e']
   ·subst e
    rw[Gh.bP] at h1
    rw[Gh.aQ _ _ _ e'] at h2
    rcases hkb k h1 with h | rfl
    ·exact hr.inj _ _ k h h2
    ·have:=(hr.dom d _ h2).2.2; omega
  ·by_cases e':d=b
   ·subst e'
    rw[Gh.bP] at h2
    rw[Gh.aQ _ _ _ e] at h1
    rcases hkb k h2 with h | rfl
    ·exact hr.inj _ _ k h1 h
    ·have:=(hr.dom c _ h1).2.2; omega
   ·rw[Gh.aQ _ _ _ e] at h1
    rw[Gh.aQ _ _ _ e'] at h2
    exact hr.inj c d k h1 h2
 ·by_cases e:c=b
  ·subst e
   rw[Ym hlt] at hC; cases hC
   obtain ⟨h1,h2⟩:=hr.blk c _ hB
   refine⟨?_,?_⟩
   ·rw[Gh.iI]
    exact(bw.ext he _ _ h1).append (hnew.elim id (fun h=>bw.ext he _ _ h))
   ·rw[Gh.iI]
    intro d hd
    rcases Y6.1 hd with hd | hd
    ·exact h2 d hd
    ·exact hγ d hd
  ·rw[Yd (YW e)] at hC
   have h:=hr.blk c C hC
   cases C with
   | box cs=>obtain ⟨k,arr,ty,h1,h2,h3⟩:=h; exact⟨k,arr,ty,(Gh.aQ _ _ _ e).trans h1,(hother c k e h1).trans h2,bC.ext he _ _ h3⟩
   | row wr es' els'=>cases wr with
    | true=>
     obtain ⟨ds,h1,h2,h3⟩:=h
     exact⟨ds,bw.ext he _ _ h1,h2,fun hp=>let ⟨k,arr,ty,e1,e2,e3⟩:=h3 hp; ⟨k,arr,ty,(Gh.aQ _ _ _ e).trans e1,(hother c k e e1).trans e2,e3⟩⟩
    | false=>
     obtain ⟨h1,h2⟩:=h
     refine⟨?_,?_⟩
     ·rw[Gh.fE _ _ _ e]; exact bw.ext he _ _ h1
     ·rw[Gh.fE _ _ _ e]; exact h2
   | rng st=>obtain ⟨k,h1,h2⟩:=h; exact⟨k,(Gh.aQ _ _ _ e).trans h1,(hother c k e h1).trans h2⟩
   | mp _ _ _=>obtain ⟨k,arr,cl,h1,h2,h3,h4⟩:=h; exact⟨k,arr,cl,(Gh.aQ _ _ _ e).trans h1,(hother c k e h1).trans h2,h3,bC.ext he _ _ h4⟩
   | dead=>exact(Gh.aQ _ _ _ e).trans h
   | hole=>exact(Gh.aQ _ _ _ e).trans h
theorem uO (hr:Rel H g w0 w) {t t2 ty:TypeId} {wr:Bool} {x y z:A} {cx cy:Value} {H':aB} {lo:Nat} (h:bp P t t2 wr x y H lo=some (z,H')) (hx:VR H g w x cx) (hy:VR H g w y cy):Step H g w0 w lo ((Builtin.append_ #[t,t2] ty #[cx,cy]).run P w) z H':=by
 unfold bp at h
 replace h:=bH h
 obtain ⟨e,he,h⟩:=h
 have hu:=kH he
 replace h:=bH h
 obtain ⟨es,hes,h⟩:=h
 replace h:=bH h
 obtain ⟨by_,hby,h⟩:=h
 replace h:=bH h
 obtain ⟨zz,hz,h⟩:=h
 replace h:=bH h
 obtain ⟨ys,hys,h⟩:=h
 replace h:=fe h
 obtain ⟨h0,h⟩:=h
 simp only[YO,Zx,Y4,ZS] at h0
 obtain ⟨⟨⟨h0,hb0⟩,h1⟩,h3⟩:=h0
 obtain ⟨it,v,hi,hv,rfl⟩:=gw hz
 obtain ⟨it',hi',hsz⟩:=gR hes
 rw[hi] at hi'; cases hi'
 have hvs:v.cells.size=es:=by simpa using h1
 have hbv:it.bytes=by_:=by unfold mS at hby; rw[hi] at hby; simpa using hby
 have hys3:∀ cs∈ys,cs.length=es/\∀ a∈cs,a.cell=true:=fun cs hcs=>by
  have:=Yb.1 h3 cs hcs
  simp only[XZ,Y4] at this
  exact⟨this.1,Yb.1 this.2⟩
 obtain ⟨ds,hvd,hld,hsA,hsB⟩:∃ ds,bw H g w ys ds/\(∀ d∈ds,d.length=es)/\Src P t2 it cy ys.length ds.flatten w w/\Src P t2 it cy ys.length ds.flatten w w.drew:=by
  unfold AE at hys
  rw[bG] at hys
  split at hys
  ·rename_i hn
   obtain ⟨ds,hvd,hld,hsrc⟩:=CF (P:=P) hr hys hy (fun cs hcs=>(hys3 cs hcs).1)
   obtain ⟨hlen,hfirst⟩:=hsrc w (fun _=>rfl)
   obtain ⟨_,hfirstd⟩:=hsrc w.drew (fun _=>r7)
   have hdl:=hvd.length
   have hall:(ds.take ys.length).flatten=ds.flatten:=by rw[YL j6]
   have hf:=hfirst ys.length (X1 _)
   have hfd:=hfirstd ys.length (X1 _)
   rw[hall,<-hsz] at hf hfd
   exact⟨ds,hvd,hld,.inl ⟨hn,hlen,hf⟩,.inl ⟨hn,hlen,hfd⟩⟩
  ·split at hys
   ·rename_i n
    replace hys:=br hys
    obtain ⟨hc,hys⟩:=hys
    simp only[XZ,X6] at hc
    obtain ⟨⟨⟨c1,c2⟩,c3⟩,c4⟩:=hc
    cases hys
    rw[VR] at hy
    subst hy
    unfold fg at c3 c4
    have hz0:0<v.cells.size:=j6
    have hb:n.toNat*it.bytes<=281474976710656:=by
     rw[hbv]
     have:((n.toNat*by_:Nat):Int)<=140737488355328:=by rw[qad,qat c2]; exact c3
     omega
    have hsrc:∀ w',Src P t2 it (.int .i64 n) (List.replicate n.toNat ((v.cells.toList.map A7).map zT)).length (List.replicate n.toNat v.cells.toList).flatten w w':=fun w'=>by
     rw[List.length_replicate]
     refine .inr ⟨v,c1,by rw[qat c2],hv,hb,j6,j6,?_⟩
     rw[<-oU v.cells n.toNat hz0]
     rfl
    refine⟨List.replicate n.toNat v.cells.toList,da.2 ⟨r7,fun i a d ha hd=>?_⟩,fun d hd=>by rw[(qac.1 hd).2]; simpa using hvs,hsrc w,hsrc w.drew⟩
    rw[ZA] at ha hd
    split at ha
    ·rename_i hlt; rw[X4 hlt] at hd; cases ha; cases hd; exact qN (jV _)
    ·cases ha
   ·cases hys
 have hdl:=hvd.length
 have hone:=hvd.one (fun cs hcs=>(hys3 cs hcs).2)
 have hfl:ds.flatten.length=ys.length*es:=by rw[cE hld,hdl]
 have small:∀ {n:Nat},(n+ys.length)*by_<=fg->n+ys.length<=9223372036854775807/\(n+ys.length)*it.bytes<=140737488355328:=fun {n} hl=>by
  unfold fg at hl
  refine⟨?_,by rw[hbv]; exact hl⟩
  have:(n+ys.length)*1<=(n+ys.length)*by_:=ZB _ j6
  omega
 have zero:∀ {n cap:Nat} {base:Option Addr},cx=.slice base n cap->n<=cap->ys.length=0->(Builtin.append_ #[t,t2] ty #[cx,cy]).run P w=.ok cx w:=fun {n cap base} hc hle hy0=>by
  subst hc
  have hd0:ds=[]:=Yl j6
  rw[hy0,hd0] at hsA
  exact rz hu hi hsA hle
 have grows:∀ {n cap:Nat} {base:Option Addr} {olds:List Value},cx=.slice base n cap->cap<n+ys.length->(n+ys.length)*by_<=fg->olds.length=n*es->(Builtin.firstCells es n (.slice base n cap)).run P w.drew=.ok olds.toArray w.drew ->
   ∃ c2 arr,(Builtin.append_ #[t,t2] ty #[cx,cy]).run P w=.ok (.slice (some ⟨w.heap.size,0,none⟩) (n+ys.length) c2) (w.drew.alloc (.cells arr e))/\n+ys.length<=c2/\c2*es<=arr.size/\∀ (j:Nat) x,(olds++ds.flatten)[j]? = some x->arr[j]? = some x:=fun {n cap base olds} hc hlt hl hol hfo=>by
  subst hc
  obtain ⟨s1,s2⟩:=small hl
  have hrun:=ry (P:=P) (ty:=ty) hu hi hv hsB (by rw[hsz]; exact hfo) hlt s1 (growslice_fits hlt s2)
  refine⟨_,_,hrun,qbH w _ _ _,?_,fun j x hj=>?_⟩
  ·have:=qbH w (n+ys.length) cap e
   simp only[Array.size_append,List.size_toArray,size_zeroCells,hvs,hol,hfl]
   rw[<-YS,<-YS]
   exact ZK _ j6
  ·have hlt:=(X2.1 hj).1
   rw[qan (by simpa using hlt)]
   have:(olds.toArray++ds.flatten.toArray)[j]? = (olds++ds.flatten)[j]?:=r7
   rw[this]; exact hj
 have hbd:∀ arr,Below w.heap.size w (w.drew.alloc (.cells arr e)):=fun arr=>((Below.refl _ w).drew).alloc (X1 _) _
 have hnew:∀ arr,(w.drew.alloc (.cells arr e)).heap[w.heap.size]? = some (.cells arr e (0,0)):=fun arr=>Zt w.drew _
 have fresh:∀ {n:Nat} {a:Option Addr} {xs:List (List A)} {xds:List (List Value)},cx=.slice a n n->xs.length=n->bw H g w xs xds->(∀ d∈xds,d.length=es)->(0<n->∃ k off,a=some ⟨k,off,none⟩/\bQ H g w k off xds.flatten)->(n+ys.length)*by_<=fg ->
   Step H g w0 w lo ((Builtin.append_ #[t,t2] ty #[cx,cy]).run P w) (.sl H.length 0 (n+ys.length) false) (H++[.row false es (xs++ys)]):=fun {n a xs xds} hc hxl hxv hxd hcell hl=>by
  have hxdl:=hxv.length
  have hlens:∀ d∈xds++ds,d.length=es:=fun d hd=>(Y6.1 hd).elim (hxd d) (hld d)
  have hall2:((xds++ds).drop 0).take (n+ys.length)=xds++ds:=by rw[Zi,YL r8]
  have hblk:∀ {ko:Option Nat} {w':World},Ext H g w (H++[.row false es (xs++ys)]) (g.put H.length ko (xds++ds)) w'->mH (H++[.row false es (xs++ys)]) (g.put H.length ko (xds++ds)) w' H.length (.row false es (xs++ys)):=fun {ko w'} he'=>
   ⟨by rw[Gh.iI]; exact(bw.ext he' _ _ hxv).append (bw.ext he' _ _ hvd),by rw[Gh.iI]; exact hlens⟩
  by_cases hy0:ys.length=0
  ·have hyn:ys=[]:=Yl hy0
   have hdn:ds=[]:=Yl j6
   obtain ⟨r1,r2⟩:=hr.push (Below.refl _ _) (.row false es (xs++ys)) none (xds++ds) (fun k hk=>by cases hk) (fun he'=>hblk he')
   refine⟨_,_,_,zero hc (X1 _) hy0,r1,r2,?_,r7,jk _ _ _,rfl⟩
   rw[VR,ew,Gh.iI,hall2]
   refine⟨r8,a,n,by rw[hc,hy0]; rfl,j6,fun h=>(by cases h),fun hp=>?_,fun _ _ _ h=>absurd h j6⟩
   obtain ⟨k,off,e1,e2⟩:=hcell j6
   exact⟨k,off,e1,by rw[hdn,YG] at r2 ⊢; exact e2.ext r2⟩
  ·have hfo:(Builtin.firstCells es n (.slice a n n)).run P w.drew=.ok xds.flatten.toArray w.drew:=by
    cases a with
    | none=>
     have hn0:n=0:=by
      by_cases hp:0<n
      ·obtain ⟨k,off,e1,_⟩:=hcell hp; cases e1
      ·omega
     have:xds=[]:=Yl j6
     subst this
     subst hn0
     simp[Builtin.firstCells]
    | some a=>
     refine qau (P:=P) w.drew es n a n n _ (by rw[cE hxd,hxdl,hxl]) fun j x hj=>?_
     by_cases hp:0<n
     ·obtain ⟨k,off,e1,hcc⟩:=hcell hp
      cases e1
      rw[Zd]; exact(hcc j x hj).1
     ·have:xds=[]:=Yl j6
      subst this
      simp at hj
   obtain ⟨c2,arr,hrun,k1,k2,k3⟩:=grows (olds:=xds.flatten) hc j6 hl (by rw[cE hxd,hxdl,hxl]) hfo
   obtain ⟨r1,r2⟩:=hr.push (hbd arr) (.row false es (xs++ys)) (some w.heap.size) (xds++ds) (fun k hk=>by cases hk; exact⟨rfl,r7⟩) (fun he'=>hblk he')
   refine⟨_,_,_,hrun,r1,r2,?_,r7,jk _ _ _,rfl⟩
   rw[VR,ew,Gh.iI,hall2]
   refine⟨r8,_,c2,rfl,k1,fun h=>(by cases h),fun _=>⟨w.heap.size,0,rfl,fun j x hj=>?_⟩,fun _ _ _ _=>⟨w.heap.size,arr,e,Gh.bP _ _ _ _,rfl,hnew arr,k2⟩⟩
   refine⟨by rw[YP,Zs _ _ j arr e (0,0) (hnew arr)]; exact k3 j x (by rw[<-ZR]; exact hj),hr.out _ _ (X1 _),fun b hb=>?_⟩
   have hbe:b=H.length:=by
    by_cases e':b=H.length
    ·exact e'
    ·rw[Gh.aQ _ _ _ e'] at hb; exact absurd (hr.dom b _ hb).2.2 (Z8 _)
   subst hbe
   refine⟨es,xs++ys,ew _ _,?_⟩
   have:=(X2.1 hj).1
   rw[cE hlens,Y9] at this
   simp only[Ye] at this ⊢
   rw[hxdl,hdl] at this
   omega
 split at h
 ·rename_i xs
  replace h:=fe h
  obtain ⟨hl,h⟩:=h
  have hl:(xs.length+ys.length)*by_<=fg:=by simpa using hl
  rw[VR] at hx
  obtain ⟨a,cap,xds,xes,rfl,g1,g2,g3,g4,g5⟩:=hx
  have hcap:=g2 rfl
  subst hcap
  rw[bG] at h
  split at h
  ·rename_i hemp
   simp only[XZ] at hemp
   obtain ⟨hwr,hemp⟩:=hemp
   subst hwr
   have hx0:xs=[]:=by simpa using hemp
   subst hx0
   cases h
   by_cases hy0:ys.length=0
   ·have hyn:ys=[]:=Yl hy0
    subst hyn
    have hdn:ds=[]:=Yl (by simpa using hdl)
    subst hdn
    have hrun:=zero rfl r7 rfl
    obtain ⟨r1,r2⟩:=hr.push (Below.refl _ _) (.row true es []) none [] (fun k hk=>by cases hk) (fun _=>⟨[],by rw[bw],r7,r7⟩)
    refine⟨_,_,_,hrun,r1,r2,?_,r7,jk _ _ _,rfl⟩
    rw[VR,ew]
    exact⟨r7,a,0,rfl,X1 _,fun _=>rfl,fun h=>absurd h r7⟩
   ·obtain ⟨c2,arr,hrun,k1,k2,k3⟩:=grows (olds:=[]) rfl r8 hl r7 (by
     cases a with
     | none=>simp[Builtin.firstCells]
     | some a=>exact qau (P:=P) w.drew es 0 a 0 _ [] r7 (fun j v hj=>by simp at hj))
    simp only[Z0,YP,Y5] at hrun k1 k3
    obtain ⟨r1,r2⟩:=hr.push (hbd arr) (.row true es ys) (some w.heap.size) [] (fun k hk=>by cases hk; exact⟨rfl,r7⟩) (fun he'=>⟨ds,bw.ext he' _ _ hvd,hld,fun _=>⟨w.heap.size,arr,e,Gh.bP _ _ _ _,hnew arr,k3⟩⟩)
    refine⟨_,_,_,hrun,r1,r2,?_,r7,jk _ _ _,rfl⟩
    rw[VR,ew]
    exact⟨r7,_,c2,rfl,k1,fun h=>(by cases h),fun _=>⟨w.heap.size,Gh.bP _ _ _ _,r7⟩⟩
  ·replace h:=br h
   obtain ⟨hxa,h⟩:=h
   cases h
   have hxes:∀ cs∈xs,cs.length=es/\∀ a∈cs,a.cell=true:=fun cs hcs=>by
    have:=Yb.1 hxa cs hcs
    simp only[XZ,Y4] at this
    exact⟨this.1,Yb.1 this.2⟩
   refine fresh rfl rfl g5 (fun d hd=>?_) g4 hl
   have hxp:0<xs.length:=by have:=ZX hd; have:=g5.length; omega
   obtain rfl:xes=es:=g5.lens g3 (X3 hxp) (hxes _ (Y8 _)).1
   exact g3 d hd
 ·rename_i b o n cl
  split at h
  ·rename_i es' els hb
   replace h:=fe h
   obtain ⟨hl,h⟩:=h
   simp only[YO,Zx,Y4,X6] at hl
   obtain ⟨⟨hl,hee⟩,hon⟩:=hl
   subst hee
   rw[VR,hb] at hx
   obtain ⟨_,a,cap,rfl,g1,g2,g3,g4⟩:=hx
   obtain ⟨hga,hgl⟩:=hr.blk b _ hb
   have hgll:=hga.length
   have hsub:∀ d∈((g.ga b).drop o).take n,d.length=es':=fun d hd=>hgl d (YC (Yr hd))
   have hsl:(((g.ga b).drop o).take n).length=n:=r8
   have holdr:(Builtin.firstCells es' n (.slice a n cap)).run P w.drew=.ok (((g.ga b).drop o).take n).flatten.toArray w.drew:=by
    cases a with
    | none=>
     have hn0:n=0:=by
      by_cases hp:0<n
      ·obtain ⟨k,off,e1,_⟩:=g3 hp; cases e1
      ·omega
     subst hn0
     simp[Builtin.firstCells]
    | some a=>
     refine qau (P:=P) w.drew es' n a n cap _ (by rw[cE hsub,hsl]) fun j x hj=>?_
     by_cases hp:0<n
     ·obtain ⟨k,off,e1,hc⟩:=g3 hp
      cases e1
      rw[Zd]; exact(hc j x hj).1
     ·obtain rfl:n=0:=by omega
      simp at hj
   rw[bG] at h
   split at h
   ·rename_i hcl
    subst hcl
    cases h
    have hcap:=g2 rfl
    subst hcap
    exact fresh rfl r8 ((hga.drop o).take cap) hsub g3 hl
   ·rename_i hcl
    have hcl:cl=false:=by simpa using hcl
    subst hcl
    replace h:=br h
    obtain ⟨hcc,h⟩:=h
    simp only[XZ,X6,Y4] at hcc
    obtain ⟨⟨hlo,ho0⟩,hnl⟩:=hcc
    subst ho0
    cases h
    have hlt:b<H.length:=(X2.1 hb).1
    have hgall:(g.ga b).take n=g.ga b:=YL j6
    rw[Zi,hgall] at g3 holdr hsub hsl
    have hsame:∀ (ko:Option Nat),(H.set b (.row false es' (els++ys)))[b]? = some (.row false es' (els++ys)):=fun _=>Ym hlt
    have htake:(((g.ga b++ds).drop 0).take (n+ys.length))=g.ga b++ds:=by rw[Zi,YL r8]
    by_cases hroom:n+ys.length<=cap
    ·by_cases hy0:ys.length=0
     ·
      have hyn:ys=[]:=Yl hy0
      subst hyn
      have hdn:ds=[]:=Yl (by simpa using hdl)
      subst hdn
      obtain ⟨r1,r2⟩:=hr.grow (new:=[]) (γ:=[]) (ko:=g.mu b) hb (Below.refl _ _) (fun _ _ _ _ h=>h) (fun _ _ _=>rfl) (fun _ _ h _=>h) (X1 _) (.inr (by rw[bw])) r7 (.inl ⟨rfl,fun k arr ty _ ha=>⟨arr,ha,X1 _⟩⟩)
      refine⟨_,_,_,zero rfl g1 rfl,r1,r2,?_,r7,oe _ _ hlo,rfl⟩
      refine VR.ext r2 _ _ ?_
      rw[VR,hb]
      refine⟨r8,a,cap,r7,by simpa using g1,fun h=>(by cases h),fun hp=>?_,fun _ _ _ hlt=>g4 rfl rfl hnl (by simpa using hlt)⟩
      obtain ⟨k,off,e1,e2⟩:=g3 (by simpa using hp)
      exact⟨k,off,e1,by simpa [hgall] using e2⟩
     ·
      obtain ⟨k,arr,ty',m1,m2,m3,m4⟩:=g4 rfl rfl hnl j6
      subst m2
      have hmul:(n+ys.length)*es'<=cap*es':=ZK _ hroom
      have hmul2:(n+ys.length)*es'=n*es'+ys.length*es':=YS _ _ _
      have hst:=qaY P k (n*es') ty' ds.flatten 0 arr w m3 (by simp[hfl]; omega) hone
      have hrun:=rA (P:=P) (ty:=ty) (a:=⟨k,0,none⟩) hu hi hsA hroom
      rw[Zd,YP,hsz,hst] at hrun
      simp only[Yt,Zr] at hrun
      obtain ⟨arr',harr'⟩:∃ arr':Array Value,arr'=(arr.toList.take (n*es')++ds.flatten++arr.toList.drop (n*es'+ds.flatten.length)).toArray:=⟨_,rfl⟩
      rw[<-harr'] at hrun
      have hsp:arr'.toList=bB arr.toList (n*es') ds.flatten:=by rw[harr']; rfl
      have hfit:n*es'+ds.flatten.length<=arr.toList.length:=by simp[hfl]; omega
      have hasz:arr'.size=arr.size:=by rw[<-Z7,hsp,jn _ _ _ hfit]; simp
      have hnk:(w.setRow k arr').heap[k]? = some (.cells arr' ty' (0,0)):=setRow_heap w k arr arr' ty' (0,0) m3
      have hok:∀ j,j≠k->(w.setRow k arr').heap[j]? = w.heap[j]?:=fun j hj=>setRow_other w k j arr' hj
      have hszw:(w.setRow k arr').heap.size=w.heap.size:=by simp[World.setRow]
      have hbw:Below w0.heap.size w (w.setRow k arr'):=⟨rfl,rfl,rfl,by rw[hszw]; exact X1 _,fun j hj=>hok j (by have:=(hr.dom b k m1).2.1; omega)⟩
      have harrg:∀ j,arr'[j]? = if n*es'<=j/\j<n*es'+ds.flatten.length then ds.flatten[j - n*es']? else arr[j]?:=fun j=>by
       rw[<-Yx,hsp,g7 _ _ _ _ hfit]; simp
      obtain ⟨r1,r2⟩:=hr.grow (new:=ys) (γ:=ds) (ko:=g.mu b) hb hbw (fun k' o v hs hc=>by
        by_cases e:k'=k
        ·subst e
         obtain ⟨es2,els2,q1,q2⟩:=hs.2 b m1
         rw[hb] at q1; cases q1
         rw[Zs _ _ o arr ty' (0,0) m3] at hc
         rw[Zs _ _ o arr' ty' (0,0) hnk,harrg,X8 (by rw[hnl,Y9]; omega)]
         exact hc
        ·exact(ZH (a:=⟨k',o,none⟩) (hok k' e)).trans hc) (fun k' _ hn=>hok k' (fun e=>hn (e ▸ m1))) (fun k' o ho hd=>(hok k' (fun e=>by subst e; rw[m3] at ho; cases ho; cases hd)).trans ho) (by rw[hszw]; exact X1 _) (.inr hvd) hld (.inl ⟨rfl,fun k' arr1 ty1 hk1 ha1=>by
        rw[m1] at hk1; cases hk1
        rw[m3] at ha1; cases ha1
        exact⟨arr',hnk,j6⟩⟩)
      refine⟨_,_,_,hrun,r1,r2,?_,r7,oe _ _ hlo,rfl⟩
      rw[VR,hsame none]
      refine⟨r8,_,cap,rfl,hroom,fun h=>(by cases h),fun _=>⟨k,0,rfl,?_⟩,fun _ _ _ _=>⟨k,arr',ty',by rw[Gh.bP,m1],rfl,hnk,j6⟩⟩
      rw[Gh.iI,htake,ZR]
      intro j x hj
      have hgfl:(g.ga b).flatten.length=n*es':=by rw[cE hsub,hsl]
      refine⟨?_,?_⟩
      ·rw[YP,Zs _ _ j arr' ty' (0,0) hnk,harrg]
       rw[ZI,hgfl] at hj
       split at hj
       ·rename_i hj1
        rw[X8 j6]
        have hn0:0<n:=by
         rcases qab n with h | h
         ·rw[h] at hj1; simp at hj1
         ·exact h
        obtain ⟨k',off',e1,e2⟩:=g3 hn0
        cases e1
        have:=(e2 j x hj).1
        rw[YP,Zs _ _ j arr ty' (0,0) m3] at this
        exact this
       ·rename_i hj1
        have:=(X2.1 hj).1
        rw[X4 j6]
        exact hj
      ·refine⟨by have h:=hr.own b k (0+j) m1; exact h,fun c hc=>?_⟩
       have hcb:c=b:=r1.inj c b k hc (by rw[Gh.bP,m1])
       subst hcb
       refine⟨es',els++ys,hsame none,?_⟩
       have:=(X2.1 hj).1
       rw[Ye,hgfl,hfl] at this
       simp only[Ye,qar]
       rw[Y9 es' els.length,Y9 es' ys.length,<-hnl]
       omega
    ·
     have hyp:ys≠[]:=fun e=>by subst e; simp at hroom; omega
     obtain ⟨c2,arr,hrun,k1,k2,k3⟩:=grows (olds:=(g.ga b).flatten) rfl j6 hl (by rw[cE hsub,hsl]) holdr
     obtain ⟨r1,r2⟩:=hr.grow (new:=ys) (γ:=ds) (ko:=some w.heap.size) hb ((hbd arr).mono hr.below.size) (fun k' o v _ hc=>((hbd arr).cell (p:=⟨k',o,none⟩) (ZQ w _ hc)).trans hc) (fun k' hk' _=>(hbd arr).block k' hk') (fun k' o ho _=>((hbd arr).block k' (X5.1 ho).1).trans ho) (hbd arr).size (.inr hvd) hld (.inr ⟨rfl,r7,hyp⟩)
     refine⟨_,_,_,hrun,r1,r2,?_,r7,oe _ _ hlo,rfl⟩
     rw[VR,hsame none]
     refine⟨r8,_,c2,rfl,k1,fun h=>(by cases h),fun _=>⟨w.heap.size,0,rfl,?_⟩,fun _ _ _ _=>⟨w.heap.size,arr,e,Gh.bP _ _ _ _,rfl,hnew arr,k2⟩⟩
     rw[Gh.iI,htake,ZR]
     intro j x hj
     refine⟨by rw[YP,Zs _ _ j arr e (0,0) (hnew arr)]; exact k3 j x hj,hr.out _ _ (X1 _),fun c hc=>?_⟩
     have hcb:c=b:=r1.inj c b _ hc (by rw[Gh.bP])
     subst hcb
     refine⟨es',els++ys,hsame none,?_⟩
     have:=(X2.1 hj).1
     rw[Ye,cE hsub,hsl,hfl] at this
     simp only[Ye,qar]
     rw[Y9 es' els.length,Y9 es' ys.length,<-hnl]
     omega
  ·cases h
 ·cases h
theorem Ge {t t2 ty e:TypeId} {es m n cap:Nat} {a:Option Addr} {c:Value} {news:List Value} (hu:P.underlying t=some (.slice e)) (hes:df P e=some es) (hlen:(Builtin.lenOf c).run P w=.ok m w) (hf:(Builtin.firstCells es (min m n) c).run P w=.ok news.toArray w) :
  (Builtin.copy_ #[t,t2] ty #[.slice a n cap,c]).run P w=match a with | none=>.ok (.int .i64 (min m n:Nat)) w | some a=>((storeCells a news).run P w).andThen fun _ w'=>.ok (.int .i64 (min m n:Nat)) w':=by
 have hs:=eB hes w
 have hf':(Builtin.firstCells es (Nat.min m n) c).run P w=.ok news.toArray w:=hf
 cases a with
 | none=>simp[Builtin.copy_,Ya hu,hlen,hs,hf',goInt]
 | some a=>simp[Builtin.copy_,Ya hu,hlen,hs,hf',goInt]
theorem yf (hr:Rel H g w0 w) {t t2 ty:TypeId} {x y z:A} {cx cy:Value} {H':aB} {lo:Nat} (h:rK P t x y H lo=some (z,H')) (hx:VR H g w x cx) (hy:VR H g w y cy):Step H g w0 w lo ((Builtin.copy_ #[t,t2] ty #[cx,cy]).run P w) z H':=by
 unfold rK at h
 replace h:=bH h
 obtain ⟨e,he,h⟩:=h
 have hu:=kH he
 replace h:=bH h
 obtain ⟨es,hes,h⟩:=h
 replace h:=bH h
 obtain ⟨ys,hys,h⟩:=h
 replace h:=fe h
 obtain ⟨h0,h⟩:=h
 simp only[YO,Zx,ZS] at h0
 have hys3:∀ cs∈ys,cs.length=es/\∀ a∈cs,a.cell=true:=fun cs hcs=>by
  have:=Yb.1 h0.2 cs hcs
  simp only[XZ,Y4] at this
  exact⟨this.1,Yb.1 this.2⟩
 obtain ⟨ds,hvd,hld,hsrc⟩:=CF (P:=P) hr hys hy (fun cs hcs=>(hys3 cs hcs).1)
 obtain ⟨hlen,hfirst⟩:=hsrc w (fun _=>rfl)
 have hdl:=hvd.length
 split at h
 ·rename_i b o n cl
  split at h
  ·rename_i es' els hb
   replace h:=br h
   obtain ⟨hc,h⟩:=h
   simp only[XZ,X6,Y4] at hc
   obtain ⟨hlo,rfl⟩:=hc
   cases h
   rw[VR,hb] at hx
   obtain ⟨hon,a,cap,rfl,g1,g2,g3⟩:=hx
   have hlt:b<H.length:=(X2.1 hb).1
   have hf:=hfirst (min ys.length n) (Nat.min_le_left _ _)
   have hrun:=Ge (P:=P) (t2:=t2) (ty:=ty) (a:=a) (cap:=cap) hu hes hlen hf
   have hxl:(ys.take n).length=min ys.length n:=by simp[Nat.min_comm]
   have htk:ds.take n=ds.take (min ys.length n):=by
    rw[<-hdl]
    rcases qa8 ds.length n with h | h
    ·rw[Zn h,YL h,YL (X1 _)]
    ·rw[Nat.min_eq_right h]
   by_cases hm:min ys.length n=0
   ·have hyt:ys.take n=[]:=Yl j6
    have hspl:bB els o (ys.take n)=els:=by rw[hyt]; simp[bB]
    have hset:H.set b (.row true es' (bB els o (ys.take n)))=H:=by
     rw[hspl]
     apply Zv
     intro c
     by_cases e:c=b
     ·subst e; rw[Ym hlt,hb]
     ·rw[Yd (YW e)]
    rw[hset]
    have hrun':(Builtin.copy_ #[t,t2] ty #[.slice a n cap,cy]).run P w=.ok (.int .i64 (min ys.length n:Nat)) w:=by
     rw[hrun]
     cases a with
     | none=>rfl
     | some a=>
      rw[hm]
      simp[storeCells]
    exact⟨_,_,g,hrun',hr,Ext.below hr (Below.refl _ _),s8,X1 _,fun _ _ _=>rfl,rfl⟩
   ·obtain ⟨k,hk,rfl⟩:=g3 j6
    obtain ⟨rds,hv,hl,hrow⟩:=hr.blk b _ hb
    obtain ⟨k',arr,ty',hk',har,hcell⟩:=hrow j6
    rw[hk] at hk'; cases hk'
    have hrl:=hv.length
    have hnl:(ds.take (min ys.length n)).flatten.length=min ys.length n*es':=jg hld j6
    have hone:∀ x∈(ds.take (min ys.length n)).flatten,x.oneCell'=true:=fun x hx=>by
     obtain ⟨d,hd,hxd⟩:=qa7.1 hx
     exact hvd.one (fun cs hcs=>(hys3 cs hcs).2) x (qa7.2 ⟨d,Yr hd,hxd⟩)
    have hfl:=cE hl
    have hmul:(o+min ys.length n)*es'<=rds.length*es':=ZK _ j6
    rw[YS] at hmul
    have hal:rds.flatten.length<=arr.size:=by
     by_cases hz:rds.flatten.length=0
     ·omega
     ·have:=hcell (rds.flatten.length - 1) _ (X3 j6)
      have:=(X5.1 this).1
      omega
    have hst:=qaY P k (o*es') ty' (ds.take (min ys.length n)).flatten 0 arr w har (by rw[hnl]; omega) hone
    simp only[Zr] at hst
    simp only[hst,Yt] at hrun
    obtain ⟨arr',harr'⟩:∃ arr':Array Value,arr'=(arr.toList.take (o*es')++(ds.take (min ys.length n)).flatten++arr.toList.drop (o*es'+(ds.take (min ys.length n)).flatten.length)).toArray:=⟨_,rfl⟩
    rw[<-harr'] at hrun
    have hsp:arr'.toList=bB arr.toList (o*es') (ds.take (min ys.length n)).flatten:=by rw[harr']; rfl
    have hdtl:(ds.take n).length=min ys.length n:=by rw[htk]; simp; omega
    obtain ⟨r1,r2⟩:=hr.write hk har (arr':=arr') (B':=.row true es' (bB els o (ys.take n))) hb (.inr ⟨es',els,_,rfl,rfl,by rw[jn _ _ _ j6]⟩) (fun he hnew=>by
     refine⟨bB rds o (ds.take n),?_,?_,fun _=>⟨k,arr',ty',hk,hnew,fun j x hj=>?_⟩⟩
     ·have h1:=bw.ext he _ _ hv
      have h2:=bw.ext he _ _ (hvd.take n)
      have h3:=h2.length
      unfold bB
      rw[h3]
      exact((h1.take o).append h2).append (h1.drop _)
     ·intro d hd
      unfold bB at hd
      rcases Y6.1 hd with hd | hd
      ·rcases Y6.1 hd with hd | hd
       ·exact hl d (Yr hd)
       ·exact hld d (Yr hd)
      ·exact hl d (YC hd)
     ·rw[nY o hl (fun d hd=>hld d (Yr hd)) j6,htk,g7 _ _ _ _ j6] at hj
      rw[<-Yx,hsp,g7 _ _ _ _ (by have:=hnl; simp only[Z7] at *; omega)]
      split at hj
      ·rename_i hin; rw[X4 hin]; exact hj
      ·rename_i hin; rw[X8 hin]; simpa using hcell j x hj)
    exact⟨_,_,g,hrun,r1,r2,s8,r7,oe _ _ hlo,rfl⟩
  ·cases h
 ·cases h
end
end Go.Proofs.YtdmgdjnadbakfaaGreat
