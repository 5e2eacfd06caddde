/-
 A slice that the call itself has built, by 'append': its elements read by a reader of laid values; what an append makes of it, as one run, and as a law for both walks.
-/
import Derived.Below
import Derived.ChangeArms
import Derived.Deep.Slices
import Derived.RangeFuncNested
import Derived.RangeFuncCalls
import Derived.RangeFuncLeaves
import Derived.OrdersIn
import Derived.TacticsIn
import Derived.Maps.AppendAt
import Derived.OwnWalkIn
import Derived.OwnWalk
namespace Go.Proofs.Ytdmgdjnadbakfaa
section
open Go.RowKit
def zb:Obj->Bool
 | .cells ..=>true
 | .map ..=>true
 | _=>false
def I7 (B:Nat) (w w':World):Prop:=∀ (k:Nat) (o:Obj),k<B->w.heap[k]? = some o->zb o=true->w'.heap[k]? = some o
structure Qj (α:Type) where
 k:Nat
 rd:Nat->World->List Value->α->Prop
 len:∀ {B:Nat} {w:World} {cs:List Value} {a:α},rd B w cs a->cs.length=k
 mono:∀ {B B':Nat} {w:World} {cs:List Value} {a:α},B<=B'->rd B w cs a->rd B' w cs a
 stab:∀ {B:Nat} {w w':World} {cs:List Value} {a:α},I7 B w w'->rd B w cs a->rd B w' cs a
end
section
open Go.RowKit
structure dJ (B:Nat) (W W':World):Prop where
 os:W'.os=W.os
 tape:W'.tape=W.tape
 output:W'.output=W.output
 size:W.heap.size<=W'.heap.size
 low:∀ (k:Nat),k<B->k<W.heap.size->W'.heap[k]? = W.heap[k]?
 data:∀ (k:Nat) (o:Obj),W.heap[k]? = some o->zb o=true->W'.heap[k]? = some o
theorem dJ.refl (B:Nat) (W:World):dJ B W W:=⟨rfl,rfl,rfl,Nat.le_refl _,fun _ _ _=>rfl,fun _ _ h _=>h⟩
theorem dJ.trans {B:Nat} {X Y Z:World} (h:dJ B X Y) (k:dJ B Y Z):dJ B X Z :=
 ⟨k.os.trans h.os,k.tape.trans h.tape,k.output.trans h.output,Nat.le_trans h.size k.size,fun i hi hs=>(k.low i hi (Nat.lt_of_lt_of_le hs h.size)).trans (h.low i hi hs),fun i o hi ho=>k.data i o (h.data i o hi ho) ho⟩
theorem dJ.putObj {B:Nat} {W:World} {l:Nat} {o:Obj} (o':Obj) (hB:B<=l) (hl:W.heap[l]? = some o) (ho:zb o=false):dJ B W (W.putObj l o') :=
 ⟨rfl,rfl,rfl,by simp,fun k hk _=>World.putObj_heap_other (by omega),fun k _ hk hd=>by
  by_cases e:k=l
  ·subst e; rw[hl] at hk; cases hk; rw[ho] at hd; cases hd
  ·exact(World.putObj_heap_other e).trans hk⟩
def Calm (B:Nat) (I:World->Prop):Prop:=∀ W W',I W->dJ B W W'->I W'
theorem Calm.cell {B:Nat} (a:Addr) (v:Value):Calm B fun W=>W.cell? a=some v:=fun W W' h hc=>by
 have h1:W.cell? a=some v:=h
 obtain ⟨o,ho,hc1⟩:=cells_of_cell h1
 have h2:=hc.data _ _ ho (by cases o<;>first | rfl | (cases hc1))
 show W'.cell? a=some v
 rw[<-h1]
 exact World.cell?_of_block (h2.trans ho.symm)
theorem Calm.below {B n₀:Nat} {w:World} (hn:n₀<=w.heap.size) (hB:n₀<=B):Calm B fun W=>Below n₀ w W:=fun W W' h hc =>
 h.trans ⟨hc.os,hc.tape,hc.output,hc.size,fun k hk=>hc.low k (by omega) (by have:=h.size; omega)⟩
def zV (F:Fence):Prop:=F.depth=none/\∀ f,F.fn f
variable {F:Fence} {n:Nat} {P:Program}
def Marks (B:Nat) (W:World) (ds:List Deferred):Prop:=∃ rs:List Nat,ds=rs.map (fun r=>{ target:=.collected r,args:=#[] })/\rs.Nodup/\∀ r∈rs,B<=r/\W.heap[r]? = some (.deferred (some []))
theorem Marks.nil (B:Nat) (W:World):Marks B W []:=⟨[],rfl,List.nodup_nil,fun _ h=>by cases h⟩
theorem Marks.cons {B D:Nat} {W:World} {ds:List Deferred} (h:Marks B W ds) (hD:B<=D) (hW:W.heap[D]? = some (.deferred (some []))) (hn:∀ r,(⟨.collected r,#[]⟩:Deferred)∈ds->r≠D):Marks B W ({ target:=.collected D,args:=#[] } :: ds):=by
 obtain ⟨rs,rfl,h2,h3⟩:=h
 refine⟨D :: rs,rfl,List.nodup_cons.2 ⟨fun hm=>hn D (List.mem_map.2 ⟨D,hm,rfl⟩) rfl,h2⟩,fun r hr=>?_⟩
 rcases List.mem_cons.1 hr with rfl | hr
 ·exact⟨hD,hW⟩
 ·exact h3 r hr
theorem Marks.lt {B:Nat} {W:World} {ds:List Deferred} (h:Marks B W ds) {r:Nat} (hr:(⟨.collected r,#[]⟩:Deferred)∈ds):r<W.heap.size:=by
 obtain ⟨rs,rfl,h2,h3⟩:=h
 obtain ⟨q,hq,e⟩:=List.mem_map.1 hr
 cases e
 exact(Array.getElem?_eq_some_iff.1 (h3 _ hq).2).1
end
section
def xK (F:Fence) (n:Nat) (P:Program) (o:Oper) (ev:Operand->Value) (w:World) (R:Value->World->Prop):Prop :=
 match (execOp ev o).run P w with
 | .ok (.value v) w'=>R v w'
 | .ok .skip w'=>R undef w'
 | .ok (.enter f args) w'=>CallsIn F (n - 1) P f args w' fun
   | .returned v,w''=>R v w''
   | _,_=>False
 | .ok (.row row args) w'=>RowsIn F (n - 1) P row args w' R
 | .ok (.round l f tmps assign body) w'=>RoundIn F (n - 1) P l f tmps assign body w' fun
   | .returned v,w''=>R v w''
   | _,_=>False
 | _=>False
theorem xK.mono {F:Fence} {n:Nat} {P:Program} {o:Oper} {ev:Operand->Value} {w:World} {R R':Value->World->Prop} (h:xK F n P o ev w R) (hr:∀ v w',R v w'->R' v w'):xK F n P o ev w R':=by
 unfold xK at *
 generalize (execOp ev o).run P w=r at *
 cases r with
 | ok x w' =>
  cases x<;>simp only at h ⊢<;>first
   | exact hr _ _ h
   | exact h.mono fun e w'' he=>by cases e<;>first | exact hr _ _ he | exact he
   | exact h.mono fun v w'' he=>hr _ _ he
 | halt x w'=>exact h
def slot (a:Act) (t:Nat):Value:=a.tmps.getD t undef
def cw (ops:Array Oper) (i:Nat):Option Nat:=(ops[i]?).bind (·.dst)
def fe (ops:Array Oper) (i j:Nat):Bool:=((Region.before ops).getD i 0).testBit j
def mj (o:Oper):Bool:=match o.op with | .select ..=>false | .defer _=>false | _=>true
def tu (ops:Array Oper) (N:Nat):Bool :=
 (List.range ops.size).all fun i=>match ops[i]? with
  | none=>true
  | some o=>mj o&&(match o.dst with | some d=>decide (d<N) | none=>true) &&
   (o.after.all fun e=>!Region.binds .any e || decide (e.on<i)) &&
   ((List.range ops.size).all fun j=>i==j || o.dst.isNone || cw ops j != o.dst) &&
   ((List.range ops.size).all fun j=>match cw ops j with
    | none=>true
    | some t=>!(o.looksAt ops).contains t || i==j || fe ops i j || fe ops j i) &&
   !fe ops i i
def ew (_ops:Array Oper) (listed:Array Bool) (i:Nat):Prop:=listed.getD i false=true
variable {F:Fence} {n:Nat} {P:Program} {ops:Array Oper} {Q:Exit->Act->World->Prop}
inductive nZ (ops:Array Oper):Nat->Nat->Prop
 | edge {i:Nat} {o:Oper} {e:Edge} (ho:ops[i]? = some o) (he:e∈o.after) (hb:Region.binds .any e=true):nZ ops i e.on
 | thru {i j:Nat} {o:Oper} {e:Edge} (ho:ops[i]? = some o) (he:e∈o.after) (hb:Region.binds .any e=true) (h:nZ ops e.on j):nZ ops i j
theorem rq (acc:Array Nat) (hacc:∀ i j,(acc.getD i 0).testBit j=true->nZ ops i j) {i:Nat} {o:Oper} (ho:ops[i]? = some o) :
  ∀ (l:List Edge) (s:Nat),(∀ e∈l,e∈o.after)->(∀ j,s.testBit j=true->nZ ops i j)->∀ j,(l.foldl (fun s e=>if Region.binds .any e then s ||| 2 ^ e.on ||| acc.getD e.on 0 else s) s).testBit j=true->nZ ops i j
 | [],s,_,hs,j,h=>hs j h
 | e :: l,s,hl,hs,j,h=>by
  rw[List.foldl_cons] at h
  refine rq acc hacc ho l _ (fun e he=>hl e (by simp[he])) (fun j hj=>?_) j h
  split at hj
  ·rename_i hb
   rw[Nat.testBit_or,Nat.testBit_or,Bool.or_eq_true,Bool.or_eq_true] at hj
   rcases hj with (hj | hj) | hj
   ·exact hs j hj
   ·rw[Nat.testBit_two_pow] at hj
    obtain rfl:e.on=j:=by simpa using hj
    exact .edge ho (hl e (by simp)) hb
   ·exact .thru ho (hl e (by simp)) hb (hacc _ _ hj)
  ·exact hs j hj
theorem fx (i j:Nat) (h:fe ops i j=true):nZ ops i j:=by
 unfold fe Region.before at h
 rw[<-Array.foldl_toList] at h
 have key:∀ (l:List Oper) (k:Nat) (acc:Array Nat),(∀ m,l[m]? = ops[k+m]?)->acc.size=k->(∀ i j,(acc.getD i 0).testBit j=true->nZ ops i j) ->
   ∀ i j,((l.foldl (fun acc o=>acc.push (o.after.foldl (fun s e=>if Region.binds .any e then s ||| 2 ^ e.on ||| acc.getD e.on 0 else s) 0)) acc).getD i 0).testBit j=true->nZ ops i j:=by
  intro l
  induction l with
  | nil=>intro k acc _ _ hacc i j h; exact hacc i j h
  | cons o l ih =>
   intro k acc hl hk hacc i j h
   refine ih (k+1) _ (fun m=>by have:=hl (m+1); simpa [Nat.add_assoc,Nat.add_comm 1 m] using this) (by simp[hk]) (fun i j hij=>?_) i j h
   have ho:ops[k]? = some o:=by simpa using (hl 0).symm
   by_cases e:i=acc.size
   ·subst e
    rw[hk]
    have e2:∀ X:Nat,(acc.push X).getD acc.size 0=X:=fun X=>by simp
    rw[e2,<-Array.foldl_toList] at hij
    exact rq acc hacc ho _ 0 (fun e he=>Array.mem_toList_iff.1 he) (fun j hj=>by simp at hj) j hij
   ·refine hacc i j ?_
    have:(acc.push (o.after.foldl (fun s e=>if Region.binds .any e then s ||| 2 ^ e.on ||| acc.getD e.on 0 else s) 0)).getD i 0=acc.getD i 0:=by
     simp only[Array.getD_eq_getD_getElem?,Array.getElem?_push,if_neg e]
    rw[this] at hij; exact hij
 exact key ops.toList 0 #[] (by simp) rfl (fun i j h=>by simp at h) i j h
theorem kD {listed:Array Bool} (hcl:∀ i o,ops[i]? = some o->ew ops listed i->∀ e∈o.after,Region.binds .any e=true->ew ops listed e.on)
  (i j:Nat) (hi:∃ o,ops[i]? = some o/\∀ e∈o.after,Region.binds .any e=true->ew ops listed e.on) (h:fe ops i j=true):ew ops listed j:=by
 have hw:=fx i j h
 clear h
 induction hw with
 | edge ho he hb =>
  obtain ⟨o',ho',hall⟩:=hi
  rw[ho] at ho'; cases ho'
  exact hall _ he hb
 | thru ho he hb hw ih =>
  obtain ⟨o',ho',hall⟩:=hi
  rw[ho] at ho'; cases ho'
  refine ih ?_
  have hc:=hall _ he hb
  cases hw with
  | edge ho2 _ _=>exact⟨_,ho2,hcl _ _ ho2 hc⟩
  | thru ho2 _ _ _=>exact⟨_,ho2,hcl _ _ ho2 hc⟩
theorem filter_lt {α:Type} (p q:α->Bool):∀ l:List α,(∀ x∈l,q x=true->p x=true)->(∃ x∈l,p x=true/\q x=false)->(l.filter q).length<(l.filter p).length
 | [],_,⟨x,hx,_⟩=>by cases hx
 | y :: l,h,⟨x,hx,hp,hq⟩=>by
  have hle:(l.filter q).length<=(l.filter p).length:=by
   clear hx hp hq
   induction l with
   | nil=>simp
   | cons z l ih =>
    have hz:=h z (by simp)
    have:=ih (fun x hx=>h x (by rcases List.mem_cons.1 hx with rfl | hx; simp; simp[hx]))
    simp only[List.filter_cons]
    cases hqz:q z<;>cases hpz:p z<;>simp<;>first | omega | skip
    rw[hz hqz] at hpz; cases hpz
  have hy:=h y (by simp)
  simp only[List.filter_cons]
  rcases List.mem_cons.1 hx with rfl | hx
  ·rw[hp,hq]; simp; omega
  ·have:=filter_lt p q l (fun x hx=>h x (by simp[hx])) ⟨x,hx,hp,hq⟩
   cases hqy:q y<;>cases hpy:p y<;>simp<;>first | omega | skip
   rw[hy hqy] at hpy; cases hpy
def AZ (ops:Array Oper) (listed:Array Bool):Nat:=((List.range ops.size).filter fun i=>!listed.getD i true).length
theorem eZ {a:Act} {d:Nat} {v:Value} (h:d<a.tmps.size):slot (a.put (some d) v) d=v:=by
 simp[slot,Act.put,h]
theorem dF {a:Act} {dst:Option Nat} {t:Nat} {v:Value} (h:dst≠some t):slot (a.put dst v) t=slot a t:=by
 cases dst with
 | none=>rfl
 | some d =>
  have hne:d≠t:=fun e=>h (by rw[e])
  simp[slot,Act.put,Array.getElem?_setIfInBounds_ne hne]
theorem kf (hWF:zV F) {i:Nat} {o:Oper} (ho:ops[i]? = some o) (hp:mj o=true) {a:Act} {w:World} {K:Act->World->Prop} {R:Value->World->Prop}
  (h:if Region.wanted o (yielded ops a.tmps)=true then xK F n P o a.eval w R else R undef w) (hK:∀ v w',R v w'->K (a.put o.dst v) w'):wpOpIn F n P ops Q i K a w:=by
 unfold wpOpIn
 simp only[ho]
 split
 ·rename_i hw
  rw[if_pos hw] at h
  refine⟨fun f _=>hWF.2 f,?_⟩
  rw[Oper.semAt_eq _ _ _ (fun c hc=>by unfold mj at hp; rw[hc] at hp; cases hp)]
  unfold xK at h
  generalize (execOp a.eval o).run P w=r at *
  have hd:F.depth.isSome=true->1<=n:=fun hs=>by rw[hWF.1] at hs; cases hs
  cases r with
  | ok x w' =>
   cases x<;>simp only[Oper.uponIn] at h ⊢<;>first
    | exact hK _ _ h
    | exact⟨hd,h.mono fun e w'' he=>by cases e<;>first | exact hK _ _ he | exact he.elim⟩
    | exact⟨hd,h.mono fun v w'' he=>hK _ _ he⟩
    | exact h.elim
  | halt x w'=>exact h.elim
 ·rename_i hw
  rw[if_neg hw] at h
  exact⟨fun f _=>hWF.2 f,hK _ _ h⟩
def rN (ops:Array Oper) (k:Nat):Array Bool:=((List.range ops.size).map fun i=>decide (i<k)).toArray
def fa (ops:Array Oper) (m:Nat):Bool:=decide (m<=ops.size)&&((List.range ops.size).all fun i=>decide (i<m) || (List.range m).all fun j=>fe ops i j)&&(List.range (ops.size+1)).all fun k=>decide (k<m) || (Region.ready .any ops (rN ops k)==if k<ops.size then [k] else [])
theorem tY {listed:Array Bool} {k:Nat} (hls:listed.size=ops.size) (hc:∀ i,i<ops.size->(ew ops listed i↔i<k)):listed=rN ops k:=by
 refine Array.ext (by simp[rN,hls]) fun i h1 h2=>?_
 have:=hc i (by omega)
 unfold ew at this
 simp only[rN,List.getElem_toArray,List.getElem_map,List.getElem_range]
 have e:listed.getD i false=listed[i]:=by simp[h1]
 rw[e] at this
 cases h:listed[i] with
 | true=>rw[h] at this; simpa using this.1 rfl
 | false=>rw[h] at this; simp at this; simp; exact this
theorem pR {m:Nat} (ht:fa ops m=true) :
  ∀ (r k:Nat),k+r=ops.size->m<=k->∀ (fuel:Nat) (listed:Array Bool) (a:Act) (w:World),r<=fuel->listed.size=ops.size->(∀ i,i<ops.size->(ew ops listed i↔i<k)) ->
   wpListIn F n P ops Q (ops.toList.drop k) a w->wpAnyIn F n P .any ops Q fuel listed a w:=by
 have hready:∀ k,k<=ops.size->m<=k->Region.ready .any ops (rN ops k)=if k<ops.size then [k] else []:=fun k hk hm=>by
  simp only[fa,Bool.and_eq_true] at ht
  have:=List.all_eq_true.1 ht.2 k (List.mem_range.2 (by omega))
  simp only[Bool.or_eq_true,decide_eq_true_eq,beq_iff_eq] at this
  exact this.resolve_left (by omega)
 intro r
 induction r with
 | zero =>
  intro k hk hm fuel listed a w _ hls hc h
  have e:=tY hls hc
  have hr:Region.ready .any ops listed=[]:=by rw[e,hready k (by omega) hm,if_neg (by omega)]
  rw[List.drop_of_length_le (by simp; omega)] at h
  exact wpAnyIn_done hr h fuel
 | succ r ih =>
  intro k hk hm fuel listed a w hf hls hc h
  have e:=tY hls hc
  have hr:Region.ready .any ops listed=[k]:=by rw[e,hready k (by omega) hm,if_pos (by omega)]
  obtain ⟨fuel,rfl⟩:∃ f,fuel=f+1:=⟨fuel - 1,by omega⟩
  have hlt:k<ops.toList.length:=by simp; omega
  rw[List.drop_eq_getElem_cons hlt] at h
  have ho:ops[k]? = some ops.toList[k]:=by rw[Array.getElem_toList]; exact Array.getElem?_eq_getElem _
  refine wpAnyIn_all hr (by simp) fun i hi=>?_
  obtain rfl:i=k:=by simpa using hi
  unfold wpOpIn
  simp only[ho]
  have next:∀ a w,wpListIn F n P ops Q (ops.toList.drop (i+1)) a w->wpAnyIn F n P .any ops Q fuel (listed.setIfInBounds i true) a w:=fun a w h'=>by
   refine ih (i+1) (by omega) (by omega) fuel _ a w (by omega) (by simpa using hls) (fun j hj=>?_) h'
   by_cases e:j=i
   ·subst e; unfold ew; simp[hls,hj]
   ·have:=hc j hj
    unfold ew at this ⊢
    rw[getD_set_ne false (Ne.symm e),this]; omega
  unfold wpListIn at h
  split
  ·rename_i hw; rw[if_pos hw] at h; exact Oper.wpIn_mono next h
  ·rename_i hw; rw[if_neg hw] at h; exact⟨h.1,next _ _ h.2⟩
def LW (F:Fence) (n:Nat) (P:Program) (ops:Array Oper) (Q:Exit->Act->World->Prop) (a:Act) (w:World):Prop:=∀ t,wpOpsIn F n P ops Q (Region.schedule (P.follows .mixedOrders) ops t) a { w with drawn:=w.drawn+1 }
theorem LW.wpIn {id:Nat} {a:Act} {w:World} (h:LW F n P ops Q a w):(Code.region id ops true).wpIn F n P Q a w:=wpIn_region_draw h
theorem BZ {a:Act} {w:World} (hm:P.follows .mixedOrders=true) (h:wpAnyIn F n P .any ops Q ops.size (Array.replicate ops.size false) a { w with drawn:=w.drawn+1 }):LW F n P ops Q a w:=fun t=>by
 simp only[Region.schedule,hm,Bool.true_or,if_true]
 exact wpAnyIn_sound ops.size t _ a _ h
theorem BL {a0:Act} {w0:World} (hWF:zV F) (hm:P.follows .mixedOrders=true) (N m:Nat) (hN:a0.tmps.size=N) (iq:tu ops N=true) (chkt:fa ops m=true)
  (S:World->Prop) (Ext:World->World->Prop) (V:Nat->Value->World->Prop) (hV:∀ i v w w',V i v w->Ext w w'->V i v w') (hS:S w0.drew)
  (hstep:∀ i o,i<m->ops[i]? = some o->∀ (a:Act) (w:World),S w ->
   (∀ t∈o.looksAt ops,∀ j,cw ops j=some t->fe ops i j=true->V j (slot a t) w) ->
   (∀ t∈o.looksAt ops,(∀ j,cw ops j=some t->fe ops i j=false)->slot a t=slot a0 t)->a.tmps.size=N ->
   if Region.wanted o (yielded ops a.tmps)=true then xK F n P o a.eval w (fun v w'=>V i v w'/\S w'/\Ext w w') else V i undef w/\S w/\Ext w w)
  (hend:∀ (a:Act) (w:World),S w->a.defers=a0.defers->a.tmps.size=N->(∀ i t,i<m->cw ops i=some t->V i (slot a t) w)->(∀ t,(∀ i,i<m->cw ops i≠some t)->slot a t=slot a0 t) ->
   (∀ i o,i<m->ops[i]? = some o->o.dst=none->∃ v,V i v w)->wpListIn F n P ops Q (ops.toList.drop m) a w) :
  LW F n P ops Q a0 w0:=by
 have chk1:∀ i o,ops[i]? = some o->mj o=true/\(∀ d,o.dst=some d->d<N)/\(∀ e∈o.after,Region.binds .any e=true->e.on<i)/\(∀ j d,i≠j->o.dst=some d->cw ops j≠some d) ∧
   (∀ j t,cw ops j=some t->t∈o.looksAt ops->i=j∨fe ops i j=true∨fe ops j i=true)/\fe ops i i=false:=by
  intro i o ho
  have hi:i<ops.size:=(Array.getElem?_eq_some_iff.1 ho).1
  have h:=List.all_eq_true.1 iq i (List.mem_range.2 hi)
  simp only[ho,Bool.and_eq_true] at h
  obtain ⟨⟨⟨⟨⟨h1,h2⟩,h3⟩,h4⟩,h5⟩,h6⟩:=h
  refine⟨h1,fun d hd=>by rw[hd] at h2; simpa using h2,fun e he hb=>?_,fun j d hij hd hj=>?_,fun j t hj ht=>?_,by simpa using h6⟩
  ·have:=Array.all_eq_true_iff_forall_mem.1 h3 e he
   rw[hb] at this; simpa using this
  ·have hjs:j<ops.size:=by
    unfold cw at hj
    cases hx:ops[j]? with
    | none=>rw[hx] at hj; cases hj
    | some _=>exact(Array.getElem?_eq_some_iff.1 hx).1
   have:=List.all_eq_true.1 h4 j (List.mem_range.2 hjs)
   rw[hd,hj] at this
   simp at this
   exact hij this
  ·have hjs:j<ops.size:=by
    unfold cw at hj
    cases hx:ops[j]? with
    | none=>rw[hx] at hj; cases hj
    | some _=>exact(Array.getElem?_eq_some_iff.1 hx).1
   have:=List.all_eq_true.1 h5 j (List.mem_range.2 hjs)
   rw[hj] at this
   simp[ht] at this
   rcases this with (h | h) | h
   ·exact .inl h
   ·exact .inr (.inl h)
   ·exact .inr (.inr h)
 have hm2:m<=ops.size:=by simp only[fa,Bool.and_eq_true,decide_eq_true_eq] at chkt; exact chkt.1.1
 have main:∀ (fuel:Nat) (listed:Array Bool) (a:Act) (w:World),AZ ops listed<=fuel->listed.size=ops.size->S w->a.defers=a0.defers->a.tmps.size=N ->
   (∀ i o,ops[i]? = some o->ew ops listed i->∀ e∈o.after,Region.binds .any e=true->ew ops listed e.on)->(∀ i,m<=i->i<ops.size->¬ ew ops listed i) ->
   (∀ i t,i<m->cw ops i=some t->ew ops listed i->V i (slot a t) w)->(∀ t,(∀ i,i<m->cw ops i=some t->¬ ew ops listed i)->slot a t=slot a0 t) ->
   (∀ i o,i<m->ops[i]? = some o->o.dst=none->ew ops listed i->∃ v,V i v w)->wpAnyIn F n P .any ops Q fuel listed a w:=by
  have getD_eq:∀ (listed:Array Bool) (i:Nat),i<listed.size->listed.getD i true=listed.getD i false:=fun listed i hi=>by simp[hi]
  intro fuel
  induction fuel with
  | zero =>
   intro listed a w hu hls hSw hdf hsz hcl hnt hv hno hns
   have all:∀ i,i<ops.size->ew ops listed i:=fun i hi=>by
    cases hc:listed.getD i false with
    | true=>exact hc
    | false =>
     have hmem:i∈(List.range ops.size).filter (fun i=>!listed.getD i true):=List.mem_filter.2 ⟨List.mem_range.2 hi,by rw[getD_eq _ _ (by omega),hc]; rfl⟩
     have:=List.length_pos_of_mem hmem
     unfold AZ at hu; omega
   have hmm:m=ops.size:=Nat.le_antisymm hm2 (Nat.le_of_not_lt fun h=>hnt m (Nat.le_refl _) h (all m h))
   exact pR chkt 0 ops.size (by omega) hm2 0 listed a w (Nat.le_refl _) hls (fun i hi=>⟨fun _=>hi,fun _=>all i hi⟩)
    (by rw[<-hmm]; exact hend a w hSw hdf hsz (fun i t hi h=>hv i t hi h (all i (by omega))) (fun t h=>hno t (fun i hi hi2=>absurd hi2 (h i hi))) (fun i o hi ho hd=>hns i o hi ho hd (all i (by omega))))
  | succ fuel ih =>
   intro listed a w hu hls hSw hdf hsz hcl hnt hv hno hns
   by_cases hall:∀ i,i<m->ew ops listed i
   ·refine pR chkt (ops.size - m) m (by omega) (Nat.le_refl _) (fuel+1) listed a w ?_ hls (fun i hi=>⟨fun h=>Nat.lt_of_not_le fun hle=>hnt i hle hi h,fun h=>hall i h⟩)
     (hend a w hSw hdf hsz (fun i t hi h=>hv i t hi h (hall i hi)) (fun t h=>hno t (fun i hi hi2=>absurd hi2 (h i hi))) (fun i o hi ho hd=>hns i o hi ho hd (hall i hi)))
    refine Nat.le_trans ?_ hu
    unfold AZ
    have:((List.range ops.size).filter fun i=>decide (m<=i)).length=ops.size - m:=by
     rw[<-List.countP_eq_length_filter]
     have:∀ s,(List.range s).countP (fun i=>decide (m<=i))=s - m:=by
      intro s
      induction s with
      | zero=>simp
      | succ s ih=>rw[List.range_succ,List.countP_append,ih]; simp[List.countP_cons]; split<;>omega
     exact this _
    rw[<-this]
    rw[<-List.countP_eq_length_filter,<-List.countP_eq_length_filter]
    refine List.countP_mono_left fun i hi h=>?_
    have hi:=List.mem_range.1 hi
    have hn:=hnt i (by simpa using h) hi
    unfold ew at hn
    rw[getD_eq _ _ (by omega)]
    simpa using hn
   ·simp only[Classical.not_forall] at hall
    obtain ⟨i0,hi0,hni0⟩:=hall
    refine⟨fun hrd=>?_,fun i hi=>?_⟩
    ·exfalso
     have:∀ i,i<m->ew ops listed i:=by
      intro i
      induction i using Nat.strongRecOn with
      | _ i ih2 =>
       intro hi
       cases hc:listed.getD i false with
       | true=>exact hc
       | false =>
        have:i∈Region.ready .any ops listed:=by
         refine mem_ready.2 ⟨by rw[getD_eq _ _ (by omega)]; exact hc,_,Array.getElem?_eq_getElem (by omega),fun e he hb=>?_⟩
         have hlt:=(chk1 i _ (Array.getElem?_eq_getElem (by omega))).2.2.1 e he hb
         exact ih2 e.on hlt (by omega)
        rw[hrd] at this; cases this
     exact hni0 (this i0 hi0)
    obtain ⟨hun,o,ho,hall⟩:=mem_ready.1 hi
    have his:i<ops.size:=(Array.getElem?_eq_some_iff.1 ho).1
    have him:i<m:=Nat.lt_of_not_le fun hle=>by
     simp only[fa,Bool.and_eq_true] at chkt
     have h1:=List.all_eq_true.1 chkt.1.2 i (List.mem_range.2 his)
     simp only[Bool.or_eq_true,decide_eq_true_eq] at h1
     have h2:=List.all_eq_true.1 (h1.resolve_left (by omega)) i0 (List.mem_range.2 hi0)
     exact hni0 (kD hcl i i0 ⟨o,ho,hall⟩ h2)
    obtain ⟨c1,c2,c3,c4,c5,c6⟩:=chk1 i o ho
    have hnot:¬ ew ops listed i:=by unfold ew; rw[<-getD_eq _ _ (by omega),hun]; simp
    have hdst:∀ t,o.dst=some t->cw ops i=some t:=fun t h=>by unfold cw; rw[ho]; exact h
    refine kf hWF ho c1 (hstep i o him ho a w hSw (fun t ht j hj hb=>?_) (fun t ht hj=>hno t fun j hjm hjt hcj=>?_) hsz) ?_
    ·have hcj:=kD hcl i j ⟨o,ho,hall⟩ hb
     have hjs:j<ops.size:=by
      unfold cw at hj
      cases hx:ops[j]? with
      | none=>rw[hx] at hj; cases hj
      | some _=>exact(Array.getElem?_eq_some_iff.1 hx).1
     exact hv j t (Nat.lt_of_not_le fun hle=>hnt j hle hjs hcj) hj hcj
    ·rcases c5 j t hjt ht with rfl | h | h
     ·exact hnot hcj
     ·rw[hj j hjt] at h; cases h
     ·cases hoj:ops[j]? with
      | none=>unfold cw at hjt; rw[hoj] at hjt; cases hjt
      | some oj=>exact hnot (kD hcl j i ⟨oj,hoj,hcl j oj hoj hcj⟩ h)
    ·rintro v w' ⟨hv1,hS1,hE1⟩
     have come_set:∀ k,ew ops (listed.setIfInBounds i true) k↔k=i∨ew ops listed k:=fun k=>by
      unfold ew
      by_cases e:k=i
      ·subst e; simp[hls,his]
      ·rw[getD_set_ne false (Ne.symm e)]; simp[e]
     refine ih _ _ _ ?_ (by simpa using hls) hS1 ?_ ?_ ?_ ?_ ?_ ?_ ?_
     ·have:=filter_lt (fun k=>!listed.getD k true) (fun k=>!(listed.setIfInBounds i true).getD k true) (List.range ops.size) (fun x hx hq=>by
       by_cases e:i=x
       ·subst e; rw[hun]; rfl
       ·rw[getD_set_ne true e] at hq; exact hq) ⟨i,List.mem_range.2 his,by rw[hun]; rfl,by simp[hls,his]⟩
      unfold AZ at *; omega
     ·cases hd:o.dst<;>simp[Act.put,hdf]
     ·cases hd:o.dst<;>simp[Act.put,hsz]
     ·intro k ok hok hk e he hb
      rw[come_set]
      rcases (come_set k).1 hk with rfl | hk
      ·rw[ho] at hok; cases hok
       exact .inr (hall e he hb)
      ·exact .inr (hcl k ok hok hk e he hb)
     ·intro k hk hks hc
      rcases (come_set k).1 hc with rfl | hc
      ·omega
      ·exact hnt k hk hks hc
     ·intro k t hkm hkt hk
      rcases (come_set k).1 hk with rfl | hk
      ·have hd:o.dst=some t:=by unfold cw at hkt; rw[ho] at hkt; exact hkt
       rw[hd,eZ (by rw[hsz]; exact c2 t hd)]
       exact hv1
      ·have hne:k≠i:=fun e=>hnot (e ▸ hk)
       rw[dF (fun hd=>c4 k t (Ne.symm hne) hd hkt)]
       exact hV k _ _ _ (hv k t hkm hkt hk) hE1
     ·intro t ht
      rw[dF (fun hd=>ht i him (hdst t hd) ((come_set i).2 (.inl rfl)))]
      exact hno t fun k hkm hk hck=>ht k hkm hk ((come_set k).2 (.inr hck))
     ·intro k ok hkm hok hd hk
      rcases (come_set k).1 hk with rfl | hk
      ·exact⟨v,hv1⟩
      ·obtain ⟨u,hu⟩:=hns k ok hkm hok hd hk
       exact⟨u,hV k _ _ _ hu hE1⟩
 have h0:∀ i,¬ ew ops (Array.replicate ops.size false) i:=fun i hc=>by
  unfold ew at hc
  by_cases h:i<ops.size<;>simp[Array.getD,h] at hc
 refine BZ hm (main _ _ _ _ ?_ (by simp) hS rfl hN ?_ ?_ ?_ ?_ ?_)
 ·unfold AZ
  exact Nat.le_trans (List.length_filter_le _ _) (by simp)
 ·intro i o _ hc; exact absurd hc (h0 i)
 ·intro i _ _ hc; exact h0 i hc
 ·intro i t _ _ hc; exact absurd hc (h0 i)
 ·intro t _; rfl
 ·intro i o _ _ _ hc; exact absurd hc (h0 i)
end
section
open Go.RowKit
variable {α:Type} {L:Qj α} {e:TypeId} {base B:Nat} {w:World} {v:Value} {l:List α}
end
end Go.Proofs.Ytdmgdjnadbakfaa
