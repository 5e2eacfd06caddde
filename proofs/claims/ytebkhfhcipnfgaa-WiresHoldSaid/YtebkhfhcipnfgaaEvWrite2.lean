/-
 Slices made, appended to, copied into: as the model's.
-/
import Derived.Below
import Derived.ChangeArms
import Derived.Deep.Slices
import Derived.RangeFuncNested
import Derived.RangeFuncCalls
import Derived.RangeFuncLeaves
import Derived.OrdersIn
import Derived.TacticsIn
import Derived.Maps.AppendAt
import Derived.OwnWalkIn
import Derived.OwnWalk
import Derived.Deep.MidRow
import Derived.DeepKeys
import Derived.Laws.StructEq
import Derived.Laws.Tables
import Derived.Laws.IdiomStrings
import Derived.Laws.BytesString
import Derived.Laws.Slices
import Derived.Laws.MakeOwn
import Derived.KernelRfl
namespace Go.Proofs.Ytebkhfhcipnfgaa
set_option linter.unusedVariables false
set_option linter.unusedSimpArgs false
set_option linter.defProp false
theorem r7 {p:Prop} (h:p:=by omega):p:=h
theorem r9 {p:Prop} (h:p:=by simp):p:=h
theorem so {p:Prop} (h:p:=by simp; omega):p:=h
theorem u2 {p:Prop} (h:p:=by rw[VR]):p:=h
theorem y2 {p:Prop} (h:p:=by rw[aY]):p:=h
theorem y4 {p:Prop} (h:p:=by rw[List.length_take]; omega):p:=h
theorem An {p:Prop} (h:p:=by rw[VR]; trivial):p:=h
theorem NY {p:Prop} (h:p:=by rw[<-List.flatten_append,List.take_append_drop]):p:=h
def N4:=@Option.bind_some
def N5:=@List.getElem?_eq_getElem
def N6:=@Nat.le_refl
def N7:=@Bool.and_eq_true
def N8:=@cond_false
def N9:=@cond_true
def Oa:=@List.getElem?_eq_some_iff
def Ob:=@Array.getElem?_eq_some_iff
def Od:=@decide_eq_true_eq
def Oe:=@of_decide_eq_true
def Og:=@if_pos
def Oh:=@if_neg
def Oi:=@run_underlying
def Oj:=@List.all_eq_true
def Ok:=@Nat.eq_of_beq_eq_true
def Ol:=@List.getElem?_set_ne
def Om:=@Nat.lt_of_lt_of_le
def On:=@List.length_cons
def Oo:=@List.getElem?_append_left
def Oq:=@List.length_append
def Ot:=@Nat.le_trans
def Ou:=@List.eq_nil_of_length_eq_zero
def Ox:=@List.getElem?_take
def Oy:=@List.getElem?_set_self
def Oz:=@List.drop_eq_getElem_cons
def OA:=@List.mem_of_getElem?
def OB:=@List.getElem?_map
def OD:=@List.mem_range
def OE:=@Bool.false_eq_true
def OG:=@Result.andThen_ok
def OH:=@List.mem_of_mem_take
def OI:=@List.getElem?_append_right
def OJ:=@Array.getElem?_toList
def OK:=@Sem.run_bind
def OL:=@List.getElem_mem
def OM:=@List.mem_of_mem_drop
def ON:=@Bool.true_and
def OO:=@Option.map_eq_some_iff
def OQ:=@List.mem_cons
def OU:=@List.cons_append
def OX:=@Option.map_some
def OY:=@List.getElem?_eq_none
def OZ:=@Nat.zero_add
def O1:=@Option.bind_assoc
def O3:=@Option.some.injEq
def O4:=@List.getElem_of_mem
def O5:=@Nat.add_mul
def O6:=@List.append_assoc
def O7:=@Array.getD_eq_getD_getElem?
def O8:=@Bool.or_eq_false_iff
def O9:=@List.map_cons
def Pa:=@Bool.or_eq_true
def Pd:=@Ne.symm
def Pe:=@Bool.not_eq_true'
def Pf:=@Array.getElem?_eq_getElem
def Pg:=@List.length_take
def Pj:=@World.putObj_heap_other
def Pm:=@Nat.mul_comm
def Pn:=@List.ext_getElem?
def Po:=@congrArg
def Pp:=@List.mem_append
def Pq:=@Addr.add_mid
def Ps:=@beq_iff_eq
def Pt:=@List.flatten_cons
def Pu:=@List.getElem?_drop
def Px:=@List.countP_eq_length_filter
def Py:=@List.take_append_drop
def PA:=@List.nil_append
def PB:=@List.append_nil
def PD:=@List.getElem?_replicate
def PE:=@Nat.lt_of_not_le
def PI:=@Nat.add_zero
def PJ:=@cell_of_row
def PK:=@heap_alloc_new
def PL:=@Nat.min_eq_left
def PN:=@Bool.not_eq_false'
def PQ:=@World.cell?_of_block
def PR:=@Nat.mul_le_mul_right
def PV:=@List.length_map
def PY:=@Array.getElem?_setIfInBounds_ne
def PZ:=@List.getElem?_append
def P0:=@Array.ext'
def P2:=@Nat.add_assoc
def P3:=@World.block_lt_of_cell?
def P4:=@List.flatten_append
def P5:=@Nat.le_of_not_lt
def P7:=@List.length_pos_of_mem
def Qa:=@List.all_cons
def Qb:=@Nat.lt_irrefl
def Qd:=@getD_set_ne
def Qe:=@Array.all_eq_true_iff_forall_mem
def Qf:=@Sem.run_pure
def Qg:=@Nat.lt_succ_self
def Qi:=@List.getElem?_range
def Qj:=@Array.length_toList
def Qk:=@beq_eq_false_iff_ne
def Qm:=@Array.foldl_toList
def Qn:=@mem_ready
def Qo:=@List.mem_replicate
def Qp:=@Int.natCast_mul
def Qt:=@Nat.mod_lt
def Qu:=@Nat.beq_eq
def Qz:=@Array.getElem?_append_left
def QD:=@Int.toNat_of_nonneg
def QF:=@List.mem_map
def QG:=@Nat.le_of_eq
def QH:=@if_true
def QM:=@List.filter_cons
def QO:=@List.length_filter_le
def QR:=@List.mem_filter
def QS:=@Nat.le_antisymm
def QT:=@List.range_succ
def QU:=@Nat.div_lt_of_lt_mul
def QV:=@Nat.div_add_mod
def Q1:=@List.drop_append_of_le_length
def Q2:=@List.take_append_of_le_length
def Q4:=@Nat.eq_zero_or_pos
def Q9:=@run_storeCells_at
def Rc:=@List.mem_or_eq_of_mem_set
def Re:=@Nat.add_comm
def Rf:=@Bool.true_or
def Rl:=@List.nodup_cons
def Rm:=@List.foldl_cons
def Rq:=@List.drop_of_length_le
def Rs:=@Nat.one_mul
def Ru:=@List.countP_mono_left
def Rv:=@List.drop_drop
def RA:=@Classical.not_forall
def RC:=@Oper.semAt_eq
def RG:=@List.drop_succ_cons
def RK:=@Int.mul_comm
def RO:=@grownCap_ge
section
open Go.RowKit
def jr:Obj->Bool
 | .cells ..=>true
 | .map ..=>true
 | _=>false
def eF (B:Nat) (w w':World):Prop:=∀ (k:Nat) (o:Obj),k<B->w.heap[k]? = some o->jr o=true->w'.heap[k]? = some o
theorem eF.dJ {B n:Nat} {w w':World} (h:Below B w w') (hn:n<=B):eF n w w':=fun k _ hk ho _=>(h.block k (Om hk hn)).trans ho
theorem eF.mono {B n:Nat} {w w':World} (h:eF B w w') (hn:n<=B):eF n w w':=fun k o hk=>h k o (Om hk hn)
theorem eF.refl (B:Nat) (w:World):eF B w w:=fun _ _ _ h _=>h
theorem eF.trans {B:Nat} {a b c:World} (h:eF B a b) (k:eF B b c):eF B a c:=fun i o hi ho hd=>k i o hi (h i o hi ho hd) hd
def dF (T:Nat->Prop) (w w':World):Prop:=∀ (k:Nat) (o:Obj),T k->w.heap[k]? = some o->jr o=true->w'.heap[k]? = some o
theorem dF.refl (T:Nat->Prop) (w:World):dF T w w:=fun _ _ _ h _=>h
theorem dF.trans {T:Nat->Prop} {a b c:World} (h:dF T a b) (k:dF T b c):dF T a c:=fun i o hi ho hd=>k i o hi (h i o hi ho hd) hd
theorem dF.sub {T T':Nat->Prop} {a b:World} (h:dF T a b) (hs:∀ k,T' k->T k):dF T' a b:=fun i o hi ho hd=>h i o (hs i hi) ho hd
theorem dF.keeps {T:Nat->Prop} {B:Nat} {a b:World} (h:dF T a b) (hs:∀ k,k<B->T k):eF B a b:=fun i o hi ho hd=>h i o (hs i hi) ho hd
theorem dF.alloc (T:Nat->Prop) (w:World) (o:Obj):dF T w (w.alloc o):=fun k _ _ h _=>(Below.heap_alloc w o k (Ob.1 h).1).trans h
theorem dF.dJ {T:Nat->Prop} {w w':World} (h:Below w.heap.size w w'):dF T w w':=fun k _ _ ho _=>(h.block k (Ob.1 ho).1).trans ho
theorem eF.alloc (B:Nat) (w:World) (o:Obj):eF B w (w.alloc o):=fun k _ _ h _=>(Below.heap_alloc w o k (Ob.1 h).1).trans h
theorem wS {B:Nat} {w w':World} (h:eF B w w') {a:Addr} {v:Value} (hb:a.block<B) (hc:w.cell? a=some v):w'.cell? a=some v:=by
 have hx:∃ o,w.heap[a.block]? = some o/\jr o=true:=by
  unfold World.cell? at hc
  cases ho:w.heap[a.block]? with
  | none=>simp[ho] at hc
  | some o=>cases o<;>simp[ho] at hc<;>exact⟨_,rfl,rfl⟩
 obtain ⟨o,ho,hd⟩:=hx
 rw[<-hc]
 exact PQ ((h _ o hb ho hd).trans ho.symm)
structure xK (α:Type) where
 k:Nat
 rd:Nat->World->List Value->α->Prop
 len:∀ {B:Nat} {w:World} {cs:List Value} {a:α},rd B w cs a->cs.length=k
 mono:∀ {B B':Nat} {w:World} {cs:List Value} {a:α},B<=B'->rd B w cs a->rd B' w cs a
 stab:∀ {B:Nat} {w w':World} {cs:List Value} {a:α},eF B w w'->rd B w cs a->rd B w' cs a
def KA:xK Int:={ k:=1,rd:=fun _ _ cs n=>cs=[.int .i64 n]/\-9223372036854775808<=n/\n<=9223372036854775807,len:=fun h=>by rw[h.1]; rfl,mono:=fun _ h=>h,stab:=fun _ h=>h }
def iH {α:Type} (L:xK α) (B:Nat) (w:World) (b off i:Nat) (x:α):Prop:=
 ∃ vs:List Value,L.rd B w vs x/\∀ j,j<L.k->w.cell? ⟨b,off+i*L.k+j,none⟩=vs[j]?
def eT {α:Type} (L:xK α) (B:Nat) (w:World) (v:Value) (l:List α):Prop:=
 ∃ a cap,v=.slice a l.length cap/\l.length<=cap/\cap<=maxLen/\(0<l.length->∃ b off,a=some ⟨b,off,none⟩/\b<B/\∀ i (h:i<l.length),iH L B w b off i l[i])
theorem iH.mono {α:Type} {L:xK α} {B B':Nat} {w:World} {b off i:Nat} {x:α} (hB:B<=B') (h:iH L B w b off i x):iH L B' w b off i x:=by
 obtain ⟨vs,h1,h2⟩:=h
 exact⟨vs,L.mono hB h1,h2⟩
theorem iH.stab {α:Type} {L:xK α} {B:Nat} {w w':World} {b off i:Nat} {x:α} (hb:b<B) (hw:eF B w w') (h:iH L B w b off i x):iH L B w' b off i x:=by
 obtain ⟨vs,h1,h2⟩:=h
 exact⟨vs,L.stab hw h1,fun j hj=>by
  have hlt:j<vs.length:=by rw[L.len h1]; exact hj
  have h3:=h2 j hj
  rw[N5 hlt] at h3 ⊢
  exact wS hw hb h3⟩
theorem eT.mono {α:Type} {L:xK α} {B B':Nat} {w:World} {v:Value} {l:List α} (hB:B<=B') (h:eT L B w v l):eT L B' w v l:=by
 obtain ⟨a,cap,e,h1,h2,h3⟩:=h
 exact⟨a,cap,e,h1,h2,fun hp=>let ⟨b,off,e',hb,h4⟩:=h3 hp; ⟨b,off,e',Om hb hB,fun i hi=>(h4 i hi).mono hB⟩⟩
theorem eT.stab {α:Type} {L:xK α} {B:Nat} {w w':World} {v:Value} {l:List α} (hw:eF B w w') (h:eT L B w v l):eT L B w' v l:=by
 obtain ⟨a,cap,e,h1,h2,h3⟩:=h
 exact⟨a,cap,e,h1,h2,fun hp=>let ⟨b,off,e',hb,h4⟩:=h3 hp; ⟨b,off,e',hb,fun i hi=>(h4 i hi).stab hb hw⟩⟩
theorem eT.nil {α:Type} (L:xK α) (B:Nat) (w:World):eT L B w (.slice none 0 0) []:=⟨none,0,rfl,N6 _,by simp[maxLen],fun h=>by simp at h⟩
theorem iH.one {α:Type} {L:xK α} {B:Nat} {w:World} {b off i:Nat} {x:α} {v:Value} (h:iH L B w b off i x) (hk:L.k=1) (hv:∀ vs,L.rd B w vs x->vs=[v]):w.cell? ⟨b,off+i,none⟩=some v:=by
 obtain ⟨vs,h1,h2⟩:=h
 have:=h2 0 r7
 rw[hv vs h1,hk] at this
 simpa using this
theorem iH.int {B:Nat} {w:World} {b off i:Nat} {x:Int} (h:iH KA B w b off i x):w.cell? ⟨b,off+i,none⟩=some (.int .i64 x)/\-9223372036854775808<=x/\x<=9223372036854775807:=by
 refine⟨h.one rfl (fun vs hv=>hv.1),?_⟩
 obtain ⟨vs,h1,_⟩:=h
 exact h1.2
end
section
open Go.RowKit
structure bG (B:Nat) (W W':World):Prop where
 os:W'.os=W.os
 tape:W'.tape=W.tape
 output:W'.output=W.output
 size:W.heap.size<=W'.heap.size
 low:∀ (k:Nat),k<B->k<W.heap.size->W'.heap[k]? = W.heap[k]?
 data:∀ (k:Nat) (o:Obj),W.heap[k]? = some o->jr o=true->W'.heap[k]? = some o
theorem bG.refl (B:Nat) (W:World):bG B W W:=⟨rfl,rfl,rfl,N6 _,fun _ _ _=>rfl,fun _ _ h _=>h⟩
theorem bG.trans {B:Nat} {X Y Z:World} (h:bG B X Y) (k:bG B Y Z):bG B X Z:=
 ⟨k.os.trans h.os,k.tape.trans h.tape,k.output.trans h.output,Ot h.size k.size,fun i hi hs=>(k.low i hi (Om hs h.size)).trans (h.low i hi hs),fun i o hi ho=>k.data i o (h.data i o hi ho) ho⟩
theorem bG.mono {B B':Nat} {W W':World} (h:bG B W W') (hB:B'<=B):bG B' W W':=⟨h.os,h.tape,h.output,h.size,fun k hk=>h.low k (Om hk hB),h.data⟩
theorem bG.alloc (B:Nat) (W:World) (o:Obj):bG B W (W.alloc o):=
 ⟨rfl,rfl,rfl,r9,fun k _ hs=>Below.heap_alloc W o k hs,fun k _ hk _=>(Below.heap_alloc W o k (Ob.1 hk).1).trans hk⟩
theorem bG.putObj {B:Nat} {W:World} {l:Nat} {o:Obj} (o':Obj) (hB:B<=l) (hl:W.heap[l]? = some o) (ho:jr o=false):bG B W (W.putObj l o'):=
 ⟨rfl,rfl,rfl,r9,fun k hk _=>Pj r7,fun k _ hk hd=>by
  by_cases e:k=l
  ·subst e; rw[hl] at hk; cases hk; rw[ho] at hd; cases hd
  ·exact(Pj e).trans hk⟩
theorem bG.dJ {B:Nat} {W W':World} (h:Below W.heap.size W W'):bG B W W':=
 ⟨h.os,h.tape,h.output,h.size,fun k _ hs=>h.block k hs,fun k _ hk _=>(h.block k (Ob.1 hk).1).trans hk⟩
theorem bG.drew (B:Nat) (W:World):bG B W W.drew:=⟨rfl,rfl,rfl,N6 _,fun _ _ _=>rfl,fun _ _ h _=>h⟩
def Calm (B:Nat) (I:World->Prop):Prop:=∀ W W',I W->bG B W W'->I W'
theorem Calm.and {B:Nat} {I J:World->Prop} (h:Calm B I) (k:Calm B J):Calm B fun W=>I W/\J W:=fun W W' hs hc=>⟨h W W' hs.1 hc,k W W' hs.2 hc⟩
theorem Calm.pure (B:Nat) (p:Prop):Calm B fun _=>p:=fun _ _ h _=>h
theorem Calm.ex {α:Type} {B:Nat} {I:α->World->Prop} (h:∀ x,Calm B (I x)):Calm B fun W=>∃ x,I x W:=fun W W' ⟨x,hx⟩ hc=>⟨x,h x W W' hx hc⟩
theorem Calm.block {B:Nat} (b:Nat) (o:Obj) (hd:jr o=true):Calm B fun W=>W.heap[b]? = some o:=fun _ _ h hc=>hc.data b o h hd
theorem Calm.cell {B:Nat} (a:Addr) (v:Value):Calm B fun W=>W.cell? a=some v:=fun W W' h hc=>by
 have h1:W.cell? a=some v:=h
 obtain ⟨o,ho,hc1⟩:=cells_of_cell h1
 have h2:=hc.data _ _ ho (by cases o<;>first | rfl | (cases hc1))
 show W'.cell? a=some v
 rw[<-h1]
 exact PQ (h2.trans ho.symm)
theorem Calm.below {B n₀:Nat} {w:World} (hn:n₀<=w.heap.size) (hB:n₀<=B):Calm B fun W=>Below n₀ w W:=fun W W' h hc=>
 h.trans ⟨hc.os,hc.tape,hc.output,hc.size,fun k hk=>hc.low k r7 (by have:=h.size; omega)⟩
theorem bG.keeps {B n:Nat} {W W':World} (h:bG B W W'):eF n W W':=fun k o _ hk ho=>h.data k o hk ho
theorem Calm.slice {α:Type} (L:xK α) {B:Nat} (n:Nat) (v:Value) (l:List α):Calm B fun W=>eT L n W v l:=fun _ _ h hc=>h.stab hc.keeps
structure dy (B:Nat) (W W':World):Prop where
 size:W.heap.size<=W'.heap.size
 same:∀ (k:Nat) (o:Obj),B<=k->W.heap[k]? = some o->jr o=false->W'.heap[k]? = some o
theorem dy.refl (B:Nat) (W:World):dy B W W:=⟨N6 _,fun _ _ _ h _=>h⟩
theorem dy.trans {B:Nat} {X Y Z:World} (h:dy B X Y) (k:dy B Y Z):dy B X Z:=⟨Ot h.size k.size,fun i o hB hi ho=>k.same i o hB (h.same i o hB hi ho) ho⟩
theorem dy.mono {B B':Nat} {W W':World} (h:dy B W W') (hB:B<=B'):dy B' W W':=⟨h.size,fun k o hk=>h.same k o (Ot hB hk)⟩
theorem dy.dJ {B:Nat} {W W':World} (h:Below W.heap.size W W'):dy B W W':=⟨h.size,fun k _ _ hk _=>(h.block k (Ob.1 hk).1).trans hk⟩
theorem dy.alloc (B:Nat) (W:World) (o:Obj):dy B W (W.alloc o):=⟨r9,fun k _ _ hk _=>(Below.heap_alloc W o k (Ob.1 hk).1).trans hk⟩
theorem dy.drew (B:Nat) (W:World):dy B W W.drew:=⟨N6 _,fun _ _ _ h _=>h⟩
theorem dy.grown {B:Nat} {W W':World} {row:Option Nat} (hg:W.grownBy W' row) (hrow:∀ j,row=some j->j<B∨∃ o,W.heap[j]? = some o/\jr o=true):dy B W W':=
 ⟨hg.size,fun k o hB hk ho=>(hg.block k (Ob.1 hk).1 (fun e=>by
  rcases hrow k e.symm with h | ⟨o',h1,h2⟩
  ·omega
  ·rw[hk] at h1; cases h1; rw[ho] at h2; cases h2)).trans hk⟩
def pX (F:Fence):Prop:=F.depth=none/\∀ f,F.fn f
theorem pX.inRound {F:Fence} (h:pX F) (l:Nat):pX (F.inRound l):=h
theorem eF.putObj (B:Nat) {X:World} {l:Nat} {o:Obj} (o':Obj) (hl:X.heap[l]? = some o) (ho:jr o=false):eF B X (X.putObj l o'):=fun k o'' _ hk hd=>by
 by_cases e:k=l
 ·subst e; rw[hl] at hk; cases hk; rw[ho] at hd; cases hd
 ·exact(Pj e).trans hk
theorem dF.putObj (T:Nat->Prop) {X:World} {l:Nat} {o:Obj} (o':Obj) (hl:X.heap[l]? = some o) (ho:jr o=false):dF T X (X.putObj l o'):=fun k o'' _ hk hd=>by
 by_cases e:k=l
 ·subst e; rw[hl] at hk; cases hk; rw[ho] at hd; cases hd
 ·exact(Pj e).trans hk
variable {F:Fence} {n:Nat} {P:Program}
def Marks (B:Nat) (W:World) (ds:List Deferred):Prop:=∃ rs:List Nat,ds=rs.map (fun r=>{ target:=.collected r,args:=#[] })/\rs.Nodup/\∀ r∈rs,B<=r/\W.heap[r]? = some (.deferred (some []))
theorem Marks.nil (B:Nat) (W:World):Marks B W []:=⟨[],rfl,List.nodup_nil,fun _ h=>by cases h⟩
theorem Marks.cons {B D:Nat} {W:World} {ds:List Deferred} (h:Marks B W ds) (hD:B<=D) (hW:W.heap[D]? = some (.deferred (some []))) (hn:∀ r,(⟨.collected r,#[]⟩:Deferred)∈ds->r≠D):Marks B W ({ target:=.collected D,args:=#[] } :: ds):=by
 obtain ⟨rs,rfl,h2,h3⟩:=h
 refine⟨D :: rs,rfl,Rl.2 ⟨fun hm=>hn D (QF.2 ⟨D,hm,rfl⟩) rfl,h2⟩,fun r hr=>?_⟩
 rcases OQ.1 hr with rfl | hr
 ·exact⟨hD,hW⟩
 ·exact h3 r hr
theorem Marks.lt {B:Nat} {W:World} {ds:List Deferred} (h:Marks B W ds) {r:Nat} (hr:(⟨.collected r,#[]⟩:Deferred)∈ds):r<W.heap.size:=by
 obtain ⟨rs,rfl,h2,h3⟩:=h
 obtain ⟨q,hq,e⟩:=QF.1 hr
 cases e
 exact(Ob.1 (h3 _ hq).2).1
theorem Marks.kept {B C:Nat} {W W':World} {ds:List Deferred} (h:Marks B W ds) (hk:dy C W W') (hC:C<=B):Marks B W' ds:=by
 obtain ⟨rs,e,h2,h3⟩:=h
 exact⟨rs,e,h2,fun r hr=>⟨(h3 r hr).1,hk.same r _ (Ot hC (h3 r hr).1) (h3 r hr).2 rfl⟩⟩
theorem Marks.below {B C:Nat} {W W':World} {ds:List Deferred} (h:Marks B W ds) (hk:Below C W W') (hC:W.heap.size<=C):Marks B W' ds:=by
 obtain ⟨rs,e,h2,h3⟩:=h
 refine⟨rs,e,h2,fun r hr=>⟨(h3 r hr).1,(hk.block r ?_).trans (h3 r hr).2⟩⟩
 have:=(Ob.1 (h3 r hr).2).1
 omega
end
section
def wA (F:Fence) (n:Nat) (P:Program) (o:Oper) (ev:Operand->Value) (w:World) (R:Value->World->Prop):Prop:=
 match (execOp ev o).run P w with
 | .ok (.value v) w'=>R v w'
 | .ok .skip w'=>R undef w'
 | .ok (.enter f args) w'=>CallsIn F (n - 1) P f args w' fun
   | .returned v,w''=>R v w''
   | _,_=>False
 | .ok (.row row args) w'=>RowsIn F (n - 1) P row args w' R
 | .ok (.round l f tmps assign body) w'=>RoundIn F (n - 1) P l f tmps assign body w' fun
   | .returned v,w''=>R v w''
   | _,_=>False
 | _=>False
theorem wA.mono {F:Fence} {n:Nat} {P:Program} {o:Oper} {ev:Operand->Value} {w:World} {R R':Value->World->Prop} (h:wA F n P o ev w R) (hr:∀ v w',R v w'->R' v w'):wA F n P o ev w R':=by
 unfold wA at *
 generalize (execOp ev o).run P w=r at *
 cases r with
 | ok x w'=>
  cases x<;>simp only at h ⊢<;>first
   | exact hr _ _ h
   | exact h.mono fun e w'' he=>by cases e<;>first | exact hr _ _ he | exact he
   | exact h.mono fun v w'' he=>hr _ _ he
 | halt x w'=>exact h
def slot (a:Act) (t:Nat):Value:=a.tmps.getD t undef
def bJ (ops:Array Oper) (i:Nat):Option Nat:=(ops[i]?).bind (·.dst)
def eC (ops:Array Oper) (i j:Nat):Bool:=((Region.before ops).getD i 0).testBit j
def kz (o:Oper):Bool:=match o.op with | .select ..=>false | .defer _=>false | _=>true
def rQ (ops:Array Oper) (N:Nat):Bool:=
 (List.range ops.size).all fun i=>match ops[i]? with
  | none=>true
  | some o=>kz o&&(match o.dst with | some d=>decide (d<N) | none=>true) &&
   (o.after.all fun e=>!Region.binds .any e || decide (e.on<i)) &&
   ((List.range ops.size).all fun j=>i==j || o.dst.isNone || bJ ops j != o.dst) &&
   ((List.range ops.size).all fun j=>match bJ ops j with
    | none=>true
    | some t=>!(o.looksAt ops).contains t || i==j || eC ops i j || eC ops j i) &&
   !eC ops i i
def dL (_ops:Array Oper) (listed:Array Bool) (i:Nat):Prop:=listed.getD i false=true
variable {F:Fence} {n:Nat} {P:Program} {ops:Array Oper} {Q:Exit->Act->World->Prop}
inductive mz (ops:Array Oper):Nat->Nat->Prop
 | edge {i:Nat} {o:Oper} {e:Edge} (ho:ops[i]? = some o) (he:e∈o.after) (hb:Region.binds .any e=true):mz ops i e.on
 | thru {i j:Nat} {o:Oper} {e:Edge} (ho:ops[i]? = some o) (he:e∈o.after) (hb:Region.binds .any e=true) (h:mz ops e.on j):mz ops i j
theorem qa (acc:Array Nat) (hacc:∀ i j,(acc.getD i 0).testBit j=true->mz ops i j) {i:Nat} {o:Oper} (ho:ops[i]? = some o) :
  ∀ (l:List Edge) (s:Nat),(∀ e∈l,e∈o.after)->(∀ j,s.testBit j=true->mz ops i j)->∀ j,(l.foldl (fun s e=>if Region.binds .any e then s ||| 2 ^ e.on ||| acc.getD e.on 0 else s) s).testBit j=true->mz ops i j
 | [],s,_,hs,j,h=>hs j h
 | e :: l,s,hl,hs,j,h=>by
  rw[Rm] at h
  refine qa acc hacc ho l _ (fun e he=>hl e (by simp[he])) (fun j hj=>?_) j h
  split at hj
  ·rename_i hb
   rw[Nat.testBit_or,Nat.testBit_or,Pa,Pa] at hj
   rcases hj with (hj | hj) | hj
   ·exact hs j hj
   ·rw[Nat.testBit_two_pow] at hj
    obtain rfl:e.on=j:=by simpa using hj
    exact .edge ho (hl e r9) hb
   ·exact .thru ho (hl e r9) hb (hacc _ _ hj)
  ·exact hs j hj
theorem eU (i j:Nat) (h:eC ops i j=true):mz ops i j:=by
 unfold eC Region.before at h
 rw[<-Qm] at h
 have key:∀ (l:List Oper) (k:Nat) (acc:Array Nat),(∀ m,l[m]? = ops[k+m]?)->acc.size=k->(∀ i j,(acc.getD i 0).testBit j=true->mz ops i j) ->
   ∀ i j,((l.foldl (fun acc o=>acc.push (o.after.foldl (fun s e=>if Region.binds .any e then s ||| 2 ^ e.on ||| acc.getD e.on 0 else s) 0)) acc).getD i 0).testBit j=true->mz ops i j:=by
  intro l
  induction l with
  | nil=>intro k acc _ _ hacc i j h; exact hacc i j h
  | cons o l ih=>
   intro k acc hl hk hacc i j h
   refine ih (k+1) _ (fun m=>by have:=hl (m+1); simpa [P2,Re 1 m] using this) (by simp[hk]) (fun i j hij=>?_) i j h
   have ho:ops[k]? = some o:=by simpa using (hl 0).symm
   by_cases e:i=acc.size
   ·subst e
    rw[hk]
    have e2:∀ X:Nat,(acc.push X).getD acc.size 0=X:=fun X=>r9
    rw[e2,<-Qm] at hij
    exact qa acc hacc ho _ 0 (fun e he=>Array.mem_toList_iff.1 he) (fun j hj=>by simp at hj) j hij
   ·refine hacc i j ?_
    have:(acc.push (o.after.foldl (fun s e=>if Region.binds .any e then s ||| 2 ^ e.on ||| acc.getD e.on 0 else s) 0)).getD i 0=acc.getD i 0:=by
     simp only[O7,Array.getElem?_push,Oh e]
    rw[this] at hij; exact hij
 exact key ops.toList 0 #[] r9 rfl (fun i j h=>by simp at h) i j h
theorem jH {listed:Array Bool} (hcl:∀ i o,ops[i]? = some o->dL ops listed i->∀ e∈o.after,Region.binds .any e=true->dL ops listed e.on)
  (i j:Nat) (hi:∃ o,ops[i]? = some o/\∀ e∈o.after,Region.binds .any e=true->dL ops listed e.on) (h:eC ops i j=true):dL ops listed j:=by
 have hw:=eU i j h
 clear h
 induction hw with
 | edge ho he hb=>
  obtain ⟨o',ho',hall⟩:=hi
  rw[ho] at ho'; cases ho'
  exact hall _ he hb
 | thru ho he hb hw ih=>
  obtain ⟨o',ho',hall⟩:=hi
  rw[ho] at ho'; cases ho'
  refine ih ?_
  have hc:=hall _ he hb
  cases hw with
  | edge ho2 _ _=>exact⟨_,ho2,hcl _ _ ho2 hc⟩
  | thru ho2 _ _ _=>exact⟨_,ho2,hcl _ _ ho2 hc⟩
theorem filter_lt {α:Type} (p q:α->Bool):∀ l:List α,(∀ x∈l,q x=true->p x=true)->(∃ x∈l,p x=true/\q x=false)->(l.filter q).length<(l.filter p).length
 | [],_,⟨x,hx,_⟩=>by cases hx
 | y :: l,h,⟨x,hx,hp,hq⟩=>by
  have hle:(l.filter q).length<=(l.filter p).length:=by
   clear hx hp hq
   induction l with
   | nil=>simp
   | cons z l ih=>
    have hz:=h z r9
    have:=ih (fun x hx=>h x (by rcases OQ.1 hx with rfl | hx; simp; simp[hx]))
    simp only[QM]
    cases hqz:q z<;>cases hpz:p z<;>simp<;>first | omega | skip
    rw[hz hqz] at hpz; cases hpz
  have hy:=h y r9
  simp only[QM]
  rcases OQ.1 hx with rfl | hx
  ·rw[hp,hq]; simp; omega
  ·have:=filter_lt p q l (fun x hx=>h x (by simp[hx])) ⟨x,hx,hp,hq⟩
   cases hqy:q y<;>cases hpy:p y<;>simp<;>first | omega | skip
   rw[hy hqy] at hpy; cases hpy
def yH (ops:Array Oper) (listed:Array Bool):Nat:=((List.range ops.size).filter fun i=>!listed.getD i true).length
theorem eA {a:Act} {d:Nat} {v:Value} (h:d<a.tmps.size):slot (a.put (some d) v) d=v:=by
 simp[slot,Act.put,h]
theorem cZ {a:Act} {dst:Option Nat} {t:Nat} {v:Value} (h:dst≠some t):slot (a.put dst v) t=slot a t:=by
 cases dst with
 | none=>rfl
 | some d=>
  have hne:d≠t:=fun e=>h (by rw[e])
  simp[slot,Act.put,PY hne]
theorem ju (hWF:pX F) {i:Nat} {o:Oper} (ho:ops[i]? = some o) (hp:kz o=true) {a:Act} {w:World} {K:Act->World->Prop} {R:Value->World->Prop}
  (h:if Region.wanted o (yielded ops a.tmps)=true then wA F n P o a.eval w R else R undef w) (hK:∀ v w',R v w'->K (a.put o.dst v) w'):wpOpIn F n P ops Q i K a w:=by
 unfold wpOpIn
 simp only[ho]
 split
 ·rename_i hw
  rw[Og hw] at h
  refine⟨fun f _=>hWF.2 f,?_⟩
  rw[RC _ _ _ (fun c hc=>by unfold kz at hp; rw[hc] at hp; cases hp)]
  unfold wA at h
  generalize (execOp a.eval o).run P w=r at *
  have hd:F.depth.isSome=true->1<=n:=fun hs=>by rw[hWF.1] at hs; cases hs
  cases r with
  | ok x w'=>
   cases x<;>simp only[Oper.uponIn] at h ⊢<;>first
    | exact hK _ _ h
    | exact⟨hd,h.mono fun e w'' he=>by cases e<;>first | exact hK _ _ he | exact he.elim⟩
    | exact⟨hd,h.mono fun v w'' he=>hK _ _ he⟩
    | exact h.elim
  | halt x w'=>exact h.elim
 ·rename_i hw
  rw[Oh hw] at h
  exact⟨fun f _=>hWF.2 f,hK _ _ h⟩
def qw (ops:Array Oper) (k:Nat):Array Bool:=((List.range ops.size).map fun i=>decide (i<k)).toArray
def eB (ops:Array Oper) (m:Nat):Bool:=decide (m<=ops.size)&&((List.range ops.size).all fun i=>decide (i<m) || (List.range m).all fun j=>eC ops i j)&&(List.range (ops.size+1)).all fun k=>decide (k<m) || (Region.ready .any ops (qw ops k)==if k<ops.size then [k] else [])
theorem sz {listed:Array Bool} {k:Nat} (hls:listed.size=ops.size) (hc:∀ i,i<ops.size->(dL ops listed i↔i<k)):listed=qw ops k:=by
 refine Array.ext (by simp[qw,hls]) fun i h1 h2=>?_
 have:=hc i r7
 unfold dL at this
 simp only[qw,List.getElem_toArray,List.getElem_map,List.getElem_range]
 have e:listed.getD i false=listed[i]:=by simp[h1]
 rw[e] at this
 cases h:listed[i] with
 | true=>rw[h] at this; simpa using this.1 rfl
 | false=>rw[h] at this; simp at this; simp; exact this
theorem n8 {m:Nat} (ht:eB ops m=true) :
  ∀ (r k:Nat),k+r=ops.size->m<=k->∀ (fuel:Nat) (listed:Array Bool) (a:Act) (w:World),r<=fuel->listed.size=ops.size->(∀ i,i<ops.size->(dL ops listed i↔i<k)) ->
   wpListIn F n P ops Q (ops.toList.drop k) a w->wpAnyIn F n P .any ops Q fuel listed a w:=by
 have hready:∀ k,k<=ops.size->m<=k->Region.ready .any ops (qw ops k)=if k<ops.size then [k] else []:=fun k hk hm=>by
  simp only[eB,N7] at ht
  have:=Oj.1 ht.2 k (OD.2 r7)
  simp only[Pa,Od,Ps] at this
  exact this.resolve_left r7
 intro r
 induction r with
 | zero=>
  intro k hk hm fuel listed a w _ hls hc h
  have e:=sz hls hc
  have hr:Region.ready .any ops listed=[]:=by rw[e,hready k r7 hm,Oh r7]
  rw[Rq so] at h
  exact wpAnyIn_done hr h fuel
 | succ r ih=>
  intro k hk hm fuel listed a w hf hls hc h
  have e:=sz hls hc
  have hr:Region.ready .any ops listed=[k]:=by rw[e,hready k r7 hm,Og r7]
  obtain ⟨fuel,rfl⟩:∃ f,fuel=f+1:=⟨fuel - 1,r7⟩
  have hlt:k<ops.toList.length:=so
  rw[Oz hlt] at h
  have ho:ops[k]? = some ops.toList[k]:=by rw[Array.getElem_toList]; exact Pf _
  refine wpAnyIn_all hr r9 fun i hi=>?_
  obtain rfl:i=k:=by simpa using hi
  unfold wpOpIn
  simp only[ho]
  have next:∀ a w,wpListIn F n P ops Q (ops.toList.drop (i+1)) a w->wpAnyIn F n P .any ops Q fuel (listed.setIfInBounds i true) a w:=fun a w h'=>by
   refine ih (i+1) r7 r7 fuel _ a w r7 (by simpa using hls) (fun j hj=>?_) h'
   by_cases e:j=i
   ·subst e; unfold dL; simp[hls,hj]
   ·have:=hc j hj
    unfold dL at this ⊢
    rw[Qd false (Pd e),this]; omega
  unfold wpListIn at h
  split
  ·rename_i hw; rw[Og hw] at h; exact Oper.wpIn_mono next h
  ·rename_i hw; rw[Oh hw] at h; exact⟨h.1,next _ _ h.2⟩
def LW (F:Fence) (n:Nat) (P:Program) (ops:Array Oper) (Q:Exit->Act->World->Prop) (a:Act) (w:World):Prop:=∀ t,wpOpsIn F n P ops Q (Region.schedule (P.follows .mixedOrders) ops t) a { w with drawn:=w.drawn+1 }
theorem LW.wpIn {id:Nat} {a:Act} {w:World} (h:LW F n P ops Q a w):(Code.region id ops true).wpIn F n P Q a w:=wpIn_region_draw h
theorem zL {a:Act} {w:World} (hm:P.follows .mixedOrders=true) (h:wpAnyIn F n P .any ops Q ops.size (Array.replicate ops.size false) a { w with drawn:=w.drawn+1 }):LW F n P ops Q a w:=fun t=>by
 simp only[Region.schedule,hm,Rf,QH]
 exact wpAnyIn_sound ops.size t _ a _ h
theorem zB {a0:Act} {w0:World} (hWF:pX F) (hm:P.follows .mixedOrders=true) (N m:Nat) (hN:a0.tmps.size=N) (jc:rQ ops N=true) (chkt:eB ops m=true)
  (S:World->Prop) (Ext:World->World->Prop) (V:Nat->Value->World->Prop) (hV:∀ i v w w',V i v w->Ext w w'->V i v w') (hS:S w0.drew)
  (hstep:∀ i o,i<m->ops[i]? = some o->∀ (a:Act) (w:World),S w ->
   (∀ t∈o.looksAt ops,∀ j,bJ ops j=some t->eC ops i j=true->V j (slot a t) w) ->
   (∀ t∈o.looksAt ops,(∀ j,bJ ops j=some t->eC ops i j=false)->slot a t=slot a0 t)->a.tmps.size=N ->
   if Region.wanted o (yielded ops a.tmps)=true then wA F n P o a.eval w (fun v w'=>V i v w'/\S w'/\Ext w w') else V i undef w/\S w/\Ext w w)
  (hend:∀ (a:Act) (w:World),S w->a.defers=a0.defers->a.tmps.size=N->(∀ i t,i<m->bJ ops i=some t->V i (slot a t) w)->(∀ t,(∀ i,i<m->bJ ops i≠some t)->slot a t=slot a0 t) ->
   (∀ i o,i<m->ops[i]? = some o->o.dst=none->∃ v,V i v w)->wpListIn F n P ops Q (ops.toList.drop m) a w) :
  LW F n P ops Q a0 w0:=by
 have chk1:∀ i o,ops[i]? = some o->kz o=true/\(∀ d,o.dst=some d->d<N)/\(∀ e∈o.after,Region.binds .any e=true->e.on<i)/\(∀ j d,i≠j->o.dst=some d->bJ ops j≠some d) ∧
   (∀ j t,bJ ops j=some t->t∈o.looksAt ops->i=j∨eC ops i j=true∨eC ops j i=true)/\eC ops i i=false:=by
  intro i o ho
  have hi:i<ops.size:=(Ob.1 ho).1
  have h:=Oj.1 jc i (OD.2 hi)
  simp only[ho,N7] at h
  obtain ⟨⟨⟨⟨⟨h1,h2⟩,h3⟩,h4⟩,h5⟩,h6⟩:=h
  refine⟨h1,fun d hd=>by rw[hd] at h2; simpa using h2,fun e he hb=>?_,fun j d hij hd hj=>?_,fun j t hj ht=>?_,by simpa using h6⟩
  ·have:=Qe.1 h3 e he
   rw[hb] at this; simpa using this
  ·have hjs:j<ops.size:=by
    unfold bJ at hj
    cases hx:ops[j]? with
    | none=>rw[hx] at hj; cases hj
    | some _=>exact(Ob.1 hx).1
   have:=Oj.1 h4 j (OD.2 hjs)
   rw[hd,hj] at this
   simp at this
   exact hij this
  ·have hjs:j<ops.size:=by
    unfold bJ at hj
    cases hx:ops[j]? with
    | none=>rw[hx] at hj; cases hj
    | some _=>exact(Ob.1 hx).1
   have:=Oj.1 h5 j (OD.2 hjs)
   rw[hj] at this
   simp[ht] at this
   rcases this with (h | h) | h
   ·exact .inl h
   ·exact .inr (.inl h)
   ·exact .inr (.inr h)
 have hm2:m<=ops.size:=by simp only[eB,N7,Od] at chkt; exact chkt.1.1
 have main:∀ (fuel:Nat) (listed:Array Bool) (a:Act) (w:World),yH ops listed<=fuel->listed.size=ops.size->S w->a.defers=a0.defers->a.tmps.size=N ->
   (∀ i o,ops[i]? = some o->dL ops listed i->∀ e∈o.after,Region.binds .any e=true->dL ops listed e.on)->(∀ i,m<=i->i<ops.size->¬ dL ops listed i) ->
   (∀ i t,i<m->bJ ops i=some t->dL ops listed i->V i (slot a t) w)->(∀ t,(∀ i,i<m->bJ ops i=some t->¬ dL ops listed i)->slot a t=slot a0 t) ->
   (∀ i o,i<m->ops[i]? = some o->o.dst=none->dL ops listed i->∃ v,V i v w)->wpAnyIn F n P .any ops Q fuel listed a w:=by
  have getD_eq:∀ (listed:Array Bool) (i:Nat),i<listed.size->listed.getD i true=listed.getD i false:=fun listed i hi=>by simp[hi]
  intro fuel
  induction fuel with
  | zero=>
   intro listed a w hu hls hSw hdf hsz hcl hnt hv hno hns
   have all:∀ i,i<ops.size->dL ops listed i:=fun i hi=>by
    cases hc:listed.getD i false with
    | true=>exact hc
    | false=>
     have hmem:i∈(List.range ops.size).filter (fun i=>!listed.getD i true):=QR.2 ⟨OD.2 hi,by rw[getD_eq _ _ r7,hc]; rfl⟩
     have:=P7 hmem
     unfold yH at hu; omega
   have hmm:m=ops.size:=QS hm2 (P5 fun h=>hnt m (N6 _) h (all m h))
   exact n8 chkt 0 ops.size r7 hm2 0 listed a w (N6 _) hls (fun i hi=>⟨fun _=>hi,fun _=>all i hi⟩)
    (by rw[<-hmm]; exact hend a w hSw hdf hsz (fun i t hi h=>hv i t hi h (all i r7)) (fun t h=>hno t (fun i hi hi2=>absurd hi2 (h i hi))) (fun i o hi ho hd=>hns i o hi ho hd (all i r7)))
  | succ fuel ih=>
   intro listed a w hu hls hSw hdf hsz hcl hnt hv hno hns
   by_cases hall:∀ i,i<m->dL ops listed i
   ·refine n8 chkt (ops.size - m) m r7 (N6 _) (fuel+1) listed a w ?_ hls (fun i hi=>⟨fun h=>PE fun hle=>hnt i hle hi h,fun h=>hall i h⟩)
     (hend a w hSw hdf hsz (fun i t hi h=>hv i t hi h (hall i hi)) (fun t h=>hno t (fun i hi hi2=>absurd hi2 (h i hi))) (fun i o hi ho hd=>hns i o hi ho hd (hall i hi)))
    refine Ot ?_ hu
    unfold yH
    have:((List.range ops.size).filter fun i=>decide (m<=i)).length=ops.size - m:=by
     rw[<-Px]
     have:∀ s,(List.range s).countP (fun i=>decide (m<=i))=s - m:=by
      intro s
      induction s with
      | zero=>simp
      | succ s ih=>rw[QT,List.countP_append,ih]; simp[List.countP_cons]; split<;>omega
     exact this _
    rw[<-this]
    rw[<-Px,<-Px]
    refine Ru fun i hi h=>?_
    have hi:=OD.1 hi
    have hn:=hnt i (by simpa using h) hi
    unfold dL at hn
    rw[getD_eq _ _ r7]
    simpa using hn
   ·simp only[RA] at hall
    obtain ⟨i0,hi0,hni0⟩:=hall
    refine⟨fun hrd=>?_,fun i hi=>?_⟩
    ·exfalso
     have:∀ i,i<m->dL ops listed i:=by
      intro i
      induction i using Nat.strongRecOn with
      | _ i ih2=>
       intro hi
       cases hc:listed.getD i false with
       | true=>exact hc
       | false=>
        have:i∈Region.ready .any ops listed:=by
         refine Qn.2 ⟨by rw[getD_eq _ _ r7]; exact hc,_,Pf r7,fun e he hb=>?_⟩
         have hlt:=(chk1 i _ (Pf r7)).2.2.1 e he hb
         exact ih2 e.on hlt r7
        rw[hrd] at this; cases this
     exact hni0 (this i0 hi0)
    obtain ⟨hun,o,ho,hall⟩:=Qn.1 hi
    have his:i<ops.size:=(Ob.1 ho).1
    have him:i<m:=PE fun hle=>by
     simp only[eB,N7] at chkt
     have h1:=Oj.1 chkt.1.2 i (OD.2 his)
     simp only[Pa,Od] at h1
     have h2:=Oj.1 (h1.resolve_left r7) i0 (OD.2 hi0)
     exact hni0 (jH hcl i i0 ⟨o,ho,hall⟩ h2)
    obtain ⟨c1,c2,c3,c4,c5,c6⟩:=chk1 i o ho
    have hnot:¬ dL ops listed i:=by unfold dL; rw[<-getD_eq _ _ r7,hun]; simp
    have hdst:∀ t,o.dst=some t->bJ ops i=some t:=fun t h=>by unfold bJ; rw[ho]; exact h
    refine ju hWF ho c1 (hstep i o him ho a w hSw (fun t ht j hj hb=>?_) (fun t ht hj=>hno t fun j hjm hjt hcj=>?_) hsz) ?_
    ·have hcj:=jH hcl i j ⟨o,ho,hall⟩ hb
     have hjs:j<ops.size:=by
      unfold bJ at hj
      cases hx:ops[j]? with
      | none=>rw[hx] at hj; cases hj
      | some _=>exact(Ob.1 hx).1
     exact hv j t (PE fun hle=>hnt j hle hjs hcj) hj hcj
    ·rcases c5 j t hjt ht with rfl | h | h
     ·exact hnot hcj
     ·rw[hj j hjt] at h; cases h
     ·cases hoj:ops[j]? with
      | none=>unfold bJ at hjt; rw[hoj] at hjt; cases hjt
      | some oj=>exact hnot (jH hcl j i ⟨oj,hoj,hcl j oj hoj hcj⟩ h)
    ·rintro v w' ⟨hv1,hS1,hE1⟩
     have come_set:∀ k,dL ops (listed.setIfInBounds i true) k↔k=i∨dL ops listed k:=fun k=>by
      unfold dL
      by_cases e:k=i
      ·subst e; simp[hls,his]
      ·rw[Qd false (Pd e)]; simp[e]
     refine ih _ _ _ ?_ (by simpa using hls) hS1 ?_ ?_ ?_ ?_ ?_ ?_ ?_
     ·have:=filter_lt (fun k=>!listed.getD k true) (fun k=>!(listed.setIfInBounds i true).getD k true) (List.range ops.size) (fun x hx hq=>by
       by_cases e:i=x
       ·subst e; rw[hun]; rfl
       ·rw[Qd true e] at hq; exact hq) ⟨i,OD.2 his,by rw[hun]; rfl,by simp[hls,his]⟩
      unfold yH at *; omega
     ·cases hd:o.dst<;>simp[Act.put,hdf]
     ·cases hd:o.dst<;>simp[Act.put,hsz]
     ·intro k ok hok hk e he hb
      rw[come_set]
      rcases (come_set k).1 hk with rfl | hk
      ·rw[ho] at hok; cases hok
       exact .inr (hall e he hb)
      ·exact .inr (hcl k ok hok hk e he hb)
     ·intro k hk hks hc
      rcases (come_set k).1 hc with rfl | hc
      ·omega
      ·exact hnt k hk hks hc
     ·intro k t hkm hkt hk
      rcases (come_set k).1 hk with rfl | hk
      ·have hd:o.dst=some t:=by unfold bJ at hkt; rw[ho] at hkt; exact hkt
       rw[hd,eA (by rw[hsz]; exact c2 t hd)]
       exact hv1
      ·have hne:k≠i:=fun e=>hnot (e ▸ hk)
       rw[cZ (fun hd=>c4 k t (Pd hne) hd hkt)]
       exact hV k _ _ _ (hv k t hkm hkt hk) hE1
     ·intro t ht
      rw[cZ (fun hd=>ht i him (hdst t hd) ((come_set i).2 (.inl rfl)))]
      exact hno t fun k hkm hk hck=>ht k hkm hk ((come_set k).2 (.inr hck))
     ·intro k ok hkm hok hd hk
      rcases (come_set k).1 hk with rfl | hk
      ·exact⟨v,hv1⟩
      ·obtain ⟨u,hu⟩:=hns k ok hkm hok hd hk
       exact⟨u,hV k _ _ _ hu hE1⟩
 have h0:∀ i,¬ dL ops (Array.replicate ops.size false) i:=fun i hc=>by
  unfold dL at hc
  by_cases h:i<ops.size<;>simp[Array.getD,h] at hc
 refine zL hm (main _ _ _ _ ?_ r9 hS rfl hN ?_ ?_ ?_ ?_ ?_)
 ·unfold yH
  exact Ot (QO _ _) r9
 ·intro i o _ hc; exact absurd hc (h0 i)
 ·intro i _ _ hc; exact h0 i hc
 ·intro i t _ _ hc; exact absurd hc (h0 i)
 ·intro t _; rfl
 ·intro i o _ _ _ hc; exact absurd hc (h0 i)
end
section
open Go.RowKit
def fy {α:Type} (L:xK α) (e:TypeId) (base B:Nat) (w:World) (v:Value) (l:List α):Prop:=
 ∃ xs,w.ownsRow base e L.k v l.length xs/\∀ i (h:i<l.length),∃ vs,L.rd B w vs l[i]/\∀ j,j<L.k->xs[i*L.k+j]? = vs[j]?
variable {α:Type} {L:xK α} {e:TypeId} {base B:Nat} {w:World} {v:Value} {l:List α}
theorem fy.nil (L:xK α) (e:TypeId) (base B:Nat) (w:World):fy L e base B w (.slice none 0 0) []:=
 ⟨[],World.ownsRow_nil w base e L.k,fun i h=>by simp at h⟩
theorem fy.made (L:xK α) (e:TypeId) (base B:Nat) (w:World) (cur:Array Value) (cap:Nat) (hb:base<=w.heap.size) (hm:cap<=maxLen) (hs:cur.size=cap*L.k) :
  fy L e base B (w.alloc (.cells cur e)) (.slice (some ⟨w.heap.size,0,none⟩) 0 cap) []:=
 ⟨[],World.ownsRow_made w cur cap hb hm hs,fun i h=>by simp at h⟩
theorem fy.kept {w':World} (h:fy L e base B w v l) (hb:Below w.heap.size w w') (hB:B<=w.heap.size):fy L e base B w' v l:=by
 obtain ⟨xs,h1,h2⟩:=h
 refine⟨xs,h1.kept (row:=none) ⟨hb.os,hb.tape,hb.output,hb.size,fun k hk _=>hb.block k hk⟩ (by cases v.ownBlock<;>simp),fun i hi=>?_⟩
 obtain ⟨vs,h3,h4⟩:=h2 i hi
 exact⟨vs,L.stab (eF.dJ hb hB) h3,h4⟩
theorem fy.other {w':World} {row:Option Nat} (h:fy L e base B w v l) (hg:w.grownBy w' row) (hB:B<=w.heap.size) (hr:∀ k,row=some k->B<=k) (hne:v.ownBlock=none∨v.ownBlock≠row):fy L e base B w' v l:=by
 obtain ⟨xs,h1,h2⟩:=h
 refine⟨xs,h1.kept hg hne,fun i hi=>?_⟩
 obtain ⟨vs,h3,h4⟩:=h2 i hi
 exact⟨vs,L.stab (eF.dJ ((Below.refl _ _).grown hg hB hr) (N6 _)) h3,h4⟩
theorem fy.alloc (h:fy L e base B w v l) (hB:B<=w.heap.size) (o:Obj):fy L e base B (w.alloc o) v l:=
 h.kept ((Below.refl _ _).alloc (N6 _) _) hB
theorem fy.drew (h:fy L e base B w v l) (hB:B<=w.heap.size):fy L e base B w.drew v l:=
 h.kept (Below.refl _ _).drew hB
theorem fy.lt (h:fy L e base B w v l):∀ k,v.ownBlock=some k->base<=k/\k<w.heap.size:=let ⟨_,h1,_⟩:=h; h1.lt
theorem uR (b off j:Nat):(⟨b,off,none⟩:Addr).add j=⟨b,off+j,none⟩:=by unfold Addr.add; split<;>simp_all
theorem fy.slice (h:fy L e base B w v l) {B':Nat} (hB:B<=B') (hw:w.heap.size<=B'):eT L B' w v l:=by
 obtain ⟨xs,h1,h2⟩:=h
 have hlt:=h1.lt
 have hcs:=fun g hg=>h1.cells (g:=g) hg
 obtain ⟨hl,h3⟩:=h1
 rcases h3 with ⟨rfl,hn⟩ | ⟨g,cap,cur,rfl,hb,hg,hc,hm,hs,ht⟩
 ·obtain rfl:l=[]:=Ou hn
  exact eT.nil _ _ _
 ·refine⟨_,cap,rfl,hc,hm,fun _=>⟨g,0,rfl,Om (hlt g rfl).2 hw,fun i hi=>?_⟩⟩
  obtain ⟨vs,h4,h5⟩:=h2 i hi
  refine⟨vs,L.mono hB h4,fun j hj=>?_⟩
  have hlv:j<vs.length:=by rw[L.len h4]; exact hj
  rw[<-h5 j hj]
  have h6:=h5 j hj
  rw[N5 hlv] at h6
  have:=hcs g rfl _ _ h6
  rw[uR,OZ] at this
  rw[OZ,this,h6]
theorem eT.cells {B':Nat} {x:Value} {ys:List α} (hone:∀ vs y,L.rd B' w vs y->∀ u∈vs,u.oneCell'=true) (hk:0<L.k) (hx:eT L B' w x ys) (hp:0<ys.length) :
  ∃ (ad:Addr) (c:Nat) (news:List Value),x=.slice (some ad) ys.length c/\news.length=ys.length*L.k/\(∀ j u,news[j]? = some u->w.cell? (ad.add j)=some u)/\(∀ u∈news,u.oneCell'=true) ∧
   ∀ i (h:i<ys.length),∃ vs,L.rd B' w vs ys[i]/\∀ j,j<L.k->news[i*L.k+j]? = vs[j]?:=by
 obtain ⟨a,cap,rfl,hc,hm,h3⟩:=hx
 obtain ⟨b,off,rfl,hb,h4⟩:=h3 hp
 have key:∀ t,t<ys.length*L.k->∃ u,w.cell? ⟨b,off+t,none⟩=some u/\u.oneCell'=true:=fun t ht=>by
  have hi:t / L.k<ys.length:=QU (by rw[Pm]; exact ht)
  have hj:=Qt t hk
  obtain ⟨vs,h5,h6⟩:=h4 _ hi
  have hlv:t % L.k<vs.length:=by rw[L.len h5]; exact hj
  have h7:=h6 _ hj
  rw[N5 hlv] at h7
  have e1:off+t / L.k*L.k+t % L.k=off+t:=by have:=QV t L.k; rw[Pm] at this; omega
  rw[e1] at h7
  exact⟨_,h7,hone _ _ h5 _ (OL _)⟩
 have at_:∀ j,j<ys.length*L.k->((List.range (ys.length*L.k)).map fun t=>(w.cell? ⟨b,off+t,none⟩).getD undef)[j]? = w.cell? ⟨b,off+j,none⟩:=fun j hj=>by
  obtain ⟨u,h5,_⟩:=key j hj
  rw[OB,Qi hj,OX,h5]
  rfl
 refine⟨_,cap,(List.range (ys.length*L.k)).map fun t=>(w.cell? ⟨b,off+t,none⟩).getD undef,rfl,r9,fun j u hu=>?_,fun u hu=>?_,fun i hi=>?_⟩
 ·have hj:j<ys.length*L.k:=by have:=(Oa.1 hu).1; simpa using this
  rw[at_ j hj] at hu
  rw[uR]; exact hu
 ·obtain ⟨t,ht,rfl⟩:=QF.1 hu
  obtain ⟨u,h5,h6⟩:=key t (OD.1 ht)
  rw[h5]; exact h6
 ·obtain ⟨vs,h5,h6⟩:=h4 i hi
  refine⟨vs,h5,fun j hj=>?_⟩
  have:i*L.k+j<ys.length*L.k:=by
   have:=PR L.k (show i+1<=ys.length from hi)
   rw[O5] at this; omega
  rw[at_ _ this,<-h6 j hj,P2]
end
inductive A where
 | any
 | v (x:Value)
 | ptr (b o:Nat)
 | ep (b i o:Nat)
 | ip (cs:List A)
 | imm (els:List (List A)) (clip:Bool)
 | sl (b o n:Nat) (clip:Bool)
 | agg (cs:List A)
 | tup (cs:List A)
 | fn (f:Fn) (first cap:List A)
 | ifc (t:TypeId) (x:A)
 | yld (b:Nat)
 | nq (els:List (List A))
 | mr (b:Nat)
 | mv (k:IntKind) (ks:List Int) (vs:List A)
 deriving Inhabited
inductive FR where
 | exit (id:Nat)
 | goto (l:Nat)
 | ret
inductive ml where
 | ready
 | busy
 | done (j:FR)
inductive aw where
 | box (cs:List A)
 | row (wr:Bool) (es:Nat) (els:List (List A))
 | rng (st:ml)
 | dead
 | hole
 | mp (k:IntKind) (ks:List Int) (vs:List A)
 deriving Inhabited
abbrev ar:=List aw
inductive E where
 | normal
 | exit (id:Nat)
 | goto (l:Nat)
 | ret
 | pan (v:A)
inductive Out where
 | ret (a:A)
 | pan (a:A)
abbrev R:=Out×ar
structure St where
 fr:List (Nat×A)
 H:ar
structure Cx where
 P:Program
 glob:Nat->Option (List Value)
 isOrc:Nat->Bool
 isOrcV:Nat->Bool
 C:Nat->List A->Option A
 keep:Nat->Nat->List Nat
 wrAt:Nat->Nat->Bool
 acts:Nat->Nat->List (Nat×Nat×Nat)
 loud:Nat->Nat->Bool
 arr:Nat->Nat->Bool
 join:Nat->Nat->List Nat:=fun _ _=>[]
 cut:Nat->Nat:=fun _=>0
 fre:Nat->Bool:=fun _=>false
 deep:Nat->Bool:=fun _=>false
def tY (f r:Nat):List ((Nat×Nat)×List Nat)->List Nat
 | []=>[]
 | p :: l=>bif Nat.beq p.1.1 f then bif Nat.beq p.1.2 r then p.2 else tY f r l else tY f r l
def Az (f r:Nat):List ((Nat×Nat)×List (Nat×Nat×Nat))->List (Nat×Nat×Nat)
 | []=>[]
 | p :: l=>bif Nat.beq p.1.1 f then bif Nat.beq p.1.2 r then p.2 else Az f r l else Az f r l
def D7 (k:Nat):List (Nat×Nat)->Nat
 | []=>0
 | p :: l=>bif Nat.beq p.1 k then p.2 else D7 k l
def vH (f r:Nat):List (Nat×Nat)->Bool
 | []=>false
 | p :: l=>bif Nat.beq p.1 f&&Nat.beq p.2 r then true else vH f r l
def Bw (k:Nat):List Nat->Bool
 | []=>true
 | x :: l=>bif Nat.beq x k then false else Bw k l
def look:List (Nat×A)->Nat->A
 | [],_=>.any
 | (s,a) :: r,t=>bif Nat.beq s t then a else look r t
def St.put (s:St) (dst:Option Nat) (a:A):St:=match dst with | some d=>{ s with fr:=(d,a) :: s.fr } | none=>s
def cf {α:Type} (P:Program):Sem α->Option α
 | .pure a=>some a
 | .program k=>cf P (k P)
 | .mark _ k=>cf P k
 | _=>none
mutual
def A.pf:A->Option Value
 | .v x=>some x
 | .agg cs=>(zE cs).map fun l=>.agg l.toArray
 | .ifc t x=>(A.pf x).map (.iface t)
 | .fn (.func f) [] []=>some (.func (.func f) #[] #[])
 | _=>none
def zE:List A->Option (List Value)
 | []=>some []
 | a :: as=>(A.pf a).bind fun x=>(zE as).map (x :: ·)
end
def xn:Value->A
 | .slice none 0 0=>.imm [] true
 | x=>.v x
def ui:Value->A
 | .agg cs=>.agg (cs.toList.map xn)
 | x=>xn x
def ku (P:Program) (t:TypeId):Bool:=match P.underlying t with | some (.struct _) | some (.array _ _)=>true | _=>false
def bU (P:Program) (t:TypeId):Option Nat:=(P.underlying t).bind fun _=>(P.info? t).map (·.size)
def iQ (P:Program) (t:TypeId):Option Nat:=(P.info? t).map (·.bytes)
def fE (P:Program) (t:TypeId):Option (List A):=(P.info? t).bind fun i=>i.zero.map fun z=>z.cells.toList.map xn
def iT (P:Program) (t:TypeId):Option TypeId:=match P.underlying t with | some (.slice e)=>some e | _=>none
def A.cell:A->Bool
 | .any | .agg _ | .tup _ | .nq _=>false
 | .v x=>x.oneCell'
 | _=>true
def A.cells?:A->Option (List A)
 | .agg cs=>bif cs.all A.cell then some cs else none
 | .v x=>bif x.oneCell' then some [.v x] else none
 | .any | .tup _ | .nq _=>none
 | a=>some [a]
def join (P:Program) (t:TypeId) (cs:List A):Option A:=bif ku P t then some (.agg cs) else match cs with | [c]=>some c | _=>none
def chunk {α:Type} (es:Nat):Nat->List α->List (List α)
 | 0,_=>[]
 | q+1,xs=>xs.take es :: chunk es q (xs.drop es)
def kI (P:Program) (t:TypeId) (a:A) (H:ar):Option A:=
 (bU P t).bind fun n=>bif n==0 then none else
 match a with
 | .ptr b o=>match H[b]? with
  | some (.box cs)=>bif decide (o+n<=cs.length) then join P t ((cs.drop o).take n) else none
  | _=>none
 | .ep b i o=>match H[b]? with
  | some (.row true _ els)=>match els[i]? with
   | some cs=>bif decide (o+n<=cs.length) then join P t ((cs.drop o).take n) else
    bif Nat.beq o 0&&Nat.beq ((els.drop i).take (n / cs.length)).flatten.length n then join P t ((els.drop i).take (n / cs.length)).flatten else none
   | none=>none
  | _=>none
 | .ip cs=>bif decide (n<=cs.length) then join P t (cs.take n) else none
 | _=>none
def aR {α:Type} (cs:List α) (o:Nat) (xs:List α):List α:=cs.take o++xs++cs.drop (o+xs.length)
def ic (P:Program) (t:TypeId) (a x:A) (H:ar) (lo:Nat):Option ar:=
 (bU P t).bind fun n=>x.cells?.bind fun xs=>bif n==0 || !(xs.length==n) then none else
 match a with
 | .ptr b o=>match H[b]? with
  | some (.box cs)=>bif decide (lo<=b)&&decide (o+n<=cs.length) then some (H.set b (.box (aR cs o xs))) else none
  | _=>none
 | .ep b i o=>match H[b]? with
  | some (.row true es els)=>match els[i]? with
   | some cs=>bif decide (lo<=b)&&decide (o+n<=cs.length) then some (H.set b (.row true es (els.set i (aR cs o xs)))) else
    bif decide (lo<=b)&&Nat.beq o 0&&Nat.beq (n / es*es) n&&decide (i+n / es<=els.length) then some (H.set b (.row true es (aR els i (chunk es (n / es) xs)))) else none
   | none=>none
  | _=>none
 | _=>none
def j0 (P:Program) (t:TypeId) (H:ar):Option (A×ar):=(fE P t).map fun cs=>(.ptr H.length 0,H++[.box cs])
def wF (x:A) (H:ar):Option (A×ar):=x.cells?.map fun cs=>(.ptr H.length 0,H++[.box cs])
def rowOf (P:Program) (t:TypeId) (cs:List A) (H:ar):Option (A×ar):=match P.underlying t with
 | some (.array n e)=>(bU P e).bind fun es=>bif Nat.beq es 0 || Nat.beq n 0 || !Nat.beq cs.length (n*es) then none else some (.ep H.length 0 0,H++[.row true es (chunk es n cs)])
 | _=>none
def jd (P:Program) (t:TypeId) (H:ar):Option (A×ar):=(fE P t).bind fun cs=>rowOf P t cs H
def sd (P:Program) (t:TypeId) (x:A) (H:ar):Option (A×ar):=x.cells?.bind fun cs=>rowOf P t cs H
def mP (b:Bool) (P:Program) (t:TypeId) (H:ar):Option (A×ar):=bif b then jd P t H else j0 P t H
def wP (b:Bool) (P:Program) (t:TypeId) (x:A) (H:ar):Option (A×ar):=bif b then sd P t x H else wF x H
def rep (c:Bool):Operand:=if c then .const .nilIface else .tmp 0
def FZ:Operand->Bool | .const _=>true | _=>false
def qk (P:Program) (q:TypeId->Value->Value->Option Bool) (xs ys:Array Value):List Field->Option Bool
 | []=>some true
 | [f]=>bif f.name == "_" then some true else (cf P (part f.type xs f.offset)).bind fun a=>(cf P (part f.type ys f.offset)).bind fun b=>q f.type a b
 | f :: fs=>bif f.name == "_" then qk P q xs ys fs else (cf P (part f.type xs f.offset)).bind fun a=>(cf P (part f.type ys f.offset)).bind fun b=>(q f.type a b).bind fun r=>(qk P q xs ys fs).map fun r'=>r&&r'
def sn (P:Program) (q:TypeId->Value->Value->Option Bool) (e:TypeId) (c:Nat) (xs ys:Array Value):List Nat->Option Bool
 | []=>some true
 | [i]=>(cf P (part e xs (i*c))).bind fun a=>(cf P (part e ys (i*c))).bind fun b=>q e a b
 | i :: is=>(cf P (part e xs (i*c))).bind fun a=>(cf P (part e ys (i*c))).bind fun b=>(q e a b).bind fun r=>(sn P q e c xs ys is).map fun r'=>r&&r'
def GZ (P:Program):Nat->TypeId->Value->Value->Option Bool
 | 0,_,_,_=>none
 | d+1,t,x,y=>match P.underlying t,x,y with
  | some (.int _),.int k a,.int k' b=>bif decide (k=k') then some (a==b) else none
  | some .bool,.bool a,.bool b=>some (a==b)
  | some .string,.string a,.string b=>some (a==b)
  | some (.struct _),.agg xs,.agg ys=>bif P.stoodInHeld t then none else qk P (GZ P d) xs ys (P.fieldsOf t).toList
  | some (.array n e),.agg xs,.agg ys=>(P.info? e).bind fun _=>sn P (GZ P d) e (P.cellsOf e) xs ys (List.range n)
  | _,_,_=>none
def su (P:Program) (t:TypeId) (x y:A):Option Bool:=bif P.eqGuardType P.depth t then none else x.pf.bind fun a=>y.pf.bind fun b=>GZ P 20 t a b
def ka (P:Program) (op:BinOp) (t:TypeId) (c d:Bool) (x y:A):Option A:=
 match op,x,y with
 | .eql,.agg _,.agg _=>(su P t x y).map fun r=>.v (.bool r)
 | .neq,.agg _,.agg _=>(su P t x y).map fun r=>.v (.bool (!r))
 | _,_,_=>x.pf.bind fun a=>y.pf.bind fun b=>(cf P (do eqGuard op t (rep c) (rep d) a b; binOp op t a b)).map ui
def kb (P:Program) (op:UnOp) (x:A):Option A:=x.pf.bind fun a=>(cf P (Op.unary op a)).map ui
def xR (mn:Bool) (x y:A):Option A:=match x,y with
 | .v (.int k a),.v (.int l b)=>bif k==l then some (.v (.int k (if mn then (if b<a then b else a) else (if a<b then b else a)))) else none
 | _,_=>none
def Ci (mn:Bool):A->List A->Option A
 | x,[]=>some x
 | x,y :: r=>(xR mn x y).bind fun z=>Ci mn z r
def tZ (P:Program) (t:TypeId):Option (IntKind×TypeId):=match P.underlying t with
 | some (.map kt vt)=>match P.underlying kt with | some (.int k)=>some (k,vt) | _=>none
 | _=>none
def keyOf (k:IntKind):A->Option Int
 | .v (.int j n)=>bif decide (j=k) then some n else none
 | _=>none
def kd (a:Int):List Int->List A->Option A
 | x :: ks,v :: vs=>bif decide (a=x) then some v else kd a ks vs
 | _,_=>none
def um (a:Int) (y:A):List Int->List A->List Int×List A
 | x :: ks,v :: vs=>bif decide (a=x) then (x :: ks,y :: vs) else (x :: (um a y ks vs).1,v :: (um a y ks vs).2)
 | _,_=>([a],[y])
def nw (P:Program) (t:TypeId) (H:ar):Option (A×ar):=(tZ P t).map fun p=>(.mr H.length,H++[.mp p.1 [] []])
def gG (P:Program) (t:TypeId) (m i x:A) (H:ar) (lo:Nat):Option ar:=(tZ P t).bind fun p=>(keyOf p.1 i).bind fun a=>match m with
 | .mr b=>match H[b]? with
  | some (.mp k ks vs)=>bif decide (lo<=b)&&decide (k=p.1) then some (H.set b (.mp k (um a x ks vs).1 (um a x ks vs).2)) else none
  | _=>none
 | _=>none
def F0 (P:Program) (vt:TypeId) (c:Bool) (r:Option A):Option A:=match r with
 | some y=>some (bif c then .tup [y,.v (.bool true)] else y)
 | none=>(P.info? vt).bind fun i=>i.zero.map fun z=>bif c then .tup [ui z,.v (.bool false)] else ui z
def ee (P:Program) (t:TypeId) (m i:A) (c:Bool) (H:ar):Option A:=(tZ P t).bind fun p=>(keyOf p.1 i).bind fun a=>match m with
 | .mv k ks vs=>bif decide (k=p.1) then F0 P p.2 c (kd a ks vs) else none
 | .mr b=>match H[b]? with
  | some (.mp k ks vs)=>bif decide (k=p.1) then F0 P p.2 c (kd a ks vs) else none
  | _=>none
 | _=>none
def kU (x:A) (i:Nat):Option A:=match x with | .tup cs=>cs[i]? | _=>none
def wI (P:Program) (t:TypeId) (x:A) (i:Nat):Option A:=
 match P.underlying t,x with
 | some (.struct fs),.agg cs=>fs[i]?.bind fun f=>(bU P f.type).bind fun n=>bif decide (f.offset+n<=cs.length) then join P f.type ((cs.drop f.offset).take n) else none
 | _,_=>none
def idx:A->Option Nat
 | .v (.int _ n)=>bif decide (0<=n) then some n.toNat else none
 | _=>none
def wK (P:Program) (t:TypeId) (x i:A):Option A:=
 (idx i).bind fun j=>
 match P.underlying t,x with
 | some (.array len e),.agg cs=>(bU P e).bind fun n=>bif decide (j<len)&&decide (j*n+n<=cs.length) then join P e ((cs.drop (j*n)).take n) else none
 | some .string,.v (.string s)=>s[j]?.map fun b=>.v (.int .u8 b.toNat)
 | _,_=>none
def fh (H:ar):A->Bool
 | .ptr b _=>match H[b]? with | some (.box _)=>true | _=>false
 | .ep b _ _=>match H[b]? with | some (.row true _ _)=>true | _=>false
 | .sl b _ _ _=>match H[b]? with | some (.row ..)=>true | _=>false
 | .mr b=>match H[b]? with | some (.mp ..)=>true | _=>false
 | _=>true
def eI (P:Program) (t:TypeId) (x:A) (i:Nat) (H:ar):Option A:=
 bif fh H x then
 match P.underlying t with
 | some (.struct fs)=>fs[i]?.bind fun f=>(bU P f.type).bind fun n=>bif n==0 then none else
  match x with
  | .ptr b o=>some (.ptr b (o+f.offset))
  | .ep b j o=>some (.ep b j (o+f.offset))
  | .ip cs=>some (.ip (cs.drop f.offset))
  | _=>none
 | _=>none
 else none
def cC (P:Program) (t:TypeId) (x i:A) (H:ar):Option A:=
 (idx i).bind fun j=>bif fh H x then
 match P.underlying t with
 | some (.slice e)=>(bU P e).bind fun n=>match x with
  | .imm els _=>els[j]?.bind fun cs=>bif cs.length==n then some (.ip cs) else none
  | .sl b o m _=>bif decide (j<m) then match H[b]? with
   | some (.row true es _)=>bif es==n then some (.ep b (o+j) 0) else none
   | some (.row false es els)=>bif es==n then els[o+j]?.map .ip else none
   | _=>none else none
  | _=>none
 | some (.array len e)=>(bU P e).bind fun n=>bif !decide (j<len) then none else match x with
  | .ptr b o=>some (.ptr b (o+j*n))
  | .ep b k o=>match H[b]? with
   | some (.row _ es els)=>bif Nat.beq es n&&Nat.beq o 0&&decide (k+j<els.length) then some (.ep b (k+j) 0) else some (.ep b k (o+j*n))
   | _=>none
  | .ip cs=>some (.ip (cs.drop (j*n)))
  | _=>none
 | _=>none
 else none
def p3 (P:Program) (t:TypeId) (x:A) (H:ar):Option A:=
 bif fh H x then
 match P.underlying t,x with
 | some .string,.v (.string s)=>some (.v (.int .i64 s.size))
 | some (.slice _),.imm els _=>some (.v (.int .i64 els.length))
 | some (.slice _),.sl _ _ n _=>some (.v (.int .i64 n))
 | _,_=>none
 else none
def oU (H:ar):A->Bool
 | .ptr b o=>fh H (.ptr b o)
 | .ep b i o=>fh H (.ep b i o)
 | .ip _=>true
 | .fn (.func _) _ _=>true
 | _=>false
def yT (a:A) (H:ar):Option A:=bif oU H a then some a else none
def jt (d:Nat):Option A->Option Nat
 | none=>some d
 | some a=>idx a
def ef (P:Program) (t:TypeId) (x:A) (lo hi mx:Option A) (H:ar):Option A:=
 match P.underlying t,x with
 | some .string,.v (.string s)=>bif mx.isSome then none else
  (jt s.size hi).bind fun h=>(jt 0 lo).bind fun l=>bif decide (l<=h)&&decide (h<=s.size) then some (.v (.string (s.extract l h))) else none
 | some (.slice e),.imm els c=>(bU P e).bind fun n=>(jt els.length hi).bind fun h=>(jt 0 lo).bind fun l=>
  bif decide (l<=h)&&decide (h<=els.length)&&(l==0 || match els[l]? with | some cs=>cs.length==n | none=>true) then match mx with
   | none=>some (.imm ((els.drop l).take (h - l)) (c&&h==els.length))
   | some m=>(idx m).bind fun m=>bif m==h then some (.imm ((els.drop l).take (h - l)) true) else none
  else none
 | some (.slice e),.sl b o n c=>(bU P e).bind fun z=>(jt n hi).bind fun h=>(jt 0 lo).bind fun l=>
  bif decide (l<=h)&&decide (h<=n)&&(match H[b]? with | some (.row _ es _)=>es==z | _=>false) then match mx with
   | none=>some (.sl b (o+l) (h - l) (c&&h==n))
   | some m=>(idx m).bind fun m=>bif m==h then some (.sl b (o+l) (h - l) true) else none
  else none
 | some (.array n e),.ip cs=>(bU P e).bind fun z=>(jt n hi).bind fun h=>(jt 0 lo).bind fun l=>
  bif decide (l<=h)&&decide (h<=n)&&decide (n*z<=cs.length)&&mx.isNone&&!Nat.beq z 0 then some (.imm (((chunk z n cs).drop l).take (h - l)) (Nat.beq h n)) else none
 | some (.array n e),.ep b k o=>(bU P e).bind fun z=>(jt n hi).bind fun h=>(jt 0 lo).bind fun l=>
  bif decide (l<=h)&&decide (h<=n)&&mx.isNone&&Nat.beq o 0&&(match H[b]? with | some (.row true es els)=>Nat.beq es z&&decide (k+n<=els.length) | _=>false) then some (.sl b (k+l) (h - l) (Nat.beq h n)) else none
 | _,_=>none
def els? (H:ar):A->Option (List (List A))
 | .imm els _=>some els
 | .sl b o n _=>match H[b]? with
  | some (.row _ _ els)=>some ((els.drop o).take n)
  | _=>none
 | .v (.string s)=>some (s.data.toList.map fun c=>[.v (.int .u8 c.toNat)])
 | _=>none
def u1 (H:ar):A->Option (List (List A))
 | .v _=>none
 | x=>els? H x
def cq:Nat:=140737488355328
def lN (P:Program) (t:TypeId):Bool:=match P.underlying t with | some (.slice _) | some .string=>true | _=>false
def tV (P:Program) (t:TypeId):Bool:=match P.underlying t with | some (.int _)=>true | _=>false
def rT:A->A
 | .imm els _=>.imm els false
 | a=>a
def wX (P:Program) (H:ar) (t2:TypeId) (by_:Nat) (z:List A) (y:A):Option (List (List A)):=bif lN P t2 then els? H y else match y with
 | .v (.int .i64 n)=>bif tV P t2&&decide (0<=n)&&decide (n*by_<=cq)&&decide (n<=cq) then some (List.replicate n.toNat (z.map rT)) else none
 | _=>none
def bV (P:Program) (t t2:TypeId) (wr:Bool) (x y:A) (H:ar) (lo:Nat):Option (A×ar):=
 (iT P t).bind fun e=>(bU P e).bind fun es=>(iQ P e).bind fun by_=>(fE P e).bind fun z=>(wX P H t2 by_ z y).bind fun ys=>
 bif es==0 || by_==0 || !(z.length==es) || !(ys.all fun cs=>cs.length==es&&cs.all A.cell) then none else
 match x with
 | .imm xs true=>
  bif !decide ((xs.length+ys.length)*by_<=cq) then none else
  bif wr&&xs.isEmpty then some (.sl H.length 0 ys.length false,H++[.row true es ys]) else
  bif xs.all (fun cs=>cs.length==es&&cs.all A.cell) then some (.sl H.length 0 (xs.length+ys.length) false,H++[.row false es (xs++ys)]) else none
 | .sl b o n c=>match H[b]? with
  | some (.row false es' els)=>
   bif !decide ((n+ys.length)*by_<=cq) || !(es'==es) || !decide (o+n<=els.length) then none else
   bif c then some (.sl H.length 0 (n+ys.length) false,H++[.row false es ((els.drop o).take n++ys)]) else
   bif decide (lo<=b)&&o==0&&n==els.length then some (.sl b 0 (n+ys.length) false,H.set b (.row false es (els++ys))) else none
  | _=>none
 | _=>none
def ed (ck:Bool) (P:Program) (t:TypeId) (n c:A) (H:ar):Option (A×ar):=
 (iT P t).bind fun e=>(bU P e).bind fun es=>(iQ P e).bind fun by_=>(fE P e).bind fun z=>(idx n).bind fun n=>(idx c).bind fun c=>
 bif es==0 || !(z.length==es) || !decide (c*by_<=cq) || !decide (c<=cq) || !decide (n<=c) then none else
 bif n==c then some (.sl H.length 0 n ck,H++[.row true es (List.replicate n (z.map rT))]) else
 bif n==0 then some (.sl H.length 0 0 false,H++[.row false es []]) else none
def dq (P:Program) (t:TypeId) (n c:A) (H:ar):Option (A×ar):=ed false P t n c H
def fM (P:Program) (t:TypeId) (n c:A) (H:ar):Option (A×ar):=
 (iT P t).bind fun e=>(bU P e).bind fun es=>(iQ P e).bind fun by_=>(fE P e).bind fun z=>(idx n).bind fun n=>(idx c).bind fun c=>
 bif es==0 || !(z.length==es) || !decide (c*by_<=cq) || !decide (c<=cq) || !(n==c) then none else some (.imm (List.replicate n (z.map rT)) false,H)
def qS (b:Bool) (P:Program) (t:TypeId) (n c:A) (H:ar):Option (A×ar):=bif b then fM P t n c H else dq P t n c H
def sy (place:Nat->Option (Nat×Nat)) (cs:List A):List (Nat×A)->Option (List A)
 | []=>some cs
 | (i,x) :: r=>(place i).bind fun p=>x.cells?.bind fun xs=>bif xs.length==p.2&&decide (p.1+p.2<=cs.length) then sy place (aR cs p.1 xs) r else none
def yx (P:Program) (t:TypeId):Option (Nat->Option (Nat×Nat)):=match P.underlying t with
 | some (.struct fs)=>(fs.toList.mapM fun f=>(P.info? f.type).map fun i=>(f.offset,i.size)).map fun places=>(places.toArray[·]?)
 | some (.array _ e)=>(P.info? e).map fun i=>fun j=>some (j*i.size,i.size)
 | _=>none
def tg (P:Program) (t:TypeId) (parts:List (Nat×A)):Option A:=
 (fE P t).bind fun z=>(yx P t).bind fun place=>(sy place z parts).map .agg
def kC (els:List (List A)):List (Nat×A)->Option (List (List A))
 | []=>some els
 | (i,x) :: r=>x.cells?.bind fun xs=>kC (els.set i xs) r
def aI (P:Program) (t:TypeId) (len:Nat) (parts:List (Nat×A)):Option A:=
 (iT P t).bind fun e=>(bU P e).bind fun es=>(fE P e).bind fun z=>bif es==0 || !(z.length==es) || !decide (len*es<=16777216) then none else
 bif parts.all (fun p=>decide (p.1<len)&&(match p.2.cells? with | some xs=>xs.length==es | none=>false)) then (kC (List.replicate len z) parts).map fun els=>.imm els true else none
def ow (P:Program) (t:TypeId) (len:Nat) (parts:List (Nat×A)) (H:ar):Option (A×ar):=
 (iT P t).bind fun e=>(bU P e).bind fun es=>(aI P t len parts).bind fun a=>match a with
  | .imm els true=>some (.sl H.length 0 els.length true,H++[.row true es els])
  | _=>none
def kT (P:Program) (t:TypeId) (x y:A) (H:ar) (lo:Nat):Option (A×ar):=
 (iT P t).bind fun e=>(bU P e).bind fun es=>(els? H y).bind fun ys=>bif es==0 || !(ys.all fun cs=>cs.length==es&&cs.all A.cell) then none else
 match x with
 | .sl b o n _=>match H[b]? with
  | some (.row true es' els)=>bif decide (lo<=b)&&es'==es then some (.v (.int .i64 (min ys.length n:Nat)),H.set b (.row true es (aR els o (ys.take n)))) else none
  | _=>none
 | _=>none
def bytesOf:List (List A)->Option (List UInt8)
 | []=>some []
 | [.v (.int .u8 n)] :: r=>(bytesOf r).map (n.toNat.toUInt8 :: ·)
 | _=>none
def bH (P:Program) (s d:TypeId) (x:A) (H:ar):Option A:=
 match P.underlying s,P.underlying d,x with
 | some (.slice e),some .string,x=>match P.underlying e,bU P e with
  | some (.int .u8),some 1=>(u1 H x).bind fun els=>(bytesOf els).map fun l=>.v (.string ⟨l.toArray⟩)
  | _,_=>none
 | some .string,some (.slice e),.v (.string s)=>match P.underlying e with
  | some (.int .u8)=>some (.imm (s.data.toList.map fun c=>[.v (.int .u8 c.toNat)]) false)
  | _=>none
 | _,_,x=>x.pf.bind fun a=>(cf P (convert s d a)).map ui
def Ch (P:Program) (t:TypeId) (x:A):Option A:=match P.underlying t with | some (.interface _)=>none | none=>none | some _=>some (.ifc t x)
def ug (P:Program) (t:TypeId) (c:Bool):Option A:=bif c then (P.info? t).bind fun i=>i.zero.map fun z=>.tup [ui z,.v (.bool false)] else none
def lZ (P:Program) (x:A) (t:TypeId) (c:Bool):Option A:=match P.underlying t with
 | none=>none
 | some (.interface _)=>none
 | some _=>match x with
  | .ifc t' y=>bif Nat.beq t' t then some (bif c then .tup [y,.v (.bool true)] else y) else ug P t c
  | .v .nilIface=>ug P t c
  | _=>none
mutual
def bQ (g:Nat->Nat->Nat->A):A->A
 | .sl b o m _=>g b o m
 | .imm els _=>.imm (cw g els) false
 | .agg cs=>.agg (aM g cs)
 | .tup cs=>.tup (aM g cs)
 | .ifc t x=>.ifc t (bQ g x)
 | .mv k ks vs=>.mv k ks (aM g vs)
 | .v x=>.v x
 | .fn f [] []=>.fn f [] []
 | _=>.any
def aM (g:Nat->Nat->Nat->A):List A->List A
 | []=>[]
 | a :: as=>bQ g a :: aM g as
def cw (g:Nat->Nat->Nat->A):List (List A)->List (List A)
 | []=>[]
 | a :: as=>aM g a :: cw g as
end
def gk:Nat->ar->Nat->Nat->Nat->A
 | 0,_,_,_,_=>.any
 | n+1,H,b,o,m=>match H[b]? with
  | some (.row false _ els)=>.imm (cw (gk n H) ((els.drop o).take m)) false
  | _=>.any
def snap (H:ar) (a:A):A:=bQ (gk 4 H) a
def gg:Nat->ar->Nat->Nat->Nat->A
 | 0,_,_,_,_=>.any
 | n+1,H,b,o,m=>match H[b]? with
  | some (.row _ _ els)=>.imm (cw (gg n H) ((els.drop o).take m)) false
  | _=>.any
def hY:Nat->ar->A->A
 | 0,_,_=>.any
 | n+1,H,.ptr b o=>match H[b]? with | some (.box cs)=>.ip ((cs.drop o).map (hY n H)) | _=>.any
 | n+1,H,.fn f p q=>.fn f (p.map (hY n H)) (q.map (hY n H))
 | n+1,H,.agg cs=>.agg (cs.map (hY n H))
 | _+1,H,a=>bQ (gg 4 H) a
def bR (H:ar) (a:A):A:=match a with
 | .mr b=>match H[b]? with
  | some (.mp k ks vs)=>.mv k ks (aM (gg 4 H) vs)
  | _=>.any
 | .fn f p q=>hY 6 H (.fn f p q)
 | a=>bQ (gg 4 H) a
def sf (lo:Nat) (a:A) (H:ar):Option (A×ar):=match a with
 | .sl b o n _=>match H[b]? with
  | some (.row true _ els)=>bif decide (lo<=b) then some (.imm (cw (gk 4 H) ((els.drop o).take n)) false,H.set b .dead) else none
  | some (.row false _ els)=>some (.imm (cw (gk 4 H) ((els.drop o).take n)) false,H)
  | _=>none
 | .ptr b o=>match H[b]? with
  | some (.box cs)=>bif decide (lo<=b)&&Nat.beq o 0 then some (.ip cs,H.set b .dead) else none
  | _=>none
 | _=>none
def Av (P:Program) (s t:TypeId) (x:A) (H:ar) (lo:Nat):Option (A×ar):=
 match P.underlying s with
 | some (.slice e)=>match P.underlying e with
  | some (.int .u8)=>match x with
   | .sl b _ n _=>match H[b]? with
    | some (.row true _ _)=>bif Nat.beq s t&&decide (0<n) then sf lo x H else none
    | _=>none
   | _=>none
  | _=>none
 | _=>none
def zo (H:ar) (a:A):A:=match a with | .sl b o n c=>snap H (.sl b o n c) | .imm els _=>.imm els false | a=>a
def cQ (H:ar) (a:A):A:=match a with | .sl b o n c=>snap H (.sl b o n c) | .agg cs=>.agg (cs.map (zo H)) | a=>a
def cK (a:A) (H:ar) (x:A):A:=match a with | .ep ..=>cQ H x | _=>x
mutual
def A.under (L:Nat):A->Bool
 | .any | .v _ | .nq _=>true
 | .ptr b _ | .ep b _ _ | .sl b _ _ _ | .yld b | .mr b=>decide (b<L)
 | .mv _ _ vs=>aN L vs
 | .ip cs | .agg cs | .tup cs=>aN L cs
 | .imm els _=>ax L els
 | .fn _ a b=>aN L a&&aN L b
 | .ifc _ x=>A.under L x
def aN (L:Nat):List A->Bool
 | []=>true
 | a :: as=>A.under L a&&aN L as
def ax (L:Nat):List (List A)->Bool
 | []=>true
 | a :: as=>aN L a&&ax L as
end
def aw.under (L:Nat):aw->Bool
 | .box cs=>aN L cs
 | .row _ _ els=>ax L els
 | .rng _=>true
 | .dead=>true
 | .hole=>true
 | .mp _ _ vs=>aN L vs
def trim (L:Nat) (H:ar):Option ar:=bif H.length==L then some H else bif (H.take L).all (aw.under L) then some (H.take L) else none
def bE (cx:Cx) (s:St):Operand->A
 | .tmp t=>look s.fr t
 | .const x=>ui x
 | .global g=>match cx.glob g with | some vs=>.ip (vs.map .v) | none=>.any
 | .func f=>.fn (.func f) [] []
def c7 {β:Type} (a:A) (x y:Option β):Option β:=match a with | .v (.bool b)=>bif b then x else y | _=>none
def BN:Value->Value->Bool
 | .int k a,.int k' b=>decide (k=k')&&decide (a=b)
 | .bool a,.bool b=>a==b
 | .string a,.string b=>decide (a.data.toList=b.data.toList)
 | .nilIface,.nilIface=>true
 | .nilFunc,.nilFunc=>true
 | _,_=>false
theorem BO:∀ (x y:Value),BN x y=true->x=y:=fun x y h=>by
 unfold BN at h
 split at h
 ·simp only[N7,Od] at h; rw[h.1,h.2]
 ·rw[eq_of_beq h]
 ·rename_i a b
  obtain ⟨⟨a⟩⟩:=a; obtain ⟨⟨b⟩⟩:=b
  exact Po (fun l=>Value.string ⟨⟨l⟩⟩) (Oe h)
 ·rfl
 ·rfl
 ·cases h
mutual
def fY:A->A->Bool
 | .any,y=>match y with | .any=>true | _=>false
 | .v x,y=>match y with | .v z=>BN x z | _=>false
 | .ptr b o,y=>match y with | .ptr b' o'=>Nat.beq b b'&&Nat.beq o o' | _=>false
 | .ep b i o,y=>match y with | .ep b' i' o'=>Nat.beq b b'&&Nat.beq i i'&&Nat.beq o o' | _=>false
 | .ip cs,y=>match y with | .ip ds=>sameAs cs ds | _=>false
 | .imm els c,y=>match y with | .imm ds d=>mj els ds&&(c==d) | _=>false
 | .sl b o n c,y=>match y with | .sl b' o' n' c'=>Nat.beq b b'&&Nat.beq o o'&&Nat.beq n n'&&(c==c') | _=>false
 | .agg cs,y=>match y with | .agg ds=>sameAs cs ds | _=>false
 | .tup cs,y=>match y with | .tup ds=>sameAs cs ds | _=>false
 | .mv k ks vs,y=>match y with | .mv k' ks' vs'=>decide (k=k')&&decide (ks=ks')&&sameAs vs vs' | _=>false
 | .mr b,y=>match y with | .mr b'=>Nat.beq b b' | _=>false
 | .fn _ _ _,_=>false
 | .ifc _ _,_=>false
 | .yld _,_=>false
 | .nq _,_=>false
def sameAs:List A->List A->Bool
 | [],y=>match y with | []=>true | _=>false
 | a :: l,y=>match y with | b :: m=>fY a b&&sameAs l m | []=>false
def mj:List (List A)->List (List A)->Bool
 | [],y=>match y with | []=>true | _=>false
 | a :: l,y=>match y with | b :: m=>sameAs a b&&mj l m | []=>false
end
mutual
theorem rf:∀ (x y:A),fY x y=true->x=y
 | .any,y,h=>by cases y<;>simp only[fY,OE] at h; rfl
 | .v x,y,h=>by
  cases y<;>simp only[fY,OE,N7,Od] at h
  rw[BO _ _ h]
 | .ptr b o,y,h=>by
  cases y<;>simp only[fY,OE,N7,Od] at h
  rw[Ok h.1,Ok h.2]
 | .ep b i o,y,h=>by
  cases y<;>simp only[fY,OE,N7,Od] at h
  rw[Ok h.1.1,Ok h.1.2,Ok h.2]
 | .ip cs,y,h=>by
  cases y<;>simp only[fY,OE,N7,Od] at h
  rw[fB _ _ h]
 | .imm els c,y,h=>by
  cases y<;>simp only[fY,OE,N7,Od] at h
  rw[ng _ _ h.1,eq_of_beq h.2]
 | .sl b o n c,y,h=>by
  cases y<;>simp only[fY,OE,N7,Od] at h
  rw[Ok h.1.1.1,Ok h.1.1.2,Ok h.1.2,eq_of_beq h.2]
 | .agg cs,y,h=>by
  cases y<;>simp only[fY,OE,N7,Od] at h
  rw[fB _ _ h]
 | .tup cs,y,h=>by
  cases y<;>simp only[fY,OE,N7,Od] at h
  rw[fB _ _ h]
 | .mv k ks vs,y,h=>by
  cases y<;>simp only[fY,OE,N7,Od] at h
  rw[h.1.1,h.1.2,fB _ _ h.2]
 | .mr b,y,h=>by
  cases y<;>simp only[fY,OE,N7,Od] at h
  rw[Ok h]
 | .fn ..,y,h=>by cases y<;>simp only[fY,OE] at h
 | .ifc ..,y,h=>by cases y<;>simp only[fY,OE] at h
 | .yld ..,y,h=>by cases y<;>simp only[fY,OE] at h
 | .nq ..,y,h=>by cases y<;>simp only[fY,OE] at h
theorem fB:∀ (x y:List A),sameAs x y=true->x=y
 | [],y,h=>by cases y<;>simp only[sameAs,OE] at h; rfl
 | a :: l,y,h=>by
  cases y<;>simp only[sameAs,OE,N7] at h
  rw[rf _ _ h.1,fB _ _ h.2]
theorem ng:∀ (x y:List (List A)),mj x y=true->x=y
 | [],y,h=>by cases y<;>simp only[mj,OE] at h; rfl
 | a :: l,y,h=>by
  cases y<;>simp only[mj,OE,N7] at h
  rw[fB _ _ h.1,ng _ _ h.2]
end
def BK:aw->aw->Bool
 | .box a,.box b=>sameAs a b
 | .row w e a,.row w' e' b=>(w==w')&&Nat.beq e e'&&mj a b
 | .dead,.dead=>true
 | .hole,.hole=>true
 | .mp k ks vs,.mp k' ks' vs'=>decide (k=k')&&decide (ks=ks')&&sameAs vs vs'
 | _,_=>false
theorem BL:∀ (x y:aw),BK x y=true->x=y:=fun x y h=>by
 unfold BK at h
 split at h
 ·rw[fB _ _ h]
 ·rw[N7,N7] at h; rw[eq_of_beq h.1.1,Ok h.1.2,ng _ _ h.2]
 ·rfl
 ·rfl
 ·simp only[N7,Od] at h; rw[h.1.1,h.1.2,fB _ _ h.2]
 ·cases h
def wj:ar->ar->Bool
 | [],[]=>true
 | a :: l,b :: m=>BK a b&&wj l m
 | _,_=>false
theorem rh:∀ (x y:ar),wj x y=true->x=y
 | [],[],_=>rfl
 | [],_ :: _,h=>by cases h
 | _ :: _,[],h=>by cases h
 | a :: l,b :: m,h=>by
  rw[wj,N7] at h; rw[BL _ _ h.1,rh _ _ h.2]
def wk:Option R->Option R->Bool
 | some (.ret a,H),some (.ret b,H')=>fY a b&&wj H H'
 | some (.pan a,H),some (.pan b,H')=>fY a b&&wj H H'
 | none,none=>true
 | _,_=>false
theorem BM (x y:Option R) (h:wk x y=true):x=y:=by
 unfold wk at h
 split at h
 ·rw[N7] at h; rw[rf _ _ h.1,rh _ _ h.2]
 ·rw[N7] at h; rw[rf _ _ h.1,rh _ _ h.2]
 ·rfl
 ·cases h
noncomputable def both (x y:Option R):Option R:=bif wk x y then y else open Classical in if x=y then y else none
noncomputable def Gv (els:List (List A)) (x y:Option R):Option R:=match els with | []=>both x y | _ :: _=>y
noncomputable def bh (a:A) (x y:Option R):Option R:=match a with | .nq els=>Gv els x y | a=>c7 a x y
theorem AD {x y:Option R} (h:x=y):both x y=y:=by
 unfold both
 cases wk x y
 ·exact Og h
 ·rfl
theorem yX {x y:Option R} {r:R} (h:both x y=some r):x=y/\y=some r:=by
 unfold both at h
 cases e:wk x y
 ·rw[e] at h
  by_cases hxy:x=y
  ·rw[show (bif false then y else open Classical in if x=y then y else none)=y from Og hxy] at h; exact⟨hxy,h⟩
  ·rw[show (bif false then y else open Classical in if x=y then y else none)=none from Oh hxy] at h; cases h
 ·rw[e] at h; exact⟨BM _ _ e,h⟩
def JH (P:Program) (t:TypeId) (x:A):Option A:=match P.underlying t,x with | some (.slice _),.imm els _=>some (.nq els) | _,_=>none
def Fk (op:BinOp) (y:Operand):Bool:=match op,y with | .eql,.const (.slice none 0 0)=>true | _,_=>false
def Gx (b:Bool) (P:Program) (op:BinOp) (t:TypeId) (c d:Bool) (x y:A):Option A:=bif b then JH P t x else ka P op t c d x y
abbrev aK:=Nat->List A->ar->Nat->Option R
def nL {β:Type} (cx:Cx) (f lo:Nat) (dst:Option Nat) (c:Call) (s:St) (k:A->ar->Option β):Option β:=
 match c.callee,c.args.toList,c.argTypes.toList with
 | .builtin .len,[x],[t]=>(p3 cx.P t (bE cx s x) s.H).bind fun a=>k a s.H
 | .builtin .append,[x,y],[t,t2]=>(bV cx.P t t2 (cx.wrAt f (dst.getD 0)) (bE cx s x) (bE cx s y) s.H lo).bind fun r=>k r.1 r.2
 | .builtin .copy,[x,y],[t,_]=>(kT cx.P t (bE cx s x) (bE cx s y) s.H lo).bind fun r=>k r.1 r.2
 | .builtin .min,x :: r,_=>(Ci true (bE cx s x) (r.map (bE cx s))).bind fun a=>k a s.H
 | .builtin .max,x :: r,_=>(Ci false (bE cx s x) (r.map (bE cx s))).bind fun a=>k a s.H
 | _,_,_=>none
def bn {β:Type} (cx:Cx) (f:Nat) (lo:Nat) (o:Oper) (s:St) (k:A->ar->Option β):Option β:=
 match o.op with
 | .move x | .assign x=>k (bE cx s x) s.H
 | .alloc t=>(mP (cx.arr f t) cx.P t s.H).bind fun r=>k r.1 r.2
 | .box t x=>(wP (cx.arr f t) cx.P t (bE cx s x) s.H).bind fun r=>k r.1 r.2
 | .build t parts=>(tg cx.P t (parts.toList.map fun p=>(p.1,bE cx s p.2))).bind fun a=>k a s.H
 | .buildSlice t n parts=>(aI cx.P t n (parts.toList.map fun p=>(p.1,cQ s.H (bE cx s p.2)))).bind fun a=>k a s.H
 | .load t a=>(kI cx.P t (bE cx s a) s.H).bind fun a=>k a s.H
 | .store t a x=>(ic cx.P t (bE cx s a) (cK (bE cx s a) s.H (bE cx s x)) s.H lo).bind fun H=>k .any H
 | .binOp op t x y _=>(Gx (Fk op y) cx.P op t (FZ x) (FZ y) (bE cx s x) (bE cx s y)).bind fun a=>k a s.H
 | .unOp op _ x=>(kb cx.P op (bE cx s x)).bind fun a=>k a s.H
 | .convert a b x=>(bH cx.P a b (bE cx s x) s.H).bind fun a=>k a s.H
 | .makeInterface t x=>(Ch cx.P t (bE cx s x)).bind fun a=>k a s.H
 | .makeFunc fn a b=>k (.fn fn (a.toList.map (bE cx s)) (b.toList.map (bE cx s))) s.H
 | .makeSlice t n c=>(qS (cx.loud f (o.dst.getD 0)) cx.P t (bE cx s n) (bE cx s c) s.H).bind fun r=>k r.1 r.2
 | .slice t x lo hi mx=>(bif mx.isNone || hi.isSome then ef cx.P t (bE cx s x) (lo.map (bE cx s)) (hi.map (bE cx s)) (mx.map (bE cx s)) s.H else none).bind fun a=>k a s.H
 | .fieldAddr t x i=>(eI cx.P t (bE cx s x) i s.H).bind fun a=>k a s.H
 | .field t x i=>(wI cx.P t (bE cx s x) i).bind fun a=>k a s.H
 | .indexAddr t x i=>(cC cx.P t (bE cx s x) (bE cx s i) s.H).bind fun a=>k a s.H
 | .index t x i=>(wK cx.P t (bE cx s x) (bE cx s i)).bind fun a=>k a s.H
 | .extract x i=>(kU (bE cx s x) i).bind fun a=>k a s.H
 | .nilCheck x=>(yT (bE cx s x) s.H).bind fun a=>k a s.H
 | .makeMap t none=>(nw cx.P t s.H).bind fun r=>k r.1 r.2
 | .insert t m i x=>(gG cx.P t (bE cx s m) (bE cx s i) (bE cx s x) s.H lo).bind fun H=>k .any H
 | .mapUpdate t m i x=>(gG cx.P t (bE cx s m) (bE cx s i) (bE cx s x) s.H lo).bind fun H=>k .any H
 | .lookup t m i c=>(ee cx.P t (bE cx s m) (bE cx s i) c s.H).bind fun a=>k a s.H
 | .typeAssert x _ t c=>(lZ cx.P (bE cx s x) t c).bind fun a=>k a s.H
 | .call c=>nL cx f lo o.dst c s k
 | _=>none
def b8 (P:Program) (k:Nat):Bool:=match P.funcs[k]? with | some fn=>fn.body.isSome&&!(fn.name == "runtime.NumGoroutine") | none=>false
def callee? (cx:Cx) (s:St):Op->Option (Nat×List A)
 | .call c=>match c.callee with
  | .value g=>match bE cx s g with
   | .fn (.func k) first cap=>bif b8 cx.P k then some (k,first++c.args.toList.map (bE cx s)++cap) else none
   | _=>none
  | _=>none
 | _=>none
def yldOf? (cx:Cx) (s:St):Op->Option (Nat×List A)
 | .call c=>match c.callee with
  | .value g=>match bE cx s g with
   | .yld b=>some (b,c.args.toList.map (bE cx s))
   | _=>none
  | _=>none
 | _=>none
def vM (H:ar) (b:Nat):Bool:=match H[b]? with | some (.rng _)=>true | _=>false
def Ex {α β:Type} (x:Option α) (k:α->Option β) (e:Option β):Option β:=match x with | some a=>k a | none=>e
def gz:Op->Bool
 | .call c=>match c.callee with | .value _=>true | _=>false
 | _=>false
def dX (x:Out) (k:A->Option R) (pan:A->Option R):Option R:=match x with | .ret a=>k a | .pan a=>pan a
def zC (L:Nat) (r:R):Option A:=match r.1 with
 | .ret a=>bif A.under L a then some a else none
 | .pan _=>none
def g7 (cx:Cx) (s:St):Op->A
 | .call c=>match c.callee with | .value g=>bE cx s g | _=>.any
 | _=>.any
def dT (cx:Cx) (s:St):Op->List A
 | .call c=>c.args.toList.map (bE cx s)
 | _=>[]
def cN (cx:Cx) (call:aK) (fv:A) (args:List A) (H:ar) (lo:Nat) (k:A->ar->Option R) (pan:A->ar->Option R):Option R:=
 match fv with
 | .yld b=>bif vM H b then (call (cx.P.funcs.size+b) args H lo).bind fun r=>dX r.1 (fun a=>k a r.2) (fun _=>none) else none
 | .fn (.func q) first cap=>bif b8 cx.P q then
   bif cx.isOrc q then (cx.C q ((first++args++cap).map (snap H))).bind fun a=>k a H
   else (call q (first++args++cap) H lo).bind fun r=>dX r.1 (fun a=>k a r.2) (fun a=>pan a r.2)
  else none
 | _=>none
theorem qj {cx:Cx} {call:aK} {s:St} {op:Op} {lo:Nat} {k:A->ar->Option R} {pan:A->ar->Option R}:cN cx call (g7 cx s op) (dT cx s op) s.H lo k pan =
   Ex (yldOf? cx s op) (fun p=>bif vM s.H p.1 then (call (cx.P.funcs.size+p.1) p.2 s.H lo).bind fun r=>dX r.1 (fun a=>k a r.2) (fun _=>none) else none)
   ((callee? cx s op).bind fun p=>bif cx.isOrc p.1 then (cx.C p.1 (p.2.map (snap s.H))).bind fun a=>k a s.H
    else (call p.1 p.2 s.H lo).bind fun r=>dX r.1 (fun a=>k a r.2) (fun a=>pan a r.2)):=by
 cases op with
 | call c=>
  cases hc:c.callee with
  | value g=>
   cases hf:bE cx s g with
   | fn f first cap=>cases f with
    | func q=>
     simp only[cN,g7,dT,yldOf?,callee?,Ex,hc,hf]
     cases b8 cx.P q<;>rfl
    | _=>simp only[cN,g7,dT,yldOf?,callee?,Ex,hc,hf]; rfl
   | yld b=>simp only[cN,g7,dT,yldOf?,callee?,Ex,hc,hf]
   | _=>simp only[cN,g7,dT,yldOf?,callee?,Ex,hc,hf]; rfl
  | _=>simp only[cN,g7,dT,yldOf?,callee?,Ex,hc]; rfl
 | _=>rfl
def tA {β:Type} (cx:Cx) (call:aK) (fv:A) (args:List A) (H:ar) (k:A->Option β):Option β:=
 match fv with
 | .fn (.func q) first cap=>bif b8 cx.P q then
   bif cx.isOrcV q then (cx.C q ((first++args++cap).map (snap H))).bind k
   else ((call q (first++args++cap) H H.length).bind fun r=>zC H.length r).bind k
  else none
 | _=>none
def Du {β:Type} (x:A) (k:A->Option β):Option β:=match x with | .ifc t y=>k (.ifc t y) | _=>none
def qm (cx:Cx) (call:aK) (f lo:Nat) (o:Oper) (s:St) (k:St->Option R) (pan:A->St->Option R):Option R:=
 match o.op with
 | .pick c a b=>(c7 (bE cx s c) (some (bE cx s a)) (some (bE cx s b))).bind fun x=>k (s.put o.dst x)
 | .panic x=>Du (bE cx s x) fun a=>pan a s
 | .buildSlice t n parts=>bif cx.wrAt f (o.dst.getD 0) then (ow cx.P t n (parts.toList.map fun p=>(p.1,cQ s.H (bE cx s p.2))) s.H).bind fun r=>k ({ s with H:=r.2 }.put o.dst r.1) else bn cx f lo o s fun a H=>k ({ s with H:=H }.put o.dst a)
 | .makeSlice t n c=>bif cx.wrAt f (o.dst.getD 0) then (ed true cx.P t (bE cx s n) (bE cx s c) s.H).bind fun r=>k ({ s with H:=r.2 }.put o.dst r.1) else bn cx f lo o s fun a H=>k ({ s with H:=H }.put o.dst a)
 | .convert t t' x=>bif Nat.beq t t' then (Av cx.P t t' (bE cx s x) s.H lo).bind fun r=>k ({ s with H:=r.2 }.put o.dst r.1) else bn cx f lo o s fun a H=>k ({ s with H:=H }.put o.dst a)
 | .call _=>bif gz o.op then
   cN cx call (g7 cx s o.op) (dT cx s o.op) s.H lo (fun a H=>k ({ s with H:=H }.put o.dst a)) (fun a H=>pan a { s with H:=H })
  else bn cx f lo o s fun a H=>k ({ s with H:=H }.put o.dst a)
 | _=>bn cx f lo o s fun a H=>k ({ s with H:=H }.put o.dst a)
def bC (ops:Array Oper) (o:Oper):Option (Nat×Bool):=match o.guard with
 | some (j,want)=>match ops[j]? with
  | some q=>match q.dst with
   | some t=>some (t,want)
   | none=>none
  | none=>none
 | none=>none
theorem iv (ops:Array Oper) (o:Oper):bC ops o=match o.guard with | some (j,want)=>((ops[j]?).bind (·.dst)).map (·,want) | none=>none:=by
 unfold bC
 split
 ·rename_i j want h
  cases ops[j]? with
  | none=>rfl
  | some q=>show _=(Option.bind (some q) (·.dst)).map _; cases h:q.dst<;>simp[h]
 ·rfl
def nT {β:Type} (g:A) (want:Bool) (run skip:Option β):Option β:=match g with
 | .v (.bool b)=>bif b then bif want then run else skip else bif want then skip else run
 | .v (.tuple _)=>skip
 | _=>none
theorem tB {β:Type} {cx:Cx} {call:aK} {s:St} {op:Op} {k:A->Option β}:tA cx call (g7 cx s op) (dT cx s op) s.H k =
   ((callee? cx s op).bind fun p=>bif cx.isOrcV p.1 then cx.C p.1 (p.2.map (snap s.H))
    else (call p.1 p.2 s.H s.H.length).bind fun r=>zC s.H.length r).bind k:=by
 cases op with
 | call c=>
  cases hc:c.callee with
  | value g=>
   cases hf:bE cx s g with
   | fn f first cap=>cases f with
    | func q=>
     simp only[tA,g7,dT,callee?,hc,hf]
     cases b8 cx.P q with
     | false=>rfl
     | true=>
      simp only[N9,N4]
      cases cx.isOrcV q<;>rfl
    | _=>simp only[tA,g7,dT,callee?,hc,hf]; rfl
   | _=>simp only[tA,g7,dT,callee?,hc,hf]; rfl
  | _=>simp only[tA,g7,dT,callee?,hc]; rfl
 | _=>rfl
def fG (cx:Cx) (call:aK) (f:Nat) (o:Oper) (s:St):Option A:=
 match o.op with
 | .pick c a b=>c7 (bE cx s c) (some (bE cx s a)) (some (bE cx s b))
 | .alloc _ | .box .. | .store .. | .makeSlice .. | .panic _ | .makeMap .. | .insert .. | .mapUpdate ..=>none
 | .call c=>bif gz o.op then
   tA cx call (g7 cx s o.op) (dT cx s o.op) s.H some
  else match c.callee with
   | .builtin .len=>bn cx f 0 o s fun a _=>some a
   | _=>none
 | _=>bn cx f 0 o s fun a _=>some a
def qu {β:Type} (cx:Cx) (call:aK) (f:Nat) (o:Oper) (s:St) (k:A->Option β):Option β:=
 match o.op with
 | .pick c a b=>(c7 (bE cx s c) (some (bE cx s a)) (some (bE cx s b))).bind k
 | .alloc _ | .box .. | .store .. | .makeSlice .. | .panic _ | .makeMap .. | .insert .. | .mapUpdate ..=>none
 | .call c=>bif gz o.op then
   tA cx call (g7 cx s o.op) (dT cx s o.op) s.H k
  else match c.callee with
   | .builtin .len=>bn cx f 0 o s fun a _=>k a
   | _=>none
 | _=>bn cx f 0 o s fun a _=>k a
def quiet (cx:Cx) (f:Nat) (o:Oper):Bool:=
 match o.op with
 | .alloc _ | .box .. | .store .. | .makeSlice .. | .panic _ | .makeMap .. | .insert .. | .mapUpdate ..=>false
 | .call c=>match c.callee with
  | .value (.func k)=>cx.isOrc k
  | .value _=>match o.dst with | some d=>!cx.loud f d | none=>true
  | .builtin .len=>true
  | _=>false
 | _=>true
def bO {β:Type} (l:List A) (k:A->List A->Option β):Option β:=match l with | a :: r=>k a r | []=>none
def DA {β:Type}:List Nat->List A->(List (Nat×A)->Option β)->Option β
 | [],_,k=>k []
 | d :: ds,l,k=>bO l fun a r=>DA ds r fun fr=>k ((d,a) :: fr)
def ij (t:Nat):List Nat->Bool
 | []=>false
 | x :: l=>bif Nat.beq x t then true else ij t l
def jn (o:Oper):List Nat:=match o.dst with | some d=>[d] | none=>[]
def qI (ops:Array Oper) (g:Nat) (w:Bool) (ds:List Nat) (o:Oper):Bool:=
 match o.guard with
 | none=>false
 | some _=>match bC ops o with
  | none=>false
  | some (t,w')=>bif ij g (jn o) then false else bif Nat.beq t g then (bif w then w' else !w') else ij t ds
def bz (ops:Array Oper) (g:Nat) (w:Bool):List Nat->List Oper->List Oper×List Oper
 | _,[]=>([],[])
 | ds,o :: os=>bif qI ops g w ds o then (o :: (bz ops g w (jn o++ds) os).1,(bz ops g w (jn o++ds) os).2) else ([],o :: os)
def gh:List Oper->List Nat
 | []=>[]
 | o :: os=>gh os++jn o
def nx (cx:Cx) (f:Nat):List Oper->Bool
 | []=>true
 | o :: os=>bif quiet cx f o then nx cx f os else false
def qZ (ops:Array Oper) (asm:Option (Nat×Bool)) (o:Oper):Bool:=
 match o.guard with
 | none=>true
 | some _=>match asm,bC ops o with
  | some (g,w),some (t,w')=>bif Nat.beq t g then (bif w then w' else !w') else false
  | _,_=>false
def tE (ops:Array Oper) (asm:Option (Nat×Bool)) (g:Nat):List Oper->Option (Nat×Operand×Operand)
 | o :: _=>bif qZ ops asm o then (match o.op,o.dst with
  | .pick (.tmp t) a b,some d=>bif Nat.beq t g then some (d,a,b) else none
  | _,_=>none) else none
 | []=>none
def wV (d:Option Nat) (x:A) (dl:List (Nat×A)):List (Nat×A):=match d with | some d=>(d,x) :: dl | none=>dl
def dA (dl:List (Nat×A)) (s:St):St:=⟨dl++s.fr,s.H⟩
def pg (ds:List Nat):List (Nat×A):=ds.map fun d=>(d,.v undef)
def vn (cx:Cx) (fin:Option (Nat×Operand)) (dl:List (Nat×A)) (s:St):List (Nat×A):=match fin with | some (d,x)=>(d,bE cx (dA dl s) x) :: dl | none=>dl
def Hf {β:Type} (ops:Array Oper) (asm:Option (Nat×Bool)) (g:Nat) (w:Bool) (os:List Oper) (s:St) (vals:Option (Nat×Operand)->List Oper->Option (List A)) (ud:Option (Nat×Operand)->List Oper->Option (List A)) (k:List Oper->List (Nat×A)->Option β):Option β:=
 match tE ops asm g (bz ops g w [] os).2 with
 | some (d,a,b)=>(c7 (look s.fr g) (bif w then vals (some (d,a)) (bz ops g w [] os).1 else ud (some (d,a)) (bz ops g w [] os).1) (bif w then ud (some (d,b)) (bz ops g w [] os).1 else vals (some (d,b)) (bz ops g w [] os).1)).bind fun l=>
   DA (d :: gh (bz ops g w [] os).1) l fun fr=>k (bz ops g w [] os).2.tail fr
 | none=>(nT (look s.fr g) w (vals none (bz ops g w [] os).1) (ud none (bz ops g w [] os).1)).bind fun l=>
   DA (gh (bz ops g w [] os).1) l fun fr=>k (bz ops g w [] os).2 fr
def I3 (cx:Cx) (s:St) (fin:Option (Nat×Operand)) (run:List Oper):Option (List A):=some ((vn cx fin (pg (gh run)) s).map (·.2))
def mT (cx:Cx) (call:aK) (f:Nat) (ops:Array Oper):Nat->Option (Nat×Bool)->Option (Nat×Operand)->List Oper->List (Nat×A)->St->Option (List A)
 | 0,_,_,_,_,_=>none
 | _+1,_,fin,[],dl,s=>some ((vn cx fin dl s).map (·.2))
 | q+1,asm,fin,o :: os,dl,s=>bif qZ ops asm o then qu cx call f o (dA dl s) fun x=>mT cx call f ops q asm fin os (wV o.dst x dl) s
  else match bC ops o with
   | none=>none
   | some (t,w)=>bif qI ops t w [] o then Hf ops asm t w (o :: os) (dA dl s) (fun fin' run=>mT cx call f ops q (some (t,w)) fin' run [] (dA dl s)) (I3 cx (dA dl s)) (fun rest fr=>mT cx call f ops q asm fin rest (fr++dl) s) else none
def eJ (cx:Cx) (call:aK) (f lo:Nat) (ops:Array Oper):List Oper->St->(E->St->Option R)->Option R
 | [],s,k=>k .normal s
 | o :: os,s,k=>match o.guard with
  | none=>qm cx call f lo o s (fun s=>eJ cx call f lo ops os s k) (fun a s=>k (.pan a) s)
  | some _=>match bC ops o with
   | none=>none
   | some (g,want)=>bif quiet cx f o then (nT (look s.fr g) want (fG cx call f o s) (some (.v undef))).bind fun x=>eJ cx call f lo ops os (s.put o.dst x) k
    else nT (look s.fr g) want (qm cx call f lo o s (fun s=>eJ cx call f lo ops os s k) (fun a s=>k (.pan a) s)) (eJ cx call f lo ops os (s.put o.dst (.v undef)) k)
def fo (cx:Cx) (call:aK) (f lo:Nat) (ops:Array Oper):Nat->List Oper->St->(E->St->Option R)->Option R
 | 0,_,_,_=>none
 | _+1,[],s,k=>k .normal s
 | q+1,o :: os,s,k=>match o.guard with
  | none=>qm cx call f lo o s (fun s=>fo cx call f lo ops q os s k) (fun a s=>k (.pan a) s)
  | some _=>match bC ops o with
   | none=>none
   | some (t,w)=>bif qI ops t w [] o&&nx cx f (bz ops t w [] (o :: os)).1 then
     Hf ops none t w (o :: os) s (fun fin run=>mT cx call f ops q (some (t,w)) fin run [] s) (I3 cx s) (fun rest fr=>fo cx call f lo ops q rest (dA fr s) k)
    else bif quiet cx f o then (nT (look s.fr t) w (fG cx call f o s) (some (.v undef))).bind fun x=>fo cx call f lo ops q os (s.put o.dst x) k
    else nT (look s.fr t) w (qm cx call f lo o s (fun s=>fo cx call f lo ops q os s k) (fun a s=>k (.pan a) s)) (fo cx call f lo ops q os (s.put o.dst (.v undef)) k)
def ir (cx:Cx) (call:aK) (f:Nat) (ops:Array Oper):List Oper->St->(St->Option R)->Option R
 | [],s,k=>k s
 | o :: os,s,k=>match o.guard with
  | none=>(fG cx call f o s).bind fun x=>ir cx call f ops os (s.put o.dst x) k
  | some _=>match bC ops o with
   | none=>none
   | some (g,want)=>(nT (look s.fr g) want (fG cx call f o s) (some (.v undef))).bind fun x=>ir cx call f ops os (s.put o.dst x) k
def oJ (cx:Cx) (call:aK) (f:Nat) (ops:Array Oper):Nat->List Oper->St->(St->Option R)->Option R
 | 0,_,_,_=>none
 | _+1,[],s,k=>k s
 | q+1,o :: os,s,k=>match o.guard with
  | none=>qu cx call f o s fun x=>oJ cx call f ops q os (s.put o.dst x) k
  | some _=>match bC ops o with
   | none=>none
   | some (t,w)=>bif qI ops t w [] o then
     Hf ops none t w (o :: os) s (fun fin run=>mT cx call f ops q (some (t,w)) fin run [] s) (I3 cx s) (fun rest fr=>oJ cx call f ops q rest (dA fr s) k)
    else none
def db (o:Oper):Bool:=match o.op with
 | .store .. | .alloc _ | .box .. | .makeSlice ..=>true
 | .call c=>match c.callee with | .builtin .append | .builtin .copy=>true | _=>false
 | _=>false
def cJ (ops:Array Oper) (i:Nat):Bool:=match ops[i]? with | some o=>db o | none=>false
def blk?:A->Option Nat
 | .ptr b _ | .ep b _ _ | .sl b _ _ _ | .mr b=>some b
 | _=>none
def apart (a e:A):Bool:=match blk? a with
 | none=>true
 | some b=>match blk? e with | some c=>!Nat.beq b c | none=>true
def cF (cx:Cx) (s:St):Op->A
 | .store _ a _=>bE cx s a
 | .call c=>match c.args.toList with | x :: _=>bE cx s x | []=>.any
 | _=>.any
def addrOf (cx:Cx) (s:St):Op->A
 | .load _ a=>bE cx s a
 | .fieldAddr _ x _=>bE cx s x
 | .indexAddr _ x _=>bE cx s x
 | .slice _ x _ _ _=>bE cx s x
 | .nilCheck x=>bE cx s x
 | .convert _ _ x=>bE cx s x
 | .lookup _ x _ _=>bE cx s x
 | .call c=>match c.args.toList with | x :: _=>bE cx s x | []=>.any
 | _=>.any
def bp (o:Oper):Nat:=match o.op with
 | .pick .. | .move _ | .assign _ | .extract .. | .field .. | .unOp .. | .binOp .. | .index .. | .build .. | .makeFunc .. | .makeInterface .. | .typeAssert ..=>0
 | .load .. | .fieldAddr .. | .indexAddr .. | .slice .. | .nilCheck ..=>1
 | .convert .. | .lookup ..=>1
 | .call c=>match c.callee with | .builtin .len=>1 | .value (.func _)=>4 | _=>3
 | .buildSlice ..=>2
 | _=>3
def wQ (o:Oper):Bool:=match o.op with
 | .store .. | .alloc _ | .box ..=>true
 | .makeSlice _ (.tmp a) (.tmp b)=>Nat.beq a b
 | .call c=>match c.callee with | .builtin .copy=>true | _=>false
 | _=>false
def tt (ops:Array Oper) (i:Nat):Bool:=match ops[i]? with | some o=>wQ o | none=>false
def sJ (cx:Cx) (o:Oper):Bool:=match o.op with
 | .call c=>match c.callee with | .value (.func q)=>b8 cx.P q&&cx.isOrcV q | _=>false
 | _=>false
def Ed:A->Bool
 | .sl ..=>false
 | _=>true
def sB:A->Bool
 | .sl ..=>false
 | .agg cs=>cs.all Ed
 | _=>true
def partsOf (cx:Cx) (s:St):Op->List A
 | .buildSlice _ _ parts=>parts.toList.map fun p=>bE cx s p.2
 | _=>[]
def nQ:List A->Bool
 | []=>true
 | a :: l=>bif sB a then nQ l else false
def jG (ops:Array Oper) (i:Nat) (a:A):List (Nat×A)->Bool
 | []=>true
 | p :: l=>bif eC ops i p.1 || eC ops p.1 i then jG ops i a l else bif apart a p.2 then jG ops i a l else false
def jk (ops:Array Oper) (i:Nat) (e:A):List (Nat×A)->Bool
 | []=>true
 | p :: l=>bif eC ops i p.1 || eC ops p.1 i then jk ops i e l else bif apart p.2 e then jk ops i e l else false
def tv (ops:Array Oper) (m:Nat):Bool:=(List.range m).all fun i=>(List.range m).all fun j=>!(cJ ops i&&cJ ops j&&decide (i<j)) || eC ops j i
def A3 (ops:Array Oper) (m:Nat):Bool:=(List.range m).any (cJ ops)
def D4 (ops:Array Oper) (m i:Nat):Bool:=(List.range m).all fun e=>!cJ ops e || tt ops e || e==i || eC ops i e || eC ops e i
def tN (cx:Cx) (f:Nat) (o:Oper):Option TypeId:=match o.op with
 | .alloc t=>bif cx.arr f t then none else some t
 | _=>none
def qM (cx:Cx) (f:Nat) (ops:Array Oper) (i:Nat):Bool:=match ops[i]? with | some o=>(tN cx f o).isSome | none=>false
def qf (cx:Cx) (f:Nat) (ops:Array Oper) (m:Nat):Bool:=(List.range m).all fun i=>(List.range m).all fun j=>!(cJ ops i&&cJ ops j&&decide (i<j)&&!qM cx f ops i&&!qM cx f ops j) || eC ops j i
def b9 (i:Nat):List (Nat×A)->Option A
 | []=>none
 | p :: l=>bif Nat.beq p.1 i then some p.2 else b9 i l
def ahead {β:Type} (cx:Cx) (f:Nat):Nat->List Oper->ar->(List (Nat×A)->ar->Option β)->Option β
 | _,[],H,k=>k [] H
 | i,o :: os,H,k=>match tN cx f o with
  | some t=>(j0 cx.P t H).bind fun r=>ahead cx f (i+1) os r.2 fun fl H=>k ((i,r.1) :: fl) H
  | none=>ahead cx f (i+1) os H k
def iz (fl:List (Nat×A)) (ops:Array Oper) (m i:Nat):Bool:=(List.range m).all fun e=>!cJ ops e || (b9 e fl).isSome || e==i || eC ops i e || eC ops e i
def m7 (cx:Cx) (o:Oper):Bool:=Nat.beq (bp o) 0 || Nat.beq (bp o) 1 || Nat.beq (bp o) 2 || (Nat.beq (bp o) 4&&sJ cx o)
def vo (ops:Array Oper) (i:Nat):List (Nat×A)->Bool
 | []=>true
 | p :: l=>bif eC ops i p.1 then vo ops i l else false
def CR (cx:Cx) (s:St) (o:Oper):Bool:=match o.op with
 | .call c=>bif gz (.call c) then match g7 cx s (.call c) with | .fn (.func q) _ _=>b8 cx.P q&&cx.isOrcV q | _=>false else false
 | _=>false
def qo (cx:Cx) (call:aK) (f lo:Nat) (ops:Array Oper) (m:Nat) (fl:List (Nat×A)) (i:Nat) (o:Oper) (effs seen:List (Nat×A)) (s:St) (rec:List (Nat×A)->List (Nat×A)->St->Option R):Option R:=
 match b9 i fl with
 | some a=>rec effs seen (s.put o.dst a)
 | none=>bif db o then bif jk ops i (cF cx s o.op) seen then bn cx f lo o s fun a H=>rec ((i,cF cx s o.op) :: effs) seen ({ s with H:=H }.put o.dst a) else none
  else bif iz fl ops m i&&(m7 cx o || vo ops i fl || CR cx s o) then qu cx call f o s fun x=>rec effs seen (s.put o.dst x)
  else bif Nat.beq (bp o) 0 then qu cx call f o s fun x=>rec effs seen (s.put o.dst x)
  else bif Nat.beq (bp o) 1 then bif jG ops i (addrOf cx s o.op) effs then qu cx call f o s fun x=>rec effs ((i,addrOf cx s o.op) :: seen) (s.put o.dst x) else none
  else bif (Nat.beq (bp o) 2 || (Nat.beq (bp o) 4&&sJ cx o))&&D4 ops m i then qu cx call f o s fun x=>rec effs seen (s.put o.dst x)
  else bif Nat.beq (bp o) 2 then bif nQ (partsOf cx s o.op) then qu cx call f o s fun x=>rec effs seen (s.put o.dst x) else none
  else none
def tI (cx:Cx) (ops:Array Oper) (m:Nat) (fl:List (Nat×A)) (i:Nat) (o:Oper) (effs seen:List (Nat×A)) (s:St) (rec:List (Nat×A)->List (Nat×A)->St->Option R):Option R:=
 bif db o then bif jk ops i (cF cx s o.op) seen then rec ((i,cF cx s o.op) :: effs) seen (s.put o.dst (.v undef)) else none
 else bif Nat.beq (bp o) 1 then bif iz fl ops m i then rec effs seen (s.put o.dst (.v undef)) else bif jG ops i (addrOf cx s o.op) effs then rec effs ((i,addrOf cx s o.op) :: seen) (s.put o.dst (.v undef)) else none
 else rec effs seen (s.put o.dst (.v undef))
def eL (cx:Cx) (call:aK) (f lo:Nat) (ops:Array Oper) (m:Nat) (fl:List (Nat×A)):Nat->List Oper->List (Nat×A)->List (Nat×A)->St->(St->Option R)->Option R
 | _,[],_,_,s,k=>k s
 | i,o :: os,effs,seen,s,k=>match o.guard with
  | some _=>match bC ops o with
   | none=>none
   | some (t,w)=>bif Nat.beq (bp o) 0&&!db o&&(b9 i fl).isNone then (nT (look s.fr t) w (fG cx call f o s) (some (.v undef))).bind fun x=>eL cx call f lo ops m fl (i+1) os effs seen (s.put o.dst x) k
    else bif (b9 i fl).isNone then c7 (look s.fr t)
     (bif w then qo cx call f lo ops m fl i o effs seen (s.put (some t) (.v (.bool true))) (fun effs seen s=>eL cx call f lo ops m fl (i+1) os effs seen s k) else tI cx ops m fl i o effs seen (s.put (some t) (.v (.bool true))) (fun effs seen s=>eL cx call f lo ops m fl (i+1) os effs seen s k))
     (bif w then tI cx ops m fl i o effs seen (s.put (some t) (.v (.bool false))) (fun effs seen s=>eL cx call f lo ops m fl (i+1) os effs seen s k) else qo cx call f lo ops m fl i o effs seen (s.put (some t) (.v (.bool false))) (fun effs seen s=>eL cx call f lo ops m fl (i+1) os effs seen s k))
    else none
  | none=>qo cx call f lo ops m fl i o effs seen s fun effs seen s=>eL cx call f lo ops m fl (i+1) os effs seen s k
def tS:Op->Bool
 | .alloc _ | .box .. | .store .. | .makeSlice .. | .call _ | .makeMap .. | .insert .. | .mapUpdate ..=>true
 | _=>false
def pe (ops:Array Oper):Option Nat:=(List.range (ops.size+1)).find? (eB ops)
def xZ (ops:Array Oper) (N:Nat):Bool:=ops.toList.all fun o=>match o.dst with | some d=>decide (d<N) | none=>true
def tU (cx:Cx) (o:Oper):Bool:=match o.op with
 | .call c=>match c.callee with | .value (.func q)=>b8 cx.P q&&!cx.isOrc q&&(!Nat.beq (cx.cut q) 0 || cx.fre q) | _=>false
 | _=>false
def Cr (cx:Cx) (o:Oper):Nat:=match o.op with
 | .call c=>match c.callee with | .value (.func q)=>cx.cut q | _=>0
 | _=>0
def Ca (cx:Cx) (o:Oper) (lo:Nat) (H:ar):Nat:=match o.op with
 | .call c=>match c.callee with | .value (.func q)=>bif cx.fre q then H.length else lo | _=>lo
 | _=>lo
def AK (cx:Cx):Nat->List Oper->Option Nat
 | _,[]=>none
 | i,o :: os=>bif tU cx o then some i else AK cx (i+1) os
def HF (ops:Array Oper) (c m:Nat):List Nat:=(List.range m).filter fun i=>eC ops c i&&(cJ ops i || (List.range m).any fun e=>cJ ops e&&eC ops i e)
def oE (ops:Array Oper) (c m:Nat):List Nat:=HF ops c m++c :: (List.range m).filter fun i=>eC ops i c
def yB (ops:Array Oper) (c m:Nat):List Nat:=(List.range m).filter fun i=>(oE ops c m).all fun j=>!Nat.beq i j
def tx (ops:Array Oper):List Nat->List Nat->Bool
 | _,[]=>true
 | ps,i :: is=>bif ps.all (fun p=>eC ops i p) then tx ops (i :: ps) is else false
def Gz (ops:Array Oper) (L T:List Nat):Bool:=L.all fun i=>T.all fun j=>!eC ops i j
def rP (o:Oper):Bool:=match o.guard with | none=>true | some _=>false
def L7 (o:Oper):Bool:=rP o&&(Nat.beq (bp o) 0 || Nat.beq (bp o) 1 || Nat.beq (bp o) 2)
def L9 (o:Oper):Bool:=rP o&&(db o || !tS o.op)&&!gz o.op
def IY (cx:Cx) (call:aK) (f:Nat) (ops:Array Oper):List Nat->List (Nat×A)->St->(List (Nat×A)->St->Option R)->Option R
 | [],seen,s,k=>k seen s
 | i :: is,seen,s,k=>match ops[i]? with
  | none=>none
  | some o=>bif L7 o then bif (bif Nat.beq (bp o) 2 then nQ (partsOf cx s o.op) else true) then qu cx call f o s fun x=>IY cx call f ops is (bif Nat.beq (bp o) 1 then (i,addrOf cx s o.op) :: seen else seen) (s.put o.dst x) k else none else none
def jl (m:Nat) (a:A):Bool:=match blk? a with | none=>true | some b=>Nat.ble m b
def sR (ops:Array Oper) (c m:Nat):List (Nat×A)->Bool
 | []=>true
 | p :: l=>bif eC ops c p.1 then sR ops c m l else bif jl m p.2 then sR ops c m l else false
def FV (cx:Cx) (call:aK) (f lo:Nat) (ops:Array Oper) (c:Nat) (kp:A->ar->Option R):List Nat->List (Nat×A)->St->(St->Option R)->Option R
 | [],_,s,k=>k s
 | i :: is,seen,s,k=>match ops[i]? with
  | none=>none
  | some o=>bif Nat.beq i c then bif sR ops c (Cr cx o) seen then cN cx call (g7 cx s o.op) (dT cx s o.op) s.H (Ca cx o lo s.H) (fun a H=>FV cx call f lo ops c kp is seen ({ s with H:=H }.put o.dst a) k) kp else none
   else bif L9 o then bif (bif db o then jk ops i (cF cx s o.op) seen else true) then bn cx f lo o s fun a H=>FV cx call f lo ops c kp is seen ({ s with H:=H }.put o.dst a) k else none else none
def EB (cx:Cx) (N:Nat) (ops:Array Oper) (c m:Nat) (o:Oper):Bool:=(ops.toList.take m).all rP&&tU cx o&&rQ ops N&&tx ops [] (oE ops c m)&&Gz ops (yB ops c m) (oE ops c m)&&(oE ops c m).all fun i=>Nat.blt i m
def EY (cx:Cx) (ops:Array Oper):Option Nat:=match pe ops with | none=>none | some m=>AK cx 0 (ops.toList.take m)
def yf (cx:Cx) (call:aK) (f lo N:Nat) (ops:Array Oper) (c:Nat) (s:St) (k:E->St->Option R):Option R:=
 match ops[c]? with
 | none=>none
 | some o=>(pe ops).bind fun m=>bif EB cx N ops c m o then IY cx call f ops (yB ops c m) [] s fun seen s1=>
   FV cx call f lo ops c (fun a H=>k (.pan a) ⟨[],H⟩) (oE ops c m) seen s1 fun s=>fo cx call f lo ops (ops.size+1) (ops.toList.drop m) s k
  else none
def bD:Code->Nat
 | .region id _ _=>id
 | .seq a _=>bD a
 | .block _ c=>bD c
 | .scope c=>bD c
 | .loop c=>bD c
 | _=>0
def CB (H:ar) (a:A):A:=match a with | .sl b o n c=>snap H (.sl b o n c) | .imm els _=>.imm els false | a=>a
def Ee (H:ar) (a:A):A:=match a with | .sl b o n c=>snap H (.sl b o n c) | .imm els _=>.imm els false | .agg cs=>.agg (cs.map (CB H)) | a=>a
def et (es:Nat) (H:ar):A->A×ar
 | .imm els true=>bif els.all (fun cs=>Nat.beq cs.length es) then (.sl H.length 0 els.length false,H++[.row false es els]) else (.imm els true,H)
 | a=>(a,H)
def jU (es:Nat) (H:ar):A->A×ar
 | .imm [] true=>(.sl H.length 0 0 false,H++[.row true es []])
 | a=>(a,H)
def jV (es:Nat) (H:ar):A->A×ar
 | .imm els true=>bif els.all (fun cs=>Nat.beq cs.length es) then (.sl H.length 0 els.length false,H++[.row false es els]) else (.imm els true,H++[.dead])
 | a=>(a,H++[.dead])
def ig (lo off m:Nat) (a:A) (H:ar):ar:=
 match a with
 | .ptr b o=>match H[b]? with
  | some (.box cs)=>match cs[o+off]? with
   | some c=>bif decide (lo<=b) then match m with
    | 0=>H.set b (.box (cs.set (o+off) (Ee H c)))
    | es+1=>(et es H c).2.set b (.box (cs.set (o+off) (et es H c).1))
    else H
   | none=>H
  | _=>H
 | _=>H
def mN (lo:Nat) (p:Nat×Nat×Nat) (s:St):St:=
 match p.2.1 with
 | 0=>match p.2.2 with
  | 0=>⟨(p.1,Ee s.H (look s.fr p.1)) :: s.fr,s.H⟩
  | es+1=>bif Nat.ble 500000 es then (bif Nat.ble 1000000 es then ⟨(p.1,(jV (es - 1000000) s.H (look s.fr p.1)).1) :: s.fr,(jV (es - 1000000) s.H (look s.fr p.1)).2⟩ else ⟨(p.1,(jU (es - 500000) s.H (look s.fr p.1)).1) :: s.fr,(jU (es - 500000) s.H (look s.fr p.1)).2⟩) else ⟨(p.1,(et es s.H (look s.fr p.1)).1) :: s.fr,(et es s.H (look s.fr p.1)).2⟩
 | off+1=>⟨s.fr,ig lo off p.2.2 (look s.fr p.1) s.H⟩
def dr (lo:Nat):List (Nat×Nat×Nat)->St->St
 | [],s=>s
 | p :: ps,s=>dr lo ps (mN lo p s)
def pR (lo:Nat):List (Nat×Nat×Nat)->St->(St->Option R)->Option R
 | [],s,k=>k s
 | p :: ps,s,k=>(sf lo (look s.fr p.1) s.H).bind fun r=>pR lo ps ⟨(p.1,r.1) :: s.fr,r.2⟩ k
def xa:List (Nat×Nat×Nat)->List (Nat×Nat×Nat)
 | []=>[]
 | p :: ps=>match p.2.2 with | 0=>p :: xa ps | _+1=>xa ps
def cY (keep:List Nat) (s:St):St:=⟨keep.map fun t=>(t,look s.fr t),s.H⟩
def aF (L:Nat) (fr:List (Nat×A)):List Nat->Bool
 | []=>true
 | t :: ts=>bif A.under L (look fr t) then aF L fr ts else false
theorem lK (L:Nat) (fr:List (Nat×A)):∀ keep:List Nat,aF L fr keep=true->keep.all (fun t=>A.under L (look fr t))=true
 | [],_=>rfl
 | t :: ts,h=>by
  rw[aF] at h
  cases hu:A.under L (look fr t) with
  | false=>rw[hu] at h; cases h
  | true=>
   rw[hu] at h
   rw[Qa,hu,ON]
   exact lK L fr ts h
def vT (keep:List Nat) (L:Nat) (s:St) (k:St->Option R):Option R:=
 (trim L s.H).bind fun H=>bif (bif Nat.beq s.H.length L then true else aF L s.fr keep) then k ⟨keep.map fun t=>(t,look s.fr t),H⟩ else none
def wi:List (Nat×Nat×Nat)->Option (Nat×Nat×Nat)
 | []=>none
 | p :: ps=>match ps with
  | []=>match p.2.1 with
   | 0=>bif Nat.ble 1000001 p.2.2 then some p else none
   | _+1=>none
  | _ :: _=>wi ps
def HG (n:Nat):Nat:=n - 1
def Fc:A->Bool | .imm _ true=>true | _=>false
def Et (lo:Nat) (keep:List Nat) (p:Nat×Nat×Nat) (L:Nat) (s:St) (k:St->Option R):Option R:=
 bif Fc (look s.fr p.1) then vT keep (HG L) s fun s=>bif Nat.beq (mN lo p s).H.length L then k (cY keep (mN lo p s)) else none else vT keep L s k
def Bu (lo:Nat) (keep:List Nat) (acts:List (Nat×Nat×Nat)) (L:Nat) (s:St) (k:St->Option R):Option R:=
 match wi acts with
 | none=>vT keep L (dr lo (xa acts) s) k
 | some p=>Et lo keep p L (dr lo (xa acts) s) k
def BV (s:St) (keep:List Nat) (k:Nat->St->Option R):Option R:=k s.H.length (cY keep s)
def iter (lo:Nat) (keep:List Nat) (acts:List (Nat×Nat×Nat)) (L:Nat) (f:St->(E->St->Option R)->Option R) (kx kg:Nat->St->Option R) (kr:St->Option R) (kp:A->St->Option R):Nat->St->Option R
 | 0,_=>none
 | n+1,s=>f s fun e s'=>match e with
  | .normal=>Bu lo keep acts L s' fun s'=>iter lo keep acts L f kx kg kr kp n s'
  | .exit i=>kx i (cY keep s')
  | .goto l=>kg l (cY keep s')
  | .ret=>kr (cY keep s')
  | .pan a=>kp a (cY keep s')
def iu:Code->Bool
 | .seq a b=>iu a&&iu b
 | .cond _ a b=>iu a&&iu b
 | .block _ c=>iu c
 | .loop c=>iu c
 | .rangeFunc .. | .scope _=>false
 | _=>true
def yy:List Nat->List A->List (Nat×A)->List (Nat×A)
 | p :: ps,a :: as,fr=>yy ps as ((p,a) :: fr)
 | _,_,fr=>fr
def Ez {β:Type} (H:ar) (b:Nat) (x:Option β):Option β:=match H[b]? with | some (.rng .ready)=>x | _=>none
def B8 {β:Type} (H:ar) (b:Nat) (x:Option β):Option β:=match H[b]? with | some (.rng .busy)=>x | _=>none
def FE (b:Nat) (e:E) (H:ar):Option R:=
 match e with
 | .normal=>B8 H b (some (.ret (.v (.bool true)),H.set b (.rng .ready)))
 | .exit i=>B8 H b (some (.ret (.v (.bool false)),H.set b (.rng (.done (.exit i)))))
 | .goto l=>B8 H b (some (.ret (.v (.bool false)),H.set b (.rng (.done (.goto l)))))
 | .ret=>B8 H b (some (.ret (.v (.bool false)),H.set b (.rng (.done .ret))))
 | .pan _=>none
def roundOf (F1 F2:St->(E->St->Option R)->Option R) (lo b:Nat) (ps:List Nat) (fr:List (Nat×A)) (args:List A) (H:ar) (lo':Nat):Option R:=
 bif Nat.beq args.length ps.length&&Nat.ble lo' lo then
  Ez H b (F1 ⟨yy ps args fr,H⟩ fun e s=>match e with
   | .normal=>Ez s.H b (F2 ⟨s.fr,s.H.set b (.rng .busy)⟩ fun e s=>FE b e s.H)
   | _=>none)
 else none
def wy (q:Nat) (call:aK) (b:Nat) (rnd:List A->ar->Nat->Option R):aK:=fun k args H lo=>bif Nat.beq k (q+b) then rnd args H lo else call k args H lo
def nd {β:Type} (b:Nat) (H:ar) (kn:ar->Option β) (kx kg:Nat->ar->Option β) (kr:ar->Option β):Option β:=
 match H[b]? with
 | some (.rng .ready)=>kn (H.set b .dead)
 | some (.rng (.done (.exit i)))=>kx i (H.set b .dead)
 | some (.rng (.done (.goto l)))=>kg l (H.set b .dead)
 | some (.rng (.done .ret))=>kr (H.set b .dead)
 | _=>none
def xw (b:Nat) (H:ar) (k:E->ar->Option R):Option R:=nd b H (fun H=>k .normal H) (fun i H=>k (.exit i) H) (fun l H=>k (.goto l) H) (fun H=>k .ret H)
def lU (s:St) (k:St->Option R):Option R:=k s
def Cz (P:Program):A->Option (Nat×List A)
 | .fn (.func gf) [] cap=>bif b8 P gf then some (gf,cap) else none
 | _=>none
def uS (N:Nat):List Nat->Bool
 | []=>true
 | p :: ps=>bif Nat.blt p N then uS N ps else false
def xv (body:Code):Nat:=1000000+bD body
def mV:Code->Nat
 | .region id _ _=>id
 | .seq a _=>mV a
 | .block _ c=>mV c
 | .scope c=>mV c
 | .loop c=>mV c
 | .cond _ a _=>mV a
 | _=>0
def Eh (keep:List Nat) (e:E) (s:St):Option R:=match e with
 | .normal=>some (.ret (.tup (keep.map (look s.fr))),s.H)
 | _=>none
def HP {β:Type} (r:R) (k:List A->ar->Option β):Option β:=match r with
 | (.ret (.tup l),H)=>k l H
 | _=>none
theorem yG {β:Type} (fr:List (Nat×A)):∀ (keep:List Nat) (k:List (Nat×A)->Option β),DA keep (keep.map (look fr)) k=k (keep.map fun t=>(t,look fr t))
 | [],_=>rfl
 | d :: ds,k=>by
  show DA ds (ds.map (look fr)) (fun r=>k ((d,look fr d) :: r))=_
  rw[yG fr ds]; rfl
def tW:Code->Nat
 | .block _ c=>mV c
 | .cond _ a _=>500000+mV a
 | .seq _ b=>tW b
 | _=>999999
def Lh (js:List Nat) (X:(E->St->Option R)->Option R) (Y:St->Option R) (k:E->St->Option R):Option R:=match js with
 | []=>X fun e s'=>match e with | .normal=>Y s' | e=>k e s'
 | j :: js=>(X (Eh (j :: js))).bind fun r=>HP r fun l H=>DA (j :: js) l fun fr=>Y ⟨fr,H⟩
noncomputable def mH (cx:Cx) (call:aK) (rg:aK->aK) (n f lo N:Nat):Code->St->(E->St->Option R)->Option R
 | .skip,s,k=>k .normal s
 | .label _,s,k=>k .normal s
 | .region id ops draw,s,k=>pR lo (cx.acts f (2000000+id)) s fun s=>bif xZ ops N then
  bif draw then match EY cx ops with | some c=>yf cx call f lo N ops c s k | none=>bif rQ ops N then (pe ops).bind fun m=>bif A3 ops m then bif tv ops m then eL cx call f lo ops m [] 0 (ops.toList.take m) [] [] s fun s=>fo cx call f lo ops (ops.size+1) (ops.toList.drop m) s k else bif qf cx f ops m then ahead cx f 0 (ops.toList.take m) s.H fun fl H=>eL cx call f lo ops m fl 0 (ops.toList.take m) [] [] ⟨s.fr,H⟩ fun s=>fo cx call f lo ops (ops.size+1) (ops.toList.drop m) s k else none else oJ cx call f ops (ops.size+1) (ops.toList.take m) s fun s=>fo cx call f lo ops (ops.size+1) (ops.toList.drop m) s k else none
  else fo cx call f lo ops (ops.size+1) ops.toList s k
  else none
 | .seq a b,s,k=>Lh (cx.join f (tW a)) (fun k=>mH cx call rg n f lo N a s k) (fun s=>mH cx call rg n f lo N b s k) k
 | .cond c a b,s,k=>bh (bE cx s c) (mH cx call rg n f lo N a s k) (mH cx call rg n f lo N b s k)
 | .block id c,s,k=>mH cx call rg n f lo N c s fun e s'=>match e with | .exit j=>bif Nat.beq j id then k .normal s' else k (.exit j) s' | e=>k e s'
 | .scope c,s,k=>mH cx call rg n f lo N c s fun e s'=>match e with | .goto _=>none | e=>k e s'
 | .loop c,s,k=>BV (dr lo (cx.acts f (bD c)) (cY (cx.keep f (bD c)) s)) (cx.keep f (bD c)) fun L s=>iter lo (cx.keep f (bD c)) (cx.acts f (bD c)) L (fun s k=>mH cx call rg n f lo N c s k) (fun i s=>k (.exit i) s) (fun l s=>k (.goto l) s) (fun s=>k .ret s) (fun a s=>k (.pan a) s) n s
 | .exit id,s,k=>k (.exit id) s
 | .goto l,s,k=>k (.goto l) s
 | .ret,s,k=>k .ret s
 | .rangeFunc g ps asg body,s,k=>lU (dr lo (cx.acts f (xv body)) s) fun s=>(Cz cx.P (bE cx s g)).bind fun p=>bif uS N ps.toList&&iu asg&&iu body&&Nat.ble lo s.H.length then
   (rg (wy cx.P.funcs.size call s.H.length (roundOf (fun s k=>mH cx call rg n f lo N asg s k) (fun s k=>mH cx call rg n f lo N body s k) lo s.H.length ps.toList (cY (cx.keep f (xv body)) s).fr)) p.1 (.yld s.H.length :: p.2) (s.H++[.rng .ready]) lo).bind fun r=>
    dX r.1 (fun _=>xw s.H.length r.2 fun e H=>k e ⟨s.fr,H⟩) (fun _=>none)
  else none
 | _,_,_=>none
def gM:Code->List Code
 | .loop c=>c :: gM c
 | .seq a b=>gM a++gM b
 | .cond _ a b=>gM a++gM b
 | .block _ c=>gM c
 | .scope c=>gM c
 | .rangeFunc _ _ a b=>gM a++gM b
 | _=>[]
def xd (cx:Cx) (f i:Nat):Code:=match (cx.P.funcs[f]?).bind (·.body) with | some c=>(gM c).getD i .skip | none=>.skip
def KI (cx:Cx) (f:Nat):Nat:=match cx.P.funcs[f]? with | some fn=>fn.ntmps | none=>0
def hJ:Code->List (List Nat×Code×Code)
 | .loop c=>hJ c
 | .seq a b=>hJ a++hJ b
 | .cond _ a b=>hJ a++hJ b
 | .block _ c=>hJ c
 | .scope c=>hJ c
 | .rangeFunc _ ps a b=>[(ps.toList,a,b)]
 | _=>[]
def rangeAt (cx:Cx) (f i:Nat):List Nat×Code×Code:=match (cx.P.funcs[f]?).bind (·.body) with | some c=>(hJ c).getD i ([],.skip,.skip) | none=>([],.skip,.skip)
noncomputable def uv (cx:Cx) (call:aK) (rg:aK->aK) (n f lo i b:Nat) (fr:List (Nat×A)) (args:List A) (H:ar) (lo':Nat):Option R:=
 roundOf (fun s k=>mH cx call rg n f lo (KI cx f) (rangeAt cx f i).2.1 s k) (fun s k=>mH cx call rg n f lo (KI cx f) (rangeAt cx f i).2.2 s k) lo b (rangeAt cx f i).1 fr args H lo'
noncomputable def aA (cx:Cx) (call:aK) (rg:aK->aK) (n f lo i L:Nat) (kx kg:Nat->St->Option R) (kr:St->Option R) (kp:A->St->Option R) (m:Nat) (s:St):Option R:=
 iter lo (cx.keep f (bD (xd cx f i))) (cx.acts f (bD (xd cx f i))) L (fun s k=>mH cx call rg n f lo (KI cx f) (xd cx f i) s k) kx kg kr kp m s
def qq (cx:Cx) (s:St):ResultVar->Option A
 | .tmp t=>some (look s.fr t)
 | .cell a t=>kI cx.P t (look s.fr a) s.H
def mS (cx:Cx) (s:St):List ResultVar->Option (List A)
 | []=>some []
 | r :: rs=>(qq cx s r).bind fun a=>(mS cx s rs).bind fun l=>some (a :: l)
def ye (cx:Cx) (fn:Func) (s:St):Option A:=match fn.results.toList with
 | [r]=>qq cx s r
 | rs=>(mS cx s rs).bind fun l=>some (.tup l)
def tK (cx:Cx) (s:St):List ResultVar->(List A->Option R)->Option R
 | [],k=>k []
 | r :: rs,k=>(qq cx s r).bind fun a=>tK cx s rs fun l=>k (a :: l)
def kj (cx:Cx) (fn:Func) (s:St):Option R:=match fn.results.toList with
 | [r]=>(qq cx s r).bind fun a=>some (.ret a,s.H)
 | rs=>tK cx s rs fun l=>some (.ret (.tup l),s.H)
theorem sw (cx:Cx) (s:St):∀ (rs:List ResultVar) (k:List A->Option R),tK cx s rs k=(mS cx s rs).bind k
 | [],_=>rfl
 | r :: rs,k=>by
  rw[tK,mS,O1]
  congr 1; funext a
  rw[sw cx s rs,O1]
  rfl
theorem zk (cx:Cx) (fn:Func) (s:St):kj cx fn s=(ye cx fn s).bind fun a=>some (.ret a,s.H):=by
 unfold kj ye
 split
 ·rename_i h; rfl
 ·rw[sw,O1]
  rfl
def frame (args:List A):List (Nat×A):=args.zipIdx.map fun p=>(p.2,p.1)
noncomputable def E8 (cx:Cx) (call:aK) (rg:aK->aK) (n f lo:Nat) (fn:Func) (c:Code) (args:List A) (H:ar):Option R:=
 mH cx call rg n f lo fn.ntmps c ⟨frame args,H⟩ fun e s=>match e with
  | .normal | .ret=>lU (dr lo (cx.acts f 3000000) s) fun s=>kj cx fn s
  | .pan a=>some (.pan a,s.H)
  | _=>none
def CG (o:Oper):Bool:=match o.op with | .defer _=>true | _=>false
def vN:List Oper->Option (List Oper×Oper)
 | []=>none
 | o :: os=>match os with
  | []=>some ([],o)
  | _ :: _=>(vN os).map fun p=>(o :: p.1,p.2)
def vG:Code->Bool
 | .seq _ (.seq (.region _ ops false) _)=>ops.toList.any CG
 | _=>false
def L5 (cx:Cx) (q:Nat) (o:Oper):Bool:=b8 cx.P q&&rP o&&o.dst.isNone
def AL (cx:Cx) (s:St) (o:Oper):Option (Nat×List A):=match o.op with
 | .defer c=>match c.callee,c.args.toList with
  | .value g,[]=>match bE cx s g with
   | .fn (.func q) [] cap=>bif L5 cx q o then some (q,cap) else none
   | _=>none
  | _,_=>none
 | _=>none
def kA (o:Oper):Option Nat:=match o.op with
 | .call c=>match c.callee,c.args.toList with
  | .builtin .recover,[]=>bif rP o then o.dst else none
  | _,_=>none
 | _=>none
def recAt:Nat->List Oper->Option (Nat×Nat)
 | _,[]=>none
 | i,o :: os=>match kA o with | some d=>some (i,d) | none=>recAt (i+1) os
def ji (ops:Array Oper) (i d:Nat):Array Oper:=match ops[i]? with | some o=>ops.setIfInBounds i { o with op:=.move (.tmp d) } | none=>ops
def iw (d:Nat) (o:Oper):Bool:=rP o&&(match o.op with | .load _ (.tmp t)=>!Nat.beq t d | _=>false)&&(match o.dst with | some e=>!Nat.beq e d | none=>false)
def vK (d:Nat) (ops:Array Oper) (j:Nat):Bool:=match ops[j]? with | some o=>iw d o | none=>true
def EA (ops:Array Oper) (i d:Nat):Bool:=(List.range ops.size).all fun j=>Nat.beq j i || match ops[j]? with | some o=>iw d o || o.after.any fun e=>Region.binds .any e&&!vK d ops e.on | none=>false
def L8 (cap:List A) (ops:Array Oper) (fn:Func) (rest:Code):Bool:=decide (cap.length<=fn.ntmps)&&xZ ops fn.ntmps&&iu rest&&fn.results.toList.isEmpty
def L6 (ops:Array Oper) (N:Nat) (a:Code):Bool:=xZ ops N&&iu a
def tJ (cx:Cx) (call:aK) (f lo N:Nat) (ops:Array Oper) (s:St) (k:E->St->Option R):Option R:=
 bif xZ ops N then
  match EY cx ops with | some c=>yf cx call f lo N ops c s k | none=>bif rQ ops N then (pe ops).bind fun m=>bif A3 ops m then bif tv ops m then eL cx call f lo ops m [] 0 (ops.toList.take m) [] [] s fun s=>fo cx call f lo ops (ops.size+1) (ops.toList.drop m) s k else bif qf cx f ops m then ahead cx f 0 (ops.toList.take m) s.H fun fl H=>eL cx call f lo ops m fl 0 (ops.toList.take m) [] [] ⟨s.fr,H⟩ fun s=>fo cx call f lo ops (ops.size+1) (ops.toList.drop m) s k else none else oJ cx call f ops (ops.size+1) (ops.toList.take m) s fun s=>fo cx call f lo ops (ops.size+1) (ops.toList.drop m) s k else none
 else none
def Ma (cap:List A) (ops:Array Oper) (fn:Func) (p:Nat×Nat):Bool:=decide (cap.length<=fn.ntmps)&&decide (p.2<fn.ntmps)&&EA ops p.1 p.2&&(match ops[p.1]? with | some o=>o.after.toList.isEmpty | none=>false)&&fn.results.toList.isEmpty
noncomputable def ve (cx:Cx) (call:aK) (rg:aK->aK) (n lo q:Nat) (cap:List A) (v:A) (H:ar) (k:ar->Option R):Option R:=
 (cx.P.funcs[q]?).bind fun fn=>fn.body.bind fun c=>match c with
  | .seq (.region _ ops false) rest=>match ops.toList with
   | o :: os=>(kA o).bind fun d=>bif L8 cap ops fn rest then eJ cx call q lo ops os ⟨(d,v) :: frame cap,H⟩ fun e s=>match e with
     | .normal=>mH cx call rg n q lo fn.ntmps rest s fun e s=>match e with
      | .normal | .ret=>k s.H
      | _=>none
     | _=>none
    else none
   | []=>none
  | .region _ ops true=>(recAt 0 ops.toList).bind fun p=>bif Ma cap ops fn p then tJ cx call q lo fn.ntmps (ji ops p.1 p.2) ⟨(p.2,v) :: frame cap,H⟩ fun e s=>match e with
    | .normal=>k s.H
    | _=>none
   else none
  | _=>none
noncomputable def tG (cx:Cx) (call:aK) (rg:aK->aK) (n f lo:Nat) (fn:Func) (c:Code) (args:List A) (H:ar):Option R:=match c with
 | .seq a (.seq (.region _ ops false) rest)=>bif L6 ops fn.ntmps a then mH cx call rg n f lo fn.ntmps a ⟨frame args,H⟩ fun e s=>match e with
  | .normal=>(vN ops.toList).bind fun p=>eJ cx call f lo ops p.1 s fun e s=>match e with
   | .normal=>(AL cx s p.2).bind fun z=>mH cx call rg n f lo fn.ntmps rest s fun e s=>match e with
    | .normal | .ret=>ve cx call rg n lo z.1 z.2 (.v .nilIface) s.H fun H=>lU (dr lo (cx.acts f 3000000) ⟨s.fr,H⟩) fun s=>kj cx fn s
    | .pan x=>ve cx call rg n lo z.1 z.2 x s.H fun H=>lU (dr lo (cx.acts f 3000000) ⟨s.fr,H⟩) fun s=>kj cx fn s
    | _=>none
   | _=>none
  | _=>none
  else none
 | _=>none
noncomputable def aJ (cx:Cx) (call:aK) (rg:aK->aK) (n f:Nat) (args:List A) (H:ar) (lo:Nat):Option R:=
 (cx.P.funcs[f]?).bind fun fn=>fn.body.bind fun c=>bif decide (args.length<=fn.ntmps) then bif vG c then tG cx call rg n f lo fn c args H else E8 cx call rg n f lo fn c args H else none
def CP:aK:=fun _ _ _ _=>none
def Nz:A->Bool | .v _=>true | _=>false
def fP (cx:Cx) (k:Nat) (H:ar):Bool:=bif cx.deep k then bif Nat.beq H.length 0 then false else true else false
def kY (cx:Cx) (k:Nat) (args:List A) (H:ar):Option R:=(cx.C k (args.map (hY 6 H))).bind fun r=>bif Nz r then some (.ret r,H) else none
def fj (cx:Cx) (k:Nat) (H:ar):Bool:=bif Nat.beq (cx.cut k) 0 then false else bif Nat.ble (cx.cut k) H.length then true else bif Nat.beq H.length 0 then false else Nat.beq (cx.cut k) 999999999
def cutAt (cx:Cx) (k:Nat) (H:ar):Nat:=bif Nat.ble (cx.cut k) H.length then cx.cut k else H.length
def jT (m:Nat):Out->Bool
 | .ret a=>A.under m a
 | .pan a=>A.under m a
def ma (m:Nat) (f:ar->Option R) (args:List A) (H:ar):Option R:=
 bif aN m args&&(H.take m).all (aw.under m) then (f (H.take m)).bind fun r=>bif Nat.ble m r.2.length&&(r.2.take m).all (aw.under m)&&jT m r.1 then some (r.1,r.2.take m++H.drop m) else none else none
noncomputable def aX (cx:Cx):Nat->aK->aK
 | 0,base,k,args,H,lo=>bif Nat.ble cx.P.funcs.size k then base k args H lo else none
 | n+1,base,k,args,H,lo=>bif Nat.ble cx.P.funcs.size k then base k args H lo else bif fj cx k H then ma (cutAt cx k H) (fun H=>aJ cx (aX cx n CP) (aX cx n) n k args H lo) args H else bif fP cx k H then kY cx k args H else aJ cx (aX cx n base) (aX cx n) n k args H lo
noncomputable def di (cx:Cx) (n:Nat):aK:=aX cx n CP
section
open Go.RowKit
structure Gh where
 mu:Nat->Option Nat
 ga:Nat->List (List Value)
 S:Nat->Nat->Prop
 lr:Nat->Loop
def Ek:Loop:={ state:=.ready,pending:=none,fn:=0,tmps:=#[],params:=#[],assign:=.skip,body:=.skip,defers:=0 }
def FR.code:FR->Code
 | .exit id=>.exit id
 | .goto l=>.goto l
 | .ret=>.ret
def hU (r:Loop):ml->Loop
 | .ready=>{ r with state:=.ready,pending:=none }
 | .busy=>{ r with state:=.busy,pending:=none }
 | .done j=>{ r with state:=.done,pending:=some j.code }
def dZ (H:ar) (g:Gh) (k o:Nat):Prop:=g.S k o/\∀ b,g.mu b=some k->∃ es els,H[b]? = some (.row false es els)/\o<es*els.length
def bk (H:ar) (g:Gh) (w:World) (k off:Nat) (ds:List Value):Prop:=∀ j v,ds[j]? = some v->w.cell? ⟨k,off+j,none⟩=some v/\dZ H g k (off+j)
mutual
def VR (H:ar) (g:Gh) (w:World):A->Value->Prop
 | .any,_=>True
 | .v x,c=>c=x
 | .ptr b o,c=>match H[b]? with
  | some (.box _)=>∃ k,g.mu b=some k/\c=.pointer (some ⟨k,o,none⟩)
  | some .hole=>False
  | some _=>c.oneCell'=true
  | none=>False
 | .ep b i o,c=>match H[b]? with
  | some (.row true es els)=>i<els.length/\∃ k,g.mu b=some k/\c=.pointer (some ⟨k,i*es+o,none⟩)
  | some .hole=>False
  | some _=>c.oneCell'=true
  | none=>False
 | .ip cs,c=>∃ k off ds,c=.pointer (some ⟨k,off,none⟩)/\bk H g w k off ds/\aY H g w cs ds
 | .imm els clip,c=>∃ a cap ds es,c=.slice a els.length cap/\els.length<=cap/\(clip=true->cap=els.length)/\(∀ d∈ds,d.length=es)/\(0<els.length->∃ k off,a=some ⟨k,off,none⟩/\bk H g w k off ds.flatten)/\aU H g w els ds
 | .sl b o n clip,c=>match H[b]? with
  | some (.row true es els)=>o+n<=els.length/\∃ a cap,c=.slice a n cap/\n<=cap/\(clip=true->cap=n)/\(0<n->∃ k,g.mu b=some k/\a=some ⟨k,o*es,none⟩)
  | some (.row false es els)=>o+n<=els.length/\∃ a cap,c=.slice a n cap/\n<=cap/\(clip=true->cap=n)/\(0<n->∃ k off,a=some ⟨k,off,none⟩/\bk H g w k off (((g.ga b).drop o).take n).flatten) ∧
    (clip=false->o=0->n=els.length->n<cap->∃ k arr ty,g.mu b=some k/\a=some ⟨k,0,none⟩/\w.heap[k]? = some (.cells arr ty (0,0))/\cap*es<=arr.size)
  | some .hole=>False
  | some _=>c.oneCell'=true
  | none=>False
 | .agg cs,c=>∃ ds,c=.agg ds/\aY H g w cs ds.toList
 | .tup cs,c=>∃ ds,c=.tuple ds/\aY H g w cs ds.toList
 | .fn f a b,c=>∃ ds es,c=.func f ds es/\aY H g w a ds.toList/\aY H g w b es.toList
 | .ifc t x,c=>∃ d,c=.iface t d/\VR H g w x d
 | .yld b,c=>match H[b]? with
  | some (.rng _)=>∃ k,g.mu b=some k/\c=.func (.yield k) #[] #[]
  | some .hole=>False
  | some _=>c.oneCell'=true
  | none=>False
 | .nq els,c=>∃ b,c=.bool b/\(b=true->els=[])
 | .mr b,c=>match H[b]? with
  | some (.mp ..)=>∃ k,g.mu b=some k/\c=.map (some k)
  | some .hole=>False
  | some _=>c.oneCell'=true
  | none=>False
 | .mv k ks vs,c=>∃ r arr cl,c=.map (some r)/\dZ H g r 0/\w.heap[r]? = some (.map arr cl)/\arr.toList.map (·.key)=ks.map (.int k)/\aY H g w vs (arr.toList.map (·.val))
def aY (H:ar) (g:Gh) (w:World):List A->List Value->Prop
 | [],ds=>ds=[]
 | a :: as,ds=>∃ d ds',ds=d :: ds'/\VR H g w a d/\aY H g w as ds'
def aU (H:ar) (g:Gh) (w:World):List (List A)->List (List Value)->Prop
 | [],ds=>ds=[]
 | a :: as,ds=>∃ d ds',ds=d :: ds'/\aY H g w a d/\aU H g w as ds'
end
def jZ (H:ar) (g:Gh) (w:World) (b:Nat):aw->Prop
 | .box cs=>∃ k arr ty,g.mu b=some k/\w.heap[k]? = some (.cells arr ty (0,0))/\aY H g w cs arr.toList
 | .row true es els=>∃ ds,aU H g w els ds/\(∀ d∈ds,d.length=es)/\(0<els.length->∃ (k:Nat) (arr:Array Value) (ty:TypeId),g.mu b=some k/\w.heap[k]? = some (.cells arr ty (0,0))/\∀ (j:Nat) (v:Value),ds.flatten[j]? = some v->arr[j]? = some v)
 | .row false es els=>aU H g w els (g.ga b)/\(∀ d∈g.ga b,d.length=es)
 | .rng st=>∃ k,g.mu b=some k/\w.heap[k]? = some (.loop (hU (g.lr b) st))
 | .dead=>g.mu b=none
 | .hole=>g.mu b=none
 | .mp k ks vs=>∃ r arr cl,g.mu b=some r/\w.heap[r]? = some (.map arr cl)/\arr.toList.map (·.key)=ks.map (.int k)/\aY H g w vs (arr.toList.map (·.val))
structure Rel (H:ar) (g:Gh) (w0 w:World):Prop where
 below:Below w0.heap.size w0 w
 dom:∀ b k,g.mu b=some k->b<H.length/\w0.heap.size<=k/\k<w.heap.size
 inj:∀ b c k,g.mu b=some k->g.mu c=some k->b=c
 out:∀ k o,w.heap.size<=k->g.S k o
 own:∀ b k o,g.mu b=some k->g.S k o
 blk:∀ b B,H[b]? = some B->jZ H g w b B
def BT (g:Gh) (w:World) (g':Gh) (w':World) (b:Nat):aw->aw->Prop
 | .box _,.box _=>g'.mu b=g.mu b
 | .row true es els,.row true es' els'=>es'=es/\els'.length=els.length/\g'.mu b=g.mu b
 | .row false es els,.row false es' els'=>es'=es/\(∃ r,g'.ga b=g.ga b++r)/\(g.ga b).length=els.length/\els.length<=els'.length/\(els'.length=els.length->g'.mu b=g.mu b/\∀ k arr ty,g.mu b=some k->w.heap[k]? = some (.cells arr ty (0,0))->∃ arr',w'.heap[k]? = some (.cells arr' ty (0,0))/\arr.size<=arr'.size)
 | .rng _,.rng _=>g'.mu b=g.mu b/\g'.lr b=g.lr b
 | .mp ..,.mp ..=>g'.mu b=g.mu b
 | .hole,_=>True
 | _,.dead=>True
 | _,_=>False
structure uC (H:ar) (g:Gh) (w:World) (H':ar) (g':Gh) (w':World):Prop where
 cell:∀ k o v,dZ H g k o->w.cell? ⟨k,o,none⟩=some v->w'.cell? ⟨k,o,none⟩=some v/\dZ H' g' k o
 blk:∀ (b:Nat) (B:aw),H[b]? = some B->∃ B',H'[b]? = some B'/\BT g w g' w' b B B'
 map:∀ k arr cl,dZ H g k 0->w.heap[k]? = some (.map arr cl)->w'.heap[k]? = some (.map arr cl)/\dZ H' g' k 0
structure Ext (H:ar) (g:Gh) (w:World) (H':ar) (g':Gh) (w':World):Prop where
 cell:∀ k o v,dZ H g k o->w.cell? ⟨k,o,none⟩=some v->w'.cell? ⟨k,o,none⟩=some v/\dZ H' g' k o
 blk:∀ (b:Nat) (B:aw),H[b]? = some B->∃ B',H'[b]? = some B'/\BT g w g' w' b B B'
 kept:∀ (k:Nat) (x:Option (List Deferred)),w.heap[k]? = some (.deferred x)->w'.heap[k]? = some (.deferred x)
 size:w.heap.size<=w'.heap.size
 map:∀ k arr cl,dZ H g k 0->w.heap[k]? = some (.map arr cl)->w'.heap[k]? = some (.map arr cl)/\dZ H' g' k 0
 obj:∀ k,k<w.heap.size->(∀ b,g.mu b≠some k)->w'.heap[k]? = w.heap[k]?
 fresh:∀ b k,g'.mu b=some k->(∃ c,g.mu c=some k)∨w.heap.size<=k
variable {H H':ar} {g g':Gh} {w0 w w':World}
theorem aY.length:∀ {cs:List A} {ds:List Value},aY H g w cs ds->ds.length=cs.length
 | [],_,h=>by rw[aY] at h; subst h; rfl
 | a :: as,_,h=>by rw[aY] at h; obtain ⟨d,ds',rfl,_,h2⟩:=h; simp[aY.length h2]
theorem aU.length:∀ {cs:List (List A)} {ds:List (List Value)},aU H g w cs ds->ds.length=cs.length
 | [],_,h=>by rw[aU] at h; subst h; rfl
 | a :: as,_,h=>by rw[aU] at h; obtain ⟨d,ds',rfl,_,h2⟩:=h; simp[aU.length h2]
theorem bk.eh (he:uC H g w H' g' w') {k off:Nat} {ds:List Value} (h:bk H g w k off ds):bk H' g' w' k off ds:=fun j v hj=>let ⟨h1,h2⟩:=h j v hj; he.cell _ _ _ h2 h1
mutual
theorem VR.eh (he:uC H g w H' g' w'):∀ (a:A) (c:Value),VR H g w a c->VR H' g' w' a c
 | .any,_,_=>An
 | .v x,c,h=>by rw[VR] at h ⊢; exact h
 | .ptr b o,c,h=>by
  rw[VR] at h ⊢
  cases hb:H[b]? with
  | none=>rw[hb] at h; exact h.elim
  | some B=>
   obtain ⟨B',hB',ht⟩:=he.blk b B hb
   rw[hb] at h; rw[hB']
   cases B with
   | box _=>cases B' with
    | box _=>obtain ⟨k,h1,h2⟩:=h; exact⟨k,(show g'.mu b=g.mu b from ht).trans h1,h2⟩
    | row wr _ _=>exact False.elim ht
    | rng _=>exact False.elim ht
    | mp _ _ _=>exact False.elim ht
    | dead=>obtain ⟨k,h1,h2⟩:=h; subst h2; rfl
    | hole=>exact False.elim ht
   | row wr _ _=>cases B' with
    | box _=>cases wr<;>exact False.elim ht
    | row _ _ _=>exact h
    | rng _=>cases wr<;>exact False.elim ht
    | mp _ _ _=>cases wr<;>exact False.elim ht
    | dead=>exact h
    | hole=>cases wr<;>exact False.elim ht
   | rng _=>cases B'<;>first | exact h | (exact False.elim ht)
   | mp _ _ _=>cases B'<;>first | exact h | (exact False.elim ht)
   | dead=>cases B'<;>first | exact h | (exact False.elim ht)
   | hole=>exact False.elim h
 | .ep b i o,c,h=>by
  rw[VR] at h ⊢
  cases hb:H[b]? with
  | none=>rw[hb] at h; exact h.elim
  | some B=>
   obtain ⟨B',hB',ht⟩:=he.blk b B hb
   rw[hb] at h; rw[hB']
   cases B with
   | box _=>cases B' with
    | box _=>exact h
    | row wr _ _=>exact False.elim ht
    | rng _=>exact False.elim ht
    | mp _ _ _=>exact False.elim ht
    | dead=>exact h
    | hole=>exact False.elim ht
   | row wr es els=>cases wr with
    | true=>cases B' with
     | box _=>exact False.elim ht
     | row wr' es' els'=>cases wr' with
      | true=>
       obtain ⟨e1,e2,e3⟩:=ht
       obtain ⟨h0,k,h1,h2⟩:=h
       subst e1
       exact⟨r7,k,e3.trans h1,h2⟩
      | false=>exact False.elim ht
     | rng _=>exact False.elim ht
     | mp _ _ _=>exact False.elim ht
     | dead=>obtain ⟨_,k,h1,h2⟩:=h; subst h2; rfl
     | hole=>exact False.elim ht
    | false=>cases B' with
     | box _=>exact False.elim ht
     | row wr' es' els'=>cases wr' with
      | true=>exact False.elim ht
      | false=>exact h
     | rng _=>exact False.elim ht
     | mp _ _ _=>exact False.elim ht
     | dead=>exact h
     | hole=>exact False.elim ht
   | rng _=>cases B'<;>first | exact h | (exact False.elim ht)
   | mp _ _ _=>cases B'<;>first | exact h | (exact False.elim ht)
   | dead=>cases B'<;>first | exact h | (exact False.elim ht)
   | hole=>exact False.elim h
 | .ip cs,c,h=>by
  rw[VR] at h ⊢
  obtain ⟨k,off,ds,h1,h2,h3⟩:=h
  exact⟨k,off,ds,h1,h2.eh he,aY.eh he cs ds h3⟩
 | .imm els clip,c,h=>by
  rw[VR] at h ⊢
  obtain ⟨a,cap,ds,es,h1,h2,h3,h4,h5,h6⟩:=h
  exact⟨a,cap,ds,es,h1,h2,h3,h4,fun hp=>let ⟨k,off,e1,e2⟩:=h5 hp; ⟨k,off,e1,e2.eh he⟩,aU.eh he els ds h6⟩
 | .sl b o n clip,c,h=>by
  rw[VR] at h ⊢
  cases hb:H[b]? with
  | none=>rw[hb] at h; exact h.elim
  | some B=>
   obtain ⟨B',hB',ht⟩:=he.blk b B hb
   rw[hb] at h; rw[hB']
   cases B with
   | box _=>cases B' with
    | box _=>exact h
    | row wr _ _=>exact False.elim ht
    | rng _=>exact False.elim ht
    | mp _ _ _=>exact False.elim ht
    | dead=>exact h
    | hole=>exact False.elim ht
   | row wr es els=>cases wr with
    | true=>cases B' with
     | box _=>exact False.elim ht
     | row wr' es' els'=>cases wr' with
      | true=>
       obtain ⟨e1,e2,e3⟩:=ht
       obtain ⟨h0,a,cap,h1,h2,h3,h4⟩:=h
       subst e1
       exact⟨r7,a,cap,h1,h2,h3,fun hp=>let ⟨k,g1,g2⟩:=h4 hp; ⟨k,e3.trans g1,g2⟩⟩
      | false=>exact False.elim ht
     | rng _=>exact False.elim ht
     | mp _ _ _=>exact False.elim ht
     | dead=>obtain ⟨_,a,cap,h1,_⟩:=h; subst h1; rfl
     | hole=>exact False.elim ht
    | false=>cases B' with
     | box _=>exact False.elim ht
     | row wr' es' els'=>cases wr' with
      | true=>exact False.elim ht
      | false=>
       obtain ⟨e1,⟨r,e2⟩,e3,e4,e5⟩:=ht
       obtain ⟨h0,a,cap,h1,h2,h3,h4,h5⟩:=h
       subst e1
       refine⟨r7,a,cap,h1,h2,h3,fun hp=>?_,fun hc ho hn hlt=>?_⟩
       ·obtain ⟨k,off,g1,g2⟩:=h4 hp
        refine⟨k,off,g1,?_⟩
        have:((g'.ga b).drop o).take n=((g.ga b).drop o).take n:=by
         rw[e2,Q1 r7,Q2 so]
        rw[this]
        exact g2.eh he
       ·have hel:els'.length=els.length:=by omega
        obtain ⟨k,arr,ty,g1,g2,g3,g4⟩:=h5 hc ho r7 hlt
        obtain ⟨m1,m2⟩:=e5 hel
        obtain ⟨arr',m3,m4⟩:=m2 k arr ty g1 g3
        exact⟨k,arr',ty,m1.trans g1,g2,m3,r7⟩
     | rng _=>exact False.elim ht
     | mp _ _ _=>exact False.elim ht
     | dead=>obtain ⟨_,a,cap,h1,_⟩:=h; subst h1; rfl
     | hole=>exact False.elim ht
   | rng _=>cases B'<;>first | exact h | (exact False.elim ht)
   | mp _ _ _=>cases B'<;>first | exact h | (exact False.elim ht)
   | dead=>cases B'<;>first | exact h | (exact False.elim ht)
   | hole=>exact False.elim h
 | .agg cs,c,h=>by
  rw[VR] at h ⊢
  obtain ⟨ds,h1,h2⟩:=h
  exact⟨ds,h1,aY.eh he cs _ h2⟩
 | .tup cs,c,h=>by
  rw[VR] at h ⊢
  obtain ⟨ds,h1,h2⟩:=h
  exact⟨ds,h1,aY.eh he cs _ h2⟩
 | .fn f a b,c,h=>by
  rw[VR] at h ⊢
  obtain ⟨ds,es,h1,h2,h3⟩:=h
  exact⟨ds,es,h1,aY.eh he a _ h2,aY.eh he b _ h3⟩
 | .ifc t x,c,h=>by
  rw[VR] at h ⊢
  obtain ⟨d,h1,h2⟩:=h
  exact⟨d,h1,VR.eh he x d h2⟩
 | .yld b,c,h=>by
  rw[VR] at h ⊢
  cases hb:H[b]? with
  | none=>rw[hb] at h; exact h.elim
  | some B=>
   obtain ⟨B',hB',ht⟩:=he.blk b B hb
   rw[hb] at h; rw[hB']
   cases B with
   | rng st=>cases B' with
    | rng st'=>obtain ⟨k,h1,h2⟩:=h; exact⟨k,(show g'.mu b=g.mu b from ht.1).trans h1,h2⟩
    | dead=>obtain ⟨k,h1,h2⟩:=h; subst h2; rfl
    | hole=>exact False.elim ht
    | box _=>exact False.elim ht
    | row _ _ _=>exact False.elim ht
    | mp _ _ _=>exact False.elim ht
   | row wr _ _=>cases wr<;>cases B'<;>first | exact h | (exact False.elim ht)
   | dead=>cases B'<;>first | exact h | (exact False.elim ht)
   | box _=>cases B'<;>first | exact h | (exact False.elim ht)
   | mp _ _ _=>cases B'<;>first | exact h | (exact False.elim ht)
   | hole=>exact False.elim h
 | .nq els,c,h=>by rw[VR] at h ⊢; exact h
 | .mr b,c,h=>by
  rw[VR] at h ⊢
  cases hb:H[b]? with
  | none=>rw[hb] at h; exact h.elim
  | some B=>
   obtain ⟨B',hB',ht⟩:=he.blk b B hb
   rw[hb] at h; rw[hB']
   cases B with
   | mp _ _ _=>cases B' with
    | mp _ _ _=>obtain ⟨k,h1,h2⟩:=h; exact⟨k,(show g'.mu b=g.mu b from ht).trans h1,h2⟩
    | dead=>obtain ⟨k,h1,h2⟩:=h; subst h2; rfl
    | hole=>exact False.elim ht
    | box _=>exact False.elim ht
    | row _ _ _=>exact False.elim ht
    | rng _=>exact False.elim ht
   | row wr _ _=>cases wr<;>cases B'<;>first | exact h | (exact False.elim ht)
   | dead=>cases B'<;>first | exact h | (exact False.elim ht)
   | box _=>cases B'<;>first | exact h | (exact False.elim ht)
   | rng _=>cases B'<;>first | exact h | (exact False.elim ht)
   | hole=>exact False.elim h
 | .mv k ks vs,c,h=>by
  rw[VR] at h ⊢
  obtain ⟨r,arr,cl,h1,h2,h3,h4,h5⟩:=h
  obtain ⟨e1,e2⟩:=he.map r arr cl h2 h3
  exact⟨r,arr,cl,h1,e2,e1,h4,aY.eh he vs _ h5⟩
theorem aY.eh (he:uC H g w H' g' w'):∀ (cs:List A) (ds:List Value),aY H g w cs ds->aY H' g' w' cs ds
 | [],_,h=>by rw[aY] at h ⊢; exact h
 | a :: as,_,h=>by
  rw[aY] at h ⊢
  obtain ⟨d,ds',h1,h2,h3⟩:=h
  exact⟨d,ds',h1,VR.eh he a d h2,aY.eh he as ds' h3⟩
theorem aU.eh (he:uC H g w H' g' w'):∀ (cs:List (List A)) (ds:List (List Value)),aU H g w cs ds->aU H' g' w' cs ds
 | [],_,h=>by rw[aU] at h ⊢; exact h
 | a :: as,_,h=>by
  rw[aU] at h ⊢
  obtain ⟨d,ds',h1,h2,h3⟩:=h
  exact⟨d,ds',h1,aY.eh he a d h2,aU.eh he as ds' h3⟩
end
theorem Ext.I2 (he:Ext H g w H' g' w'):uC H g w H' g' w':=⟨he.cell,he.blk,he.map⟩
theorem bk.ext (he:Ext H g w H' g' w') {k off:Nat} {ds:List Value} (h:bk H g w k off ds):bk H' g' w' k off ds:=h.eh he.I2
theorem VR.ext (he:Ext H g w H' g' w') (a:A) (c:Value) (h:VR H g w a c):VR H' g' w' a c:=VR.eh he.I2 a c h
theorem aY.ext (he:Ext H g w H' g' w') (cs:List A) (ds:List Value) (h:aY H g w cs ds):aY H' g' w' cs ds:=aY.eh he.I2 cs ds h
theorem aU.ext (he:Ext H g w H' g' w') (cs:List (List A)) (ds:List (List Value)) (h:aU H g w cs ds):aU H' g' w' cs ds:=aU.eh he.I2 cs ds h
theorem jZ.len {b es:Nat} {els:List (List A)} (h:jZ H g w b (.row false es els)):(g.ga b).length=els.length:=h.1.length
theorem Rel.xo (hr:Rel H g w0 w) (he:Ext H g w H' g' w') (hS:g'.S=g.S:=by rfl):∀ k o,w'.heap.size<=k->g'.S k o:=fun k o hk=>by rw[hS]; exact hr.out k o (Ot he.size hk)
theorem Rel.vZ (hr:Rel H g w0 w) (he:Ext H g w H' g' w') (hS:g'.S=g.S:=by rfl):∀ b k o,g'.mu b=some k->g'.S k o:=fun b k o h=>by
 rw[hS]
 rcases he.fresh b k h with ⟨c,hc⟩ | hl
 ·exact hr.own c k o hc
 ·exact hr.out k o hl
theorem Ext.below (hr:Rel H g w0 w) (hb:Below w.heap.size w w'):Ext H g w H g w':=by
 refine⟨fun k o v hs hc=>⟨(hb.cell (p:=⟨k,o,none⟩) (P3 w _ hc)).trans hc,hs⟩,fun b B hB=>⟨B,hB,?_⟩,fun k o ho=>(hb.block k (Ob.1 ho).1).trans ho,hb.size,fun k arr cl hs hm=>⟨(hb.block k (Ob.1 hm).1).trans hm,hs⟩,fun k hk _=>hb.block k hk,fun b k h=>.inl ⟨b,h⟩⟩
 cases B with
 | box _=>rfl
 | mp _ _ _=>rfl
 | row wr es els=>cases wr with
  | true=>exact⟨rfl,rfl,rfl⟩
  | false=>exact⟨rfl,⟨[],r9⟩,(hr.blk b _ hB).len,N6 _,fun _=>⟨rfl,fun k arr ty hk ha=>⟨arr,(hb.block k (hr.dom b k hk).2.2).trans ha,N6 _⟩⟩⟩
 | rng _=>exact⟨rfl,rfl⟩
 | dead=>trivial
 | hole=>trivial
theorem jZ.below {b:Nat} {B:aw} (hr:Rel H g w0 w) (hb:Below w.heap.size w w') (h:jZ H g w b B):jZ H g w' b B:=by
 have he:=Ext.below hr hb
 cases B with
 | box cs=>obtain ⟨k,arr,ty,h1,h2,h3⟩:=h; exact⟨k,arr,ty,h1,(hb.block k (hr.dom b k h1).2.2).trans h2,aY.ext he _ _ h3⟩
 | row wr es els=>cases wr with
  | true=>
   obtain ⟨ds,h1,h2,h3⟩:=h
   exact⟨ds,aU.ext he _ _ h1,h2,fun hp=>let ⟨k,arr,ty,e1,e2,e3⟩:=h3 hp; ⟨k,arr,ty,e1,(hb.block k (hr.dom b k e1).2.2).trans e2,e3⟩⟩
  | false=>exact⟨aU.ext he _ _ h.1,h.2⟩
 | rng st=>obtain ⟨k,h1,h2⟩:=h; exact⟨k,h1,(hb.block k (hr.dom b k h1).2.2).trans h2⟩
 | mp _ _ _=>obtain ⟨k,arr,cl,h1,h2,h3,h4⟩:=h; exact⟨k,arr,cl,h1,(hb.block k (hr.dom b k h1).2.2).trans h2,h3,aY.ext he _ _ h4⟩
 | dead=>exact h
 | hole=>exact h
theorem Rel.dJ (hr:Rel H g w0 w) (hb:Below w.heap.size w w'):Rel H g w0 w':=
 ⟨hr.below.trans (hb.mono hr.below.size),fun b k hk=>⟨(hr.dom b k hk).1,(hr.dom b k hk).2.1,Om (hr.dom b k hk).2.2 hb.size⟩,hr.inj,fun k o hk=>hr.out k o (Ot hb.size hk),hr.own,fun b B hB=>(hr.blk b B hB).below hr hb⟩
theorem Rel.uX (hr:Rel H g w0 w) {B:Nat} (hc:bG B w w'):uC H g w H g w':=by
 refine⟨fun k o v hs h=>⟨Calm.cell (B:=B) ⟨k,o,none⟩ v w w' h hc,hs⟩,fun b Bk hB=>⟨Bk,hB,?_⟩,fun k arr cl hs hm=>⟨hc.data _ _ hm rfl,hs⟩⟩
 cases Bk with
 | box _=>rfl
 | mp _ _ _=>rfl
 | row wr es els=>cases wr with
  | true=>exact⟨rfl,rfl,rfl⟩
  | false=>exact⟨rfl,⟨[],r9⟩,(hr.blk b _ hB).len,N6 _,fun _=>⟨rfl,fun k arr ty hk ha=>⟨arr,hc.data _ _ ha rfl,N6 _⟩⟩⟩
 | rng _=>exact⟨rfl,rfl⟩
 | dead=>trivial
 | hole=>trivial
theorem Rel.calm (hr:Rel H g w0 w) {B:Nat} (hB:w0.heap.size<=B) (hc:bG B w w') (hl:∀ (k:Nat) (o:Loop),w.heap[k]? = some (.loop o)->w'.heap[k]? = some (.loop o)):Rel H g w0 w':=by
 have he:=hr.uX hc
 refine⟨Calm.below (N6 _) hB w w' hr.below hc,fun b k hk=>⟨(hr.dom b k hk).1,(hr.dom b k hk).2.1,Om (hr.dom b k hk).2.2 hc.size⟩,hr.inj,fun k o hk=>hr.out k o (Ot hc.size hk),hr.own,fun b Bk hBk=>?_⟩
 have h:=hr.blk b Bk hBk
 cases Bk with
 | box cs=>obtain ⟨k,arr,ty,h1,h2,h3⟩:=h; exact⟨k,arr,ty,h1,hc.data _ _ h2 rfl,aY.eh he _ _ h3⟩
 | row wr es els=>cases wr with
  | true=>
   obtain ⟨ds,h1,h2,h3⟩:=h
   exact⟨ds,aU.eh he _ _ h1,h2,fun hp=>let ⟨k,arr,ty,e1,e2,e3⟩:=h3 hp; ⟨k,arr,ty,e1,hc.data _ _ e2 rfl,e3⟩⟩
  | false=>exact⟨aU.eh he _ _ h.1,h.2⟩
 | rng st=>obtain ⟨k,h1,h2⟩:=h; exact⟨k,h1,hl k _ h2⟩
 | mp _ _ _=>obtain ⟨k,arr,cl,h1,h2,h3,h4⟩:=h; exact⟨k,arr,cl,h1,hc.data _ _ h2 rfl,h3,aY.eh he _ _ h4⟩
 | dead=>exact h
 | hole=>exact h
theorem Ext.calm {H0:ar} {g0:Gh} {ws:World} (he:Ext H0 g0 ws H g w) (hr:Rel H g w0 w) {B:Nat} (hB:ws.heap.size<=B) (hc:bG B w w'):Ext H0 g0 ws H g w':=by
 have h0:=hr.uX hc
 refine⟨fun k o v hs h=>?_,fun b Bk hBk=>?_,fun k o ho=>?_,Ot he.size hc.size,fun k arr cl hs hm=>let ⟨c1,s1⟩:=he.map k arr cl hs hm; h0.map k arr cl s1 c1,fun k hk hn=>(hc.low k r7 (Om hk he.size)).trans (he.obj k hk hn),he.fresh⟩
 ·obtain ⟨c1,s1⟩:=he.cell k o v hs h
  exact h0.cell k o v s1 c1
 ·obtain ⟨B',hB',ht⟩:=he.blk b Bk hBk
  refine⟨B',hB',?_⟩
  cases Bk with
  | row wr es els=>cases wr with
   | false=>cases B' with
    | row wr' es' els'=>cases wr' with
     | false=>
      obtain ⟨e1,e2,e3,e4,e5⟩:=ht
      refine⟨e1,e2,e3,e4,fun hl=>⟨(e5 hl).1,fun k arr ty hk ha=>?_⟩⟩
      obtain ⟨arr',q1,q2⟩:=(e5 hl).2 k arr ty hk ha
      exact⟨arr',hc.data _ _ q1 rfl,q2⟩
     | true=>exact ht
    | _=>exact ht
   | true=>cases B' with
    | row wr' es' els'=>cases wr'<;>exact ht
    | _=>exact ht
  | _=>cases B'<;>exact ht
 ·have hk:=he.kept k o ho
  have hlt:=(Ob.1 ho).1
  exact(hc.low k r7 (Ob.1 hk).1).trans hk
end
section
open Go.RowKit
variable {P:Program} {H:ar} {g:Gh} {w0 w:World}
theorem dp {α:Type} {P:Program}:∀ {s:Sem α} {a:α},cf P s=some a->∀ w,s.run P w=.ok a w
 | .pure a,_,h,w=>by simp only[cf,O3] at h; subst h; rfl
 | .program k,a,h,w=>by simp only[cf] at h; exact dp (s:=k P) h w
 | .mark _ k,a,h,w=>by simp only[cf] at h; exact dp (s:=k) h w
 | .load ..,_,h,_ | .store ..,_,h,_ | .new ..,_,h,_ | .shape ..,_,h,_ | .freeze ..,_,h,_ | .frozen ..,_,h,_ | .getObj ..,_,h,_ | .setObj ..,_,h,_ | .choose ..,_,h,_ | .sys ..,_,h,_ | .halt _,_,h,_=>by cases h
theorem cV:∀ {cs:List A} {ds:List Value},aY H g w cs ds↔ds.length=cs.length/\∀ (i:Nat) a d,cs[i]? = some a->ds[i]? = some d->VR H g w a d
 | [],ds=>by
  rw[aY]
  exact⟨fun h=>by subst h; simp,fun h=>by simpa using h.1⟩
 | a :: as,ds=>by
  rw[aY]
  constructor
  ·rintro ⟨d,ds',rfl,h1,h2⟩
   obtain ⟨h3,h4⟩:=cV.1 h2
   refine⟨by simp[h3],fun i x y hx hy=>?_⟩
   cases i with
   | zero=>simp at hx hy; subst hx; subst hy; exact h1
   | succ i=>exact h4 i x y (by simpa using hx) (by simpa using hy)
  ·rintro ⟨h1,h2⟩
   cases ds with
   | nil=>simp at h1
   | cons d ds'=>exact⟨d,ds',rfl,h2 0 a d rfl rfl,cV.2 ⟨by simpa using h1,fun i x y hx hy=>h2 (i+1) x y (by simpa using hx) (by simpa using hy)⟩⟩
theorem b7:∀ {cs:List (List A)} {ds:List (List Value)},aU H g w cs ds↔ds.length=cs.length/\∀ (i:Nat) a d,cs[i]? = some a->ds[i]? = some d->aY H g w a d
 | [],ds=>by
  rw[aU]
  exact⟨fun h=>by subst h; simp,fun h=>by simpa using h.1⟩
 | a :: as,ds=>by
  rw[aU]
  constructor
  ·rintro ⟨d,ds',rfl,h1,h2⟩
   obtain ⟨h3,h4⟩:=b7.1 h2
   refine⟨by simp[h3],fun i x y hx hy=>?_⟩
   cases i with
   | zero=>simp at hx hy; subst hx; subst hy; exact h1
   | succ i=>exact h4 i x y (by simpa using hx) (by simpa using hy)
  ·rintro ⟨h1,h2⟩
   cases ds with
   | nil=>simp at h1
   | cons d ds'=>exact⟨d,ds',rfl,h2 0 a d rfl rfl,b7.2 ⟨by simpa using h1,fun i x y hx hy=>h2 (i+1) x y (by simpa using hx) (by simpa using hy)⟩⟩
theorem aY.get {cs:List A} {ds:List Value} (h:aY H g w cs ds) {i:Nat} {a:A} (ha:cs[i]? = some a):∃ d,ds[i]? = some d/\VR H g w a d:=by
 obtain ⟨h1,h2⟩:=cV.1 h
 have hi:i<ds.length:=by rw[h1]; exact(Oa.1 ha).1
 exact⟨ds[i],N5 hi,h2 i a _ ha (N5 hi)⟩
theorem aU.get {cs:List (List A)} {ds:List (List Value)} (h:aU H g w cs ds) {i:Nat} {a:List A} (ha:cs[i]? = some a):∃ d,ds[i]? = some d/\aY H g w a d:=by
 obtain ⟨h1,h2⟩:=b7.1 h
 have hi:i<ds.length:=by rw[h1]; exact(Oa.1 ha).1
 exact⟨ds[i],N5 hi,h2 i a _ ha (N5 hi)⟩
theorem aY.drop {cs:List A} {ds:List Value} (h:aY H g w cs ds) (n:Nat):aY H g w (cs.drop n) (ds.drop n):=by
 obtain ⟨h1,h2⟩:=cV.1 h
 exact cV.2 ⟨by simp[h1],fun i a d ha hd=>h2 (n+i) a d (by simpa using ha) (by simpa using hd)⟩
theorem aY.take {cs:List A} {ds:List Value} (h:aY H g w cs ds) (n:Nat):aY H g w (cs.take n) (ds.take n):=by
 obtain ⟨h1,h2⟩:=cV.1 h
 refine cV.2 ⟨by simp[h1],fun i a d ha hd=>?_⟩
 rw[Ox] at ha hd
 split at ha
 ·rename_i hlt; rw[Og hlt] at hd; exact h2 _ _ _ ha hd
 ·cases ha
theorem aY.append {cs cs':List A} {ds ds':List Value} (h:aY H g w cs ds) (h':aY H g w cs' ds'):aY H g w (cs++cs') (ds++ds'):=by
 obtain ⟨h1,h2⟩:=cV.1 h
 obtain ⟨h3,h4⟩:=cV.1 h'
 refine cV.2 ⟨by simp[h1,h3],fun i a d ha hd=>?_⟩
 rw[PZ] at ha hd
 rw[h1] at hd
 split at ha
 ·rename_i hlt; rw[Og hlt] at hd; exact h2 _ _ _ ha hd
 ·rename_i hlt; rw[Oh hlt] at hd; exact h4 _ _ _ ha hd
theorem aU.drop {cs:List (List A)} {ds:List (List Value)} (h:aU H g w cs ds) (n:Nat):aU H g w (cs.drop n) (ds.drop n):=by
 obtain ⟨h1,h2⟩:=b7.1 h
 exact b7.2 ⟨by simp[h1],fun i a d ha hd=>h2 (n+i) a d (by simpa using ha) (by simpa using hd)⟩
theorem aU.take {cs:List (List A)} {ds:List (List Value)} (h:aU H g w cs ds) (n:Nat):aU H g w (cs.take n) (ds.take n):=by
 obtain ⟨h1,h2⟩:=b7.1 h
 refine b7.2 ⟨by simp[h1],fun i a d ha hd=>?_⟩
 rw[Ox] at ha hd
 split at ha
 ·rename_i hlt; rw[Og hlt] at hd; exact h2 _ _ _ ha hd
 ·cases ha
theorem aU.append {cs cs':List (List A)} {ds ds':List (List Value)} (h:aU H g w cs ds) (h':aU H g w cs' ds'):aU H g w (cs++cs') (ds++ds'):=by
 obtain ⟨h1,h2⟩:=b7.1 h
 obtain ⟨h3,h4⟩:=b7.1 h'
 refine b7.2 ⟨by simp[h1,h3],fun i a d ha hd=>?_⟩
 rw[PZ] at ha hd
 rw[h1] at hd
 split at ha
 ·rename_i hlt; rw[Og hlt] at hd; exact h2 _ _ _ ha hd
 ·rename_i hlt; rw[Oh hlt] at hd; exact h4 _ _ _ ha hd
theorem aY.aR {cs xs:List A} {ds ys:List Value} (h:aY H g w cs ds) (h':aY H g w xs ys) (o:Nat):aY H g w (aR cs o xs) (aR ds o ys):=by
 unfold Go.Proofs.Ytebkhfhcipnfgaa.aR
 rw[h'.length]
 exact((h.take o).append h').append (h.drop _)
theorem aU.aR {cs xs:List (List A)} {ds ys:List (List Value)} (h:aU H g w cs ds) (h':aU H g w xs ys) (o:Nat):aU H g w (aR cs o xs) (aR ds o ys):=by
 unfold Go.Proofs.Ytebkhfhcipnfgaa.aR
 rw[h'.length]
 exact((h.take o).append h').append (h.drop _)
theorem fO {α:Type} (es:Nat):∀ (q:Nat) (xs:List α),(chunk es q xs).length=q
 | 0,_=>rfl
 | q+1,xs=>by rw[chunk,On,fO es q]
theorem iR {α:Type} {es:Nat}:∀ {q:Nat} {xs:List α},xs.length=q*es->∀ d∈chunk es q xs,d.length=es
 | 0,_,_,d,hd=>by cases hd
 | q+1,xs,h,d,hd=>by
  rw[O5,Rs] at h
  rcases OQ.1 hd with rfl | hd
  ·simp; omega
  ·exact iR so d hd
theorem kf {α:Type} {es:Nat}:∀ {q:Nat} {xs:List α},xs.length=q*es->(chunk es q xs).flatten=xs
 | 0,xs,h=>by
  have:xs=[]:=Ou (by simpa using h)
  subst this; rfl
 | q+1,xs,h=>by
  rw[O5,Rs] at h
  rw[chunk,Pt,kf so]
  exact Py _ _
theorem aY.chunk {es:Nat}:∀ (q:Nat) {cs:List A} {ds:List Value},aY H g w cs ds->aU H g w (chunk es q cs) (chunk es q ds)
 | 0,_,_,_=>by rw[Go.Proofs.Ytebkhfhcipnfgaa.chunk,Go.Proofs.Ytebkhfhcipnfgaa.chunk,aU]
 | q+1,cs,ds,h=>by
  rw[Go.Proofs.Ytebkhfhcipnfgaa.chunk,Go.Proofs.Ytebkhfhcipnfgaa.chunk,aU]
  exact⟨_,_,rfl,h.take es,aY.chunk q (h.drop es)⟩
theorem aU.flat:∀ {els:List (List A)} {ds:List (List Value)},aU H g w els ds->aY H g w els.flatten ds.flatten
 | [],_,h=>by rw[aU] at h; subst h; rw[List.flatten_nil,aY]; rfl
 | a :: els,_,h=>by
  rw[aU] at h
  obtain ⟨d,ds',rfl,h1,h2⟩:=h
  rw[Pt,Pt]
  exact h1.append (aU.flat h2)
theorem BA (x:Value):VR H g w (xn x) x:=by
 unfold xn
 split
 ·rw[VR]; exact⟨none,0,[],0,rfl,N6 _,fun _=>rfl,r9,r9,by rw[aU]⟩
 ·rw[VR]
theorem iy (l:List Value):aY H g w (l.map xn) l:=
 cV.2 ⟨r9,fun i a d ha hd=>by rw[OB,hd] at ha; cases ha; exact BA d⟩
theorem m9 (x:Value):VR H g w (ui x) x:=by
 unfold ui
 split
 ·rename_i cs; rw[VR]; exact⟨cs,rfl,iy _⟩
 ·exact BA _
mutual
theorem lV:∀ (a:A) {v c:Value},a.pf=some v->VR H g w a c->c=v
 | .any,_,_,h,_=>by simp[A.pf] at h
 | .v x,_,_,h,hr=>by simp[A.pf] at h; rw[VR] at hr; rw[hr,h]
 | .ptr ..,_,_,h,_=>by simp[A.pf] at h
 | .ep ..,_,_,h,_=>by simp[A.pf] at h
 | .ip _,_,_,h,_=>by simp[A.pf] at h
 | .imm ..,_,_,h,_=>by simp[A.pf] at h
 | .sl ..,_,_,h,_=>by simp[A.pf] at h
 | .agg cs,_,_,h,hr=>by
  simp[A.pf] at h
  obtain ⟨l,hl,rfl⟩:=h
  rw[VR] at hr
  obtain ⟨ds,rfl,h2⟩:=hr
  have:=yF cs hl h2
  rw[<-this]
 | .tup _,_,_,h,_=>by simp[A.pf] at h
 | .fn (.func f) [] [],_,_,h,hr=>by
  simp[A.pf] at h
  subst h
  rw[VR] at hr
  obtain ⟨ds,es,rfl,h1,h2⟩:=hr
  rw[aY] at h1 h2
  have e1:ds=#[]:=by cases ds; simp_all
  have e2:es=#[]:=by cases es; simp_all
  rw[e1,e2]
 | .fn (.func _) (_ :: _) _,_,_,h,_=>by simp[A.pf] at h
 | .fn (.func _) [] (_ :: _),_,_,h,_=>by simp[A.pf] at h
 | .fn (.method _) _ _,_,_,h,_=>by simp[A.pf] at h
 | .fn (.methodOf ..) _ _,_,_,h,_=>by simp[A.pf] at h
 | .fn (.via ..) _ _,_,_,h,_=>by simp[A.pf] at h
 | .fn (.yield _) _ _,_,_,h,_=>by simp[A.pf] at h
 | .ifc t x,_,_,h,hr=>by
  simp[A.pf] at h
  obtain ⟨v,hv,rfl⟩:=h
  rw[VR] at hr
  obtain ⟨d,rfl,h2⟩:=hr
  rw[lV x hv h2]
theorem yF:∀ (cs:List A) {l ds:List Value},zE cs=some l->aY H g w cs ds->ds=l
 | [],_,_,h,hr=>by simp[zE] at h; rw[aY] at hr; rw[hr,<-h]
 | a :: as,_,_,h,hr=>by
  rw[zE] at h
  cases hx:a.pf with
  | none=>rw[hx] at h; cases h
  | some x=>
   rw[hx] at h
   cases hl:zE as with
   | none=>rw[hl] at h; cases h
   | some l=>
    rw[hl] at h
    cases h
    rw[aY] at hr
    obtain ⟨d,ds',rfl,h1,h2⟩:=hr
    rw[lV a hx h1,yF as hl h2]
end
theorem qe {a:A} {c:Value} (hc:a.cell=true) (h:VR H g w a c):c.oneCell'=true:=by
 cases a with
 | any=>simp[A.cell] at hc
 | v x=>rw[VR] at h; rw[h]; simpa [A.cell] using hc
 | ptr b o=>
  rw[VR] at h
  split at h
  ·obtain ⟨k,_,rfl⟩:=h; rfl
  ·exact h.elim
  ·exact h
  ·exact h.elim
 | ep b i o=>
  rw[VR] at h
  split at h
  ·obtain ⟨_,k,_,rfl⟩:=h; rfl
  ·exact h.elim
  ·exact h
  ·exact h.elim
 | ip cs=>rw[VR] at h; obtain ⟨_,_,_,rfl,_⟩:=h; rfl
 | imm els clip=>rw[VR] at h; obtain ⟨_,_,_,_,rfl,_⟩:=h; rfl
 | sl b o n clip=>
  rw[VR] at h
  split at h
  ·obtain ⟨_,_,_,rfl,_⟩:=h; rfl
  ·obtain ⟨_,_,_,rfl,_⟩:=h; rfl
  ·exact h.elim
  ·exact h
  ·exact h.elim
 | agg _=>simp[A.cell] at hc
 | tup _=>simp[A.cell] at hc
 | fn f a b=>rw[VR] at h; obtain ⟨_,_,rfl,_⟩:=h; rfl
 | ifc t x=>rw[VR] at h; obtain ⟨_,rfl,_⟩:=h; rfl
 | nq _=>simp[A.cell] at hc
 | yld b=>
  rw[VR] at h
  split at h
  ·obtain ⟨_,_,rfl⟩:=h; rfl
  ·exact h.elim
  ·exact h
  ·exact h.elim
 | mr b=>
  rw[VR] at h
  split at h
  ·obtain ⟨_,_,rfl⟩:=h; rfl
  ·exact h.elim
  ·exact h
  ·exact h.elim
 | mv k ks vs=>rw[VR] at h; obtain ⟨_,_,_,rfl,_⟩:=h; rfl
theorem tu {c:Value} (h:c.oneCell'=true):c.cells=#[c]:=by cases c<;>first | rfl | simp[Value.oneCell'] at h
theorem kW {a:A} {c:Value} {cs:List A} (ha:a.cells? = some cs) (h:VR H g w a c):aY H g w cs c.cells.toList/\(∀ x∈c.cells.toList,x.oneCell'=true)/\∀ x∈cs,x.cell=true:=by
 have one:∀ {x:A} {d:Value},x.cell=true->VR H g w x d->aY H g w [x] d.cells.toList/\(∀ y∈d.cells.toList,y.oneCell'=true)/\∀ y∈[x],y.cell=true:=fun {x d} hx hv=>by
  have h1:=qe hx hv
  rw[tu h1]
  refine⟨?_,by simp[h1],by simp[hx]⟩
  rw[aY]; exact⟨d,[],rfl,hv,y2⟩
 cases a with
 | any=>simp[A.cells?] at ha
 | tup _=>simp[A.cells?] at ha
 | agg as=>
  simp only[A.cells?,cond_eq_ite] at ha
  split at ha
  ·rename_i hall
   cases ha
   rw[VR] at h
   obtain ⟨ds,rfl,h2⟩:=h
   refine⟨h2,fun x hx=>?_,Oj.1 hall⟩
   obtain ⟨i,hi,rfl⟩:=O4 hx
   have hl:=h2.length
   obtain ⟨d,hd,hv⟩:=h2.get (i:=i) (N5 (by simp only[Value.cells] at hi; omega))
   have hd':(Value.agg ds).cells.toList[i]? = some d:=hd
   rw[N5 hi] at hd'
   cases hd'
   exact qe (Oj.1 hall _ (OL _)) hv
  ·cases ha
 | v x=>
  simp only[A.cells?,cond_eq_ite] at ha
  split at ha
  ·rename_i hx; cases ha; exact one hx h
  ·cases ha
 | nq _=>simp[A.cells?] at ha
 | _=>simp only[A.cells?,O3] at ha; subst ha; exact one rfl h
theorem tX {t:TypeId} {cs:List A} {ds:List Value} {a:A} (hj:join P t cs=some a) (h:aY H g w cs ds):∃ c,VR H g w a c/\(if ku P t=true then c=.agg ds.toArray else ds=[c]):=by
 unfold Go.Proofs.Ytebkhfhcipnfgaa.join at hj
 cases hA:ku P t
 ·rw[hA] at hj
  simp only[N8] at hj
  split at hj
  ·cases hj
   rw[aY] at h
   obtain ⟨d,ds',rfl,h1,h2⟩:=h
   rw[aY] at h2
   subst h2
   exact⟨d,h1,r9⟩
  ·cases hj
 ·rw[hA] at hj
  simp only[N9,O3] at hj
  subst hj
  exact⟨.agg ds.toArray,by rw[VR]; exact⟨_,rfl,by simpa using h⟩,r9⟩
theorem sF (t:TypeId) {d:TypeDesc} (hu:P.underlying t=some d) (w:World):(isAgg t).run P w=.ok (ku P t) w:=by
 unfold isAgg ku
 rw[OK,Oi hu w,hu]
 cases d<;>rfl
theorem kh {t:TypeId} {n:Nat} (h:bU P t=some n):∃ d,P.underlying t=some d:=by
 unfold bU at h
 cases hu:P.underlying t with
 | none=>rw[hu] at h; cases h
 | some d=>exact⟨d,rfl⟩
theorem fi {t:TypeId} {n:Nat} (h:bU P t=some n):∃ i,P.info? t=some i/\i.size=n:=by
 obtain ⟨d,hu⟩:=kh h
 unfold bU at h
 rw[hu] at h
 cases hi:P.info? t with
 | none=>rw[hi] at h; cases h
 | some i=>rw[hi] at h; exact⟨i,rfl,by simpa using h⟩
theorem dx {t:TypeId} {n:Nat} (h:bU P t=some n) (w:World):(sizeOf t).run P w=.ok n w:=by
 obtain ⟨i,hi,rfl⟩:=fi h
 simp[sizeOf,typeInfo,hi]
theorem vO {t:TypeId} {n:Nat} (hs:bU P t=some n) {d:TypeDesc} (hu:P.underlying t=some d) {k off:Nat} {ds:List Value} (hl:ds.length=n) (hc:w.rangeAt k off ds) {c:Value} (h:if ku P t=true then c=.agg ds.toArray else ds=[c]) :
  (loadVar t ⟨k,off,none⟩).run P w=.ok c w:=by
 have hc':(loadCells ⟨k,off,none⟩ ds.length).run P w=.ok ds.toArray w:=
  run_loadCells_list (P:=P) w ⟨k,off,none⟩ ds (fun j v hv=>by rw[Pq]; exact hc j v hv)
 unfold loadVar
 rw[OK,sF t hu w]
 cases hA:ku P t
 ·rw[hA] at h
  simp at h
  subst h
  have:=hc 0 c rfl
  simp only[PI] at this
  simp[load,Sem.run,this]
 ·rw[hA] at h
  simp at h
  subst h
  simp[dx hs,<-hl,hc']
end
section
open Go.RowKit
variable {P:Program} {H:ar} {g:Gh} {w0 w:World}
theorem aW {α β:Type} {x:Option α} {f:α->Option β} {y:β} (h:x.bind f=some y):∃ a,x=some a/\f a=some y:=by
 cases x with
 | none=>cases h
 | some a=>exact⟨a,rfl,h⟩
theorem aZ {α:Type} {b:Bool} {x y:α}:(bif b then x else y)=if b=true then x else y:=by cases b<;>rfl
theorem dB {α:Type} {b:Bool} {x:Option α} {y:α} (h:(bif b then none else x)=some y):b=false/\x=some y:=by cases b<;>simp_all
theorem aP {α:Type} {b:Bool} {x:Option α} {y:α} (h:(bif b then x else none)=some y):b=true/\x=some y:=by cases b<;>simp_all
theorem bk.drop {k off:Nat} {ds:List Value} (h:bk H g w k off ds) (n:Nat):bk H g w k (off+n) (ds.drop n):=fun j v hj=>by
 rw[Pu] at hj
 rw[P2]
 exact h (n+j) v hj
theorem bk.take {k off:Nat} {ds:List Value} (h:bk H g w k off ds) (n:Nat):bk H g w k off (ds.take n):=fun j v hj=>by
 rw[Ox] at hj
 split at hj
 ·exact h j v hj
 ·cases hj
theorem bk.range {k off:Nat} {ds:List Value} (h:bk H g w k off ds):w.rangeAt k off ds:=fun j v hj=>(h j v hj).1
theorem iV {es:Nat}:∀ {ds:List (List Value)},(∀ d∈ds,d.length=es)->∀ {j:Nat} {d:List Value},ds[j]? = some d->∀ i,i<es->ds.flatten[j*es+i]? = d[i]?
 | [],_,j,d,h,i,_=>by simp at h
 | x :: xs,hl,j,d,h,i,hi=>by
  have hx:=hl x r9
  cases j with
  | zero=>simp at h; subst h; simp[PZ,hx,hi]
  | succ j=>
   have:=iV (ds:=xs) (fun d hd=>hl d (by simp[hd])) (j:=j) (d:=d) (by simpa using h) i hi
   rw[Pt,OI (by rw[hx,O5]; omega),hx,<-this]
   congr 1
   rw[O5]; omega
theorem bF {es:Nat}:∀ {ds:List (List Value)},(∀ d∈ds,d.length=es)->ds.flatten.length=ds.length*es
 | [],_=>r9
 | x :: xs,hl=>by
  rw[Pt,Oq,hl x r9,bF (fun d hd=>hl d (by simp[hd])),On,O5]; omega
theorem bk.elem {k off es:Nat} {ds:List (List Value)} (h:bk H g w k off ds.flatten) (hl:∀ d∈ds,d.length=es) {j:Nat} {d:List Value} (hd:ds[j]? = some d):bk H g w k (off+j*es) d:=fun i v hi=>by
 have hdl:d.length=es:=hl d (OA hd)
 have hi':i<es:=by rw[<-hdl]; exact(Oa.1 hi).1
 rw[P2]
 exact h (j*es+i) v (by rw[iV hl hd i hi']; exact hi)
theorem bk.sub {k off es:Nat} {ds:List (List Value)} (h:bk H g w k off ds.flatten) (hl:∀ d∈ds,d.length=es) (l m:Nat):bk H g w k (off+l*es) ((ds.drop l).take m).flatten:=fun i v hi=>by
 have hl2:∀ d∈(ds.drop l).take m,d.length=es:=fun d hd=>hl d (OM (OH hd))
 have hlen:=(Oa.1 hi).1
 rw[bF hl2] at hlen
 have hes:0<es:=by rcases Q4 es with h0 | h0; (rw[h0] at hlen; simp at hlen); exact h0
 have hq:i / es<((ds.drop l).take m).length:=QU (by rw[Pm]; exact hlen)
 have hdm:=QV i es
 have hr:=Qt i hes
 obtain ⟨d,hd⟩:∃ d,((ds.drop l).take m)[i / es]? = some d:=⟨_,N5 hq⟩
 have e1:=iV hl2 hd (i % es) hr
 have e2:i / es*es+i % es=i:=by rw[Pm]; exact hdm
 rw[e2,hi] at e1
 have hd2:ds[l+i / es]? = some d:=by
  rw[Ox] at hd
  split at hd
  ·rwa [Pu] at hd
  ·cases hd
 have e3:=iV hl hd2 (i % es) hr
 have:=h ((l+i / es)*es+i % es) v (by rw[e3,<-e1])
 rwa [show off+((l+i / es)*es+i % es)=off+l*es+i by rw[O5]; omega] at this
theorem m0 {a:A} {c:Value} {j:Nat} (h:idx a=some j) (hv:VR H g w a c):∃ k n,c=.int k n/\0<=n/\n.toNat=j:=by
 unfold idx at h
 split at h
 ·rename_i k n
  replace h:=aP h
  obtain ⟨h1,h2⟩:=h
  rw[VR] at hv
  exact⟨k,n,hv,by simpa using h1,by simpa using h2⟩
 ·cases h
theorem pq (hr:Rel H g w0 w) {t:TypeId} {x y:A} {c:Value} (h:kI P t x H=some y) (hx:VR H g w x c):∃ d,(Instr.loadAt t c).run P w=.ok d w/\VR H g w y d:=by
 unfold kI at h
 replace h:=aW h
 obtain ⟨n,hn,h⟩:=h
 replace h:=dB h
 obtain ⟨_,h⟩:=h
 obtain ⟨dd,hu⟩:=kh hn
 have fin:∀ {k off:Nat} {cs:List A} {ds:List Value},c=.pointer (some ⟨k,off,none⟩)->aY H g w cs ds->cs.length=n->w.rangeAt k off ds->join P t cs=some y->∃ d,(Instr.loadAt t c).run P w=.ok d w/\VR H g w y d:=by
  intro k off cs ds hc hv hl hcells hj
  obtain ⟨d,h1,h2⟩:=tX hj hv
  refine⟨d,?_,h1⟩
  subst hc
  simp only[Instr.loadAt,Instr.sureAddr,OK,Qf,OG]
  exact vO hn hu (hv.length.trans hl) hcells h2
 have seg:∀ {k:Nat} {arr:Array Value} {ty:TypeId} (o:Nat) (ds:List Value),w.heap[k]? = some (.cells arr ty (0,0))->(∀ (j:Nat) v,ds[j]? = some v->arr[o+j]? = some v)->w.rangeAt k o ds:=fun {k arr ty} o ds hk hd j v hj=>by
  rw[PJ w k (o+j) arr ty (0,0) hk]; exact hd j v hj
 split at h
 ·rename_i b o
  split at h
  ·rename_i cs hb
   replace h:=aP h
   obtain ⟨h1,h2⟩:=h
   have h1:=Oe h1
   rw[VR,hb] at hx
   obtain ⟨k,hk,rfl⟩:=hx
   obtain ⟨k',arr,ty,hk',ha,hv⟩:=hr.blk b _ hb
   rw[hk] at hk'; cases hk'
   refine fin rfl ((hv.drop o).take n) so (seg o _ ha fun j v hj=>?_) h2
   rw[Ox] at hj
   split at hj
   ·rw[Pu] at hj; simpa using hj
   ·cases hj
  ·cases h
 ·rename_i b i o
  split at h
  ·rename_i es els hb
   split at h
   ·rename_i cs hi
    rw[VR,hb] at hx
    obtain ⟨hlt,k,hk,rfl⟩:=hx
    obtain ⟨ds,hv,hl,hrow⟩:=hr.blk b _ hb
    obtain ⟨k',arr,ty,hk',ha,hcell⟩:=hrow r7
    rw[hk] at hk'; cases hk'
    obtain ⟨d,hd,hvd⟩:=hv.get hi
    rw[aZ] at h
    split at h
    rotate_left
    ·replace h:=aP h
     obtain ⟨h1,h2⟩:=h
     simp only[N7,Qu] at h1
     obtain ⟨rfl,h1⟩:=h1
     have hcs:cs.length=es:=by rw[<-hvd.length]; exact hl d (OA hd)
     refine fin rfl ((hv.drop i).take (n / cs.length)).flat h1 (seg _ _ ha fun j v hj=>?_) h2
     refine hcell _ v ?_
     have e1:ds.flatten=(ds.take i).flatten++(ds.drop i).flatten:=NY
     have e2:(ds.take i).flatten.length=i*es:=by
      have h3:=hv.length
      rw[bF (es:=es) (fun d hd=>hl d (OH hd)),Pg,PL r7]
     have e3:(ds.drop i).flatten=((ds.drop i).take (n / cs.length)).flatten++((ds.drop i).drop (n / cs.length)).flatten:=NY
     rw[e1,OI r7,e2,e3]
     rw[Oo (by
      have:=(Oa.1 hj).1
      omega)]
     rw[<-hj]; congr 1; omega
    rename_i h1
    have h2:=h
    have h1:=Oe h1
    refine fin rfl ((hvd.drop o).take n) so (seg _ _ ha fun j v hj=>?_) h2
    rw[Ox] at hj
    split at hj
    ·rw[Pu] at hj
     have hdl:d.length=es:=hl d (OA hd)
     have hoj:o+j<es:=by rw[<-hdl]; exact(Oa.1 hj).1
     have:=hcell (i*es+(o+j)) v (by rw[iV hl hd _ hoj]; exact hj)
     rwa [<-P2] at this
    ·cases hj
   ·cases h
  ·cases h
 ·rename_i cs
  replace h:=aP h
  obtain ⟨h1,h2⟩:=h
  have h1:=Oe h1
  rw[VR] at hx
  obtain ⟨k,off,ds,rfl,hc,hv⟩:=hx
  exact fin rfl (hv.take n) so (hc.take n).range h2
 ·cases h
theorem p0 {x y:A} {i:Nat} {c:Value} (h:kU x i=some y) (hx:VR H g w x c):∃ d,(Instr.extract c i).run P w=.ok d w/\VR H g w y d:=by
 unfold kU at h
 split at h
 ·rw[VR] at hx
  obtain ⟨ds,rfl,hv⟩:=hx
  obtain ⟨d,hd,hvd⟩:=hv.get h
  have hd':ds[i]? = some d:=by simpa using hd
  exact⟨d,by simp[Instr.extract,hd'],hvd⟩
 ·cases h
theorem v3 {t:TypeId} {n off:Nat} (hs:bU P t=some n) {ds:Array Value} {c:Value} (h:if ku P t=true then c=.agg ((ds.toList.drop off).take n).toArray else (ds.toList.drop off).take n=[c]) :
  (part t ds off).run P w=.ok c w:=by
 obtain ⟨d,hu⟩:=kh hs
 unfold part
 rw[OK,sF t hu w]
 cases hA:ku P t
 ·rw[hA] at h
  simp at h
  have:ds[off]? = some c:=by
   have h0:((ds.toList.drop off).take n)[0]? = some c:=by rw[h]; rfl
   rw[Ox] at h0
   split at h0
   ·simpa using h0
   ·cases h0
  simp[this]
 ·rw[hA] at h
  simp at h
  subst h
  simp[dx hs]
  apply P0
  simp[List.take_drop,Re]
theorem ti {t:TypeId} {x y:A} {i:Nat} {c:Value} (h:wI P t x i=some y) (hx:VR H g w x c):∃ d,(Instr.field t c i).run P w=.ok d w/\VR H g w y d:=by
 unfold wI at h
 split at h
 ·rename_i fs cs hu
  replace h:=aW h
  obtain ⟨f,hf,h⟩:=h
  replace h:=aW h
  obtain ⟨n,hn,h⟩:=h
  replace h:=aP h
  obtain ⟨h1,h2⟩:=h
  have h1:=Oe h1
  rw[VR] at hx
  obtain ⟨ds,rfl,hv⟩:=hx
  obtain ⟨d,h3,h4⟩:=tX h2 ((hv.drop f.offset).take n)
  refine⟨d,?_,h3⟩
  unfold Instr.field
  rw[OK,Oi hu w]
  simp[hf,asAgg]
  exact v3 hn h4
 ·cases h
theorem tj {t:TypeId} {x i y:A} {c e:Value} (h:wK P t x i=some y) (hx:VR H g w x c) (hi:VR H g w i e):∃ d,(Instr.index t c e).run P w=.ok d w/\VR H g w y d:=by
 unfold wK at h
 replace h:=aW h
 obtain ⟨j,hj,h⟩:=h
 obtain ⟨ik,n,rfl,hn0,rfl⟩:=m0 hj hi
 split at h
 ·rename_i len el cs hu
  replace h:=aW h
  obtain ⟨m,hm,h⟩:=h
  replace h:=aP h
  obtain ⟨h1,h2⟩:=h
  simp only[N7,Od] at h1
  rw[VR] at hx
  obtain ⟨ds,rfl,hv⟩:=hx
  obtain ⟨d,h3,h4⟩:=tX h2 ((hv.drop (n.toNat*m)).take m)
  refine⟨d,?_,h3⟩
  have hlt:n<(len:Int):=r7
  unfold Instr.index
  simp[asIntOf,Oi hu,hn0,hlt,dx hm]
  exact v3 hm h4
 ·rename_i s hu
  cases hb:s[n.toNat]? with
  | none=>rw[hb] at h; cases h
  | some b=>
   rw[hb] at h
   cases h
   rw[VR] at hx
   subst hx
   refine⟨.int .u8 b.toNat,?_,u2⟩
   unfold Instr.index
   simp[asIntOf,Oi hu,hn0,hb]
 ·cases h
theorem sM {b o:Nat} (h:fh H (.ptr b o)=true):∃ cs,H[b]? = some (.box cs):=by
 unfold fh at h; cases hb:H[b]? with
 | none=>simp[hb] at h
 | some B=>cases B<;>simp[hb] at h ⊢
theorem wg {b i o:Nat} (h:fh H (.ep b i o)=true):∃ es els,H[b]? = some (.row true es els):=by
 unfold fh at h; cases hb:H[b]? with
 | none=>simp[hb] at h
 | some B=>cases B with
  | row wr _ _=>cases wr<;>simp[hb] at h ⊢
  | _=>simp[hb] at h
theorem BH {b o n:Nat} {cl:Bool} (h:fh H (.sl b o n cl)=true):∃ wr es els,H[b]? = some (.row wr es els):=by
 unfold fh at h; cases hb:H[b]? with
 | none=>simp[hb] at h
 | some B=>cases B<;>simp[hb] at h ⊢
theorem ox {t:TypeId} {x y:A} {i:Nat} {c:Value} (h:eI P t x i H=some y) (hx:VR H g w x c) :
  ∃ d,(Instr.fieldAt t c i).run P w=.ok d w/\VR H g w y d:=by
 unfold eI at h
 replace h:=aP h
 obtain ⟨hok,h⟩:=h
 split at h
 ·rename_i fs hu
  replace h:=aW h
  obtain ⟨f,hf,h⟩:=h
  replace h:=aW h
  obtain ⟨n,hn,h⟩:=h
  replace h:=dB h
  obtain ⟨hn0,h⟩:=h
  have hn0:n≠0:=by simpa using hn0
  have fin:∀ {k off:Nat},c=.pointer (some ⟨k,off,none⟩)->(Instr.fieldAt t c i).run P w=.ok (.pointer (some ⟨k,off+f.offset,none⟩)) w:=fun {k off} hc=>by
   subst hc
   unfold Instr.fieldAt
   rw[OK,Oi hu w]
   simp[hf,Instr.sureAddr,fieldPlace,dx hn,hn0,Pq]
  split at h
  ·rename_i b o
   cases h
   obtain ⟨cs,hb⟩:=sM hok
   rw[VR,hb] at hx
   obtain ⟨k,hk,rfl⟩:=hx
   exact⟨_,fin rfl,by rw[VR,hb]; exact⟨k,hk,rfl⟩⟩
  ·rename_i b j o
   cases h
   obtain ⟨es,els,hb⟩:=wg hok
   rw[VR,hb] at hx
   obtain ⟨hlt,k,hk,rfl⟩:=hx
   exact⟨_,fin rfl,by rw[VR,hb]; exact⟨hlt,k,hk,by rw[P2]⟩⟩
  ·cases h
   rw[VR] at hx
   obtain ⟨k,off,ds,rfl,hc,hv⟩:=hx
   exact⟨_,fin rfl,by rw[VR]; exact⟨k,_,_,rfl,hc.drop _,hv.drop _⟩⟩
  ·cases h
 ·cases h
theorem wL {x y:A} {c:Value} {t ty:TypeId} (h:p3 P t x H=some y) (hx:VR H g w x c):∃ d,(Builtin.len_ #[t] ty #[c]).run P w=.ok d w/\VR H g w y d:=by
 unfold p3 at h
 replace h:=aP h
 obtain ⟨hok,h⟩:=h
 split at h
 ·rename_i s hu
  cases h
  rw[VR] at hx
  subst hx
  exact⟨_,by simp[Builtin.len_,Oi hu,goInt]; rfl,u2⟩
 ·rename_i e els cl hu
  cases h
  rw[VR] at hx
  obtain ⟨a,cap,ds,es,rfl,_⟩:=hx
  exact⟨_,by simp[Builtin.len_,Oi hu,goInt]; rfl,u2⟩
 ·rename_i e b o n cl hu
  cases h
  obtain ⟨wr,es,els,hb⟩:=BH hok
  rw[VR,hb] at hx
  cases wr
  ·obtain ⟨_,a,cap,rfl,_⟩:=hx
   exact⟨_,by simp[Builtin.len_,Oi hu,goInt]; rfl,u2⟩
  ·obtain ⟨_,a,cap,rfl,_⟩:=hx
   exact⟨_,by simp[Builtin.len_,Oi hu,goInt]; rfl,u2⟩
 ·cases h
theorem aU.lens {els:List (List A)} {ds:List (List Value)} (h:aU H g w els ds) {es j n:Nat} (hl:∀ d∈ds,d.length=es) {cs:List A} (hj:els[j]? = some cs) (hn:cs.length=n):es=n:=by
 obtain ⟨d,hd,hv⟩:=h.get hj
 rw[<-hl d (OA hd),hv.length,hn]
theorem oy (hr:Rel H g w0 w) {t:TypeId} {x i y:A} {c e:Value} (h:cC P t x i H=some y) (hx:VR H g w x c) (hi:VR H g w i e):∃ d,(Instr.indexAt t c e).run P w=.ok d w/\VR H g w y d:=by
 unfold cC at h
 replace h:=aW h
 obtain ⟨j,hj,h⟩:=h
 obtain ⟨ik,n,rfl,hn0,rfl⟩:=m0 hj hi
 replace h:=aP h
 obtain ⟨hok,h⟩:=h
 split at h
 ·rename_i el hu
  replace h:=aW h
  obtain ⟨m,hm,h⟩:=h
  have fin:∀ {k off len cap:Nat},c=.slice (some ⟨k,off,none⟩) len cap->n.toNat<len->(Instr.indexAt t c (.int ik n)).run P w=.ok (.pointer (some ⟨k,off+n.toNat*m,none⟩)) w:=fun {k off len cap} hc hlt=>by
   subst hc
   have:n<(len:Int):=r7
   unfold Instr.indexAt
   simp[asIntOf,Oi hu,hn0,this,dx hm,Pq]
  split at h
  ·rename_i els cl
   replace h:=aW h
   obtain ⟨cs,hcs,h⟩:=h
   replace h:=aP h
   obtain ⟨h1,h⟩:=h
   cases h
   have h1:cs.length=m:=by simpa using h1
   rw[VR] at hx
   obtain ⟨a,cap,ds,es,rfl,h2,h3,h4,h5,h6⟩:=hx
   have hlt:n.toNat<els.length:=(Oa.1 hcs).1
   obtain ⟨k,off,rfl,hc⟩:=h5 r7
   obtain rfl:=h6.lens h4 hcs h1
   obtain ⟨d,hd,hv⟩:=h6.get hcs
   exact⟨_,fin rfl hlt,by rw[VR]; exact⟨k,_,d,rfl,hc.elem h4 hd,hv⟩⟩
  ·rename_i b o len cl
   replace h:=aP h
   obtain ⟨hlt,h⟩:=h
   have hlt:=Oe hlt
   rw[VR] at hx
   split at h
   ·rename_i es els hb
    replace h:=aP h
    obtain ⟨h1,h⟩:=h
    cases h
    obtain rfl:es=m:=by simpa using h1
    rw[hb] at hx
    obtain ⟨h2,a,cap,rfl,h3,h4,h5⟩:=hx
    obtain ⟨k,hk,rfl⟩:=h5 r7
    refine⟨_,fin rfl hlt,?_⟩
    rw[VR,hb]
    exact⟨r7,k,hk,by rw[O5]; rfl⟩
   ·rename_i es els hb
    replace h:=aP h
    obtain ⟨h1,h⟩:=h
    obtain rfl:es=m:=by simpa using h1
    rw[hb] at hx
    obtain ⟨h2,a,cap,rfl,h3,h4,h5,_⟩:=hx
    obtain ⟨k,off,rfl,hc⟩:=h5 r7
    cases hcs:els[o+n.toNat]? with
    | none=>rw[hcs] at h; cases h
    | some cs=>
     rw[hcs] at h
     cases h
     obtain ⟨hga,hgl⟩:=hr.blk b _ hb
     obtain ⟨d,hd,hv⟩:=hga.get hcs
     refine⟨_,fin rfl hlt,?_⟩
     rw[VR]
     refine⟨k,_,d,rfl,hc.elem (fun d hd=>hgl d (OM (OH hd))) ?_,hv⟩
     rw[Ox,Og hlt,Pu]; exact hd
   ·cases h
  ·cases h
 ·rename_i len el hu
  replace h:=aW h
  obtain ⟨m,hm,h⟩:=h
  replace h:=dB h
  obtain ⟨hlt,h⟩:=h
  have hlt:n.toNat<len:=by simpa using hlt
  have fin:∀ {k off:Nat},c=.pointer (some ⟨k,off,none⟩)->(Instr.indexAt t c (.int ik n)).run P w=.ok (.pointer (some ⟨k,off+n.toNat*m,none⟩)) w:=fun {k off} hc=>by
   subst hc
   have:n<(len:Int):=r7
   unfold Instr.indexAt
   simp[asIntOf,Oi hu,hn0,this,dx hm,Pq,Instr.sureAddr]
  split at h
  ·rename_i b o
   cases h
   obtain ⟨cs,hb⟩:=sM hok
   rw[VR,hb] at hx
   obtain ⟨k,hk,rfl⟩:=hx
   exact⟨_,fin rfl,by rw[VR,hb]; exact⟨k,hk,rfl⟩⟩
  ·rename_i b q o
   obtain ⟨es,els,hb⟩:=wg hok
   simp only[hb] at h
   rw[VR,hb] at hx
   obtain ⟨hq,k,hk,rfl⟩:=hx
   rw[aZ] at h
   split at h
   ·rename_i hc
    simp only[N7,Qu,Od] at hc
    obtain ⟨⟨rfl,rfl⟩,hlt2⟩:=hc
    cases h
    exact⟨_,fin rfl,by rw[VR,hb]; exact⟨hlt2,k,hk,by rw[O5]; simp⟩⟩
   ·cases h
    exact⟨_,fin rfl,by rw[VR,hb]; exact⟨hq,k,hk,by rw[P2]⟩⟩
  ·cases h
   rw[VR] at hx
   obtain ⟨k,off,ds,rfl,hc,hv⟩:=hx
   exact⟨_,fin rfl,by rw[VR]; exact⟨k,_,_,rfl,hc.drop _,hv.drop _⟩⟩
  ·cases h
 ·cases h
theorem wJ {t:TypeId} {x y:A} {c:Value} (h:Ch P t x=some y) (hx:VR H g w x c):∃ d,(Instr.makeInterface t c).run P w=.ok d w/\VR H g w y d:=by
 unfold Ch at h
 split at h
 ·cases h
 ·cases h
 ·rename_i d hn hu
  cases h
  refine⟨.iface t c,?_,by rw[VR]; exact⟨c,rfl,hx⟩⟩
  unfold Instr.makeInterface
  rw[OK,Oi hu w]
  cases d<;>first | rfl | exact absurd rfl (hn _)
theorem vc (op:BinOp) (t:TypeId) (x y:Operand) (a b:Value):eqGuard op t x y a b=eqGuard op t (rep (FZ x)) (rep (FZ y)) a b:=by
 unfold eqGuard
 cases x<;>cases y<;>rfl
theorem oI {q:TypeId->Value->Value->Option Bool} {d:Nat} (hq:∀ t x y r,q t x y=some r->∀ w,(Op.equalIn d t x y).run P w=.ok r w) (xs ys:Array Value):∀ (fs:List Field) (r:Bool),qk P q xs ys fs=some r->∀ w,(Op.eqFields d xs ys fs).run P w=.ok r w
 | [],r,h,w=>by cases h; simp[Op.eqFields]
 | [f],r,h,w=>by
  unfold qk at h
  rw[aZ] at h
  unfold Op.eqFields
  split at h
  ·rename_i hn
   cases h
   have hn:f.name = "_" := by simpa using hn
   simp[hn,Op.eqFields]
  ·rename_i hn
   have hn:f.name ≠ "_" := by simpa using hn
   obtain ⟨a,ha,h⟩:=aW h
   obtain ⟨b,hb,h⟩:=aW h
   rw[Og hn]
   simp only[OK,dp ha w,dp hb w,hq _ _ _ _ h w,OG]
   cases r<;>simp[Op.eqFields]
 | f :: g :: fs,r,h,w=>by
  unfold qk at h
  rw[aZ] at h
  unfold Op.eqFields
  split at h
  ·rename_i hn
   have hn:f.name = "_" := by simpa using hn
   rw[Oh (by simp[hn])]
   exact oI hq xs ys (g :: fs) r h w
  ·rename_i hn
   have hn:f.name ≠ "_" := by simpa using hn
   obtain ⟨a,ha,h⟩:=aW h
   obtain ⟨b,hb,h⟩:=aW h
   obtain ⟨r1,h1,h⟩:=aW h
   rw[Og hn]
   simp only[OK,dp ha w,dp hb w,hq _ _ _ _ h1 w,OG]
   cases hf:qk P q xs ys (g :: fs) with
   | none=>rw[hf] at h; cases h
   | some r2=>
    rw[hf] at h; cases h
    have:=oI hq xs ys (g :: fs) r2 hf w
    cases r1<;>simp[this]
theorem ss {q:TypeId->Value->Value->Option Bool} {d:Nat} (hq:∀ t x y r,q t x y=some r->∀ w,(Op.equalIn d t x y).run P w=.ok r w) (e:TypeId) (c:Nat) (xs ys:Array Value):∀ (is:List Nat) (r:Bool),sn P q e c xs ys is=some r->∀ w,(Op.eqItems d e c xs ys is).run P w=.ok r w
 | [],r,h,w=>by cases h; simp[Op.eqItems]
 | [i],r,h,w=>by
  unfold sn at h
  unfold Op.eqItems
  obtain ⟨a,ha,h⟩:=aW h
  obtain ⟨b,hb,h⟩:=aW h
  simp only[OK,dp ha w,dp hb w,hq _ _ _ _ h w,OG]
  cases r<;>simp[Op.eqItems]
 | i :: j :: is,r,h,w=>by
  unfold sn at h
  unfold Op.eqItems
  obtain ⟨a,ha,h⟩:=aW h
  obtain ⟨b,hb,h⟩:=aW h
  obtain ⟨r1,h1,h⟩:=aW h
  simp only[OK,dp ha w,dp hb w,hq _ _ _ _ h1 w,OG]
  cases hf:sn P q e c xs ys (j :: is) with
  | none=>rw[hf] at h; cases h
  | some r2=>
   rw[hf] at h; cases h
   have:=ss hq e c xs ys (j :: is) r2 hf w
   cases r1<;>simp[this]
theorem yd (D:Nat):∀ (d:Nat) (t:TypeId) (x y:Value) (r:Bool),GZ P d t x y=some r->∀ w,(Op.equalIn (D+d) t x y).run P w=.ok r w
 | 0,_,_,_,_,h,_=>by cases h
 | d+1,t,x,y,r,h,w=>by
  have ih:=yd D d
  unfold GZ at h
  split at h
  ·rename_i k0 k a k' b hu
   obtain ⟨hk,h⟩:=aP h
   cases h
   have hk:k=k':=by simpa using hk
   subst hk
   simp[Op.equalIn,Oi hu]
  ·rename_i a b hu
   cases h
   simp[Op.equalIn,Oi hu]
  ·rename_i a b hu
   cases h
   simp[Op.equalIn,Oi hu]
  ·rename_i fs xs ys hu
   obtain ⟨hs,h⟩:=dB h
   have hfs:P.fieldsOf t=fs:=by simp[Program.fieldsOf,hu]
   exact(run_equalIn_struct w (D+d) t xs ys (by rw[hfs]; exact hu) hs).trans (oI ih xs ys _ r h w)
  ·rename_i n e xs ys hu
   obtain ⟨i,hi,h⟩:=aW h
   exact(run_equalIn_array w (D+d) xs ys hu hi).trans (ss ih e (P.cellsOf e) xs ys _ r h w)
  ·cases h
theorem wE {op:BinOp} {t:TypeId} {x y z:A} {c d:Value} {p q:Operand} (h:ka P op t (FZ p) (FZ q) x y=some z) (hx:VR H g w x c) (hy:VR H g w y d) :
  ∃ e,(do eqGuard op t p q c d; binOp op t c d:Sem Value).run P w=.ok e w/\VR H g w z e:=by
 unfold ka at h
 have eqs:∀ {r:Bool} {xs ys:List A} (op:BinOp),su P t (.agg xs) (.agg ys)=some r->VR H g w (.agg xs) c->VR H g w (.agg ys) d->∃ cs ds,c=.agg cs/\d=.agg ds/\(eqGuard op t p q c d).run P w=.ok () w/\(Op.equalIn 10000 t c d).run P w=.ok r w:=by
  intro r xs ys op h hx hy
  unfold su at h
  obtain ⟨hg,h⟩:=dB h
  obtain ⟨a,ha,h⟩:=aW h
  obtain ⟨b,hb,h⟩:=aW h
  obtain rfl:=lV _ ha hx
  obtain rfl:=lV _ hb hy
  rw[VR] at hx hy
  obtain ⟨cs,rfl,_⟩:=hx
  obtain ⟨ds,rfl,_⟩:=hy
  exact⟨cs,ds,rfl,rfl,run_eqGuard_agg w op t p q cs ds hg,yd 9980 20 t _ _ r h w⟩
 split at h
 ·cases hr:su P t (.agg _) (.agg _) with
  | none=>rw[hr] at h; cases h
  | some r=>
   rw[hr] at h; cases h
   obtain ⟨cs,ds,rfl,rfl,h1,h2⟩:=eqs .eql hr hx hy
   exact⟨.bool r,by simp only[OK,h1,OG,run_eql_struct,h2],u2⟩
 ·cases hr:su P t (.agg _) (.agg _) with
  | none=>rw[hr] at h; cases h
  | some r=>
   rw[hr] at h; cases h
   obtain ⟨cs,ds,rfl,rfl,h1,h2⟩:=eqs .neq hr hx hy
   exact⟨.bool (!r),by simp only[OK,h1,OG,run_neq_struct,h2],u2⟩
 replace h:=aW h
 obtain ⟨a,ha,h⟩:=h
 replace h:=aW h
 obtain ⟨b,hb,h⟩:=h
 obtain rfl:=lV x ha hx
 obtain rfl:=lV y hb hy
 rw[<-vc] at h
 cases he:cf P (do eqGuard op t p q c d; binOp op t c d:Sem Value) with
 | none=>rw[he] at h; cases h
 | some e=>rw[he] at h; cases h; exact⟨e,dp he w,m9 e⟩
theorem yV {op:UnOp} {x z:A} {c:Value} (h:kb P op x=some z) (hx:VR H g w x c):∃ e,(Op.unary op c).run P w=.ok e w/\VR H g w z e:=by
 unfold kb at h
 replace h:=aW h
 obtain ⟨a,ha,h⟩:=h
 obtain rfl:=lV x ha hx
 cases he:cf P (Op.unary op c) with
 | none=>rw[he] at h; cases h
 | some e=>rw[he] at h; cases h; exact⟨e,dp he w,m9 e⟩
theorem sm (hr:Rel H g w0 w) {x:A} {els:List (List A)} {c:Value} (h:els? H x=some els) (hx:VR H g w x c):(∃ s,c=.string s/\x=.v (.string s))∨∃ a cap ds es,c=.slice a els.length cap/\els.length<=cap/\(∀ d∈ds,d.length=es)/\aU H g w els ds/\(0<els.length->∃ k off,a=some ⟨k,off,none⟩/\w.rangeAt k off ds.flatten):=by
 unfold els? at h
 split at h
 ·cases h
  rw[VR] at hx
  obtain ⟨a,cap,ds,es,rfl,h2,h3,h4,h5,h6⟩:=hx
  exact .inr ⟨a,cap,ds,es,rfl,h2,h4,h6,fun hp=>let ⟨k,off,e1,e2⟩:=h5 hp; ⟨k,off,e1,e2.range⟩⟩
 ·rename_i b o n cl
  split at h
  ·rename_i wr es els' hb
   cases h
   rw[VR,hb] at hx
   cases wr
   ·obtain ⟨h2,a,cap,rfl,h3,h4,h5,_⟩:=hx
    obtain ⟨hga,hgl⟩:=hr.blk b _ hb
    have hlen:((els'.drop o).take n).length=n:=so
    refine .inr ⟨a,cap,((g.ga b).drop o).take n,es,by rw[hlen],r7,fun d hd=>hgl d (OM (OH hd)),(hga.drop o).take n,fun hp=>?_⟩
    obtain ⟨k,off,e1,e2⟩:=h5 r7
    exact⟨k,off,e1,e2.range⟩
   ·obtain ⟨h2,a,cap,rfl,h3,h4,h5⟩:=hx
    obtain ⟨ds,hv,hl,hrow⟩:=hr.blk b _ hb
    have hlen:((els'.drop o).take n).length=n:=so
    refine .inr ⟨a,cap,(ds.drop o).take n,es,by rw[hlen],r7,fun d hd=>hl d (OM (OH hd)),(hv.drop o).take n,fun hp=>?_⟩
    obtain ⟨k,hk,rfl⟩:=h5 r7
    obtain ⟨k',arr,ty,hk',ha,hcell⟩:=hrow r7
    rw[hk] at hk'; cases hk'
    have hall:w.rangeAt k 0 ds.flatten:=fun j v hj=>by
     rw[PJ w k (0+j) arr ty (0,0) ha,OZ]; exact hcell j v hj
    refine⟨k,_,rfl,fun j v hj=>?_⟩
    have hw:bk [] ⟨fun _=>none,fun _=>[],fun _ _=>True,fun _=>Ek⟩ w k 0 ds.flatten:=fun j v hj=>⟨hall j v hj,trivial,fun b hb=>by cases hb⟩
    have:=(hw.sub hl o n j v hj).1
    rwa [OZ] at this
  ·cases h
 ·exact .inl ⟨_,by rw[VR] at hx; exact hx,rfl⟩
 ·cases h
theorem uW:∀ {els:List (List A)} {l:List UInt8} {ds:List (List Value)},bytesOf els=some l->aU H g w els ds->∃ ns:List Int,ds=ns.map (fun n=>[.int .u8 n])/\l=ns.map (fun n=>n.toNat.toUInt8)
 | [],_,_,h,hv=>by simp only[bytesOf,O3] at h; rw[aU] at hv; exact⟨[],by simp[hv],by simp[<-h]⟩
 | e :: r,l,ds,h,hv=>by
  unfold bytesOf at h
  split at h
  ·rename_i heq; cases heq
  ·rename_i n r' heq
   cases heq
   cases hr:bytesOf r with
   | none=>rw[hr] at h; cases h
   | some l'=>
    rw[hr] at h
    cases h
    rw[aU] at hv
    obtain ⟨d,ds',rfl,h1,h2⟩:=hv
    obtain ⟨ns,rfl,rfl⟩:=uW hr h2
    rw[aY] at h1
    obtain ⟨x,xs,rfl,h3,h4⟩:=h1
    rw[VR] at h3
    rw[aY] at h4
    exact⟨n :: ns,by simp[h3,h4],r9⟩
  ·cases h
theorem foldl_push (ns:List Int):∀ r:ByteArray,ns.foldl (fun r n=>r.push (UInt8.ofNat n.toNat)) r=⟨r.data++(ns.map (fun n=>n.toNat.toUInt8)).toArray⟩:=by
 induction ns with
 | nil=>intro r; simp
 | cons n ns ih=>
  intro r
  rw[Rm,ih]
  simp[ByteArray.push]
end
section
open Go.RowKit
variable {P:Program} {H:ar} {g:Gh} {w0 w:World}
theorem l0 {a:A} {c:Value} {j y:Nat} (h:idx a=some j) (hv:VR H g w a c) (hy:j<=y) (code:BoundsCode):(Instr.sliceBound c y code).run P w=.ok j w:=by
 obtain ⟨k,n,rfl,h0,rfl⟩:=m0 h hv
 have:0<=n/\n<=(y:Int):=⟨h0,r7⟩
 simp[Instr.sliceBound,asIntOf,this]
def EP (H:ar) (g:Gh) (w:World):Option A->Option Value->Prop
 | none,none=>True
 | some a,some c=>VR H g w a c
 | _,_=>False
def KC (cap h:Nat):Option A->Prop
 | none=>h<=cap
 | some m=>idx m=some h/\h<=cap
def qV (cap h:Nat):Option A->Nat
 | none=>cap
 | some _=>h
theorem fm {lo hi:Option A} {clo chi cmx:Option Value} {mx:Option A} {len cap h l:Nat} (isS:Bool) (hlo:EP H g w lo clo) (hhi:EP H g w hi chi) (hmx:EP H g w mx cmx)
  (e1:jt len hi=some h) (e2:jt 0 lo=some l) (hl:l<=h) (hm:KC cap h mx) (hhm:mx=none∨hi.isSome=true) :
  (Instr.sliceBounds isS len cap clo chi cmx).run P w=.ok (l,h,qV cap h mx) w:=by
 have hlo':(clo=none/\l=0)∨∃ v,clo=some v/\∀ code,(Instr.sliceBound v h code).run P w=.ok l w:=by
  cases lo with
  | none=>cases clo with
   | none=>simp only[jt,O3] at e2; exact .inl ⟨rfl,e2.symm⟩
   | some _=>exact hlo.elim
  | some a=>cases clo with
   | none=>exact hlo.elim
   | some v=>exact .inr ⟨v,rfl,fun code=>l0 e2 hlo hl code⟩
 clear hlo e2
 unfold Instr.sliceBounds
 cases mx with
 | none=>cases cmx with
  | some _=>exact hmx.elim
  | none=>
   cases hi with
   | none=>cases chi with
    | some _=>exact hhi.elim
    | none=>
     simp only[jt,O3] at e1
     subst e1
     rcases hlo' with ⟨rfl,rfl⟩ | ⟨v,rfl,hv⟩
     ·simp[qV]
     ·simp[Result.andThen,hv,qV]
   | some a=>cases chi with
    | none=>exact hhi.elim
    | some v=>
     have hb:=fun code=>l0 (P:=P) e1 hhi (show h<=cap from hm) code
     rcases hlo' with ⟨rfl,rfl⟩ | ⟨v,rfl,hv⟩
     ·simp[Result.andThen,hb,qV]
     ·simp[Result.andThen,hb,hv,qV]
 | some m=>cases cmx with
  | none=>exact hmx.elim
  | some mv=>
   have hb1:=fun code=>l0 (P:=P) hm.1 hmx hm.2 code
   cases hi with
   | none=>simp at hhm
   | some a=>cases chi with
    | none=>exact hhi.elim
    | some v=>
     have hb:=fun code=>l0 (P:=P) e1 hhi (N6 h) code
     rcases hlo' with ⟨rfl,rfl⟩ | ⟨v,rfl,hv⟩
     ·simp[Result.andThen,hb,hb1,qV]
     ·simp[Result.andThen,hb,hb1,hv,qV]
theorem gN {t e:TypeId} (hu:P.underlying t=some (.slice e)) {a:Option Addr} {len cap l h m z:Nat} {clo chi cmx:Option Value} (hb:(Instr.sliceBounds true len cap clo chi cmx).run P w=.ok (l,h,m) w) (hz:bU P e=some z) :
  (Instr.sliceAt t (.slice a len cap) clo chi cmx).run P w=.ok (.slice (if m=l then a else a.map (·.add (l*z))) (h - l) (m - l)) w:=by
 unfold Instr.sliceAt
 rw[OK,Oi hu w]
 unfold Instr.slice
 simp[Oi hu,hb,dx hz,Result.andThen]
theorem pD {t e:TypeId} {n:Nat} (hu:P.underlying t=some (.array n e)) {a:Addr} {l h m z:Nat} {clo chi cmx:Option Value} (hb:(Instr.sliceBounds false n n clo chi cmx).run P w=.ok (l,h,m) w) (hz:bU P e=some z) :
  (Instr.sliceAt t (.pointer (some a)) clo chi cmx).run P w=.ok (.slice (some (if m=l then a else a.add (l*z))) (h - l) (m - l)) w:=by
 unfold Instr.sliceAt
 rw[OK,Oi hu w]
 simp[Instr.sureAddr,hb,dx hz,Result.andThen]
theorem tl (hr:Rel H g w0 w) {t:TypeId} {x y:A} {lo hi mx:Option A} {c:Value} {clo chi cmx:Option Value} (h:ef P t x lo hi mx H=some y) (hx:VR H g w x c) (hlo:EP H g w lo clo) (hhi:EP H g w hi chi) (hmx:EP H g w mx cmx) (hhm:mx=none∨hi.isSome=true) :
  ∃ d,(Instr.sliceAt t c clo chi cmx).run P w=.ok d w/\VR H g w y d:=by
 unfold ef at h
 split at h
 ·rename_i s hu
  replace h:=dB h
  obtain ⟨hm,h⟩:=h
  obtain rfl:mx=none:=by cases mx<;>simp at hm ⊢
  replace h:=aW h
  obtain ⟨hh,e1,h⟩:=h
  replace h:=aW h
  obtain ⟨l,e2,h⟩:=h
  replace h:=aP h
  obtain ⟨h1,h⟩:=h
  simp only[N7,Od] at h1
  cases h
  rw[VR] at hx
  subst hx
  have hb:=fm (P:=P) (cap:=s.size) false hlo hhi hmx e1 e2 h1.1 h1.2 (.inl rfl)
  cases cmx with
  | some _=>exact hmx.elim
  | none=>
   refine⟨.string (s.extract l hh),?_,u2⟩
   unfold Instr.sliceAt
   rw[OK,Oi hu w]
   unfold Instr.slice
   simp[Oi hu,hb,Result.andThen]
 ·rename_i e els cl hu
  replace h:=aW h
  obtain ⟨z,hz,h⟩:=h
  replace h:=aW h
  obtain ⟨hh,e1,h⟩:=h
  replace h:=aW h
  obtain ⟨l,e2,h⟩:=h
  replace h:=aP h
  obtain ⟨h1,h⟩:=h
  simp only[N7,Od,Pa,Ps] at h1
  obtain ⟨⟨h1,h2⟩,h3⟩:=h1
  rw[VR] at hx
  obtain ⟨a,cap,ds,es,rfl,g1,g2,g3,g4,g5⟩:=hx
  have hlenn:((els.drop l).take (hh - l)).length=hh - l:=so
  have fin:∀ (m:Nat) (b:Bool),hh<=m->m<=cap->(b=true->m=hh)->VR H g w (.imm ((els.drop l).take (hh - l)) b) (.slice (if m=l then a else a.map (·.add (l*z))) (hh - l) (m - l)):=fun m b hm1 hm2 hb=>by
   rw[VR]
   refine⟨_,m - l,(ds.drop l).take (hh - l),es,by rw[hlenn],r7,fun hb'=>by rw[hlenn,hb hb'],fun d hd=>g3 d (OM (OH hd)),fun hp=>?_,(g5.drop l).take _⟩
   have hll:l<hh:=r7
   obtain ⟨k,off,rfl,hc⟩:=g4 r7
   rw[Oh r7]
   refine⟨k,off+l*es,?_,hc.sub g3 l (hh - l)⟩
   rcases h3 with rfl | h3
   ·simp[Pq]
   ·have hlt:l<els.length:=by omega
    rw[N5 hlt] at h3
    simp only[Ps] at h3
    obtain rfl:=g5.lens g3 (N5 hlt) h3
    simp[Pq]
  split at h
  ·cases h
   have hb:=fm (P:=P) (cap:=cap) true hlo hhi hmx e1 e2 h1 (show hh<=cap by omega) (.inl rfl)
   refine⟨_,gN hu hb hz,fin cap _ r7 (N6 _) (fun hc=>?_)⟩
   simp only[N7,Ps] at hc
   have:=g2 hc.1; omega
  ·rename_i m
   replace h:=aW h
   obtain ⟨m',hm',h⟩:=h
   replace h:=aP h
   obtain ⟨hmh,h⟩:=h
   obtain rfl:m'=hh:=by simpa using hmh
   cases h
   have hb:=fm (P:=P) (cap:=cap) true hlo hhi hmx e1 e2 h1 ⟨hm',r7⟩ hhm
   exact⟨_,gN hu hb hz,fin m' _ (N6 _) r7 (fun _=>rfl)⟩
 ·rename_i e b o n cl hu
  replace h:=aW h
  obtain ⟨z,hz,h⟩:=h
  replace h:=aW h
  obtain ⟨hh,e1,h⟩:=h
  replace h:=aW h
  obtain ⟨l,e2,h⟩:=h
  replace h:=aP h
  obtain ⟨h1,h⟩:=h
  simp only[N7,Od] at h1
  obtain ⟨⟨h1,h2⟩,h3⟩:=h1
  obtain ⟨wr,els,hb⟩:∃ wr els,H[b]? = some (.row wr z els):=by
   cases hb:H[b]? with
   | none=>simp[hb] at h3
   | some B=>cases B with
    | row wr es els=>simp[hb] at h3; subst h3; exact⟨wr,els,rfl⟩
    | _=>simp[hb] at h3
  rw[VR,hb] at hx
  have main:∀ (a:Option Addr) (cap:Nat),c=.slice a n cap->n<=cap->(cl=true->cap=n)->(∀ (m:Nat) (q:Bool),hh<=m->m<=cap->(q=true->m=hh)->(q=false->m=cap)->VR H g w (.sl b (o+l) (hh - l) q) (.slice (if m=l then a else a.map (·.add (l*z))) (hh - l) (m - l)))->∃ d,(Instr.sliceAt t c clo chi cmx).run P w=.ok d w/\VR H g w y d:=by
   intro a cap hc hn hcl fin
   subst hc
   split at h
   ·cases h
    have hb:=fm (P:=P) (cap:=cap) true hlo hhi hmx e1 e2 h1 (show hh<=cap by omega) (.inl rfl)
    refine⟨_,gN hu hb hz,fin cap _ r7 (N6 _) (fun hc=>?_) (fun _=>rfl)⟩
    simp only[N7,Ps] at hc
    have:=hcl hc.1; omega
   ·rename_i m
    replace h:=aW h
    obtain ⟨m',hm',h⟩:=h
    replace h:=aP h
    obtain ⟨hmh,h⟩:=h
    obtain rfl:m'=hh:=by simpa using hmh
    cases h
    have hb:=fm (P:=P) (cap:=cap) true hlo hhi hmx e1 e2 h1 ⟨hm',r7⟩ hhm
    exact⟨_,gN hu hb hz,fin m' _ (N6 _) r7 (fun _=>rfl) (fun h=>by cases h)⟩
  cases wr
  ·obtain ⟨g0,a,cap,rfl,g1,g2,g3,g4⟩:=hx
   refine main a cap rfl g1 g2 fun m q hm1 hm2 hq hq2=>?_
   rw[VR,hb]
   refine⟨r7,_,m - l,rfl,r7,fun hc=>by rw[hq hc],fun hp=>?_,fun hc ho hn hlt=>?_⟩
   ·obtain ⟨k,off,rfl,hcell⟩:=g3 r7
    rw[Oh r7]
    refine⟨k,off+l*z,by simp[Pq],?_⟩
    have hga:=(hr.blk b _ hb).2
    have:=hcell.sub (fun d hd=>hga d (OM (OH hd))) l (hh - l)
    have e3:((((g.ga b).drop o).take n).drop l).take (hh - l)=((g.ga b).drop (o+l)).take (hh - l):=by
     rw[List.drop_take,Rv,List.take_take]; congr 1; omega
    rwa [e3] at this
   ·obtain rfl:l=0:=by omega
    obtain rfl:o=0:=r7
    have hmc:=hq2 hc
    subst hmc
    by_cases hcl:cl=true
    ·have:=g2 hcl; omega
    ·obtain ⟨k,arr,ty,k1,k2,k3,k4⟩:=g4 (by simpa using hcl) rfl r7 r7
     refine⟨k,arr,ty,k1,?_,k3,by simpa using k4⟩
     rw[k2]; split<;>simp[Pq]
  ·obtain ⟨g0,a,cap,rfl,g1,g2,g3⟩:=hx
   refine main a cap rfl g1 g2 fun m q hm1 hm2 hq hq2=>?_
   rw[VR,hb]
   refine⟨r7,_,m - l,rfl,r7,fun hc=>by rw[hq hc],fun hp=>?_⟩
   obtain ⟨k,hk,rfl⟩:=g3 r7
   rw[Oh r7]
   exact⟨k,hk,by simp[Pq,O5]⟩
 ·rename_i n e cs hu
  replace h:=aW h
  obtain ⟨z,hz,h⟩:=h
  replace h:=aW h
  obtain ⟨hh,e1,h⟩:=h
  replace h:=aW h
  obtain ⟨l,e2,h⟩:=h
  replace h:=aP h
  obtain ⟨h1,h⟩:=h
  simp only[N7,Od,Pe] at h1
  obtain ⟨⟨⟨⟨h1,h2⟩,h3⟩,h4⟩,h5⟩:=h1
  obtain rfl:mx=none:=by cases mx<;>simp at h4 ⊢
  cases h
  rw[VR] at hx
  obtain ⟨k,off,ds,rfl,hc,hv⟩:=hx
  have hb:(Instr.sliceBounds false n n clo chi cmx).run P w=.ok (l,hh,n) w:=fm (P:=P) (cap:=n) false hlo hhi hmx e1 e2 h1 h2 (.inl rfl)
  cases cmx with
  | some _=>exact hmx.elim
  | none=>
   refine⟨_,pD hu hb hz,?_⟩
   have hdl:=hv.length
   have htl:(ds.take (n*z)).length=n*z:=y4
   have htc:(cs.take (n*z)).length=n*z:=y4
   have hck:∀ {α:Type} (q:Nat) (xs:List α),q*z<=xs.length->chunk z q xs=chunk z q (xs.take (q*z)):=by
    intro α q
    induction q with
    | zero=>intro xs _; rfl
    | succ q ih=>
     intro xs hq
     rw[O5,Rs] at hq
     rw[chunk,chunk,ih (xs.drop z) so,List.take_take,List.drop_take,PL (by rw[O5]; omega)]
     congr 3
     rw[O5]; omega
   have hlenn:(((chunk z n cs).drop l).take (hh - l)).length=hh - l:=by simp[fO]; omega
   rw[VR]
   refine⟨_,n - l,((chunk z n (ds.take (n*z))).drop l).take (hh - l),z,by rw[hlenn],r7,fun hb'=>by rw[hlenn]; have:=(Qu ▸ hb':hh=n); omega,fun d hd=>iR htl d (OM (OH hd)),fun hp=>?_,?_⟩
   ·rw[hlenn] at hp
    rw[Oh r7]
    refine⟨k,off+l*z,by simp[Pq],?_⟩
    refine bk.sub (es:=z) ?_ (iR htl) l (hh - l)
    rw[kf htl]
    exact hc.take _
   ·rw[hck n cs h3]
    exact(((hv.take (n*z)).chunk n).drop l).take _
 ·rename_i n e b q o hu
  replace h:=aW h
  obtain ⟨z,hz,h⟩:=h
  replace h:=aW h
  obtain ⟨hh,e1,h⟩:=h
  replace h:=aW h
  obtain ⟨l,e2,h⟩:=h
  replace h:=aP h
  obtain ⟨h1,h⟩:=h
  simp only[N7,Od,Pe] at h1
  obtain ⟨⟨⟨⟨h1,h2⟩,h4⟩,h5⟩,h6⟩:=h1
  obtain rfl:o=0:=by simpa [Qu] using h5
  obtain rfl:mx=none:=by cases mx<;>simp at h4 ⊢
  cases h
  obtain ⟨els,hbk,hq⟩:∃ els,H[b]? = some (.row true z els)/\q+n<=els.length:=by
   split at h6
   ·rename_i es els hbk
    simp only[N7,Od,Qu] at h6
    obtain ⟨rfl,h6⟩:=h6
    exact⟨els,hbk,h6⟩
   ·cases h6
  rw[VR,hbk] at hx
  obtain ⟨hqe,k,hk,rfl⟩:=hx
  have hb:(Instr.sliceBounds false n n clo chi cmx).run P w=.ok (l,hh,n) w:=fm (P:=P) (cap:=n) false hlo hhi hmx e1 e2 h1 h2 (.inl rfl)
  cases cmx with
  | some _=>exact hmx.elim
  | none=>
   refine⟨_,pD hu hb hz,?_⟩
   rw[VR,hbk]
   refine⟨r7,_,n - l,rfl,r7,fun hb'=>by have:=(Qu ▸ hb':hh=n); omega,fun hp=>⟨k,hk,?_⟩⟩
   rw[Oh r7]
   simp[Pq,O5]
 ·cases h
theorem lq (hr:Rel H g w0 w) {w':World} {arr:Array Value} {ty:TypeId} {fr:Nat×Nat} (ha:w'.heap[w.heap.size]? = some (.cells arr ty fr)) {ds:List Value} (hd:∀ (j:Nat) v,ds[j]? = some v->arr[j]? = some v):bk H g w' w.heap.size 0 ds:=fun j v hj=>by
 refine⟨?_,hr.out _ _ (N6 _),fun b hb=>absurd (hr.dom b _ hb).2.2 (Qb _)⟩
 rw[OZ,PJ w' _ j arr ty fr ha]
 exact hd j v hj
theorem zf {x:A} {els:List (List A)} (h:u1 H x=some els):els? H x=some els/\∀ s,x≠.v (.string s):=by
 cases x<;>simp only[u1] at h<;>first | exact⟨h,r9⟩ | cases h
theorem ll {α β:Type} (f:α->β) (l:List α):(l.map fun n=>[f n]).flatten=l.map f:=by
 induction l with
 | nil=>rfl
 | cons n l ih=>simp[ih]
theorem pZ (hr:Rel H g w0 w) {s t:TypeId} {x y:A} {c:Value} (h:bH P s t x H=some y) (hx:VR H g w x c):∃ d w',(convert s t c).run P w=.ok d w'/\Below w.heap.size w w'/\VR H g w' y d:=by
 unfold bH at h
 split at h
 ·rename_i e hs hd
  split at h
  ·rename_i he hz
   replace h:=aW h
   obtain ⟨els,h1,h⟩:=h
   cases hb:bytesOf els with
   | none=>rw[hb] at h; cases h
   | some l=>
    rw[hb] at h
    cases h
    refine⟨.string ⟨l.toArray⟩,w,?_,Below.refl _ _,u2⟩
    have h1':=zf h1
    rcases sm hr h1'.1 hx with ⟨s',rfl,rfl⟩ | ⟨a,cap,ds,es,rfl,h2,h3,h4,h5⟩
    ·exact absurd rfl (h1'.2 s')
    ·obtain ⟨ns,rfl,rfl⟩:=uW hb h4
     have hl:els.length=ns.length:=by have:=h4.length; simpa using this.symm
     simp only[convert,OK,Oi hs,Oi hd,Oi he,OG]
     cases a with
     | none=>
      have hn:ns=[]:=by
       by_cases hp:0<els.length
       ·obtain ⟨k,off,e1,_⟩:=h5 hp; cases e1
       ·exact Ou r7
      subst hn
      simp[Conv.bytesToString]
      rfl
     | some a=>
      have hl2:(loadCells a els.length).run P w=.ok (ns.map (Value.int .u8)).toArray w:=by
       by_cases hp:0<els.length
       ·obtain ⟨k,off,e1,hc⟩:=h5 hp
        cases e1
        rw[ll] at hc
        have:=run_loadCells_list (P:=P) w ⟨k,off,none⟩ (ns.map (Value.int .u8)) (fun j v hv=>by rw[Pq]; exact hc j v hv)
        rwa [PV,<-hl] at this
       ·have hn:ns=[]:=Ou r7
        subst hn
        rw[hl]
        rfl
      rw[run_bytesToString w a _ cap ns hl2,foldl_push]
      simp
  ·cases h
 ·rename_i e s' hs hd
  split at h
  ·rename_i he
   cases h
   rw[VR] at hx
   subst hx
   have hr':=run_bytes_of_string (P:=P) w s t e s' hs hd he
   have hb:Below w.heap.size w (w.drew.alloc (.cells (bytesRow s' (grownCap w s'.size 0 e)) e ((bytesRow s' (grownCap w s'.size 0 e)).size,(bytesRow s' (grownCap w s'.size 0 e)).size+1))):=((Below.refl _ w).drew).alloc (N6 _) _
   refine⟨_,_,hr',hb,?_⟩
   rw[VR]
   have hlen:(s'.data.toList.map fun c=>[A.v (.int .u8 c.toNat)]).length=s'.size:=by rw[PV,Qj]; rfl
   refine⟨_,_,s'.data.toList.map fun c=>[.int .u8 c.toNat],1,by rw[hlen],by rw[hlen]; exact RO w _ _ _,fun h=>(by cases h),r9,fun _=>⟨w.heap.size,0,rfl,?_⟩,?_⟩
   ·refine lq hr (PK w.drew _) fun j v hj=>?_
    rw[ll] at hj
    unfold bytesRow
    rw[Qz]
    ·simpa using hj
    ·have:=(Oa.1 hj).1
     simpa using this
   ·refine b7.2 ⟨r9,fun i a d ha hd=>?_⟩
    simp only[OB,OO] at ha hd
    obtain ⟨b,hb,rfl⟩:=ha
    obtain ⟨b',hb',rfl⟩:=hd
    rw[hb] at hb'; cases hb'
    rw[aY]; exact⟨_,[],rfl,u2,y2⟩
  ·cases h
 ·replace h:=aW h
  obtain ⟨v,hv,h⟩:=h
  obtain rfl:=lV _ hv hx
  cases he:cf P (convert s t c) with
  | none=>rw[he] at h; cases h
  | some e=>rw[he] at h; cases h; exact⟨e,w,dp he w,Below.refl _ _,m9 e⟩
theorem rj (vs:List Value):∀ (off:Nat) (cs:Array Value),off+vs.length<=cs.size->((vs.zipIdx 0).foldl (fun cs p=>cs.setIfInBounds (off+p.2) p.1) cs).toList=aR cs.toList off vs:=by
 have gen:∀ (vs:List Value) (n off:Nat) (cs:Array Value),off+n+vs.length<=cs.size->((vs.zipIdx n).foldl (fun cs p=>cs.setIfInBounds (off+p.2) p.1) cs).toList=aR cs.toList (off+n) vs:=by
  intro vs
  induction vs with
  | nil=>intro n off cs _; simp[aR]
  | cons v vs ih=>
   intro n off cs h
   rw[List.zipIdx_cons,Rm,ih (n+1) off _ (by simp at h ⊢; omega)]
   simp only[aR,Array.toList_setIfInBounds,On]
   have hlt:off+n<cs.toList.length:=by simp at h ⊢; omega
   rw[show off+(n+1)=off+n+1 by omega,List.take_succ_eq_append_getElem (by simp; simp at hlt; omega)]
   simp only[List.getElem_set_self]
   rw[List.take_set_of_le (N6 _),O6,O6]
   rw[List.drop_set_of_lt r7]
   have e:off+n+1+vs.length=off+n+(vs.length+1):=r7
   rw[e]
   simp
 intro off cs h
 exact gen vs 0 off cs (by simpa using h)
theorem yg {place:Nat->Option (Nat×Nat)}:∀ {parts:List (Nat×A)} {vparts:List (Nat×Value)} {cs ds:List A} {arr:Array Value},sy place cs parts=some ds->aY H g w cs arr.toList ->
  (∀ i:Nat,(∀ p,parts[i]? = some p->∃ q,vparts[i]? = some q/\q.1=p.1/\VR H g w p.2 q.2))->vparts.length=parts.length->∃ arr',Instr.fill place arr vparts=some arr'/\aY H g w ds arr'.toList
 | [],vparts,cs,ds,arr,h,hv,hp,hl=>by
  simp only[sy,O3] at h
  subst h
  have:vparts=[]:=Ou (by simpa using hl)
  subst this
  exact⟨arr,rfl,hv⟩
 | (i,x) :: r,vparts,cs,ds,arr,h,hv,hp,hl=>by
  cases vparts with
  | nil=>simp at hl
  | cons q vr=>
   obtain ⟨q',hq,e1,hx⟩:=hp 0 (i,x) rfl
   simp at hq
   subst hq
   simp only[sy] at h
   replace h:=aW h
   obtain ⟨p,hpl,h⟩:=h
   replace h:=aW h
   obtain ⟨xs,hxs,h⟩:=h
   replace h:=aP h
   obtain ⟨hc,h⟩:=h
   simp only[N7,Ps,Od] at hc
   obtain ⟨hvs,_,_⟩:=kW hxs hx
   have hvl:=hvs.length
   have hal:=hv.length
   obtain ⟨qi,qv⟩:=q
   simp only at e1
   subst e1
   have hsz:qv.cells.size=p.2:=by simpa [hc.1] using hvl
   have hfit:p.1+qv.cells.size<=arr.size:=by simp at hal; omega
   have hset:(qv.cells.zipIdx.foldl (fun cs (c,j)=>cs.setIfInBounds (p.1+j) c) arr).toList=aR arr.toList p.1 qv.cells.toList:=by
    have:=rj qv.cells.toList p.1 arr (by simpa using hfit)
    rw[<-this,<-Qm]
    simp
   obtain ⟨arr',h1,h2⟩:=yg (place:=place) (arr:=qv.cells.zipIdx.foldl (fun cs (c,j)=>cs.setIfInBounds (p.1+j) c) arr) (vparts:=vr) h (by rw[hset]; exact hv.aR hvs p.1) (fun j p' hj=>by have:=hp (j+1) p' (by simpa using hj); simpa using this) (by simpa using hl)
   refine⟨arr',?_,h2⟩
   unfold Instr.fill
   rw[hpl]
   obtain ⟨p1,p2⟩:=p
   simp only at hsz hfit ⊢
   rw[Oh (by simp[hsz]; omega)]
   exact h1
theorem eQ {t:TypeId} {z:List A} (h:fE P t=some z):∃ i v,P.info? t=some i/\i.zero=some v/\z=v.cells.toList.map xn:=by
 unfold fE at h
 cases hi:P.info? t with
 | none=>rw[hi] at h; cases h
 | some i=>
  rw[hi] at h
  simp only[N4] at h
  cases hz:i.zero with
  | none=>rw[hz] at h; cases h
  | some v=>rw[hz] at h; cases h; exact⟨i,v,rfl,hz,rfl⟩
def kP (H:ar) (g:Gh) (w:World) (parts:List (Nat×A)) (vparts:List (Nat×Value)):Prop:=vparts.length=parts.length/\∀ (i:Nat) p,parts[i]? = some p->∃ q,vparts[i]? = some q/\q.1=p.1/\VR H g w p.2 q.2
theorem th {t:TypeId} {parts:List (Nat×A)} {vparts:Array (Nat×Value)} {y:A} (h:tg P t parts=some y) (hp:kP H g w parts vparts.toList):∃ d,(Instr.build t vparts).run P w=.ok d w/\VR H g w y d:=by
 unfold tg at h
 replace h:=aW h
 obtain ⟨z,hz,h⟩:=h
 replace h:=aW h
 obtain ⟨place,hpl,h⟩:=h
 obtain ⟨it,v,hi,hv,rfl⟩:=eQ hz
 cases hf:sy place (v.cells.toList.map xn) parts with
 | none=>rw[hf] at h; cases h
 | some ds=>
  rw[hf] at h
  cases h
  obtain ⟨arr,h1,h2⟩:=yg (arr:=v.cells) hf (iy _) (fun i p hi=>hp.2 i p hi) hp.1
  refine⟨.agg arr,run_build w t vparts arr ?_,by rw[VR]; exact⟨arr,rfl,h2⟩⟩
  unfold yx at hpl
  unfold Program.built
  rw[hi]
  split at hpl
  ·rename_i fs hu
   rw[hu]
   cases hm:(fs.toList.mapM fun f=>(P.info? f.type).map fun i=>(f.offset,i.size)) with
   | none=>rw[hm] at hpl; cases hpl
   | some places=>
    rw[hm] at hpl
    cases hpl
    simp only[hv,hm]
    exact h1
  ·rename_i n e hu
   rw[hu]
   cases hie:P.info? e with
   | none=>rw[hie] at hpl; cases hpl
   | some ie=>
    rw[hie] at hpl
    cases hpl
    simp only[hv,hie]
    exact h1
  ·cases hpl
end
section
open Go.RowKit
variable {P:Program} {H:ar} {g:Gh} {w0 w:World}
def Gh.put (g:Gh) (b:Nat) (k:Option Nat) (γ:List (List Value)):Gh:={ g with mu:=fun c=>if c=b then k else g.mu c,ga:=fun c=>if c=b then γ else g.ga c }
theorem Gh.bj (g:Gh) (b:Nat) (k:Option Nat) (γ:List (List Value)):(g.put b k γ).mu b=k:=by simp[Gh.put]
theorem Gh.fW (g:Gh) (b:Nat) (k:Option Nat) (γ:List (List Value)):(g.put b k γ).ga b=γ:=by simp[Gh.put]
theorem Gh.ay (g:Gh) {b c:Nat} (k:Option Nat) (γ:List (List Value)) (h:c≠b):(g.put b k γ).mu c=g.mu c:=by simp[Gh.put,h]
theorem Gh.en (g:Gh) {b c:Nat} (k:Option Nat) (γ:List (List Value)) (h:c≠b):(g.put b k γ).ga c=g.ga c:=by simp[Gh.put,h]
def Step (H:ar) (g:Gh) (w0 w:World) (lo:Nat) (r:Result Value) (y:A) (H':ar):Prop:=
 ∃ d w' g',r=.ok d w'/\Rel H' g' w0 w'/\Ext H g w H' g' w'/\VR H' g' w' y d/\H.length<=H'.length/\(∀ b,b<lo->b<H.length->H'[b]? = H[b]?)/\g'.S=g.S
theorem dM {k:Nat} {o:Obj} {w w':World} (hb:Below w.heap.size w w') (h:w.heap[k]? = some o):w'.heap[k]? = some o:=(hb.block k (Ob.1 h).1).trans h
theorem Rel.push (hr:Rel H g w0 w) {w':World} (hb:Below w.heap.size w w') (B:aw) (ko:Option Nat) (γ:List (List Value)) (hk:∀ k,ko=some k->k=w.heap.size/\w.heap.size<w'.heap.size)
  (hB:Ext H g w (H++[B]) (g.put H.length ko γ) w'->jZ (H++[B]) (g.put H.length ko γ) w' H.length B):Rel (H++[B]) (g.put H.length ko γ) w0 w'/\Ext H g w (H++[B]) (g.put H.length ko γ) w':=by
 have old:∀ {b k},(g.put H.length ko γ).mu b=some k->k<w.heap.size->b≠H.length/\g.mu b=some k:=fun {b k} h hlt=>by
  by_cases e:b=H.length
  ·subst e; rw[Gh.bj] at h; have:=(hk k h).1; omega
  ·exact⟨e,by rwa [Gh.ay _ _ _ e] at h⟩
 have he:Ext H g w (H++[B]) (g.put H.length ko γ) w':=by
  refine⟨fun k o v hs hc=>?_,fun b B' hB'=>⟨B',?_,?_⟩,fun k o ho=>(hb.block k (Ob.1 ho).1).trans ho,hb.size,fun k arr cl hs hm=>?_,fun k hk' _=>hb.block k hk',fun b k h=>?_⟩
  rotate_right 1
  ·by_cases e:b=H.length
   ·subst e; rw[Gh.bj] at h; exact .inr (QG (hk k h).1.symm)
   ·exact .inl ⟨b,by rwa [Gh.ay _ _ _ e] at h⟩
  ·have hlt:=P3 w ⟨k,o,none⟩ hc
   refine⟨(hb.cell (p:=⟨k,o,none⟩) hlt).trans hc,hs.1,fun b hbk=>?_⟩
   obtain ⟨_,h2⟩:=old hbk hlt
   obtain ⟨es,els,h3,h4⟩:=hs.2 b h2
   exact⟨es,els,by rw[Oo (Oa.1 h3).1]; exact h3,h4⟩
  ·rw[Oo (Oa.1 hB').1]; exact hB'
  ·have hne:b≠H.length:=by have:=(Oa.1 hB').1; omega
   cases B' with
   | box _=>exact Gh.ay _ _ _ hne
   | row wr es els=>cases wr with
    | true=>exact⟨rfl,rfl,Gh.ay _ _ _ hne⟩
    | false=>exact⟨rfl,⟨[],by rw[Gh.en _ _ _ hne]; simp⟩,(hr.blk b _ hB').len,N6 _,fun _=>⟨Gh.ay _ _ _ hne,fun k arr ty hk' ha=>⟨arr,dM hb ha,N6 _⟩⟩⟩
   | rng _=>exact⟨Gh.ay _ _ _ hne,rfl⟩
   | mp _ _ _=>exact Gh.ay _ _ _ hne
   | dead=>trivial
   | hole=>trivial
  ·have hlt:=(Ob.1 hm).1
   refine⟨(hb.block k hlt).trans hm,hs.1,fun b hbk=>?_⟩
   obtain ⟨_,h2⟩:=old hbk hlt
   obtain ⟨es,els,h3,h4⟩:=hs.2 b h2
   exact⟨es,els,by rw[Oo (Oa.1 h3).1]; exact h3,h4⟩
 refine⟨⟨hr.below.trans (hb.mono hr.below.size),fun b k hbk=>?_,fun b c k h1 h2=>?_,hr.xo he,hr.vZ he,fun b B' hB'=>?_⟩,he⟩
 ·by_cases e:b=H.length
  ·subst e; rw[Gh.bj] at hbk
   obtain ⟨rfl,h2⟩:=hk k hbk
   exact⟨r9,hr.below.size,h2⟩
  ·rw[Gh.ay _ _ _ e] at hbk
   obtain ⟨h1,h2,h3⟩:=hr.dom b k hbk
   exact⟨so,h2,Om h3 hb.size⟩
 ·by_cases e:b=H.length
  ·by_cases e':c=H.length
   ·rw[e,e']
   ·subst e
    rw[Gh.bj] at h1
    rw[Gh.ay _ _ _ e'] at h2
    have:=(hk k h1).1; have:=(hr.dom c k h2).2.2; omega
  ·by_cases e':c=H.length
   ·subst e'
    rw[Gh.bj] at h2
    rw[Gh.ay _ _ _ e] at h1
    have:=(hk k h2).1; have:=(hr.dom b k h1).2.2; omega
   ·rw[Gh.ay _ _ _ e] at h1
    rw[Gh.ay _ _ _ e'] at h2
    exact hr.inj b c k h1 h2
 ·by_cases e:b=H.length
  ·subst e
   rw[OI (N6 _)] at hB'
   simp at hB'
   subst hB'
   exact hB he
  ·have hlt:b<H.length:=by have:=(Oa.1 hB').1; simp at this; omega
   rw[Oo hlt] at hB'
   have h:=hr.blk b B' hB'
   cases B' with
   | box cs=>obtain ⟨k,arr,ty,h1,h2,h3⟩:=h; exact⟨k,arr,ty,(Gh.ay _ _ _ e).trans h1,dM hb h2,aY.ext he _ _ h3⟩
   | row wr es els=>cases wr with
    | true=>
     obtain ⟨ds,h1,h2,h3⟩:=h
     exact⟨ds,aU.ext he _ _ h1,h2,fun hp=>let ⟨k,arr,ty,e1,e2,e3⟩:=h3 hp; ⟨k,arr,ty,(Gh.ay _ _ _ e).trans e1,dM hb e2,e3⟩⟩
    | false=>
     obtain ⟨h1,h2⟩:=h
     refine⟨?_,?_⟩
     ·rw[Gh.en _ _ _ e]; exact aU.ext he _ _ h1
     ·rw[Gh.en _ _ _ e]; exact h2
   | rng st=>obtain ⟨k,h1,h2⟩:=h; exact⟨k,(Gh.ay _ _ _ e).trans h1,dM hb h2⟩
   | mp _ _ _=>obtain ⟨k,arr,cl,h1,h2,h3,h4⟩:=h; exact⟨k,arr,cl,(Gh.ay _ _ _ e).trans h1,dM hb h2,h3,aY.ext he _ _ h4⟩
   | dead=>exact(Gh.ay _ _ _ e).trans h
   | hole=>exact(Gh.ay _ _ _ e).trans h
theorem dv (H:ar) (B:aw):(H++[B])[H.length]? = some B:=r9
theorem gK (H:ar) (B:aw) (lo:Nat):∀ b,b<lo->b<H.length->(H++[B])[b]? = H[b]?:=fun _ _ h=>Oo h
theorem wG (hr:Rel H g w0 w) {t:TypeId} {x y:A} {H':ar} {c:Value} (lo:Nat) (h:wF x H=some (y,H')) (hx:VR H g w x c):Step H g w0 w lo ((Instr.box t c).run P w) y H':=by
 unfold wF at h
 cases hc:x.cells? with
 | none=>rw[hc] at h; cases h
 | some cs=>
  rw[hc] at h
  cases h
  obtain ⟨hv,_,_⟩:=kW hc hx
  have hb:Below w.heap.size w (w.alloc (.cells c.cells t)):=(Below.refl _ w).alloc (N6 _) _
  obtain ⟨h1,h2⟩:=hr.push hb (.box cs) (some w.heap.size) [] (fun k hk=>by cases hk; exact⟨rfl,r9⟩) (fun he=>⟨w.heap.size,c.cells,t,Gh.bj _ _ _ _,PK w _,aY.ext he _ _ hv⟩)
  refine⟨.pointer (some ⟨w.heap.size,0,none⟩),_,_,by simp[Instr.box,newVar,newRow,newObj]; rfl,h1,h2,?_,r9,gK _ _ _,rfl⟩
  rw[VR,dv]; exact⟨w.heap.size,Gh.bj _ _ _ _,rfl⟩
theorem te (hr:Rel H g w0 w) {t:TypeId} {y:A} {H':ar} (lo:Nat) (h:j0 P t H=some (y,H')):Step H g w0 w lo ((Instr.alloc t true (.tuple #[])).run P w) y H':=by
 unfold j0 at h
 cases hz:fE P t with
 | none=>rw[hz] at h; cases h
 | some cs=>
  rw[hz] at h
  cases h
  obtain ⟨i,z,hi,hzz,rfl⟩:=eQ hz
  have hb:Below w.heap.size w (w.alloc (.cells z.cells t)):=(Below.refl _ w).alloc (N6 _) _
  obtain ⟨h1,h2⟩:=hr.push hb (.box (z.cells.toList.map xn)) (some w.heap.size) [] (fun k hk=>by cases hk; exact⟨rfl,r9⟩) (fun he=>⟨w.heap.size,z.cells,t,Gh.bj _ _ _ _,PK w _,iy _⟩)
  refine⟨.pointer (some ⟨w.heap.size,0,none⟩),_,_,by simp[Instr.alloc,zeroValue,typeInfo,hi,hzz,newVar,newRow,newObj]; rfl,h1,h2,?_,r9,gK _ _ _,rfl⟩
  rw[VR,dv]; exact⟨w.heap.size,Gh.bj _ _ _ _,rfl⟩
theorem rb (hr:Rel H g w0 w) {t:TypeId} {cs:List A} {y:A} {H':ar} {arr:Array Value} {ty:TypeId} (h:rowOf P t cs H=some (y,H')) (hv:aY H g w cs arr.toList) :
  Rel H' (g.put H.length (some w.heap.size) []) w0 (w.alloc (.cells arr ty))/\Ext H g w H' (g.put H.length (some w.heap.size) []) (w.alloc (.cells arr ty))/\VR H' (g.put H.length (some w.heap.size) []) (w.alloc (.cells arr ty)) y (.pointer (some ⟨w.heap.size,0,none⟩))/\H.length<=H'.length/\∀ lo b,b<lo->b<H.length->H'[b]? = H[b]?:=by
 unfold rowOf at h
 split at h
 ·rename_i n e hu
  replace h:=aW h
  obtain ⟨es,hes,h⟩:=h
  replace h:=dB h
  obtain ⟨h0,h⟩:=h
  cases h
  simp only[O8,PN,Qu] at h0
  obtain ⟨⟨h1,h2⟩,h3⟩:=h0
  have h2:n≠0:=fun e=>by rw[e] at h2; cases h2
  have hb:Below w.heap.size w (w.alloc (.cells arr ty)):=(Below.refl _ w).alloc (N6 _) _
  have hal:arr.toList.length=n*es:=by rw[hv.length,h3]
  obtain ⟨r1,r2⟩:=hr.push hb (.row true es (chunk es n cs)) (some w.heap.size) [] (fun k hk=>by cases hk; exact⟨rfl,r9⟩) (fun he=>⟨chunk es n arr.toList,(aY.ext he _ _ hv).chunk n,iR hal,fun _=>⟨w.heap.size,arr,ty,Gh.bj _ _ _ _,PK w _,fun j v hj=>by
   rw[kf hal] at hj; simpa using hj⟩⟩)
  refine⟨r1,r2,?_,r9,fun lo=>gK _ _ _⟩
  rw[VR,dv]
  exact⟨by rw[fO]; omega,w.heap.size,Gh.bj _ _ _ _,r9⟩
 ·cases h
theorem uN (hr:Rel H g w0 w) {t:TypeId} {x y:A} {H':ar} {c:Value} (lo:Nat) (h:sd P t x H=some (y,H')) (hx:VR H g w x c):Step H g w0 w lo ((Instr.box t c).run P w) y H':=by
 unfold sd at h
 cases hc:x.cells? with
 | none=>rw[hc] at h; cases h
 | some cs=>
  rw[hc] at h
  obtain ⟨hv,_,_⟩:=kW hc hx
  obtain ⟨r1,r2,r3,r4,r5⟩:=rb (P:=P) hr (ty:=t) h hv
  exact⟨.pointer (some ⟨w.heap.size,0,none⟩),_,_,by simp[Instr.box,newVar,newRow,newObj]; rfl,r1,r2,r3,r4,r5 lo,rfl⟩
theorem rG (hr:Rel H g w0 w) {t:TypeId} {y:A} {H':ar} (lo:Nat) (h:jd P t H=some (y,H')):Step H g w0 w lo ((Instr.alloc t true (.tuple #[])).run P w) y H':=by
 unfold jd at h
 cases hz:fE P t with
 | none=>rw[hz] at h; cases h
 | some cs=>
  rw[hz] at h
  obtain ⟨i,z,hi,hzz,rfl⟩:=eQ hz
  obtain ⟨r1,r2,r3,r4,r5⟩:=rb (P:=P) hr (arr:=z.cells) (ty:=t) h (iy _)
  exact⟨.pointer (some ⟨w.heap.size,0,none⟩),_,_,by simp[Instr.alloc,zeroValue,typeInfo,hi,hzz,newVar,newRow,newObj]; rfl,r1,r2,r3,r4,r5 lo,rfl⟩
theorem Rel.write (hr:Rel H g w0 w) {b k:Nat} {arr arr':Array Value} {ty:TypeId} (hk:g.mu b=some k) (ha:w.heap[k]? = some (.cells arr ty (0,0))) {B B':aw} (hB:H[b]? = some B)
  (hkind:(∃ cs cs',B=.box cs/\B'=.box cs')∨∃ es els els',B=.row true es els/\B'=.row true es els'/\els'.length=els.length)
  (hB':Ext H g w (H.set b B') g (w.setRow k arr')->(w.setRow k arr').heap[k]? = some (.cells arr' ty (0,0))->jZ (H.set b B') g (w.setRow k arr') b B'):Rel (H.set b B') g w0 (w.setRow k arr')/\Ext H g w (H.set b B') g (w.setRow k arr'):=by
 have hlt:b<H.length:=(Oa.1 hB).1
 have hnew:(w.setRow k arr').heap[k]? = some (.cells arr' ty (0,0)):=setRow_heap w k arr arr' ty (0,0) ha
 have hoth:∀ j,j≠k->(w.setRow k arr').heap[j]? = w.heap[j]?:=fun j hj=>setRow_other w k j arr' hj
 have hnot:∀ {o:Nat},¬ dZ H g k o:=fun {o} hs=>by
  obtain ⟨es,els,h1,_⟩:=hs.2 b hk
  rw[hB] at h1
  rcases hkind with ⟨cs,cs',rfl,_⟩ | ⟨es',els1,els',rfl,_⟩<;>cases h1
 have he:Ext H g w (H.set b B') g (w.setRow k arr'):=by
  refine⟨fun k' o v hs hc=>?_,fun c C hC=>?_,fun k' o ho=>(hoth k' (fun e=>by subst e; rw[ha] at ho; cases ho)).trans ho,by simp[World.setRow],fun k' marr cl hs hm=>?_,fun k' _ hn=>hoth k' (fun e=>hn b (e ▸ hk)),fun c k' h=>.inl ⟨c,h⟩⟩
  ·have hne:k'≠k:=fun e=>hnot (e ▸ hs)
   refine⟨(PQ (a:=⟨k',o,none⟩) (hoth k' hne)).trans hc,hs.1,fun c hck=>?_⟩
   obtain ⟨es,els,h1,h2⟩:=hs.2 c hck
   have hcb:c≠b:=fun e=>by subst e; rw[hk] at hck; exact hne (by cases hck; rfl)
   exact⟨es,els,by rw[Ol (Pd hcb)]; exact h1,h2⟩
  ·by_cases e:c=b
   ·subst e
    rw[hB] at hC; cases hC
    refine⟨B',by rw[Oy hlt],?_⟩
    rcases hkind with ⟨cs,cs',rfl,rfl⟩ | ⟨es,els,els',rfl,rfl,hl⟩
    ·rfl
    ·exact⟨rfl,hl,rfl⟩
   ·refine⟨C,by rw[Ol (Pd e)]; exact hC,?_⟩
    cases C with
    | box _=>rfl
    | row wr es els=>cases wr with
     | true=>exact⟨rfl,rfl,rfl⟩
     | false=>exact⟨rfl,⟨[],r9⟩,(hr.blk c _ hC).len,N6 _,fun _=>⟨rfl,fun k' arr1 ty1 hk1 ha1=>⟨arr1,(hoth k' (fun e2=>e (hr.inj c b k (e2 ▸ hk1) hk))).trans ha1,N6 _⟩⟩⟩
    | rng _=>exact⟨rfl,rfl⟩
    | mp _ _ _=>rfl
    | dead=>trivial
    | hole=>trivial
  ·have hne:k'≠k:=fun e=>by subst e; rw[ha] at hm; cases hm
   refine⟨(hoth k' hne).trans hm,hs.1,fun c hck=>?_⟩
   obtain ⟨es,els,h1,h2⟩:=hs.2 c hck
   have hcb:c≠b:=fun e=>by subst e; rw[hk] at hck; exact hne (by cases hck; rfl)
   exact⟨es,els,by rw[Ol (Pd hcb)]; exact h1,h2⟩
 have hsz:(w.setRow k arr').heap.size=w.heap.size:=by simp[World.setRow]
 have hkb:=(hr.dom b k hk).2.1
 refine⟨⟨hr.below.trans ⟨rfl,rfl,rfl,by rw[hsz]; exact N6 _,fun j hj=>hoth j r7⟩,fun c j hcj=>⟨by simpa using (hr.dom c j hcj).1,(hr.dom c j hcj).2.1,by rw[hsz]; exact(hr.dom c j hcj).2.2⟩,hr.inj,hr.xo he,hr.vZ he,fun c C hC=>?_⟩,he⟩
 by_cases e:c=b
 ·subst e
  rw[Oy hlt] at hC; cases hC
  exact hB' he hnew
 ·rw[Ol (Pd e)] at hC
  have h:=hr.blk c C hC
  have hmu:∀ {j},g.mu c=some j->j≠k:=fun {j} hj e2=>e (hr.inj c b k (e2 ▸ hj) hk)
  cases C with
  | box cs=>obtain ⟨j,arr1,ty1,h1,h2,h3⟩:=h; exact⟨j,arr1,ty1,h1,(hoth j (hmu h1)).trans h2,aY.ext he _ _ h3⟩
  | row wr es els=>cases wr with
   | true=>
    obtain ⟨ds,h1,h2,h3⟩:=h
    exact⟨ds,aU.ext he _ _ h1,h2,fun hp=>let ⟨j,arr1,ty1,e1,e2,e3⟩:=h3 hp; ⟨j,arr1,ty1,e1,(hoth j (hmu e1)).trans e2,e3⟩⟩
   | false=>exact⟨aU.ext he _ _ h.1,h.2⟩
  | rng st=>obtain ⟨j,h1,h2⟩:=h; exact⟨j,h1,(hoth j (hmu h1)).trans h2⟩
  | mp _ _ _=>obtain ⟨j,arr1,cl,h1,h2,h3,h4⟩:=h; exact⟨j,arr1,cl,h1,(hoth j (hmu h1)).trans h2,h3,aY.ext he _ _ h4⟩
  | dead=>exact h
  | hole=>exact h
theorem lM (H:ar) (B:aw) {lo b:Nat} (hb:lo<=b):∀ c,c<lo->c<H.length->(H.set b B)[c]? = H[c]?:=fun _ hc _=>Ol r7
theorem kD {t:TypeId} {n k o:Nat} {c:Value} {arr:Array Value} {ty:TypeId} (hs:bU P t=some n) (hn:c.cells.size=n) (ha:w.heap[k]? = some (.cells arr ty (0,0))) (hfit:o+n<=arr.size) (h1:∀ x∈c.cells.toList,x.oneCell'=true) :
  (Instr.storeAt t (.pointer (some ⟨k,o,none⟩)) c).run P w=.ok () (w.setRow k (aR arr.toList o c.cells.toList).toArray):=by
 have:=Q9 P k o ty c.cells.toList 0 arr w ha (by simpa [hn] using hfit) h1
 simp only[PI] at this
 simp only[Instr.storeAt,Instr.sureAddr,OK,Qf,OG,storeVar,dx hs]
 rw[Oh (by simp[hn])]
 rw[this]
 simp[aR]
theorem gO {α:Type} (cs xs:List α) (o:Nat) (h:o+xs.length<=cs.length):(aR cs o xs).length=cs.length:=by
 simp[aR]; omega
theorem ft {α:Type} (cs xs:List α) (o j:Nat) (h:o+xs.length<=cs.length):(aR cs o xs)[j]? = if o<=j/\j<o+xs.length then xs[j - o]? else cs[j]?:=by
 unfold aR
 rw[O6,PZ,Pg,PL r7]
 by_cases h1:j<o
 ·rw[Og h1,Oh r7,Ox,Og h1]
 ·rw[Oh h1,PZ]
  by_cases h2:j<o+xs.length
  ·rw[Og r7,Og r7]
  ·rw[Oh r7,Oh r7,Pu]
   congr 1; omega
theorem rq {α:Type} (x l xs:List α) (n:Nat):aR (x++l) (x.length+n) xs=x++aR l n xs:=by
 unfold aR
 rw[P2,List.take_length_add_append,List.drop_length_add_append]
 simp
theorem qz {es:Nat}:∀ {ds:List (List Value)} {i:Nat} {d d':List Value},(∀ d∈ds,d.length=es)->ds[i]? = some d->∀ o xs,o+xs.length<=es->d'=aR d o xs->(ds.set i d').flatten=aR ds.flatten (i*es+o) xs
 | [],i,d,d',_,h,_,_,_,_=>by simp at h
 | x :: r,i,d,d',hl,h,o,xs,hf,hd=>by
  have hx:=hl x r9
  cases i with
  | zero=>
   simp at h; subst h; subst hd
   simp only[List.set_cons_zero,Pt,Nat.zero_mul,OZ,aR]
   rw[Q2 r7,Q1 r7]
   simp
  | succ i=>
   have ih:=qz (ds:=r) (i:=i) (d:=d) (d':=d') (fun d hd=>hl d (by simp[hd])) (by simpa using h) o xs hf hd
   have e:(i+1)*es+o=x.length+(i*es+o):=by rw[hx,O5]; omega
   rw[List.set_cons_succ,Pt,Pt,ih,e,rq]
theorem gE {es:Nat} {ds:List (List Value)} (hl:∀ d∈ds,d.length=es) {m:Nat} (hm:m<=ds.length):(ds.take m).flatten.length=m*es:=by
 rw[bF (fun d hd=>hl d (OH hd)),Pg,PL hm]
theorem ln {es:Nat}:∀ {ds:List (List Value)} (o:Nat) {xs:List (List Value)},(∀ d∈ds,d.length=es)->(∀ d∈xs,d.length=es)->o+xs.length<=ds.length->(aR ds o xs).flatten=aR ds.flatten (o*es) xs.flatten
 | ds,0,xs,hl,hx,h=>by
  have:ds=ds.take xs.length++ds.drop xs.length:=(Py _ _).symm
  have h1:(ds.take xs.length).flatten.length=xs.length*es:=gE hl r7
  simp only[aR,List.take_zero,PA,OZ,Nat.zero_mul,P4]
  congr 1
  have e:ds.flatten=(ds.take xs.length).flatten++(ds.drop xs.length).flatten:=NY
  rw[e,List.drop_append,h1,bF hx]
  simp[h1]
 | [],o+1,xs,hl,hx,h=>by simp at h
 | d :: r,o+1,xs,hl,hx,h=>by
  have ih:=ln (ds:=r) o (xs:=xs) (fun d hd=>hl d (by simp[hd])) hx (by simp at h; omega)
  have e1:aR (d :: r) (o+1) xs=d :: aR r o xs:=by
   simp only[aR,List.take_succ_cons,OU]
   rw[show o+1+xs.length=o+xs.length+1 by omega,RG]
  rw[e1,Pt,ih,Pt]
  have e2:(o+1)*es=d.length+o*es:=by rw[hl d r9,O5]; omega
  rw[e2,rq]
theorem tn (hr:Rel H g w0 w) {t:TypeId} {a x:A} {H':ar} {lo:Nat} {ca cx:Value} (h:ic P t a x H lo=some H') (ha:VR H g w a ca) (hx:VR H g w x cx) :
  ∃ w',(Instr.storeAt t ca cx).run P w=.ok () w'/\Rel H' g w0 w'/\Ext H g w H' g w'/\H.length<=H'.length/\∀ b,b<lo->b<H.length->H'[b]? = H[b]?:=by
 unfold ic at h
 replace h:=aW h
 obtain ⟨n,hn,h⟩:=h
 replace h:=aW h
 obtain ⟨xs,hxs,h⟩:=h
 replace h:=dB h
 obtain ⟨h0,h⟩:=h
 simp only[O8,PN,Ps] at h0
 obtain ⟨hvs,h1,_⟩:=kW hxs hx
 have hsz:cx.cells.size=n:=by have:=hvs.length; simp at this; omega
 split at h
 ·rename_i b o
  split at h
  ·rename_i cs hb
   replace h:=aP h
   obtain ⟨hc,h⟩:=h
   simp only[N7,Od] at hc
   cases h
   rw[VR,hb] at ha
   obtain ⟨k,hk,rfl⟩:=ha
   obtain ⟨k',arr,ty,hk',har,hv⟩:=hr.blk b _ hb
   rw[hk] at hk'; cases hk'
   have hal:arr.size=cs.length:=by simpa using hv.length
   have hrun:=kD (P:=P) hn hsz har (o:=o) r7 h1
   obtain ⟨r1,r2⟩:=hr.write hk har (arr':=(aR arr.toList o cx.cells.toList).toArray) (B':=.box (aR cs o xs)) hb (.inl ⟨_,_,rfl,rfl⟩) (fun he hnew=>⟨k,_,ty,hk,hnew,aY.ext he _ _ (by simpa using hv.aR hvs o)⟩)
   exact⟨_,hrun,r1,r2,r9,lM _ _ hc.1⟩
  ·cases h
 ·rename_i b i o
  split at h
  ·rename_i es els hb
   split at h
   ·rename_i cs hi
    rw[VR,hb] at ha
    obtain ⟨hlt,k,hk,rfl⟩:=ha
    obtain ⟨ds,hv,hl,hrow⟩:=hr.blk b _ hb
    obtain ⟨k',arr,ty,hk',har,hcell⟩:=hrow r7
    rw[hk] at hk'; cases hk'
    obtain ⟨d,hd,hvd⟩:=hv.get hi
    have hdl:d.length=es:=hl d (OA hd)
    have hcl:cs.length=es:=by rw[<-hvd.length]; exact hdl
    have hfl:=bF hl
    have hvl:=hv.length
    have hbound:i*es+es<=ds.length*es:=by
     have:=PR es (show i+1<=ds.length by omega)
     rw[O5] at this; omega
    have hal:ds.flatten.length<=arr.size:=by
     by_cases hz:ds.flatten.length=0
     ·omega
     ·have:=hcell (ds.flatten.length - 1) _ (N5 r7)
      have:=(Ob.1 this).1
      omega
    have hxl:cx.cells.toList.length=n:=by simpa using hsz
    rw[aZ] at h
    split at h
    rotate_left
    ·replace h:=aP h
     obtain ⟨hc,h⟩:=h
     simp only[N7,Od,Qu] at hc
     obtain ⟨⟨⟨hlo,rfl⟩,hq⟩,hfit⟩:=hc
     cases h
     have hxq:cx.cells.toList.length=n / es*es:=r7
     have hq2:i*es+n / es*es<=ds.length*es:=by
      have:=PR es (show i+n / es<=ds.length by omega)
      rwa [O5] at this
     have hrun:=kD (P:=P) hn hsz har (o:=i*es+0) r7 h1
     have hcl2:=iR (es:=es) hxq
     obtain ⟨r1,r2⟩:=hr.write hk har (arr':=(aR arr.toList (i*es+0) cx.cells.toList).toArray) (B':=.row true es (aR els i (chunk es (n / es) xs))) hb (.inr ⟨es,els,_,rfl,rfl,by rw[gO _ _ _ (by rw[fO]; omega)]⟩) (fun he hnew=>by
      refine⟨aR ds i (chunk es (n / es) cx.cells.toList),?_,?_,fun _=>⟨k,_,ty,hk,hnew,fun j v hj=>?_⟩⟩
      ·have hv2:=aU.ext he _ _ hv
       have hx2:=aU.ext he _ _ (hvs.chunk (es:=es) (n / es))
       exact hv2.aR hx2 i
      ·intro d' hd'
       unfold aR at hd'
       rcases Pp.1 hd' with hd' | hd'
       ·rcases Pp.1 hd' with hd' | hd'
        ·exact hl d' (OH hd')
        ·exact hcl2 d' hd'
       ·exact hl d' (OM hd')
      ·rw[ln i hl hcl2 (by rw[fO]; omega),kf hxq] at hj
       rw[ft _ _ _ _ r7] at hj
       have:(aR arr.toList (i*es+0) cx.cells.toList).toArray[j]? = (aR arr.toList (i*es+0) cx.cells.toList)[j]?:=r9
       rw[this,ft _ _ _ _ so]
       simp only[PI]
       split
       ·rename_i hin; rw[Og hin] at hj; exact hj
       ·rename_i hin; rw[Oh hin] at hj
        have:=hcell j v hj
        simpa using this)
     exact⟨_,hrun,r1,r2,r9,lM _ _ hlo⟩
    rename_i hc
    simp only[N7,Od] at hc
    cases h
    have hrun:=kD (P:=P) hn hsz har (o:=i*es+o) r7 h1
    obtain ⟨r1,r2⟩:=hr.write hk har (arr':=(aR arr.toList (i*es+o) cx.cells.toList).toArray) (B':=.row true es (els.set i (aR cs o xs))) hb (.inr ⟨es,els,_,rfl,rfl,r9⟩) (fun he hnew=>by
     refine⟨ds.set i (aR d o cx.cells.toList),?_,?_,fun _=>⟨k,_,ty,hk,hnew,fun j v hj=>?_⟩⟩
     ·have hv2:=aU.ext he _ _ hv
      have hvd2:=aY.ext he _ _ (hvd.aR hvs o)
      obtain ⟨g1,g2⟩:=b7.1 hv2
      refine b7.2 ⟨by simp[g1],fun j a' d' ha' hd'=>?_⟩
      by_cases e:j=i
      ·subst e
       rw[Oy r7] at ha'
       rw[Oy r7] at hd'
       cases ha'; cases hd'; exact hvd2
      ·rw[Ol (Pd e)] at ha' hd'
       exact g2 j a' d' ha' hd'
     ·intro d' hd'
      rcases Rc hd' with h' | rfl
      ·exact hl d' h'
      ·rw[gO _ _ _ r7]; exact hdl
     ·rw[qz hl hd o cx.cells.toList r7 rfl] at hj
      rw[ft _ _ _ _ r7] at hj
      have:(aR arr.toList (i*es+o) cx.cells.toList).toArray[j]? = (aR arr.toList (i*es+o) cx.cells.toList)[j]?:=r9
      rw[this,ft _ _ _ _ so]
      split
      ·rename_i hin; rw[Og hin] at hj; exact hj
      ·rename_i hin; rw[Oh hin] at hj
       have:=hcell j v hj
       simpa using this)
    exact⟨_,hrun,r1,r2,r9,lM _ _ hc.1⟩
   ·cases h
  ·cases h
 ·cases h
end
section
open Go.RowKit
variable {P:Program} {H:ar} {g:Gh} {w0 w:World}
theorem iU {t e:TypeId} (h:iT P t=some e):P.underlying t=some (.slice e):=by
 unfold iT at h
 split at h
 ·rename_i hu; cases h; exact hu
 ·cases h
theorem mh (z:Array Value) (len:Nat) (hz:0<z.size):(madeCells z (len*z.size)).toList=(List.replicate len z.toList).flatten:=by
 have hl:∀ d∈List.replicate len z.toList,d.length=z.size:=fun d hd=>by rw[(Qo.1 hd).2]; simp
 apply Pn
 intro j
 by_cases hj:j<len*z.size
 ·have hq:j / z.size<len:=QU (by rw[Pm]; exact hj)
  have e:=iV hl (j:=j / z.size) (d:=z.toList) (by rw[PD,Og hq]) (j % z.size) (Qt _ hz)
  rw[show j / z.size*z.size+j % z.size=j by rw[Pm]; exact QV _ _] at e
  rw[e]
  have hm:=Qt j hz
  have:(madeCells z (len*z.size))[j]? = some (z[j % z.size]!):=by simp[madeCells,hj]
  rw[OJ,this]
  simp[hm]
 ·rw[OY (by simp[madeCells]; omega),OY (by rw[bF hl]; simp; omega)]
theorem vl {es:Nat}:∀ {parts:List (Nat×A)} {vparts:List (Nat×Value)} {els els':List (List A)} {ds:List (List Value)} {arr:Array Value},kC els parts=some els'->arr.toList=ds.flatten->aU H g w els ds->(∀ d∈ds,d.length=es) ->
  (∀ p∈parts,p.1<els.length/\∃ xs,p.2.cells? = some xs/\xs.length=es)->kP H g w parts vparts->∃ arr' ds',Instr.fill (fun i=>some (i*es,es)) arr vparts=some arr'/\arr'.toList=ds'.flatten/\aU H g w els' ds'/\(∀ d∈ds',d.length=es)
 | [],vparts,els,els',ds,arr,h,ha,hv,hl,_,hp=>by
  simp only[kC,O3] at h
  subst h
  have:vparts=[]:=Ou (by simpa using hp.1)
  subst this
  exact⟨arr,ds,rfl,ha,hv,hl⟩
 | (i,x) :: r,vparts,els,els',ds,arr,h,ha,hv,hl,hc,hp=>by
  cases vparts with
  | nil=>simp[kP] at hp
  | cons q vr=>
   obtain ⟨q',hq,e1,hx⟩:=hp.2 0 (i,x) rfl
   simp at hq
   subst hq
   obtain ⟨hi,xs,hxs,hxl⟩:=hc (i,x) r9
   simp only[kC,hxs,N4] at h
   obtain ⟨hvs,_,_⟩:=kW hxs hx
   have hvl:=hvs.length
   have hel:=hv.length
   obtain ⟨qi,qv⟩:=q
   simp only at e1 hi
   subst e1
   have hsz:qv.cells.size=es:=by simpa [hxl] using hvl
   obtain ⟨d,hd,_⟩:=hv.get (i:=qi) (N5 hi)
   have hdl:d.length=es:=hl d (OA hd)
   have hfl:=bF hl
   have hfit:qi*es+qv.cells.size<=arr.size:=by
    have e2:arr.size=ds.length*es:=by rw[<-hfl,<-ha]; simp
    have:=PR es (show qi+1<=ds.length by omega)
    rw[O5] at this; omega
   have hsp:qv.cells.toList=aR d 0 qv.cells.toList:=by
    unfold aR
    rw[List.take_zero,PA,Rq so,PB]
   have hset:(qv.cells.zipIdx.foldl (fun cs (c,j)=>cs.setIfInBounds (qi*es+j) c) arr).toList=(ds.set qi qv.cells.toList).flatten:=by
    have:=rj qv.cells.toList (qi*es) arr (by simpa using hfit)
    rw[qz hl hd 0 qv.cells.toList so hsp,<-ha,PI,<-this,<-Qm]
    simp
   obtain ⟨arr',ds',h1,h2,h3,h4⟩:=vl (els:=els.set qi xs) (ds:=ds.set qi qv.cells.toList) (arr:=qv.cells.zipIdx.foldl (fun cs (c,j)=>cs.setIfInBounds (qi*es+j) c) arr) (vparts:=vr) h hset
    (by
     obtain ⟨g1,g2⟩:=b7.1 hv
     refine b7.2 ⟨by simp[g1],fun j a' d' ha' hd'=>?_⟩
     by_cases e:j=qi
     ·subst e
      rw[Oy r7] at ha'
      rw[Oy r7] at hd'
      cases ha'; cases hd'; exact hvs
     ·rw[Ol (Pd e)] at ha' hd'
      exact g2 j a' d' ha' hd')
    (fun d' hd'=>by
     rcases Rc hd' with h' | rfl
     ·exact hl d' h'
     ·simpa using hsz)
    (fun p hpm=>by have:=hc p (by simp[hpm]); simpa using this) ⟨by simpa using hp.1,fun j p' hj=>by have:=hp.2 (j+1) p' (by simpa using hj); simpa using this⟩
   refine⟨arr',ds',?_,h2,h3,h4⟩
   unfold Instr.fill
   simp only
   rw[Oh (by simp[hsz]; omega)]
   exact h1
theorem kH {t:TypeId} {len:Nat} {parts:List (Nat×A)} {vparts:Array (Nat×Value)} {y:A} (h:aI P t len parts=some y) (hp:kP H g w parts vparts.toList) :
  ∃ e es els arr' ds,y=.imm els true/\iT P t=some e/\bU P e=some es/\es≠0/\(Instr.buildSlice t len vparts).run P w=.ok (.slice (some ⟨w.heap.size,0,none⟩) len len) (w.alloc (.cells arr' e))/\els.length=len/\arr'.toList=ds.flatten/\aU H g w els ds/\∀ d∈ds,d.length=es:=by
 unfold aI at h
 replace h:=aW h
 obtain ⟨e,he,h⟩:=h
 have hu:=iU he
 replace h:=aW h
 obtain ⟨es,hes,h⟩:=h
 replace h:=aW h
 obtain ⟨z,hz,h⟩:=h
 replace h:=dB h
 obtain ⟨h0,h⟩:=h
 replace h:=aP h
 obtain ⟨hc,h⟩:=h
 simp only[O8,PN,Ps,Od,Qk] at h0
 obtain ⟨⟨h0,h1⟩,h2⟩:=h0
 obtain ⟨it,v,hi,hv,rfl⟩:=eQ hz
 obtain ⟨it',hi',hsz⟩:=fi hes
 rw[hi] at hi'; cases hi'
 have hvs:v.cells.size=es:=by simpa using h1
 cases hse:kC (List.replicate len (v.cells.toList.map xn)) parts with
 | none=>rw[hse] at h; cases h
 | some els=>
  rw[hse] at h
  cases h
  have hz0:0<v.cells.size:=r7
  have hall:∀ p∈parts,p.1<(List.replicate len (v.cells.toList.map xn)).length/\∃ xs,p.2.cells? = some xs/\xs.length=es:=fun p hpm=>by
   have:=Oj.1 hc p hpm
   simp only[N7,Od] at this
   refine⟨by simpa using this.1,?_⟩
   have h3:=this.2
   split at h3
   ·rename_i xs hx; exact⟨xs,hx,by simpa using h3⟩
   ·cases h3
  have hrep:aU H g w (List.replicate len (v.cells.toList.map xn)) (List.replicate len v.cells.toList):=b7.2 ⟨r9,fun i a d ha hd=>by
   rw[PD] at ha hd
   split at ha
   ·rename_i hlt; rw[Og hlt] at hd; cases ha; cases hd; exact iy _
   ·cases ha⟩
  obtain ⟨arr',ds',f1,f2,f3,f4⟩:=vl (es:=es) (arr:=madeCells v.cells (len*es)) hse (by rw[<-hvs]; exact mh _ _ hz0) hrep (fun d hd=>by rw[(Qo.1 hd).2]; simpa using hvs) hall hp
  have hb:Below w.heap.size w (w.alloc (.cells arr' e)):=(Below.refl _ w).alloc (N6 _) _
  have hlen:els.length=len:=by
   have gen:∀ (parts:List (Nat×A)) (els els':List (List A)),kC els parts=some els'->els'.length=els.length:=by
    intro parts
    induction parts with
    | nil=>intro els els' h; simp only[kC,O3] at h; rw[h]
    | cons p r ih=>
     intro els els' h
     obtain ⟨i,x⟩:=p
     simp only[kC] at h
     obtain ⟨xs,_,h⟩:=aW h
     rw[ih _ _ h]; simp
   rw[gen _ _ _ hse]; simp
  refine⟨e,es,els,arr',ds',rfl,he,hes,h0,?_,hlen,f2,f3,f4⟩
  unfold Instr.buildSlice
  have hsz':(sizeOf e).run P w=.ok es w:=dx hes w
  have hbig:¬ (16777216<len*es):=r7
  by_cases hle:len*es=0
  ·rw[hle] at f1
   rw[show madeCells v.cells 0=#[] by simp[madeCells]] at f1
   simp[Oi hu,hsz',hle,show Array.range 0=#[] from rfl,f1,newRow,newObj]
   rfl
  ·unfold madeCells at f1
   simp[Oi hu,hsz',hle,hbig,zeroValue,typeInfo,hi,hv,f1,newRow,newObj]
   rfl
theorem nv (hr:Rel H g w0 w) {t:TypeId} {len:Nat} {parts:List (Nat×A)} {vparts:Array (Nat×Value)} {y:A} (h:aI P t len parts=some y) (hp:kP H g w parts vparts.toList) :
  ∃ d w',(Instr.buildSlice t len vparts).run P w=.ok d w'/\Below w.heap.size w w'/\VR H g w' y d:=by
 obtain ⟨e,es,els,arr',ds',rfl,_,_,_,hrun,hlen,f2,f3,f4⟩:=kH h hp
 have hb:Below w.heap.size w (w.alloc (.cells arr' e)):=(Below.refl _ w).alloc (N6 _) _
 refine⟨_,_,hrun,hb,?_⟩
 rw[VR]
 have he:=Ext.below hr hb
 refine⟨_,len,ds',es,by rw[hlen],r7,fun _=>hlen.symm,f4,fun _=>⟨w.heap.size,0,rfl,?_⟩,aU.ext he _ _ f3⟩
 exact lq hr (PK w _) fun j v hj=>by rw[<-f2] at hj; simpa using hj
theorem pF (hr:Rel H g w0 w) {t:TypeId} {len:Nat} {parts:List (Nat×A)} {vparts:Array (Nat×Value)} {y:A} {H':ar} (lo:Nat) (h:ow P t len parts H=some (y,H')) (hp:kP H g w parts vparts.toList) :
  Step H g w0 w lo ((Instr.buildSlice t len vparts).run P w) y H':=by
 unfold ow at h
 obtain ⟨e0,h1,h⟩:=aW h
 obtain ⟨es0,h2,h⟩:=aW h
 obtain ⟨y0,h3,h⟩:=aW h
 obtain ⟨e,es,els,arr',ds',rfl,g1,g2,g3,hrun,hlen,f2,f3,f4⟩:=kH h3 hp
 rw[h1] at g1; cases g1
 rw[h2] at g2; cases g2
 simp only[O3,Prod.mk.injEq] at h
 obtain ⟨rfl,rfl⟩:=h
 have hb:Below w.heap.size w (w.alloc (.cells arr' e0)):=(Below.refl _ w).alloc (N6 _) _
 obtain ⟨k1,k2⟩:=hr.push hb (.row true es0 els) (some w.heap.size) [] (fun k hk=>by cases hk; exact⟨rfl,by show w.heap.size<(w.heap.push _).size; rw[Array.size_push]; exact Qg _⟩) (fun he=>⟨ds',aU.ext he _ _ f3,f4,fun _=>⟨w.heap.size,arr',e0,Gh.bj _ _ _ _,PK w _,fun j v hj=>by rw[<-f2] at hj; simpa using hj⟩⟩)
 refine⟨_,_,_,hrun,k1,k2,?_,r9,fun b _ hb=>Oo hb,rfl⟩
 rw[VR,dv]
 exact⟨r9,_,len,by rw[hlen],r7,fun _=>hlen.symm,fun _=>⟨w.heap.size,Gh.bj _ _ _ _,r9⟩⟩
theorem DB {x:A} {c:Value} (h:VR H g w x c):VR H g w (rT x) c:=by
 cases x with
 | imm els cl=>
  simp only[rT]
  rw[VR] at h ⊢
  obtain ⟨a,cap,ds,es,h1,h2,_,h4,h5,h6⟩:=h
  exact⟨a,cap,ds,es,h1,h2,fun h=>(by cases h),h4,h5,h6⟩
 | _=>exact h
theorem oa:∀ {cs:List A} {ds:List Value},aY H g w cs ds->aY H g w (cs.map rT) ds
 | [],_,h=>h
 | a :: as,_,h=>by
  rw[aY] at h
  obtain ⟨d,ds',rfl,h1,h2⟩:=h
  rw[O9,aY]
  exact⟨d,ds',rfl,DB h1,oa h2⟩
theorem p4 (hr:Rel H g w0 w) {t:TypeId} {n c y:A} {cn cc:Value} {H':ar} (h:fM P t n c H=some (y,H')) (hn:VR H g w n cn) (hc:VR H g w c cc):H'=H/\∃ d w',(Instr.makeSlice t cn cc).run P w=.ok d w'/\Below w.heap.size w w'/\VR H g w' y d:=by
 unfold fM at h
 obtain ⟨e,he,h⟩:=aW h
 have hu:=iU he
 obtain ⟨es,hes,h⟩:=aW h
 obtain ⟨by_,hby,h⟩:=aW h
 obtain ⟨z,hz,h⟩:=aW h
 obtain ⟨ni,hni,h⟩:=aW h
 obtain ⟨ci,hci,h⟩:=aW h
 obtain ⟨h0,h⟩:=dB h
 simp only[O8,PN,Ps,Od,Qk] at h0
 obtain ⟨⟨⟨⟨h0,h1⟩,h2⟩,h3⟩,h4⟩:=h0
 cases h
 obtain ⟨it,v,hi,hv,rfl⟩:=eQ hz
 obtain ⟨it',hi',hsz⟩:=fi hes
 rw[hi] at hi'; cases hi'
 have hvs:v.cells.size=es:=by simpa using h1
 have hbv:it.bytes=by_:=by unfold iQ at hby; rw[hi] at hby; simpa using hby
 obtain ⟨kn,zn,rfl,hn0,rfl⟩:=m0 hni hn
 obtain ⟨kc,zc,rfl,hc0,rfl⟩:=m0 hci hc
 unfold cq at h2 h3
 have hbz:(it.bytes:Int)*zc<=281474976710656:=by
  have:((zc.toNat*by_:Nat):Int)<=140737488355328:=r7
  rw[Qp,QD hc0,RK,<-hbv] at this
  omega
 have hrun:=run_make (P:=P) w t e it v hu hi hv kn kc zn zc hn0 r7 hbz r7
 have hb:Below w.heap.size w (w.alloc (.cells (madeCells v.cells (zc.toNat*it.size)) e)):=(Below.refl _ w).alloc (N6 _) _
 rw[hsz] at hrun hb
 have hz0:0<v.cells.size:=r7
 refine⟨rfl,_,_,hrun,hb,?_⟩
 rw[VR]
 refine⟨_,zc.toNat,List.replicate zn.toNat v.cells.toList,es,r9,so,fun h=>(by cases h),fun d hd=>by rw[(Qo.1 hd).2]; simpa using hvs,fun _=>⟨w.heap.size,0,rfl,?_⟩,b7.2 ⟨r9,fun i a d ha hd=>?_⟩⟩
 ·exact lq hr (PK w _) fun j x hj=>by rw[<-OJ,<-hvs,mh _ _ hz0,<-h4]; exact hj
 ·rw[PD] at ha hd
  split at ha
  ·rename_i hlt; rw[Og hlt] at hd; cases ha; cases hd; exact oa (iy _)
  ·cases ha
theorem je {ck:Bool} (hr:Rel H g w0 w) {t:TypeId} {n c y:A} {cn cc:Value} {H':ar} (lo:Nat) (h:ed ck P t n c H=some (y,H')) (hn:VR H g w n cn) (hc:VR H g w c cc):Step H g w0 w lo ((Instr.makeSlice t cn cc).run P w) y H':=by
 unfold ed at h
 replace h:=aW h
 obtain ⟨e,he,h⟩:=h
 have hu:=iU he
 replace h:=aW h
 obtain ⟨es,hes,h⟩:=h
 replace h:=aW h
 obtain ⟨by_,hby,h⟩:=h
 replace h:=aW h
 obtain ⟨z,hz,h⟩:=h
 replace h:=aW h
 obtain ⟨ni,hni,h⟩:=h
 replace h:=aW h
 obtain ⟨ci,hci,h⟩:=h
 replace h:=dB h
 obtain ⟨h0,h⟩:=h
 simp only[O8,PN,Ps,Od,Qk] at h0
 obtain ⟨⟨⟨⟨h0,h1⟩,h2⟩,h3⟩,h4⟩:=h0
 obtain ⟨it,v,hi,hv,rfl⟩:=eQ hz
 obtain ⟨it',hi',hsz⟩:=fi hes
 rw[hi] at hi'; cases hi'
 have hvs:v.cells.size=es:=by simpa using h1
 have hbv:it.bytes=by_:=by unfold iQ at hby; rw[hi] at hby; simpa using hby
 obtain ⟨kn,zn,rfl,hn0,rfl⟩:=m0 hni hn
 obtain ⟨kc,zc,rfl,hc0,rfl⟩:=m0 hci hc
 unfold cq at h2 h3
 have hbz:(it.bytes:Int)*zc<=281474976710656:=by
  have:((zc.toNat*by_:Nat):Int)<=140737488355328:=r7
  rw[Qp,QD hc0,RK,<-hbv] at this
  omega
 have hrun:=run_make (P:=P) w t e it v hu hi hv kn kc zn zc hn0 r7 hbz r7
 have hb:Below w.heap.size w (w.alloc (.cells (madeCells v.cells (zc.toNat*it.size)) e)):=(Below.refl _ w).alloc (N6 _) _
 rw[hsz] at hrun hb
 have hz0:0<v.cells.size:=r7
 rw[aZ] at h
 split at h
 ·rename_i hnc
  have hnc:zn.toNat=zc.toNat:=by simpa using hnc
  cases h
  obtain ⟨r1,r2⟩:=hr.push hb (.row true es (List.replicate zn.toNat ((v.cells.toList.map xn).map rT))) (some w.heap.size) [] (fun k hk=>by cases hk; exact⟨rfl,r9⟩) (fun he'=>by
   refine⟨List.replicate zn.toNat v.cells.toList,b7.2 ⟨r9,fun i a d ha hd=>?_⟩,fun d hd=>by rw[(Qo.1 hd).2]; simpa using hvs,fun _=>⟨w.heap.size,_,e,Gh.bj _ _ _ _,PK w _,fun j x hj=>?_⟩⟩
   ·rw[PD] at ha hd
    split at ha
    ·rename_i hlt; rw[Og hlt] at hd; cases ha; cases hd; exact oa (iy _)
    ·cases ha
   ·rw[<-OJ,<-hvs,mh _ _ hz0,<-hnc]; exact hj)
  refine⟨_,_,_,hrun,r1,r2,?_,r9,gK _ _ _,rfl⟩
  rw[VR,dv]
  refine⟨r9,_,zc.toNat,rfl,r7,fun _=>r7,fun _=>⟨w.heap.size,Gh.bj _ _ _ _,r9⟩⟩
 ·rw[aZ] at h
  split at h
  ·rename_i hn00
   have hn00:zn.toNat=0:=by simpa using hn00
   cases h
   obtain ⟨r1,r2⟩:=hr.push hb (.row false es []) (some w.heap.size) [] (fun k hk=>by cases hk; exact⟨rfl,r9⟩) (fun he'=>by
    refine⟨?_,?_⟩
    ·rw[Gh.fW,aU]
    ·rw[Gh.fW]; simp)
   refine⟨_,_,_,hrun,r1,r2,?_,r9,gK _ _ _,rfl⟩
   rw[VR,dv]
   refine⟨r9,_,zc.toNat,by rw[hn00],r7,fun h=>(by cases h),fun h=>absurd h r9,fun _ _ _ _=>⟨w.heap.size,_,e,Gh.bj _ _ _ _,rfl,PK w _,by rw[size_madeCells]; exact N6 _⟩⟩
  ·cases h
theorem oA (hr:Rel H g w0 w) {t:TypeId} {n c y:A} {cn cc:Value} {H':ar} (lo:Nat) (h:dq P t n c H=some (y,H')) (hn:VR H g w n cn) (hc:VR H g w c cc):Step H g w0 w lo ((Instr.makeSlice t cn cc).run P w) y H':=je hr lo h hn hc
end
end Go.Proofs.Ytebkhfhcipnfgaa
