/-
 Slices made, appended to, copied into: as the model's.
-/
import Derived.Below
import Derived.ChangeArms
import Derived.Deep.Slices
import Derived.RangeFuncNested
import Derived.RangeFuncCalls
import Derived.RangeFuncLeaves
import Derived.OrdersIn
import Derived.TacticsIn
import Derived.Maps.AppendAt
import Derived.OwnWalkIn
import Derived.OwnWalk
import Derived.Deep.MidRow
import Derived.DeepKeys
import Derived.Laws.StructEq
import Derived.Laws.Tables
import Derived.Laws.IdiomStrings
import Derived.Laws.BytesString
import Derived.Laws.Slices
import Derived.Laws.MakeOwn
import Derived.KernelRfl
namespace Go.Proofs.YtebkhfhcipnfgaaGreat
set_option linter.unusedVariables false
set_option linter.unusedSimpArgs false
set_option linter.defProp false
theorem r7 {p:Prop} (h:p:=by omega):p:=h
theorem r9 {p:Prop} (h:p:=by simp):p:=h
theorem so {p:Prop} (h:p:=by simp; omega):p:=h
theorem y7 {p:Prop} (h:p:=by rw[VR]):p:=h
theorem H7 {p:Prop} (h:p:=by rw[bE]):p:=h
theorem XX {p:Prop} (h:p:=by rw[List.length_take]; omega):p:=h
theorem X2 {p:Prop} (h:p:=by rw[VR]; trivial):p:=h
theorem X8 {p:Prop} (h:p:=by rw[<-List.flatten_append,List.take_append_drop]):p:=h
def Yf:=@Option.bind_some
def Yg:=@List.getElem?_eq_getElem
def Yh:=@cond_false
def Yi:=@cond_true
def Yj:=@Bool.and_eq_true
def Yk:=@Nat.le_refl
def Ym:=@List.getElem?_eq_some_iff
def Yn:=@decide_eq_true_eq
def Yo:=@Array.getElem?_eq_some_iff
def Yp:=@if_neg
def Yq:=@if_pos
def Yr:=@of_decide_eq_true
def Yt:=@List.drop_eq_getElem_cons
def Yu:=@run_underlying
def Yw:=@List.all_eq_true
def Yy:=@Nat.eq_of_beq_eq_true
def Yz:=@List.getElem?_set_ne
def YA:=@Nat.lt_of_lt_of_le
def YD:=@List.length_cons
def YE:=@List.getElem?_append_left
def YF:=@List.length_append
def YG:=@Nat.le_trans
def YH:=@List.getElem_mem
def YI:=@List.eq_nil_of_length_eq_zero
def YJ:=@List.getElem?_map
def YM:=@Bool.false_eq_true
def YN:=@List.getElem?_take
def YO:=@List.getElem?_set_self
def YP:=@Bool.true_and
def YQ:=@List.mem_of_getElem?
def YR:=@List.mem_range
def YS:=@Result.andThen_ok
def YT:=@List.mem_of_mem_take
def YU:=@Option.bind_assoc
def YV:=@Array.getElem?_toList
def YX:=@congrArg
def YY:=@List.getElem?_append_right
def YZ:=@Sem.run_bind
def Y0:=@List.mem_of_mem_drop
def Y1:=@List.mem_cons
def Y2:=@Option.map_eq_some_iff
def Y5:=@List.cons_append
def Y6:=@Option.map_some
def Y7:=@List.getElem?_eq_none
def Y9:=@Nat.zero_add
def Za:=@List.append_assoc
def Zb:=@Bool.or_eq_true
def Zc:=@List.map_cons
def Zd:=@Option.some.injEq
def Ze:=@Bool.not_eq_true'
def Zf:=@List.getElem_of_mem
def Zh:=@Bool.or_eq_false_iff
def Zi:=@Nat.add_mul
def Zj:=@Array.getD_eq_getD_getElem?
def Zl:=@Ne.symm
def Zo:=@Array.getElem?_eq_getElem
def Zp:=@List.append_nil
def Zq:=@List.length_take
def Zr:=@Nat.mul_comm
def Zs:=@List.nil_append
def Zu:=@World.putObj_heap_other
def Zv:=@List.ext_getElem?
def Zx:=@beq_iff_eq
def Zz:=@List.mem_append
def ZA:=@Addr.add_mid
def ZB:=@List.flatten_cons
def ZC:=@List.getElem?_drop
def ZG:=@List.countP_eq_length_filter
def ZH:=@List.take_append_drop
def ZK:=@List.getElem?_replicate
def ZL:=@Nat.lt_of_not_le
def ZM:=@Nat.add_zero
def ZN:=@cell_of_row
def ZO:=@heap_alloc_new
def ZQ:=@Nat.min_eq_left
def ZR:=@List.length_map
def ZT:=@Bool.not_eq_false'
def ZU:=@World.cell?_of_block
def ZV:=@Nat.mul_le_mul_right
def ZX:=@List.getElem?_range
def ZY:=@Nat.add_assoc
def ZZ:=@Nat.lt_irrefl
def Z4:=@Array.getElem?_setIfInBounds_ne
def Z5:=@List.getElem?_append
def Z6:=@Array.ext'
def Z8:=@List.all_cons
def Z9:=@World.block_lt_of_cell?
def qaa:=@List.flatten_append
def qab:=@beq_eq_false_iff_ne
def qad:=@Nat.le_of_not_lt
def qag:=@List.length_pos_of_mem
def qak:=@getD_set_ne
def qal:=@Array.all_eq_true_iff_forall_mem
def qam:=@Sem.run_pure
def qan:=@Nat.lt_succ_self
def qar:=@Array.length_toList
def qas:=@if_true
def qat:=@Array.foldl_toList
def qau:=@mem_ready
def qav:=@Nat.eq_zero_or_pos
def qaw:=@List.mem_replicate
def qax:=@Int.natCast_mul
def qaD:=@Nat.mod_lt
def qaE:=@Nat.beq_eq
def qaK:=@Array.getElem?_append_left
def qaP:=@Int.toNat_of_nonneg
def qaR:=@List.range_succ
def qaU:=@List.mem_map
def qaV:=@Nat.le_of_eq
def qa0:=@List.filter_cons
def qa1:=@List.length_filter_le
def qa4:=@List.mem_filter
def qa5:=@Nat.le_antisymm
def qa6:=@Nat.div_lt_of_lt_mul
def qa7:=@Nat.div_add_mod
def qbc:=@List.drop_append_of_le_length
def qbd:=@List.take_append_of_le_length
def qbe:=@List.drop_drop
def qbk:=@run_storeCells_at
def qbm:=@List.mem_or_eq_of_mem_set
def qbo:=@Nat.add_comm
def qbv:=@List.nodup_cons
def qbw:=@List.foldl_cons
def qbz:=@List.drop_of_length_le
def qbA:=@Nat.one_mul
def qbC:=@List.countP_mono_left
def qbD:=@List.take_zero
def qbH:=@Classical.not_forall
def qbK:=@Oper.semAt_eq
def qbN:=@List.drop_succ_cons
def qbR:=@Bool.true_or
def qbS:=@Int.mul_comm
def qbU:=@grownCap_ge
section
open Go.RowKit
def kK:Obj->Bool
 | .cells ..=>true
 | .map ..=>true
 | _=>false
def fI (B:Nat) (w w':World):Prop:=∀ (k:Nat) (o:Obj),k<B->w.heap[k]? = some o->kK o=true->w'.heap[k]? = some o
theorem fI.eQ {B n:Nat} {w w':World} (h:Below B w w') (hn:n<=B):fI n w w':=fun k _ hk ho _=>(h.block k (YA hk hn)).trans ho
theorem fI.mono {B n:Nat} {w w':World} (h:fI B w w') (hn:n<=B):fI n w w':=fun k o hk=>h k o (YA hk hn)
theorem fI.refl (B:Nat) (w:World):fI B w w:=fun _ _ _ h _=>h
theorem fI.trans {B:Nat} {a b c:World} (h:fI B a b) (k:fI B b c):fI B a c:=fun i o hi ho hd=>k i o hi (h i o hi ho hd) hd
def eO (T:Nat->Prop) (w w':World):Prop:=∀ (k:Nat) (o:Obj),T k->w.heap[k]? = some o->kK o=true->w'.heap[k]? = some o
theorem eO.refl (T:Nat->Prop) (w:World):eO T w w:=fun _ _ _ h _=>h
theorem eO.trans {T:Nat->Prop} {a b c:World} (h:eO T a b) (k:eO T b c):eO T a c:=fun i o hi ho hd=>k i o hi (h i o hi ho hd) hd
theorem eO.sub {T T':Nat->Prop} {a b:World} (h:eO T a b) (hs:∀ k,T' k->T k):eO T' a b:=fun i o hi ho hd=>h i o (hs i hi) ho hd
theorem eO.keeps {T:Nat->Prop} {B:Nat} {a b:World} (h:eO T a b) (hs:∀ k,k<B->T k):fI B a b:=fun i o hi ho hd=>h i o (hs i hi) ho hd
theorem eO.alloc (T:Nat->Prop) (w:World) (o:Obj):eO T w (w.alloc o):=fun k _ _ h _=>(Below.heap_alloc w o k (Yo.1 h).1).trans h
theorem eO.eQ {T:Nat->Prop} {w w':World} (h:Below w.heap.size w w'):eO T w w':=fun k _ _ ho _=>(h.block k (Yo.1 ho).1).trans ho
theorem fI.alloc (B:Nat) (w:World) (o:Obj):fI B w (w.alloc o):=fun k _ _ h _=>(Below.heap_alloc w o k (Yo.1 h).1).trans h
theorem zp {B:Nat} {w w':World} (h:fI B w w') {a:Addr} {v:Value} (hb:a.block<B) (hc:w.cell? a=some v):w'.cell? a=some v:=by
 have hx:∃ o,w.heap[a.block]? = some o/\kK o=true:=by
  unfold World.cell? at hc
  cases ho:w.heap[a.block]? with
  | none=>simp[ho] at hc
  | some o=>cases o<;>simp[ho] at hc<;>exact⟨_,rfl,rfl⟩
 obtain ⟨o,ho,hd⟩:=hx
 rw[<-hc]
 exact ZU ((h _ o hb ho hd).trans ho.symm)
structure Av (α:Type) where
 k:Nat
 rd:Nat->World->List Value->α->Prop
 len:∀ {B:Nat} {w:World} {cs:List Value} {a:α},rd B w cs a->cs.length=k
 mono:∀ {B B':Nat} {w:World} {cs:List Value} {a:α},B<=B'->rd B w cs a->rd B' w cs a
 stab:∀ {B:Nat} {w w':World} {cs:List Value} {a:α},fI B w w'->rd B w cs a->rd B w' cs a
def SE:Av Int:={ k:=1,rd:=fun _ _ cs n=>cs=[.int .i64 n]/\-9223372036854775808<=n/\n<=9223372036854775807,len:=fun h=>by rw[h.1]; rfl,mono:=fun _ h=>h,stab:=fun _ h=>h }
def jT {α:Type} (L:Av α) (B:Nat) (w:World) (b off i:Nat) (x:α):Prop:=
 ∃ vs:List Value,L.rd B w vs x/\∀ j,j<L.k->w.cell? ⟨b,off+i*L.k+j,none⟩=vs[j]?
def fV {α:Type} (L:Av α) (B:Nat) (w:World) (v:Value) (l:List α):Prop:=
 ∃ a cap,v=.slice a l.length cap/\l.length<=cap/\cap<=maxLen/\(0<l.length->∃ b off,a=some ⟨b,off,none⟩/\b<B/\∀ i (h:i<l.length),jT L B w b off i l[i])
theorem jT.mono {α:Type} {L:Av α} {B B':Nat} {w:World} {b off i:Nat} {x:α} (hB:B<=B') (h:jT L B w b off i x):jT L B' w b off i x:=by
 obtain ⟨vs,h1,h2⟩:=h
 exact⟨vs,L.mono hB h1,h2⟩
theorem jT.stab {α:Type} {L:Av α} {B:Nat} {w w':World} {b off i:Nat} {x:α} (hb:b<B) (hw:fI B w w') (h:jT L B w b off i x):jT L B w' b off i x:=by
 obtain ⟨vs,h1,h2⟩:=h
 exact⟨vs,L.stab hw h1,fun j hj=>by
  have hlt:j<vs.length:=by rw[L.len h1]; exact hj
  have h3:=h2 j hj
  rw[Yg hlt] at h3 ⊢
  exact zp hw hb h3⟩
theorem fV.mono {α:Type} {L:Av α} {B B':Nat} {w:World} {v:Value} {l:List α} (hB:B<=B') (h:fV L B w v l):fV L B' w v l:=by
 obtain ⟨a,cap,e,h1,h2,h3⟩:=h
 exact⟨a,cap,e,h1,h2,fun hp=>let ⟨b,off,e',hb,h4⟩:=h3 hp; ⟨b,off,e',YA hb hB,fun i hi=>(h4 i hi).mono hB⟩⟩
theorem fV.stab {α:Type} {L:Av α} {B:Nat} {w w':World} {v:Value} {l:List α} (hw:fI B w w') (h:fV L B w v l):fV L B w' v l:=by
 obtain ⟨a,cap,e,h1,h2,h3⟩:=h
 exact⟨a,cap,e,h1,h2,fun hp=>let ⟨b,off,e',hb,h4⟩:=h3 hp; ⟨b,off,e',hb,fun i hi=>(h4 i hi).stab hb hw⟩⟩
theorem fV.nil {α:Type} (L:Av α) (B:Nat) (w:World):fV L B w (.slice none 0 0) []:=⟨none,0,rfl,Yk _,by simp[maxLen],fun h=>by simp at h⟩
theorem jT.one {α:Type} {L:Av α} {B:Nat} {w:World} {b off i:Nat} {x:α} {v:Value} (h:jT L B w b off i x) (hk:L.k=1) (hv:∀ vs,L.rd B w vs x->vs=[v]):w.cell? ⟨b,off+i,none⟩=some v:=by
 obtain ⟨vs,h1,h2⟩:=h
 have:=h2 0 r7
 rw[hv vs h1,hk] at this
 simpa using this
theorem jT.int {B:Nat} {w:World} {b off i:Nat} {x:Int} (h:jT SE B w b off i x):w.cell? ⟨b,off+i,none⟩=some (.int .i64 x)/\-9223372036854775808<=x/\x<=9223372036854775807:=by
 refine⟨h.one rfl (fun vs hv=>hv.1),?_⟩
 obtain ⟨vs,h1,_⟩:=h
 exact h1.2
end
section
open Go.RowKit
structure cq (B:Nat) (W W':World):Prop where
 os:W'.os=W.os
 tape:W'.tape=W.tape
 output:W'.output=W.output
 size:W.heap.size<=W'.heap.size
 low:∀ (k:Nat),k<B->k<W.heap.size->W'.heap[k]? = W.heap[k]?
 data:∀ (k:Nat) (o:Obj),W.heap[k]? = some o->kK o=true->W'.heap[k]? = some o
theorem cq.refl (B:Nat) (W:World):cq B W W:=⟨rfl,rfl,rfl,Yk _,fun _ _ _=>rfl,fun _ _ h _=>h⟩
theorem cq.trans {B:Nat} {X Y Z:World} (h:cq B X Y) (k:cq B Y Z):cq B X Z:=
 ⟨k.os.trans h.os,k.tape.trans h.tape,k.output.trans h.output,YG h.size k.size,fun i hi hs=>(k.low i hi (YA hs h.size)).trans (h.low i hi hs),fun i o hi ho=>k.data i o (h.data i o hi ho) ho⟩
theorem cq.mono {B B':Nat} {W W':World} (h:cq B W W') (hB:B'<=B):cq B' W W':=⟨h.os,h.tape,h.output,h.size,fun k hk=>h.low k (YA hk hB),h.data⟩
theorem cq.alloc (B:Nat) (W:World) (o:Obj):cq B W (W.alloc o):=
 ⟨rfl,rfl,rfl,r9,fun k _ hs=>Below.heap_alloc W o k hs,fun k _ hk _=>(Below.heap_alloc W o k (Yo.1 hk).1).trans hk⟩
theorem cq.putObj {B:Nat} {W:World} {l:Nat} {o:Obj} (o':Obj) (hB:B<=l) (hl:W.heap[l]? = some o) (ho:kK o=false):cq B W (W.putObj l o'):=
 ⟨rfl,rfl,rfl,r9,fun k hk _=>Zu r7,fun k _ hk hd=>by
  by_cases e:k=l
  ·subst e; rw[hl] at hk; cases hk; rw[ho] at hd; cases hd
  ·exact(Zu e).trans hk⟩
theorem cq.eQ {B:Nat} {W W':World} (h:Below W.heap.size W W'):cq B W W':=
 ⟨h.os,h.tape,h.output,h.size,fun k _ hs=>h.block k hs,fun k _ hk _=>(h.block k (Yo.1 hk).1).trans hk⟩
theorem cq.drew (B:Nat) (W:World):cq B W W.drew:=⟨rfl,rfl,rfl,Yk _,fun _ _ _=>rfl,fun _ _ h _=>h⟩
def Calm (B:Nat) (I:World->Prop):Prop:=∀ W W',I W->cq B W W'->I W'
theorem Calm.and {B:Nat} {I J:World->Prop} (h:Calm B I) (k:Calm B J):Calm B fun W=>I W/\J W:=fun W W' hs hc=>⟨h W W' hs.1 hc,k W W' hs.2 hc⟩
theorem Calm.pure (B:Nat) (p:Prop):Calm B fun _=>p:=fun _ _ h _=>h
theorem Calm.ex {α:Type} {B:Nat} {I:α->World->Prop} (h:∀ x,Calm B (I x)):Calm B fun W=>∃ x,I x W:=fun W W' ⟨x,hx⟩ hc=>⟨x,h x W W' hx hc⟩
theorem Calm.block {B:Nat} (b:Nat) (o:Obj) (hd:kK o=true):Calm B fun W=>W.heap[b]? = some o:=fun _ _ h hc=>hc.data b o h hd
theorem Calm.cell {B:Nat} (a:Addr) (v:Value):Calm B fun W=>W.cell? a=some v:=fun W W' h hc=>by
 have h1:W.cell? a=some v:=h
 obtain ⟨o,ho,hc1⟩:=cells_of_cell h1
 have h2:=hc.data _ _ ho (by cases o<;>first | rfl | (cases hc1))
 show W'.cell? a=some v
 rw[<-h1]
 exact ZU (h2.trans ho.symm)
theorem Calm.below {B n₀:Nat} {w:World} (hn:n₀<=w.heap.size) (hB:n₀<=B):Calm B fun W=>Below n₀ w W:=fun W W' h hc=>
 h.trans ⟨hc.os,hc.tape,hc.output,hc.size,fun k hk=>hc.low k r7 (by have:=h.size; omega)⟩
theorem cq.keeps {B n:Nat} {W W':World} (h:cq B W W'):fI n W W':=fun k o _ hk ho=>h.data k o hk ho
theorem Calm.slice {α:Type} (L:Av α) {B:Nat} (n:Nat) (v:Value) (l:List α):Calm B fun W=>fV L n W v l:=fun _ _ h hc=>h.stab hc.keeps
structure eD (B:Nat) (W W':World):Prop where
 size:W.heap.size<=W'.heap.size
 same:∀ (k:Nat) (o:Obj),B<=k->W.heap[k]? = some o->kK o=false->W'.heap[k]? = some o
theorem eD.refl (B:Nat) (W:World):eD B W W:=⟨Yk _,fun _ _ _ h _=>h⟩
theorem eD.trans {B:Nat} {X Y Z:World} (h:eD B X Y) (k:eD B Y Z):eD B X Z:=⟨YG h.size k.size,fun i o hB hi ho=>k.same i o hB (h.same i o hB hi ho) ho⟩
theorem eD.mono {B B':Nat} {W W':World} (h:eD B W W') (hB:B<=B'):eD B' W W':=⟨h.size,fun k o hk=>h.same k o (YG hB hk)⟩
theorem eD.eQ {B:Nat} {W W':World} (h:Below W.heap.size W W'):eD B W W':=⟨h.size,fun k _ _ hk _=>(h.block k (Yo.1 hk).1).trans hk⟩
theorem eD.alloc (B:Nat) (W:World) (o:Obj):eD B W (W.alloc o):=⟨r9,fun k _ _ hk _=>(Below.heap_alloc W o k (Yo.1 hk).1).trans hk⟩
theorem eD.drew (B:Nat) (W:World):eD B W W.drew:=⟨Yk _,fun _ _ _ h _=>h⟩
theorem eD.grown {B:Nat} {W W':World} {row:Option Nat} (hg:W.grownBy W' row) (hrow:∀ j,row=some j->j<B∨∃ o,W.heap[j]? = some o/\kK o=true):eD B W W':=
 ⟨hg.size,fun k o hB hk ho=>(hg.block k (Yo.1 hk).1 (fun e=>by
  rcases hrow k e.symm with h | ⟨o',h1,h2⟩
  ·omega
  ·rw[hk] at h1; cases h1; rw[ho] at h2; cases h2)).trans hk⟩
def rG (F:Fence):Prop:=F.depth=none/\∀ f,F.fn f
theorem rG.inRound {F:Fence} (h:rG F) (l:Nat):rG (F.inRound l):=h
theorem fI.putObj (B:Nat) {X:World} {l:Nat} {o:Obj} (o':Obj) (hl:X.heap[l]? = some o) (ho:kK o=false):fI B X (X.putObj l o'):=fun k o'' _ hk hd=>by
 by_cases e:k=l
 ·subst e; rw[hl] at hk; cases hk; rw[ho] at hd; cases hd
 ·exact(Zu e).trans hk
theorem eO.putObj (T:Nat->Prop) {X:World} {l:Nat} {o:Obj} (o':Obj) (hl:X.heap[l]? = some o) (ho:kK o=false):eO T X (X.putObj l o'):=fun k o'' _ hk hd=>by
 by_cases e:k=l
 ·subst e; rw[hl] at hk; cases hk; rw[ho] at hd; cases hd
 ·exact(Zu e).trans hk
variable {F:Fence} {n:Nat} {P:Program}
def Marks (B:Nat) (W:World) (ds:List Deferred):Prop:=∃ rs:List Nat,ds=rs.map (fun r=>{ target:=.collected r,args:=#[] })/\rs.Nodup/\∀ r∈rs,B<=r/\W.heap[r]? = some (.deferred (some []))
theorem Marks.nil (B:Nat) (W:World):Marks B W []:=⟨[],rfl,List.nodup_nil,fun _ h=>by cases h⟩
theorem Marks.cons {B D:Nat} {W:World} {ds:List Deferred} (h:Marks B W ds) (hD:B<=D) (hW:W.heap[D]? = some (.deferred (some []))) (hn:∀ r,(⟨.collected r,#[]⟩:Deferred)∈ds->r≠D):Marks B W ({ target:=.collected D,args:=#[] } :: ds):=by
 obtain ⟨rs,rfl,h2,h3⟩:=h
 refine⟨D :: rs,rfl,qbv.2 ⟨fun hm=>hn D (qaU.2 ⟨D,hm,rfl⟩) rfl,h2⟩,fun r hr=>?_⟩
 rcases Y1.1 hr with rfl | hr
 ·exact⟨hD,hW⟩
 ·exact h3 r hr
theorem Marks.lt {B:Nat} {W:World} {ds:List Deferred} (h:Marks B W ds) {r:Nat} (hr:(⟨.collected r,#[]⟩:Deferred)∈ds):r<W.heap.size:=by
 obtain ⟨rs,rfl,h2,h3⟩:=h
 obtain ⟨q,hq,e⟩:=qaU.1 hr
 cases e
 exact(Yo.1 (h3 _ hq).2).1
theorem Marks.kept {B C:Nat} {W W':World} {ds:List Deferred} (h:Marks B W ds) (hk:eD C W W') (hC:C<=B):Marks B W' ds:=by
 obtain ⟨rs,e,h2,h3⟩:=h
 exact⟨rs,e,h2,fun r hr=>⟨(h3 r hr).1,hk.same r _ (YG hC (h3 r hr).1) (h3 r hr).2 rfl⟩⟩
theorem Marks.below {B C:Nat} {W W':World} {ds:List Deferred} (h:Marks B W ds) (hk:Below C W W') (hC:W.heap.size<=C):Marks B W' ds:=by
 obtain ⟨rs,e,h2,h3⟩:=h
 refine⟨rs,e,h2,fun r hr=>⟨(h3 r hr).1,(hk.block r ?_).trans (h3 r hr).2⟩⟩
 have:=(Yo.1 (h3 r hr).2).1
 omega
end
section
def yI (F:Fence) (n:Nat) (P:Program) (o:Oper) (ev:Operand->Value) (w:World) (R:Value->World->Prop):Prop:=
 match (execOp ev o).run P w with
 | .ok (.value v) w'=>R v w'
 | .ok .skip w'=>R undef w'
 | .ok (.enter f args) w'=>CallsIn F (n - 1) P f args w' fun
   | .returned v,w''=>R v w''
   | _,_=>False
 | .ok (.row row args) w'=>RowsIn F (n - 1) P row args w' R
 | .ok (.round l f tmps assign body) w'=>RoundIn F (n - 1) P l f tmps assign body w' fun
   | .returned v,w''=>R v w''
   | _,_=>False
 | _=>False
theorem yI.mono {F:Fence} {n:Nat} {P:Program} {o:Oper} {ev:Operand->Value} {w:World} {R R':Value->World->Prop} (h:yI F n P o ev w R) (hr:∀ v w',R v w'->R' v w'):yI F n P o ev w R':=by
 unfold yI at *
 generalize (execOp ev o).run P w=r at *
 cases r with
 | ok x w'=>
  cases x<;>simp only at h ⊢<;>first
   | exact hr _ _ h
   | exact h.mono fun e w'' he=>by cases e<;>first | exact hr _ _ he | exact he
   | exact h.mono fun v w'' he=>hr _ _ he
 | halt x w'=>exact h
def slot (a:Act) (t:Nat):Value:=a.tmps.getD t undef
def cA (ops:Array Oper) (i:Nat):Option Nat:=(ops[i]?).bind (·.dst)
def fG (ops:Array Oper) (i j:Nat):Bool:=((Region.before ops).getD i 0).testBit j
def mA (o:Oper):Bool:=match o.op with | .select ..=>false | .defer _=>false | _=>true
def tU (ops:Array Oper) (N:Nat):Bool:=
 (List.range ops.size).all fun i=>match ops[i]? with
  | none=>true
  | some o=>mA o&&(match o.dst with | some d=>decide (d<N) | none=>true) &&
   (o.after.all fun e=>!Region.binds .any e || decide (e.on<i)) &&
   ((List.range ops.size).all fun j=>i==j || o.dst.isNone || cA ops j != o.dst) &&
   ((List.range ops.size).all fun j=>match cA ops j with
    | none=>true
    | some t=>!(o.looksAt ops).contains t || i==j || fG ops i j || fG ops j i) &&
   !fG ops i i
def eR (_ops:Array Oper) (listed:Array Bool) (i:Nat):Prop:=listed.getD i false=true
variable {F:Fence} {n:Nat} {P:Program} {ops:Array Oper} {Q:Exit->Act->World->Prop}
inductive n8 (ops:Array Oper):Nat->Nat->Prop
 | edge {i:Nat} {o:Oper} {e:Edge} (ho:ops[i]? = some o) (he:e∈o.after) (hb:Region.binds .any e=true):n8 ops i e.on
 | thru {i j:Nat} {o:Oper} {e:Edge} (ho:ops[i]? = some o) (he:e∈o.after) (hb:Region.binds .any e=true) (h:n8 ops e.on j):n8 ops i j
theorem rU (acc:Array Nat) (hacc:∀ i j,(acc.getD i 0).testBit j=true->n8 ops i j) {i:Nat} {o:Oper} (ho:ops[i]? = some o) :
  ∀ (l:List Edge) (s:Nat),(∀ e∈l,e∈o.after)->(∀ j,s.testBit j=true->n8 ops i j)->∀ j,(l.foldl (fun s e=>if Region.binds .any e then s ||| 2 ^ e.on ||| acc.getD e.on 0 else s) s).testBit j=true->n8 ops i j
 | [],s,_,hs,j,h=>hs j h
 | e :: l,s,hl,hs,j,h=>by
  rw[qbw] at h
  refine rU acc hacc ho l _ (fun e he=>hl e (by simp[he])) (fun j hj=>?_) j h
  split at hj
  ·rename_i hb
   rw[Nat.testBit_or,Nat.testBit_or,Zb,Zb] at hj
   rcases hj with (hj | hj) | hj
   ·exact hs j hj
   ·rw[Nat.testBit_two_pow] at hj
    obtain rfl:e.on=j:=by simpa using hj
    exact .edge ho (hl e r9) hb
   ·exact .thru ho (hl e r9) hb (hacc _ _ hj)
  ·exact hs j hj
theorem fW (i j:Nat) (h:fG ops i j=true):n8 ops i j:=by
 unfold fG Region.before at h
 rw[<-qat] at h
 have key:∀ (l:List Oper) (k:Nat) (acc:Array Nat),(∀ m,l[m]? = ops[k+m]?)->acc.size=k->(∀ i j,(acc.getD i 0).testBit j=true->n8 ops i j) ->
   ∀ i j,((l.foldl (fun acc o=>acc.push (o.after.foldl (fun s e=>if Region.binds .any e then s ||| 2 ^ e.on ||| acc.getD e.on 0 else s) 0)) acc).getD i 0).testBit j=true->n8 ops i j:=by
  intro l
  induction l with
  | nil=>intro k acc _ _ hacc i j h; exact hacc i j h
  | cons o l ih=>
   intro k acc hl hk hacc i j h
   refine ih (k+1) _ (fun m=>by have:=hl (m+1); simpa [ZY,qbo 1 m] using this) (by simp[hk]) (fun i j hij=>?_) i j h
   have ho:ops[k]? = some o:=by simpa using (hl 0).symm
   by_cases e:i=acc.size
   ·subst e
    rw[hk]
    have e2:∀ X:Nat,(acc.push X).getD acc.size 0=X:=fun X=>r9
    rw[e2,<-qat] at hij
    exact rU acc hacc ho _ 0 (fun e he=>Array.mem_toList_iff.1 he) (fun j hj=>by simp at hj) j hij
   ·refine hacc i j ?_
    have:(acc.push (o.after.foldl (fun s e=>if Region.binds .any e then s ||| 2 ^ e.on ||| acc.getD e.on 0 else s) 0)).getD i 0=acc.getD i 0:=by
     simp only[Zj,Array.getElem?_push,Yp e]
    rw[this] at hij; exact hij
 exact key ops.toList 0 #[] r9 rfl (fun i j h=>by simp at h) i j h
theorem lE {listed:Array Bool} (hcl:∀ i o,ops[i]? = some o->eR ops listed i->∀ e∈o.after,Region.binds .any e=true->eR ops listed e.on)
  (i j:Nat) (hi:∃ o,ops[i]? = some o/\∀ e∈o.after,Region.binds .any e=true->eR ops listed e.on) (h:fG ops i j=true):eR ops listed j:=by
 have hw:=fW i j h
 clear h
 induction hw with
 | edge ho he hb=>
  obtain ⟨o',ho',hall⟩:=hi
  rw[ho] at ho'; cases ho'
  exact hall _ he hb
 | thru ho he hb hw ih=>
  obtain ⟨o',ho',hall⟩:=hi
  rw[ho] at ho'; cases ho'
  refine ih ?_
  have hc:=hall _ he hb
  cases hw with
  | edge ho2 _ _=>exact⟨_,ho2,hcl _ _ ho2 hc⟩
  | thru ho2 _ _ _=>exact⟨_,ho2,hcl _ _ ho2 hc⟩
theorem filter_lt {α:Type} (p q:α->Bool):∀ l:List α,(∀ x∈l,q x=true->p x=true)->(∃ x∈l,p x=true/\q x=false)->(l.filter q).length<(l.filter p).length
 | [],_,⟨x,hx,_⟩=>by cases hx
 | y :: l,h,⟨x,hx,hp,hq⟩=>by
  have hle:(l.filter q).length<=(l.filter p).length:=by
   clear hx hp hq
   induction l with
   | nil=>simp
   | cons z l ih=>
    have hz:=h z r9
    have:=ih (fun x hx=>h x (by rcases Y1.1 hx with rfl | hx; simp; simp[hx]))
    simp only[qa0]
    cases hqz:q z<;>cases hpz:p z<;>simp<;>first | omega | skip
    rw[hz hqz] at hpz; cases hpz
  have hy:=h y r9
  simp only[qa0]
  rcases Y1.1 hx with rfl | hx
  ·rw[hp,hq]; simp; omega
  ·have:=filter_lt p q l (fun x hx=>h x (by simp[hx])) ⟨x,hx,hp,hq⟩
   cases hqy:q y<;>cases hpy:p y<;>simp<;>first | omega | skip
   rw[hy hqy] at hpy; cases hpy
def Bq (ops:Array Oper) (listed:Array Bool):Nat:=((List.range ops.size).filter fun i=>!listed.getD i true).length
theorem fz {a:Act} {d:Nat} {v:Value} (h:d<a.tmps.size):slot (a.put (some d) v) d=v:=by
 simp[slot,Act.put,h]
theorem dN {a:Act} {dst:Option Nat} {t:Nat} {v:Value} (h:dst≠some t):slot (a.put dst v) t=slot a t:=by
 cases dst with
 | none=>rfl
 | some d=>
  have hne:d≠t:=fun e=>h (by rw[e])
  simp[slot,Act.put,Z4 hne]
theorem kO (hWF:rG F) {i:Nat} {o:Oper} (ho:ops[i]? = some o) (hp:mA o=true) {a:Act} {w:World} {K:Act->World->Prop} {R:Value->World->Prop}
  (h:if Region.wanted o (yielded ops a.tmps)=true then yI F n P o a.eval w R else R undef w) (hK:∀ v w',R v w'->K (a.put o.dst v) w'):wpOpIn F n P ops Q i K a w:=by
 unfold wpOpIn
 simp only[ho]
 split
 ·rename_i hw
  rw[Yq hw] at h
  refine⟨fun f _=>hWF.2 f,?_⟩
  rw[qbK _ _ _ (fun c hc=>by unfold mA at hp; rw[hc] at hp; cases hp)]
  unfold yI at h
  generalize (execOp a.eval o).run P w=r at *
  have hd:F.depth.isSome=true->1<=n:=fun hs=>by rw[hWF.1] at hs; cases hs
  cases r with
  | ok x w'=>
   cases x<;>simp only[Oper.uponIn] at h ⊢<;>first
    | exact hK _ _ h
    | exact⟨hd,h.mono fun e w'' he=>by cases e<;>first | exact hK _ _ he | exact he.elim⟩
    | exact⟨hd,h.mono fun v w'' he=>hK _ _ he⟩
    | exact h.elim
  | halt x w'=>exact h.elim
 ·rename_i hw
  rw[Yp hw] at h
  exact⟨fun f _=>hWF.2 f,hK _ _ h⟩
def sw (ops:Array Oper) (k:Nat):Array Bool:=((List.range ops.size).map fun i=>decide (i<k)).toArray
def fA (ops:Array Oper) (m:Nat):Bool:=decide (m<=ops.size)&&((List.range ops.size).all fun i=>decide (i<m) || (List.range m).all fun j=>fG ops i j)&&(List.range (ops.size+1)).all fun k=>decide (k<m) || (Region.ready .any ops (sw ops k)==if k<ops.size then [k] else [])
theorem uE {listed:Array Bool} {k:Nat} (hls:listed.size=ops.size) (hc:∀ i,i<ops.size->(eR ops listed i↔i<k)):listed=sw ops k:=by
 refine Array.ext (by simp[sw,hls]) fun i h1 h2=>?_
 have:=hc i r7
 unfold eR at this
 simp only[sw,List.getElem_toArray,List.getElem_map,List.getElem_range]
 have e:listed.getD i false=listed[i]:=by simp[h1]
 rw[e] at this
 cases h:listed[i] with
 | true=>rw[h] at this; simpa using this.1 rfl
 | false=>rw[h] at this; simp at this; simp; exact this
theorem p7 {m:Nat} (ht:fA ops m=true) :
  ∀ (r k:Nat),k+r=ops.size->m<=k->∀ (fuel:Nat) (listed:Array Bool) (a:Act) (w:World),r<=fuel->listed.size=ops.size->(∀ i,i<ops.size->(eR ops listed i↔i<k)) ->
   wpListIn F n P ops Q (ops.toList.drop k) a w->wpAnyIn F n P .any ops Q fuel listed a w:=by
 have hready:∀ k,k<=ops.size->m<=k->Region.ready .any ops (sw ops k)=if k<ops.size then [k] else []:=fun k hk hm=>by
  simp only[fA,Yj] at ht
  have:=Yw.1 ht.2 k (YR.2 r7)
  simp only[Zb,Yn,Zx] at this
  exact this.resolve_left r7
 intro r
 induction r with
 | zero=>
  intro k hk hm fuel listed a w _ hls hc h
  have e:=uE hls hc
  have hr:Region.ready .any ops listed=[]:=by rw[e,hready k r7 hm,Yp r7]
  rw[qbz so] at h
  exact wpAnyIn_done hr h fuel
 | succ r ih=>
  intro k hk hm fuel listed a w hf hls hc h
  have e:=uE hls hc
  have hr:Region.ready .any ops listed=[k]:=by rw[e,hready k r7 hm,Yq r7]
  obtain ⟨fuel,rfl⟩:∃ f,fuel=f+1:=⟨fuel - 1,r7⟩
  have hlt:k<ops.toList.length:=so
  rw[Yt hlt] at h
  have ho:ops[k]? = some ops.toList[k]:=by rw[Array.getElem_toList]; exact Zo _
  refine wpAnyIn_all hr r9 fun i hi=>?_
  obtain rfl:i=k:=by simpa using hi
  unfold wpOpIn
  simp only[ho]
  have next:∀ a w,wpListIn F n P ops Q (ops.toList.drop (i+1)) a w->wpAnyIn F n P .any ops Q fuel (listed.setIfInBounds i true) a w:=fun a w h'=>by
   refine ih (i+1) r7 r7 fuel _ a w r7 (by simpa using hls) (fun j hj=>?_) h'
   by_cases e:j=i
   ·subst e; unfold eR; simp[hls,hj]
   ·have:=hc j hj
    unfold eR at this ⊢
    rw[qak false (Zl e),this]; omega
  unfold wpListIn at h
  split
  ·rename_i hw; rw[Yq hw] at h; exact Oper.wpIn_mono next h
  ·rename_i hw; rw[Yp hw] at h; exact⟨h.1,next _ _ h.2⟩
def LW (F:Fence) (n:Nat) (P:Program) (ops:Array Oper) (Q:Exit->Act->World->Prop) (a:Act) (w:World):Prop:=∀ t,wpOpsIn F n P ops Q (Region.schedule (P.follows .mixedOrders) ops t) a { w with drawn:=w.drawn+1 }
theorem LW.wpIn {id:Nat} {a:Act} {w:World} (h:LW F n P ops Q a w):(Code.region id ops true).wpIn F n P Q a w:=wpIn_region_draw h
theorem Cy {a:Act} {w:World} (hm:P.follows .mixedOrders=true) (h:wpAnyIn F n P .any ops Q ops.size (Array.replicate ops.size false) a { w with drawn:=w.drawn+1 }):LW F n P ops Q a w:=fun t=>by
 simp only[Region.schedule,hm,qbR,qas]
 exact wpAnyIn_sound ops.size t _ a _ h
theorem Ca {a0:Act} {w0:World} (hWF:rG F) (hm:P.follows .mixedOrders=true) (N m:Nat) (hN:a0.tmps.size=N) (jm:tU ops N=true) (chkt:fA ops m=true)
  (S:World->Prop) (Ext:World->World->Prop) (V:Nat->Value->World->Prop) (hV:∀ i v w w',V i v w->Ext w w'->V i v w') (hS:S w0.drew)
  (hstep:∀ i o,i<m->ops[i]? = some o->∀ (a:Act) (w:World),S w ->
   (∀ t∈o.looksAt ops,∀ j,cA ops j=some t->fG ops i j=true->V j (slot a t) w) ->
   (∀ t∈o.looksAt ops,(∀ j,cA ops j=some t->fG ops i j=false)->slot a t=slot a0 t)->a.tmps.size=N ->
   if Region.wanted o (yielded ops a.tmps)=true then yI F n P o a.eval w (fun v w'=>V i v w'/\S w'/\Ext w w') else V i undef w/\S w/\Ext w w)
  (hend:∀ (a:Act) (w:World),S w->a.defers=a0.defers->a.tmps.size=N->(∀ i t,i<m->cA ops i=some t->V i (slot a t) w)->(∀ t,(∀ i,i<m->cA ops i≠some t)->slot a t=slot a0 t) ->
   (∀ i o,i<m->ops[i]? = some o->o.dst=none->∃ v,V i v w)->wpListIn F n P ops Q (ops.toList.drop m) a w) :
  LW F n P ops Q a0 w0:=by
 have chk1:∀ i o,ops[i]? = some o->mA o=true/\(∀ d,o.dst=some d->d<N)/\(∀ e∈o.after,Region.binds .any e=true->e.on<i)/\(∀ j d,i≠j->o.dst=some d->cA ops j≠some d) ∧
   (∀ j t,cA ops j=some t->t∈o.looksAt ops->i=j∨fG ops i j=true∨fG ops j i=true)/\fG ops i i=false:=by
  intro i o ho
  have hi:i<ops.size:=(Yo.1 ho).1
  have h:=Yw.1 jm i (YR.2 hi)
  simp only[ho,Yj] at h
  obtain ⟨⟨⟨⟨⟨h1,h2⟩,h3⟩,h4⟩,h5⟩,h6⟩:=h
  refine⟨h1,fun d hd=>by rw[hd] at h2; simpa using h2,fun e he hb=>?_,fun j d hij hd hj=>?_,fun j t hj ht=>?_,by simpa using h6⟩
  ·have:=qal.1 h3 e he
   rw[hb] at this; simpa using this
  ·have hjs:j<ops.size:=by
    unfold cA at hj
    cases hx:ops[j]? with
    | none=>rw[hx] at hj; cases hj
    | some _=>exact(Yo.1 hx).1
   have:=Yw.1 h4 j (YR.2 hjs)
   rw[hd,hj] at this
   simp at this
   exact hij this
  ·have hjs:j<ops.size:=by
    unfold cA at hj
    cases hx:ops[j]? with
    | none=>rw[hx] at hj; cases hj
    | some _=>exact(Yo.1 hx).1
   have:=Yw.1 h5 j (YR.2 hjs)
   rw[hj] at this
   simp[ht] at this
   rcases this with (h | h) | h
   ·exact .inl h
   ·exact .inr (.inl h)
   ·exact .inr (.inr h)
 have hm2:m<=ops.size:=by simp only[fA,Yj,Yn] at chkt; exact chkt.1.1
 have main:∀ (fuel:Nat) (listed:Array Bool) (a:Act) (w:World),Bq ops listed<=fuel->listed.size=ops.size->S w->a.defers=a0.defers->a.tmps.size=N ->
   (∀ i o,ops[i]? = some o->eR ops listed i->∀ e∈o.after,Region.binds .any e=true->eR ops listed e.on)->(∀ i,m<=i->i<ops.size->¬ eR ops listed i) ->
   (∀ i t,i<m->cA ops i=some t->eR ops listed i->V i (slot a t) w)->(∀ t,(∀ i,i<m->cA ops i=some t->¬ eR ops listed i)->slot a t=slot a0 t) ->
   (∀ i o,i<m->ops[i]? = some o->o.dst=none->eR ops listed i->∃ v,V i v w)->wpAnyIn F n P .any ops Q fuel listed a w:=by
  have getD_eq:∀ (listed:Array Bool) (i:Nat),i<listed.size->listed.getD i true=listed.getD i false:=fun listed i hi=>by simp[hi]
  intro fuel
  induction fuel with
  | zero=>
   intro listed a w hu hls hSw hdf hsz hcl hnt hv hno hns
   have all:∀ i,i<ops.size->eR ops listed i:=fun i hi=>by
    cases hc:listed.getD i false with
    | true=>exact hc
    | false=>
     have hmem:i∈(List.range ops.size).filter (fun i=>!listed.getD i true):=qa4.2 ⟨YR.2 hi,by rw[getD_eq _ _ r7,hc]; rfl⟩
     have:=qag hmem
     unfold Bq at hu; omega
   have hmm:m=ops.size:=qa5 hm2 (qad fun h=>hnt m (Yk _) h (all m h))
   exact p7 chkt 0 ops.size r7 hm2 0 listed a w (Yk _) hls (fun i hi=>⟨fun _=>hi,fun _=>all i hi⟩)
    (by rw[<-hmm]; exact hend a w hSw hdf hsz (fun i t hi h=>hv i t hi h (all i r7)) (fun t h=>hno t (fun i hi hi2=>absurd hi2 (h i hi))) (fun i o hi ho hd=>hns i o hi ho hd (all i r7)))
  | succ fuel ih=>
   intro listed a w hu hls hSw hdf hsz hcl hnt hv hno hns
   by_cases hall:∀ i,i<m->eR ops listed i
   ·refine p7 chkt (ops.size - m) m r7 (Yk _) (fuel+1) listed a w ?_ hls (fun i hi=>⟨fun h=>ZL fun hle=>hnt i hle hi h,fun h=>hall i h⟩)
     (hend a w hSw hdf hsz (fun i t hi h=>hv i t hi h (hall i hi)) (fun t h=>hno t (fun i hi hi2=>absurd hi2 (h i hi))) (fun i o hi ho hd=>hns i o hi ho hd (hall i hi)))
    refine YG ?_ hu
    unfold Bq
    have:((List.range ops.size).filter fun i=>decide (m<=i)).length=ops.size - m:=by
     rw[<-ZG]
     have:∀ s,(List.range s).countP (fun i=>decide (m<=i))=s - m:=by
      intro s
      induction s with
      | zero=>simp
      | succ s ih=>rw[qaR,List.countP_append,ih]; simp[List.countP_cons]; split<;>omega
     exact this _
    rw[<-this]
    rw[<-ZG,<-ZG]
    refine qbC fun i hi h=>?_
    have hi:=YR.1 hi
    have hn:=hnt i (by simpa using h) hi
    unfold eR at hn
    rw[getD_eq _ _ r7]
    simpa using hn
   ·simp only[qbH] at hall
    obtain ⟨i0,hi0,hni0⟩:=hall
    refine⟨fun hrd=>?_,fun i hi=>?_⟩
    ·exfalso
     have:∀ i,i<m->eR ops listed i:=by
      intro i
      induction i using Nat.strongRecOn with
      | _ i ih2=>
       intro hi
       cases hc:listed.getD i false with
       | true=>exact hc
       | false=>
        have:i∈Region.ready .any ops listed:=by
         refine qau.2 ⟨by rw[getD_eq _ _ r7]; exact hc,_,Zo r7,fun e he hb=>?_⟩
         have hlt:=(chk1 i _ (Zo r7)).2.2.1 e he hb
         exact ih2 e.on hlt r7
        rw[hrd] at this; cases this
     exact hni0 (this i0 hi0)
    obtain ⟨hun,o,ho,hall⟩:=qau.1 hi
    have his:i<ops.size:=(Yo.1 ho).1
    have him:i<m:=ZL fun hle=>by
     simp only[fA,Yj] at chkt
     have h1:=Yw.1 chkt.1.2 i (YR.2 his)
     simp only[Zb,Yn] at h1
     have h2:=Yw.1 (h1.resolve_left r7) i0 (YR.2 hi0)
     exact hni0 (lE hcl i i0 ⟨o,ho,hall⟩ h2)
    obtain ⟨c1,c2,c3,c4,c5,c6⟩:=chk1 i o ho
    have hnot:¬ eR ops listed i:=by unfold eR; rw[<-getD_eq _ _ r7,hun]; simp
    have hdst:∀ t,o.dst=some t->cA ops i=some t:=fun t h=>by unfold cA; rw[ho]; exact h
    refine kO hWF ho c1 (hstep i o him ho a w hSw (fun t ht j hj hb=>?_) (fun t ht hj=>hno t fun j hjm hjt hcj=>?_) hsz) ?_
    ·have hcj:=lE hcl i j ⟨o,ho,hall⟩ hb
     have hjs:j<ops.size:=by
      unfold cA at hj
      cases hx:ops[j]? with
      | none=>rw[hx] at hj; cases hj
      | some _=>exact(Yo.1 hx).1
     exact hv j t (ZL fun hle=>hnt j hle hjs hcj) hj hcj
    ·rcases c5 j t hjt ht with rfl | h | h
     ·exact hnot hcj
     ·rw[hj j hjt] at h; cases h
     ·cases hoj:ops[j]? with
      | none=>unfold cA at hjt; rw[hoj] at hjt; cases hjt
      | some oj=>exact hnot (lE hcl j i ⟨oj,hoj,hcl j oj hoj hcj⟩ h)
    ·rintro v w' ⟨hv1,hS1,hE1⟩
     have come_set:∀ k,eR ops (listed.setIfInBounds i true) k↔k=i∨eR ops listed k:=fun k=>by
      unfold eR
      by_cases e:k=i
      ·subst e; simp[hls,his]
      ·rw[qak false (Zl e)]; simp[e]
     refine ih _ _ _ ?_ (by simpa using hls) hS1 ?_ ?_ ?_ ?_ ?_ ?_ ?_
     ·have:=filter_lt (fun k=>!listed.getD k true) (fun k=>!(listed.setIfInBounds i true).getD k true) (List.range ops.size) (fun x hx hq=>by
       by_cases e:i=x
       ·subst e; rw[hun]; rfl
       ·rw[qak true e] at hq; exact hq) ⟨i,YR.2 his,by rw[hun]; rfl,by simp[hls,his]⟩
      unfold Bq at *; omega
     ·cases hd:o.dst<;>simp[Act.put,hdf]
     ·cases hd:o.dst<;>simp[Act.put,hsz]
     ·intro k ok hok hk e he hb
      rw[come_set]
      rcases (come_set k).1 hk with rfl | hk
      ·rw[ho] at hok; cases hok
       exact .inr (hall e he hb)
      ·exact .inr (hcl k ok hok hk e he hb)
     ·intro k hk hks hc
      rcases (come_set k).1 hc with rfl | hc
      ·omega
      ·exact hnt k hk hks hc
     ·intro k t hkm hkt hk
      rcases (come_set k).1 hk with rfl | hk
      ·have hd:o.dst=some t:=by unfold cA at hkt; rw[ho] at hkt; exact hkt
       rw[hd,fz (by rw[hsz]; exact c2 t hd)]
       exact hv1
      ·have hne:k≠i:=fun e=>hnot (e ▸ hk)
       rw[dN (fun hd=>c4 k t (Zl hne) hd hkt)]
       exact hV k _ _ _ (hv k t hkm hkt hk) hE1
     ·intro t ht
      rw[dN (fun hd=>ht i him (hdst t hd) ((come_set i).2 (.inl rfl)))]
      exact hno t fun k hkm hk hck=>ht k hkm hk ((come_set k).2 (.inr hck))
     ·intro k ok hkm hok hd hk
      rcases (come_set k).1 hk with rfl | hk
      ·exact⟨v,hv1⟩
      ·obtain ⟨u,hu⟩:=hns k ok hkm hok hd hk
       exact⟨u,hV k _ _ _ hu hE1⟩
 have h0:∀ i,¬ eR ops (Array.replicate ops.size false) i:=fun i hc=>by
  unfold eR at hc
  by_cases h:i<ops.size<;>simp[Array.getD,h] at hc
 refine Cy hm (main _ _ _ _ ?_ r9 hS rfl hN ?_ ?_ ?_ ?_ ?_)
 ·unfold Bq
  exact YG (qa1 _ _) r9
 ·intro i o _ hc; exact absurd hc (h0 i)
 ·intro i _ _ hc; exact h0 i hc
 ·intro i t _ _ hc; exact absurd hc (h0 i)
 ·intro t _; rfl
 ·intro i o _ _ _ hc; exact absurd hc (h0 i)
end
section
open Go.RowKit
def gT {α:Type} (L:Av α) (e:TypeId) (base B:Nat) (w:World) (v:Value) (l:List α):Prop:=
 ∃ xs,w.ownsRow base e L.k v l.length xs/\∀ i (h:i<l.length),∃ vs,L.rd B w vs l[i]/\∀ j,j<L.k->xs[i*L.k+j]? = vs[j]?
variable {α:Type} {L:Av α} {e:TypeId} {base B:Nat} {w:World} {v:Value} {l:List α}
theorem gT.nil (L:Av α) (e:TypeId) (base B:Nat) (w:World):gT L e base B w (.slice none 0 0) []:=
 ⟨[],World.ownsRow_nil w base e L.k,fun i h=>by simp at h⟩
theorem gT.made (L:Av α) (e:TypeId) (base B:Nat) (w:World) (cur:Array Value) (cap:Nat) (hb:base<=w.heap.size) (hm:cap<=maxLen) (hs:cur.size=cap*L.k) :
  gT L e base B (w.alloc (.cells cur e)) (.slice (some ⟨w.heap.size,0,none⟩) 0 cap) []:=
 ⟨[],World.ownsRow_made w cur cap hb hm hs,fun i h=>by simp at h⟩
theorem gT.kept {w':World} (h:gT L e base B w v l) (hb:Below w.heap.size w w') (hB:B<=w.heap.size):gT L e base B w' v l:=by
 obtain ⟨xs,h1,h2⟩:=h
 refine⟨xs,h1.kept (row:=none) ⟨hb.os,hb.tape,hb.output,hb.size,fun k hk _=>hb.block k hk⟩ (by cases v.ownBlock<;>simp),fun i hi=>?_⟩
 obtain ⟨vs,h3,h4⟩:=h2 i hi
 exact⟨vs,L.stab (fI.eQ hb hB) h3,h4⟩
theorem gT.other {w':World} {row:Option Nat} (h:gT L e base B w v l) (hg:w.grownBy w' row) (hB:B<=w.heap.size) (hr:∀ k,row=some k->B<=k) (hne:v.ownBlock=none∨v.ownBlock≠row):gT L e base B w' v l:=by
 obtain ⟨xs,h1,h2⟩:=h
 refine⟨xs,h1.kept hg hne,fun i hi=>?_⟩
 obtain ⟨vs,h3,h4⟩:=h2 i hi
 exact⟨vs,L.stab (fI.eQ ((Below.refl _ _).grown hg hB hr) (Yk _)) h3,h4⟩
theorem gT.alloc (h:gT L e base B w v l) (hB:B<=w.heap.size) (o:Obj):gT L e base B (w.alloc o) v l:=
 h.kept ((Below.refl _ _).alloc (Yk _) _) hB
theorem gT.drew (h:gT L e base B w v l) (hB:B<=w.heap.size):gT L e base B w.drew v l:=
 h.kept (Below.refl _ _).drew hB
theorem gT.lt (h:gT L e base B w v l):∀ k,v.ownBlock=some k->base<=k/\k<w.heap.size:=let ⟨_,h1,_⟩:=h; h1.lt
theorem w9 (b off j:Nat):(⟨b,off,none⟩:Addr).add j=⟨b,off+j,none⟩:=by unfold Addr.add; split<;>simp_all
theorem gT.slice (h:gT L e base B w v l) {B':Nat} (hB:B<=B') (hw:w.heap.size<=B'):fV L B' w v l:=by
 obtain ⟨xs,h1,h2⟩:=h
 have hlt:=h1.lt
 have hcs:=fun g hg=>h1.cells (g:=g) hg
 obtain ⟨hl,h3⟩:=h1
 rcases h3 with ⟨rfl,hn⟩ | ⟨g,cap,cur,rfl,hb,hg,hc,hm,hs,ht⟩
 ·obtain rfl:l=[]:=YI hn
  exact fV.nil _ _ _
 ·refine⟨_,cap,rfl,hc,hm,fun _=>⟨g,0,rfl,YA (hlt g rfl).2 hw,fun i hi=>?_⟩⟩
  obtain ⟨vs,h4,h5⟩:=h2 i hi
  refine⟨vs,L.mono hB h4,fun j hj=>?_⟩
  have hlv:j<vs.length:=by rw[L.len h4]; exact hj
  rw[<-h5 j hj]
  have h6:=h5 j hj
  rw[Yg hlv] at h6
  have:=hcs g rfl _ _ h6
  rw[w9,Y9] at this
  rw[Y9,this,h6]
theorem fV.cells {B':Nat} {x:Value} {ys:List α} (hone:∀ vs y,L.rd B' w vs y->∀ u∈vs,u.oneCell'=true) (hk:0<L.k) (hx:fV L B' w x ys) (hp:0<ys.length) :
  ∃ (ad:Addr) (c:Nat) (news:List Value),x=.slice (some ad) ys.length c/\news.length=ys.length*L.k/\(∀ j u,news[j]? = some u->w.cell? (ad.add j)=some u)/\(∀ u∈news,u.oneCell'=true) ∧
   ∀ i (h:i<ys.length),∃ vs,L.rd B' w vs ys[i]/\∀ j,j<L.k->news[i*L.k+j]? = vs[j]?:=by
 obtain ⟨a,cap,rfl,hc,hm,h3⟩:=hx
 obtain ⟨b,off,rfl,hb,h4⟩:=h3 hp
 have key:∀ t,t<ys.length*L.k->∃ u,w.cell? ⟨b,off+t,none⟩=some u/\u.oneCell'=true:=fun t ht=>by
  have hi:t / L.k<ys.length:=qa6 (by rw[Zr]; exact ht)
  have hj:=qaD t hk
  obtain ⟨vs,h5,h6⟩:=h4 _ hi
  have hlv:t % L.k<vs.length:=by rw[L.len h5]; exact hj
  have h7:=h6 _ hj
  rw[Yg hlv] at h7
  have e1:off+t / L.k*L.k+t % L.k=off+t:=by have:=qa7 t L.k; rw[Zr] at this; omega
  rw[e1] at h7
  exact⟨_,h7,hone _ _ h5 _ (YH _)⟩
 have at_:∀ j,j<ys.length*L.k->((List.range (ys.length*L.k)).map fun t=>(w.cell? ⟨b,off+t,none⟩).getD undef)[j]? = w.cell? ⟨b,off+j,none⟩:=fun j hj=>by
  obtain ⟨u,h5,_⟩:=key j hj
  rw[YJ,ZX hj,Y6,h5]
  rfl
 refine⟨_,cap,(List.range (ys.length*L.k)).map fun t=>(w.cell? ⟨b,off+t,none⟩).getD undef,rfl,r9,fun j u hu=>?_,fun u hu=>?_,fun i hi=>?_⟩
 ·have hj:j<ys.length*L.k:=by have:=(Ym.1 hu).1; simpa using this
  rw[at_ j hj] at hu
  rw[w9]; exact hu
 ·obtain ⟨t,ht,rfl⟩:=qaU.1 hu
  obtain ⟨u,h5,h6⟩:=key t (YR.1 ht)
  rw[h5]; exact h6
 ·obtain ⟨vs,h5,h6⟩:=h4 i hi
  refine⟨vs,h5,fun j hj=>?_⟩
  have:i*L.k+j<ys.length*L.k:=by
   have:=ZV L.k (show i+1<=ys.length from hi)
   rw[Zi] at this; omega
  rw[at_ _ this,<-h6 j hj,ZY]
end
inductive A where
 | any
 | v (x:Value)
 | ptr (b o:Nat)
 | ep (b i o:Nat)
 | ip (cs:List A)
 | imm (els:List (List A)) (clip:Bool)
 | sl (b o n:Nat) (clip:Bool)
 | agg (cs:List A)
 | tup (cs:List A)
 | fn (f:Fn) (first cap:List A)
 | ifc (t:TypeId) (x:A)
 | yld (b:Nat)
 | nq (els:List (List A))
 | mr (b:Nat)
 | mv (k:IntKind) (ks:List Int) (vs:List A)
 deriving Inhabited
inductive It where
 | exit (id:Nat)
 | goto (l:Nat)
 | ret
inductive jW where
 | ready
 | busy
 | done (j:It)
inductive aC where
 | box (cs:List A)
 | row (wr:Bool) (es:Nat) (els:List (List A))
 | rng (st:jW)
 | dead
 | hole
 | mp (k:IntKind) (ks:List Int) (vs:List A)
 deriving Inhabited
abbrev aB:=List aC
inductive E where
 | normal
 | exit (id:Nat)
 | goto (l:Nat)
 | ret
 | pan (v:A)
inductive Out where
 | ret (a:A)
 | pan (a:A)
abbrev R:=Out×aB
structure St where
 fr:List (Nat×A)
 H:aB
structure Cx where
 P:Program
 glob:Nat->Option (List Value)
 isOrc:Nat->Bool
 isOrcV:Nat->Bool
 C:Nat->List A->Option A
 keep:Nat->Nat->List Nat
 wrAt:Nat->Nat->Bool
 acts:Nat->Nat->List (Nat×Nat×Nat)
 loud:Nat->Nat->Bool
 arr:Nat->Nat->Bool
 join:Nat->Nat->List Nat:=fun _ _=>[]
 cut:Nat->Nat:=fun _=>0
 fre:Nat->Bool:=fun _=>false
 deep:Nat->Bool:=fun _=>false
def wb (f r:Nat):List ((Nat×Nat)×List Nat)->List Nat
 | []=>[]
 | p :: l=>bif Nat.beq p.1.1 f then bif Nat.beq p.1.2 r then p.2 else wb f r l else wb f r l
def DD (f r:Nat):List ((Nat×Nat)×List (Nat×Nat×Nat))->List (Nat×Nat×Nat)
 | []=>[]
 | p :: l=>bif Nat.beq p.1.1 f then bif Nat.beq p.1.2 r then p.2 else DD f r l else DD f r l
def I2 (k:Nat):List (Nat×Nat)->Nat
 | []=>0
 | p :: l=>bif Nat.beq p.1 k then p.2 else I2 k l
def xR (f r:Nat):List (Nat×Nat)->Bool
 | []=>false
 | p :: l=>bif Nat.beq p.1 f&&Nat.beq p.2 r then true else xR f r l
def EP (k:Nat):List Nat->Bool
 | []=>true
 | x :: l=>bif Nat.beq x k then false else EP k l
def look:List (Nat×A)->Nat->A
 | [],_=>.any
 | (s,a) :: r,t=>bif Nat.beq s t then a else look r t
def St.put (s:St) (dst:Option Nat) (a:A):St:=match dst with | some d=>{ s with fr:=(d,a) :: s.fr } | none=>s
def cP {α:Type} (P:Program):Sem α->Option α
 | .pure a=>some a
 | .program k=>cP P (k P)
 | .mark _ k=>cP P k
 | _=>none
mutual
def A.qO:A->Option Value
 | .v x=>some x
 | .agg cs=>(Ce cs).map fun l=>.agg l.toArray
 | .ifc t x=>(A.qO x).map (.iface t)
 | .fn (.func f) [] []=>some (.func (.func f) #[] #[])
 | _=>none
def Ce:List A->Option (List Value)
 | []=>some []
 | a :: as=>(A.qO a).bind fun x=>(Ce as).map (x :: ·)
end
def zY:Value->A
 | .slice none 0 0=>.imm [] true
 | x=>.v x
def tR:Value->A
 | .agg cs=>.agg (cs.toList.map zY)
 | x=>zY x
def mw (P:Program) (t:TypeId):Bool:=match P.underlying t with | some (.struct _) | some (.array _ _)=>true | _=>false
def cM (P:Program) (t:TypeId):Option Nat:=(P.underlying t).bind fun _=>(P.info? t).map (·.size)
def jY (P:Program) (t:TypeId):Option Nat:=(P.info? t).map (·.bytes)
def hU (P:Program) (t:TypeId):Option (List A):=(P.info? t).bind fun i=>i.zero.map fun z=>z.cells.toList.map zY
def j0 (P:Program) (t:TypeId):Option TypeId:=match P.underlying t with | some (.slice e)=>some e | _=>none
def A.cell:A->Bool
 | .any | .agg _ | .tup _ | .nq _=>false
 | .v x=>x.oneCell'
 | _=>true
def A.cells?:A->Option (List A)
 | .agg cs=>bif cs.all A.cell then some cs else none
 | .v x=>bif x.oneCell' then some [.v x] else none
 | .any | .tup _ | .nq _=>none
 | a=>some [a]
def join (P:Program) (t:TypeId) (cs:List A):Option A:=bif mw P t then some (.agg cs) else match cs with | [c]=>some c | _=>none
def chunk {α:Type} (es:Nat):Nat->List α->List (List α)
 | 0,_=>[]
 | q+1,xs=>xs.take es :: chunk es q (xs.drop es)
def lC (P:Program) (t:TypeId) (a:A) (H:aB):Option A:=
 (cM P t).bind fun n=>bif n==0 then none else
 match a with
 | .ptr b o=>match H[b]? with
  | some (.box cs)=>bif decide (o+n<=cs.length) then join P t ((cs.drop o).take n) else none
  | _=>none
 | .ep b i o=>match H[b]? with
  | some (.row true _ els)=>match els[i]? with
   | some cs=>bif decide (o+n<=cs.length) then join P t ((cs.drop o).take n) else
    bif Nat.beq o 0&&Nat.beq ((els.drop i).take (n / cs.length)).flatten.length n then join P t ((els.drop i).take (n / cs.length)).flatten else none
   | none=>none
  | _=>none
 | .ip cs=>bif decide (n<=cs.length) then join P t (cs.take n) else none
 | _=>none
def bB {α:Type} (cs:List α) (o:Nat) (xs:List α):List α:=cs.take o++xs++cs.drop (o+xs.length)
def jz (P:Program) (t:TypeId) (a x:A) (H:aB) (lo:Nat):Option aB:=
 (cM P t).bind fun n=>x.cells?.bind fun xs=>bif n==0 || !(xs.length==n) then none else
 match a with
 | .ptr b o=>match H[b]? with
  | some (.box cs)=>bif decide (lo<=b)&&decide (o+n<=cs.length) then some (H.set b (.box (bB cs o xs))) else none
  | _=>none
 | .ep b i o=>match H[b]? with
  | some (.row true es els)=>match els[i]? with
   | some cs=>bif decide (lo<=b)&&decide (o+n<=cs.length) then some (H.set b (.row true es (els.set i (bB cs o xs)))) else
    bif decide (lo<=b)&&Nat.beq o 0&&Nat.beq (n / es*es) n&&decide (i+n / es<=els.length) then some (H.set b (.row true es (bB els i (chunk es (n / es) xs)))) else none
   | none=>none
  | _=>none
 | _=>none
def mf (P:Program) (t:TypeId) (H:aB):Option (A×aB):=(hU P t).map fun cs=>(.ptr H.length 0,H++[.box cs])
def yZ (x:A) (H:aB):Option (A×aB):=x.cells?.map fun cs=>(.ptr H.length 0,H++[.box cs])
def rowOf (P:Program) (t:TypeId) (cs:List A) (H:aB):Option (A×aB):=match P.underlying t with
 | some (.array n e)=>(cM P e).bind fun es=>bif Nat.beq es 0 || Nat.beq n 0 || !Nat.beq cs.length (n*es) then none else some (.ep H.length 0 0,H++[.row true es (chunk es n cs)])
 | _=>none
def ku (P:Program) (t:TypeId) (H:aB):Option (A×aB):=(hU P t).bind fun cs=>rowOf P t cs H
def uk (P:Program) (t:TypeId) (x:A) (H:aB):Option (A×aB):=x.cells?.bind fun cs=>rowOf P t cs H
def oE (b:Bool) (P:Program) (t:TypeId) (H:aB):Option (A×aB):=bif b then ku P t H else mf P t H
def zk (b:Bool) (P:Program) (t:TypeId) (x:A) (H:aB):Option (A×aB):=bif b then uk P t x H else yZ x H
def rep (c:Bool):Operand:=if c then .const .nilIface else .tmp 0
def Lx:Operand->Bool | .const _=>true | _=>false
def sc (P:Program) (q:TypeId->Value->Value->Option Bool) (xs ys:Array Value):List Field->Option Bool
 | []=>some true
 | [f]=>bif f.name == "_" then some true else (cP P (part f.type xs f.offset)).bind fun a=>(cP P (part f.type ys f.offset)).bind fun b=>q f.type a b
 | f :: fs=>bif f.name == "_" then sc P q xs ys fs else (cP P (part f.type xs f.offset)).bind fun a=>(cP P (part f.type ys f.offset)).bind fun b=>(q f.type a b).bind fun r=>(sc P q xs ys fs).map fun r'=>r&&r'
def uv (P:Program) (q:TypeId->Value->Value->Option Bool) (e:TypeId) (c:Nat) (xs ys:Array Value):List Nat->Option Bool
 | []=>some true
 | [i]=>(cP P (part e xs (i*c))).bind fun a=>(cP P (part e ys (i*c))).bind fun b=>q e a b
 | i :: is=>(cP P (part e xs (i*c))).bind fun a=>(cP P (part e ys (i*c))).bind fun b=>(q e a b).bind fun r=>(uv P q e c xs ys is).map fun r'=>r&&r'
def MU (P:Program):Nat->TypeId->Value->Value->Option Bool
 | 0,_,_,_=>none
 | d+1,t,x,y=>match P.underlying t,x,y with
  | some (.int _),.int k a,.int k' b=>bif decide (k=k') then some (a==b) else none
  | some .bool,.bool a,.bool b=>some (a==b)
  | some .string,.string a,.string b=>some (a==b)
  | some (.struct _),.agg xs,.agg ys=>bif P.stoodInHeld t then none else sc P (MU P d) xs ys (P.fieldsOf t).toList
  | some (.array n e),.agg xs,.agg ys=>(P.info? e).bind fun _=>uv P (MU P d) e (P.cellsOf e) xs ys (List.range n)
  | _,_,_=>none
def ux (P:Program) (t:TypeId) (x y:A):Option Bool:=bif P.eqGuardType P.depth t then none else x.qO.bind fun a=>y.qO.bind fun b=>MU P 20 t a b
def km (P:Program) (op:BinOp) (t:TypeId) (c d:Bool) (x y:A):Option A:=
 match op,x,y with
 | .eql,.agg _,.agg _=>(ux P t x y).map fun r=>.v (.bool r)
 | .neq,.agg _,.agg _=>(ux P t x y).map fun r=>.v (.bool (!r))
 | _,_,_=>x.qO.bind fun a=>y.qO.bind fun b=>(cP P (do eqGuard op t (rep c) (rep d) a b; binOp op t a b)).map tR
def iC (P:Program) (op:UnOp) (x:A):Option A:=x.qO.bind fun a=>(cP P (Op.unary op a)).map tR
def AE (mn:Bool) (x y:A):Option A:=match x,y with
 | .v (.int k a),.v (.int l b)=>bif k==l then some (.v (.int k (if mn then (if b<a then b else a) else (if a<b then b else a)))) else none
 | _,_=>none
def Fy (mn:Bool):A->List A->Option A
 | x,[]=>some x
 | x,y :: r=>(AE mn x y).bind fun z=>Fy mn z r
def wc (P:Program) (t:TypeId):Option (IntKind×TypeId):=match P.underlying t with
 | some (.map kt vt)=>match P.underlying kt with | some (.int k)=>some (k,vt) | _=>none
 | _=>none
def keyOf (k:IntKind):A->Option Int
 | .v (.int j n)=>bif decide (j=k) then some n else none
 | _=>none
def mh (a:Int):List Int->List A->Option A
 | x :: ks,v :: vs=>bif decide (a=x) then some v else mh a ks vs
 | _,_=>none
def wx (a:Int) (y:A):List Int->List A->List Int×List A
 | x :: ks,v :: vs=>bif decide (a=x) then (x :: ks,y :: vs) else (x :: (wx a y ks vs).1,v :: (wx a y ks vs).2)
 | _,_=>([a],[y])
def pC (P:Program) (t:TypeId) (H:aB):Option (A×aB):=(wc P t).map fun p=>(.mr H.length,H++[.mp p.1 [] []])
def iZ (P:Program) (t:TypeId) (m i x:A) (H:aB) (lo:Nat):Option aB:=(wc P t).bind fun p=>(keyOf p.1 i).bind fun a=>match m with
 | .mr b=>match H[b]? with
  | some (.mp k ks vs)=>bif decide (lo<=b)&&decide (k=p.1) then some (H.set b (.mp k (wx a x ks vs).1 (wx a x ks vs).2)) else none
  | _=>none
 | _=>none
def Lz (P:Program) (vt:TypeId) (c:Bool) (r:Option A):Option A:=match r with
 | some y=>some (bif c then .tup [y,.v (.bool true)] else y)
 | none=>(P.info? vt).bind fun i=>i.zero.map fun z=>bif c then .tup [tR z,.v (.bool false)] else tR z
def fp (P:Program) (t:TypeId) (m i:A) (c:Bool) (H:aB):Option A:=(wc P t).bind fun p=>(keyOf p.1 i).bind fun a=>match m with
 | .mv k ks vs=>bif decide (k=p.1) then Lz P p.2 c (mh a ks vs) else none
 | .mr b=>match H[b]? with
  | some (.mp k ks vs)=>bif decide (k=p.1) then Lz P p.2 c (mh a ks vs) else none
  | _=>none
 | _=>none
def m9 (x:A) (i:Nat):Option A:=match x with | .tup cs=>cs[i]? | _=>none
def zd (P:Program) (t:TypeId) (x:A) (i:Nat):Option A:=
 match P.underlying t,x with
 | some (.struct fs),.agg cs=>fs[i]?.bind fun f=>(cM P f.type).bind fun n=>bif decide (f.offset+n<=cs.length) then join P f.type ((cs.drop f.offset).take n) else none
 | _,_=>none
def idx:A->Option Nat
 | .v (.int _ n)=>bif decide (0<=n) then some n.toNat else none
 | _=>none
def zf (P:Program) (t:TypeId) (x i:A):Option A:=
 (idx i).bind fun j=>
 match P.underlying t,x with
 | some (.array len e),.agg cs=>(cM P e).bind fun n=>bif decide (j<len)&&decide (j*n+n<=cs.length) then join P e ((cs.drop (j*n)).take n) else none
 | some .string,.v (.string s)=>s[j]?.map fun b=>.v (.int .u8 b.toNat)
 | _,_=>none
def gh (H:aB):A->Bool
 | .ptr b _=>match H[b]? with | some (.box _)=>true | _=>false
 | .ep b _ _=>match H[b]? with | some (.row true _ _)=>true | _=>false
 | .sl b _ _ _=>match H[b]? with | some (.row ..)=>true | _=>false
 | .mr b=>match H[b]? with | some (.mp ..)=>true | _=>false
 | _=>true
def fK (P:Program) (t:TypeId) (x:A) (i:Nat) (H:aB):Option A:=
 bif gh H x then
 match P.underlying t with
 | some (.struct fs)=>fs[i]?.bind fun f=>(cM P f.type).bind fun n=>bif n==0 then none else
  match x with
  | .ptr b o=>some (.ptr b (o+f.offset))
  | .ep b j o=>some (.ep b j (o+f.offset))
  | .ip cs=>some (.ip (cs.drop f.offset))
  | _=>none
 | _=>none
 else none
def c9 (P:Program) (t:TypeId) (x i:A) (H:aB):Option A:=
 (idx i).bind fun j=>bif gh H x then
 match P.underlying t with
 | some (.slice e)=>(cM P e).bind fun n=>match x with
  | .imm els _=>els[j]?.bind fun cs=>bif cs.length==n then some (.ip cs) else none
  | .sl b o m _=>bif decide (j<m) then match H[b]? with
   | some (.row true es _)=>bif es==n then some (.ep b (o+j) 0) else none
   | some (.row false es els)=>bif es==n then els[o+j]?.map .ip else none
   | _=>none else none
  | _=>none
 | some (.array len e)=>(cM P e).bind fun n=>bif !decide (j<len) then none else match x with
  | .ptr b o=>some (.ptr b (o+j*n))
  | .ep b k o=>match H[b]? with
   | some (.row _ es els)=>bif Nat.beq es n&&Nat.beq o 0&&decide (k+j<els.length) then some (.ep b (k+j) 0) else some (.ep b k (o+j*n))
   | _=>none
  | .ip cs=>some (.ip (cs.drop (j*n)))
  | _=>none
 | _=>none
 else none
def rM (P:Program) (t:TypeId) (x:A) (H:aB):Option A:=
 bif gh H x then
 match P.underlying t,x with
 | some .string,.v (.string s)=>some (.v (.int .i64 s.size))
 | some (.slice _),.imm els _=>some (.v (.int .i64 els.length))
 | some (.slice _),.sl _ _ n _=>some (.v (.int .i64 n))
 | _,_=>none
 else none
def qF (H:aB):A->Bool
 | .ptr b o=>gh H (.ptr b o)
 | .ep b i o=>gh H (.ep b i o)
 | .ip _=>true
 | .fn (.func _) _ _=>true
 | _=>false
def BD (a:A) (H:aB):Option A:=bif qF H a then some a else none
def kN (d:Nat):Option A->Option Nat
 | none=>some d
 | some a=>idx a
def fb (P:Program) (t:TypeId) (x:A) (lo hi mx:Option A) (H:aB):Option A:=
 match P.underlying t,x with
 | some .string,.v (.string s)=>bif mx.isSome then none else
  (kN s.size hi).bind fun h=>(kN 0 lo).bind fun l=>bif decide (l<=h)&&decide (h<=s.size) then some (.v (.string (s.extract l h))) else none
 | some (.slice e),.imm els c=>(cM P e).bind fun n=>(kN els.length hi).bind fun h=>(kN 0 lo).bind fun l=>
  bif decide (l<=h)&&decide (h<=els.length)&&(l==0 || match els[l]? with | some cs=>cs.length==n | none=>true) then match mx with
   | none=>some (.imm ((els.drop l).take (h - l)) (c&&h==els.length))
   | some m=>(idx m).bind fun m=>bif m==h then some (.imm ((els.drop l).take (h - l)) true) else none
  else none
 | some (.slice e),.sl b o n c=>(cM P e).bind fun z=>(kN n hi).bind fun h=>(kN 0 lo).bind fun l=>
  bif decide (l<=h)&&decide (h<=n)&&(match H[b]? with | some (.row _ es _)=>es==z | _=>false) then match mx with
   | none=>some (.sl b (o+l) (h - l) (c&&h==n))
   | some m=>(idx m).bind fun m=>bif m==h then some (.sl b (o+l) (h - l) true) else none
  else none
 | some (.array n e),.ip cs=>(cM P e).bind fun z=>(kN n hi).bind fun h=>(kN 0 lo).bind fun l=>
  bif decide (l<=h)&&decide (h<=n)&&decide (n*z<=cs.length)&&mx.isNone&&!Nat.beq z 0 then some (.imm (((chunk z n cs).drop l).take (h - l)) (Nat.beq h n)) else none
 | some (.array n e),.ep b k o=>(cM P e).bind fun z=>(kN n hi).bind fun h=>(kN 0 lo).bind fun l=>
  bif decide (l<=h)&&decide (h<=n)&&mx.isNone&&Nat.beq o 0&&(match H[b]? with | some (.row true es els)=>Nat.beq es z&&decide (k+n<=els.length) | _=>false) then some (.sl b (k+l) (h - l) (Nat.beq h n)) else none
 | _,_=>none
def els? (H:aB):A->Option (List (List A))
 | .imm els _=>some els
 | .sl b o n _=>match H[b]? with
  | some (.row _ _ els)=>some ((els.drop o).take n)
  | _=>none
 | .v (.string s)=>some (s.data.toList.map fun c=>[.v (.int .u8 c.toNat)])
 | _=>none
def xm (H:aB):A->Option (List (List A))
 | .v _=>none
 | x=>els? H x
def di:Nat:=140737488355328
def nK (P:Program) (t:TypeId):Bool:=match P.underlying t with | some (.slice _) | some .string=>true | _=>false
def vZ (P:Program) (t:TypeId):Bool:=match P.underlying t with | some (.int _)=>true | _=>false
def tX:A->A
 | .imm els _=>.imm els false
 | a=>a
def zv (P:Program) (H:aB) (t2:TypeId) (by_:Nat) (z:List A) (y:A):Option (List (List A)):=bif nK P t2 then els? H y else match y with
 | .v (.int .i64 n)=>bif vZ P t2&&decide (0<=n)&&decide (n*by_<=di)&&decide (n<=di) then some (List.replicate n.toNat (z.map tX)) else none
 | _=>none
def bN (P:Program) (t t2:TypeId) (wr:Bool) (x y:A) (H:aB) (lo:Nat):Option (A×aB):=
 (j0 P t).bind fun e=>(cM P e).bind fun es=>(jY P e).bind fun by_=>(hU P e).bind fun z=>(zv P H t2 by_ z y).bind fun ys=>
 bif es==0 || by_==0 || !(z.length==es) || !(ys.all fun cs=>cs.length==es&&cs.all A.cell) then none else
 match x with
 | .imm xs true=>
  bif !decide ((xs.length+ys.length)*by_<=di) then none else
  bif wr&&xs.isEmpty then some (.sl H.length 0 ys.length false,H++[.row true es ys]) else
  bif xs.all (fun cs=>cs.length==es&&cs.all A.cell) then some (.sl H.length 0 (xs.length+ys.length) false,H++[.row false es (xs++ys)]) else none
 | .sl b o n c=>match H[b]? with
  | some (.row false es' els)=>
   bif !decide ((n+ys.length)*by_<=di) || !(es'==es) || !decide (o+n<=els.length) then none else
   bif c then some (.sl H.length 0 (n+ys.length) false,H++[.row false es ((els.drop o).take n++ys)]) else
   bif decide (lo<=b)&&o==0&&n==els.length then some (.sl b 0 (n+ys.length) false,H.set b (.row false es (els++ys))) else none
  | _=>none
 | _=>none
def fj (ck:Bool) (P:Program) (t:TypeId) (n c:A) (H:aB):Option (A×aB):=
 (j0 P t).bind fun e=>(cM P e).bind fun es=>(jY P e).bind fun by_=>(hU P e).bind fun z=>(idx n).bind fun n=>(idx c).bind fun c=>
 bif es==0 || !(z.length==es) || !decide (c*by_<=di) || !decide (c<=di) || !decide (n<=c) then none else
 bif n==c then some (.sl H.length 0 n ck,H++[.row true es (List.replicate n (z.map tX))]) else
 bif n==0 then some (.sl H.length 0 0 false,H++[.row false es []]) else none
def ek (P:Program) (t:TypeId) (n c:A) (H:aB):Option (A×aB):=fj false P t n c H
def ig (P:Program) (t:TypeId) (n c:A) (H:aB):Option (A×aB):=
 (j0 P t).bind fun e=>(cM P e).bind fun es=>(jY P e).bind fun by_=>(hU P e).bind fun z=>(idx n).bind fun n=>(idx c).bind fun c=>
 bif es==0 || !(z.length==es) || !decide (c*by_<=di) || !decide (c<=di) || !(n==c) then none else some (.imm (List.replicate n (z.map tX)) false,H)
def sR (b:Bool) (P:Program) (t:TypeId) (n c:A) (H:aB):Option (A×aB):=bif b then ig P t n c H else ek P t n c H
def uD (place:Nat->Option (Nat×Nat)) (cs:List A):List (Nat×A)->Option (List A)
 | []=>some cs
 | (i,x) :: r=>(place i).bind fun p=>x.cells?.bind fun xs=>bif xs.length==p.2&&decide (p.1+p.2<=cs.length) then uD place (bB cs p.1 xs) r else none
def Bc (P:Program) (t:TypeId):Option (Nat->Option (Nat×Nat)):=match P.underlying t with
 | some (.struct fs)=>(fs.toList.mapM fun f=>(P.info? f.type).map fun i=>(f.offset,i.size)).map fun places=>(places.toArray[·]?)
 | some (.array _ e)=>(P.info? e).map fun i=>fun j=>some (j*i.size,i.size)
 | _=>none
def vo (P:Program) (t:TypeId) (parts:List (Nat×A)):Option A:=
 (hU P t).bind fun z=>(Bc P t).bind fun place=>(uD place z parts).map .agg
def mD (els:List (List A)):List (Nat×A)->Option (List (List A))
 | []=>some els
 | (i,x) :: r=>x.cells?.bind fun xs=>mD (els.set i xs) r
def aL (P:Program) (t:TypeId) (len:Nat) (parts:List (Nat×A)):Option A:=
 (j0 P t).bind fun e=>(cM P e).bind fun es=>(hU P e).bind fun z=>bif es==0 || !(z.length==es) || !decide (len*es<=16777216) then none else
 bif parts.all (fun p=>decide (p.1<len)&&(match p.2.cells? with | some xs=>xs.length==es | none=>false)) then (mD (List.replicate len z) parts).map fun els=>.imm els true else none
def ql (P:Program) (t:TypeId) (len:Nat) (parts:List (Nat×A)) (H:aB):Option (A×aB):=
 (j0 P t).bind fun e=>(cM P e).bind fun es=>(aL P t len parts).bind fun a=>match a with
  | .imm els true=>some (.sl H.length 0 els.length true,H++[.row true es els])
  | _=>none
def m8 (P:Program) (t:TypeId) (x y:A) (H:aB) (lo:Nat):Option (A×aB):=
 (j0 P t).bind fun e=>(cM P e).bind fun es=>(els? H y).bind fun ys=>bif es==0 || !(ys.all fun cs=>cs.length==es&&cs.all A.cell) then none else
 match x with
 | .sl b o n _=>match H[b]? with
  | some (.row true es' els)=>bif decide (lo<=b)&&es'==es then some (.v (.int .i64 (min ys.length n:Nat)),H.set b (.row true es (bB els o (ys.take n)))) else none
  | _=>none
 | _=>none
def bytesOf:List (List A)->Option (List UInt8)
 | []=>some []
 | [.v (.int .u8 n)] :: r=>(bytesOf r).map (n.toNat.toUInt8 :: ·)
 | _=>none
def bz (P:Program) (s d:TypeId) (x:A) (H:aB):Option A:=
 match P.underlying s,P.underlying d,x with
 | some (.slice e),some .string,x=>match P.underlying e,cM P e with
  | some (.int .u8),some 1=>(xm H x).bind fun els=>(bytesOf els).map fun l=>.v (.string ⟨l.toArray⟩)
  | _,_=>none
 | some .string,some (.slice e),.v (.string s)=>match P.underlying e with
  | some (.int .u8)=>some (.imm (s.data.toList.map fun c=>[.v (.int .u8 c.toNat)]) false)
  | _=>none
 | _,_,x=>x.qO.bind fun a=>(cP P (convert s d a)).map tR
def FU (P:Program) (t:TypeId) (x:A):Option A:=match P.underlying t with | some (.interface _)=>none | none=>none | some _=>some (.ifc t x)
def wj (P:Program) (t:TypeId) (c:Bool):Option A:=bif c then (P.info? t).bind fun i=>i.zero.map fun z=>.tup [tR z,.v (.bool false)] else none
def nT (P:Program) (x:A) (t:TypeId) (c:Bool):Option A:=match P.underlying t with
 | none=>none
 | some (.interface _)=>none
 | some _=>match x with
  | .ifc t' y=>bif Nat.beq t' t then some (bif c then .tup [y,.v (.bool true)] else y) else wj P t c
  | .v .nilIface=>wj P t c
  | _=>none
mutual
def cE (g:Nat->Nat->Nat->A):A->A
 | .sl b o m _=>g b o m
 | .imm els _=>.imm (dm g els) false
 | .agg cs=>.agg (bq g cs)
 | .tup cs=>.tup (bq g cs)
 | .ifc t x=>.ifc t (cE g x)
 | .mv k ks vs=>.mv k ks (bq g vs)
 | .v x=>.v x
 | .fn f [] []=>.fn f [] []
 | _=>.any
def bq (g:Nat->Nat->Nat->A):List A->List A
 | []=>[]
 | a :: as=>cE g a :: bq g as
def dm (g:Nat->Nat->Nat->A):List (List A)->List (List A)
 | []=>[]
 | a :: as=>bq g a :: dm g as
end
def iI:Nat->aB->Nat->Nat->Nat->A
 | 0,_,_,_,_=>.any
 | n+1,H,b,o,m=>match H[b]? with
  | some (.row false _ els)=>.imm (dm (iI n H) ((els.drop o).take m)) false
  | _=>.any
def snap (H:aB) (a:A):A:=cE (iI 4 H) a
def iz:Nat->aB->Nat->Nat->Nat->A
 | 0,_,_,_,_=>.any
 | n+1,H,b,o,m=>match H[b]? with
  | some (.row _ _ els)=>.imm (dm (iz n H) ((els.drop o).take m)) false
  | _=>.any
def jx:Nat->aB->A->A
 | 0,_,_=>.any
 | n+1,H,.ptr b o=>match H[b]? with | some (.box cs)=>.ip ((cs.drop o).map (jx n H)) | _=>.any
 | n+1,H,.fn f p q=>.fn f (p.map (jx n H)) (q.map (jx n H))
 | n+1,H,.agg cs=>.agg (cs.map (jx n H))
 | _+1,H,a=>cE (iz 4 H) a
def br (H:aB) (a:A):A:=match a with
 | .mr b=>match H[b]? with
  | some (.mp k ks vs)=>.mv k ks (bq (iz 4 H) vs)
  | _=>.any
 | .fn f p q=>jx 6 H (.fn f p q)
 | a=>cE (iz 4 H) a
def um (lo:Nat) (a:A) (H:aB):Option (A×aB):=match a with
 | .sl b o n _=>match H[b]? with
  | some (.row true _ els)=>bif decide (lo<=b) then some (.imm (dm (iI 4 H) ((els.drop o).take n)) false,H.set b .dead) else none
  | some (.row false _ els)=>some (.imm (dm (iI 4 H) ((els.drop o).take n)) false,H)
  | _=>none
 | .ptr b o=>match H[b]? with
  | some (.box cs)=>bif decide (lo<=b)&&Nat.beq o 0 then some (.ip cs,H.set b .dead) else none
  | _=>none
 | _=>none
def DA (P:Program) (s t:TypeId) (x:A) (H:aB) (lo:Nat):Option (A×aB):=
 match P.underlying s with
 | some (.slice e)=>match P.underlying e with
  | some (.int .u8)=>match x with
   | .sl b _ n _=>match H[b]? with
    | some (.row true _ _)=>bif Nat.beq s t&&decide (0<n) then um lo x H else none
    | _=>none
   | _=>none
  | _=>none
 | _=>none
def zF (H:aB) (a:A):A:=match a with | .sl b o n c=>snap H (.sl b o n c) | .imm els _=>.imm els false | a=>a
def cK (H:aB) (a:A):A:=match a with | .sl b o n c=>snap H (.sl b o n c) | .agg cs=>.agg (cs.map (zF H)) | a=>a
def b7 (a:A) (H:aB) (x:A):A:=match a with | .ep ..=>cK H x | _=>x
mutual
def A.under (L:Nat):A->Bool
 | .any | .v _ | .nq _=>true
 | .ptr b _ | .ep b _ _ | .sl b _ _ _ | .yld b | .mr b=>decide (b<L)
 | .mv _ _ vs=>bt L vs
 | .ip cs | .agg cs | .tup cs=>bt L cs
 | .imm els _=>aM L els
 | .fn _ a b=>bt L a&&bt L b
 | .ifc _ x=>A.under L x
def bt (L:Nat):List A->Bool
 | []=>true
 | a :: as=>A.under L a&&bt L as
def aM (L:Nat):List (List A)->Bool
 | []=>true
 | a :: as=>bt L a&&aM L as
end
def aC.under (L:Nat):aC->Bool
 | .box cs=>bt L cs
 | .row _ _ els=>aM L els
 | .rng _=>true
 | .dead=>true
 | .hole=>true
 | .mp _ _ vs=>bt L vs
def trim (L:Nat) (H:aB):Option aB:=bif H.length==L then some H else bif (H.take L).all (aC.under L) then some (H.take L) else none
def cd (cx:Cx) (s:St):Operand->A
 | .tmp t=>look s.fr t
 | .const x=>tR x
 | .global g=>match cx.glob g with | some vs=>.ip (vs.map .v) | none=>.any
 | .func f=>.fn (.func f) [] []
def cu {β:Type} (a:A) (x y:Option β):Option β:=match a with | .v (.bool b)=>bif b then x else y | _=>none
def Fi:Value->Value->Bool
 | .int k a,.int k' b=>decide (k=k')&&decide (a=b)
 | .bool a,.bool b=>a==b
 | .string a,.string b=>decide (a.data.toList=b.data.toList)
 | .nilIface,.nilIface=>true
 | .nilFunc,.nilFunc=>true
 | _,_=>false
theorem Fj:∀ (x y:Value),Fi x y=true->x=y:=fun x y h=>by
 unfold Fi at h
 split at h
 ·simp only[Yj,Yn] at h; rw[h.1,h.2]
 ·rw[eq_of_beq h]
 ·rename_i a b
  obtain ⟨⟨a⟩⟩:=a; obtain ⟨⟨b⟩⟩:=b
  exact YX (fun l=>Value.string ⟨⟨l⟩⟩) (Yr h)
 ·rfl
 ·rfl
 ·cases h
mutual
def ix:A->A->Bool
 | .any,y=>match y with | .any=>true | _=>false
 | .v x,y=>match y with | .v z=>Fi x z | _=>false
 | .ptr b o,y=>match y with | .ptr b' o'=>Nat.beq b b'&&Nat.beq o o' | _=>false
 | .ep b i o,y=>match y with | .ep b' i' o'=>Nat.beq b b'&&Nat.beq i i'&&Nat.beq o o' | _=>false
 | .ip cs,y=>match y with | .ip ds=>sameAs cs ds | _=>false
 | .imm els c,y=>match y with | .imm ds d=>n4 els ds&&(c==d) | _=>false
 | .sl b o n c,y=>match y with | .sl b' o' n' c'=>Nat.beq b b'&&Nat.beq o o'&&Nat.beq n n'&&(c==c') | _=>false
 | .agg cs,y=>match y with | .agg ds=>sameAs cs ds | _=>false
 | .tup cs,y=>match y with | .tup ds=>sameAs cs ds | _=>false
 | .mv k ks vs,y=>match y with | .mv k' ks' vs'=>decide (k=k')&&decide (ks=ks')&&sameAs vs vs' | _=>false
 | .mr b,y=>match y with | .mr b'=>Nat.beq b b' | _=>false
 | .fn _ _ _,_=>false
 | .ifc _ _,_=>false
 | .yld _,_=>false
 | .nq _,_=>false
def sameAs:List A->List A->Bool
 | [],y=>match y with | []=>true | _=>false
 | a :: l,y=>match y with | b :: m=>ix a b&&sameAs l m | []=>false
def n4:List (List A)->List (List A)->Bool
 | [],y=>match y with | []=>true | _=>false
 | a :: l,y=>match y with | b :: m=>sameAs a b&&n4 l m | []=>false
end
mutual
theorem tj:∀ (x y:A),ix x y=true->x=y
 | .any,y,h=>by cases y<;>simp only[ix,YM] at h; rfl
 | .v x,y,h=>by
  cases y<;>simp only[ix,YM,Yj,Yn] at h
  rw[Fj _ _ h]
 | .ptr b o,y,h=>by
  cases y<;>simp only[ix,YM,Yj,Yn] at h
  rw[Yy h.1,Yy h.2]
 | .ep b i o,y,h=>by
  cases y<;>simp only[ix,YM,Yj,Yn] at h
  rw[Yy h.1.1,Yy h.1.2,Yy h.2]
 | .ip cs,y,h=>by
  cases y<;>simp only[ix,YM,Yj,Yn] at h
  rw[g7 _ _ h]
 | .imm els c,y,h=>by
  cases y<;>simp only[ix,YM,Yj,Yn] at h
  rw[pj _ _ h.1,eq_of_beq h.2]
 | .sl b o n c,y,h=>by
  cases y<;>simp only[ix,YM,Yj,Yn] at h
  rw[Yy h.1.1.1,Yy h.1.1.2,Yy h.1.2,eq_of_beq h.2]
 | .agg cs,y,h=>by
  cases y<;>simp only[ix,YM,Yj,Yn] at h
  rw[g7 _ _ h]
 | .tup cs,y,h=>by
  cases y<;>simp only[ix,YM,Yj,Yn] at h
  rw[g7 _ _ h]
 | .mv k ks vs,y,h=>by
  cases y<;>simp only[ix,YM,Yj,Yn] at h
  rw[h.1.1,h.1.2,g7 _ _ h.2]
 | .mr b,y,h=>by
  cases y<;>simp only[ix,YM,Yj,Yn] at h
  rw[Yy h]
 | .fn ..,y,h=>by cases y<;>simp only[ix,YM] at h
 | .ifc ..,y,h=>by cases y<;>simp only[ix,YM] at h
 | .yld ..,y,h=>by cases y<;>simp only[ix,YM] at h
 | .nq ..,y,h=>by cases y<;>simp only[ix,YM] at h
theorem g7:∀ (x y:List A),sameAs x y=true->x=y
 | [],y,h=>by cases y<;>simp only[sameAs,YM] at h; rfl
 | a :: l,y,h=>by
  cases y<;>simp only[sameAs,YM,Yj] at h
  rw[tj _ _ h.1,g7 _ _ h.2]
theorem pj:∀ (x y:List (List A)),n4 x y=true->x=y
 | [],y,h=>by cases y<;>simp only[n4,YM] at h; rfl
 | a :: l,y,h=>by
  cases y<;>simp only[n4,YM,Yj] at h
  rw[g7 _ _ h.1,pj _ _ h.2]
end
def Ff:aC->aC->Bool
 | .box a,.box b=>sameAs a b
 | .row w e a,.row w' e' b=>(w==w')&&Nat.beq e e'&&n4 a b
 | .dead,.dead=>true
 | .hole,.hole=>true
 | .mp k ks vs,.mp k' ks' vs'=>decide (k=k')&&decide (ks=ks')&&sameAs vs vs'
 | _,_=>false
theorem Fg:∀ (x y:aC),Ff x y=true->x=y:=fun x y h=>by
 unfold Ff at h
 split at h
 ·rw[g7 _ _ h]
 ·rw[Yj,Yj] at h; rw[eq_of_beq h.1.1,Yy h.1.2,pj _ _ h.2]
 ·rfl
 ·rfl
 ·simp only[Yj,Yn] at h; rw[h.1.1,h.1.2,g7 _ _ h.2]
 ·cases h
def yz:aB->aB->Bool
 | [],[]=>true
 | a :: l,b :: m=>Ff a b&&yz l m
 | _,_=>false
theorem tl:∀ (x y:aB),yz x y=true->x=y
 | [],[],_=>rfl
 | [],_ :: _,h=>by cases h
 | _ :: _,[],h=>by cases h
 | a :: l,b :: m,h=>by
  rw[yz,Yj] at h; rw[Fg _ _ h.1,tl _ _ h.2]
def yA:Option R->Option R->Bool
 | some (.ret a,H),some (.ret b,H')=>ix a b&&yz H H'
 | some (.pan a,H),some (.pan b,H')=>ix a b&&yz H H'
 | none,none=>true
 | _,_=>false
theorem Fh (x y:Option R) (h:yA x y=true):x=y:=by
 unfold yA at h
 split at h
 ·rw[Yj] at h; rw[tj _ _ h.1,tl _ _ h.2]
 ·rw[Yj] at h; rw[tj _ _ h.1,tl _ _ h.2]
 ·rfl
 ·cases h
noncomputable def both (x y:Option R):Option R:=bif yA x y then y else open Classical in if x=y then y else none
noncomputable def Mj (els:List (List A)) (x y:Option R):Option R:=match els with | []=>both x y | _ :: _=>y
noncomputable def aX (a:A) (x y:Option R):Option R:=match a with | .nq els=>Mj els x y | a=>cu a x y
theorem DG {x y:Option R} (h:x=y):both x y=y:=by
 unfold both
 cases yA x y
 ·exact Yq h
 ·rfl
theorem BH {x y:Option R} {r:R} (h:both x y=some r):x=y/\y=some r:=by
 unfold both at h
 cases e:yA x y
 ·rw[e] at h
  by_cases hxy:x=y
  ·rw[show (bif false then y else open Classical in if x=y then y else none)=y from Yq hxy] at h; exact⟨hxy,h⟩
  ·rw[show (bif false then y else open Classical in if x=y then y else none)=none from Yp hxy] at h; cases h
 ·rw[e] at h; exact⟨Fh _ _ e,h⟩
def Q8 (P:Program) (t:TypeId) (x:A):Option A:=match P.underlying t,x with | some (.slice _),.imm els _=>some (.nq els) | _,_=>none
def KI (op:BinOp) (y:Operand):Bool:=match op,y with | .eql,.const (.slice none 0 0)=>true | _,_=>false
def Mk (b:Bool) (P:Program) (op:BinOp) (t:TypeId) (c d:Bool) (x y:A):Option A:=bif b then Q8 P t x else km P op t c d x y
abbrev bn:=Nat->List A->aB->Nat->Option R
def pP {β:Type} (cx:Cx) (f lo:Nat) (dst:Option Nat) (c:Call) (s:St) (k:A->aB->Option β):Option β:=
 match c.callee,c.args.toList,c.argTypes.toList with
 | .builtin .len,[x],[t]=>(rM cx.P t (cd cx s x) s.H).bind fun a=>k a s.H
 | .builtin .append,[x,y],[t,t2]=>(bN cx.P t t2 (cx.wrAt f (dst.getD 0)) (cd cx s x) (cd cx s y) s.H lo).bind fun r=>k r.1 r.2
 | .builtin .copy,[x,y],[t,_]=>(m8 cx.P t (cd cx s x) (cd cx s y) s.H lo).bind fun r=>k r.1 r.2
 | .builtin .min,x :: r,_=>(Fy true (cd cx s x) (r.map (cd cx s))).bind fun a=>k a s.H
 | .builtin .max,x :: r,_=>(Fy false (cd cx s x) (r.map (cd cx s))).bind fun a=>k a s.H
 | _,_,_=>none
def bO {β:Type} (cx:Cx) (f:Nat) (lo:Nat) (o:Oper) (s:St) (k:A->aB->Option β):Option β:=
 match o.op with
 | .move x | .assign x=>k (cd cx s x) s.H
 | .alloc t=>(oE (cx.arr f t) cx.P t s.H).bind fun r=>k r.1 r.2
 | .box t x=>(zk (cx.arr f t) cx.P t (cd cx s x) s.H).bind fun r=>k r.1 r.2
 | .build t parts=>(vo cx.P t (parts.toList.map fun p=>(p.1,cd cx s p.2))).bind fun a=>k a s.H
 | .buildSlice t n parts=>(aL cx.P t n (parts.toList.map fun p=>(p.1,cK s.H (cd cx s p.2)))).bind fun a=>k a s.H
 | .load t a=>(lC cx.P t (cd cx s a) s.H).bind fun a=>k a s.H
 | .store t a x=>(jz cx.P t (cd cx s a) (b7 (cd cx s a) s.H (cd cx s x)) s.H lo).bind fun H=>k .any H
 | .binOp op t x y _=>(Mk (KI op y) cx.P op t (Lx x) (Lx y) (cd cx s x) (cd cx s y)).bind fun a=>k a s.H
 | .unOp op _ x=>(iC cx.P op (cd cx s x)).bind fun a=>k a s.H
 | .convert a b x=>(bz cx.P a b (cd cx s x) s.H).bind fun a=>k a s.H
 | .makeInterface t x=>(FU cx.P t (cd cx s x)).bind fun a=>k a s.H
 | .makeFunc fn a b=>k (.fn fn (a.toList.map (cd cx s)) (b.toList.map (cd cx s))) s.H
 | .makeSlice t n c=>(sR (cx.loud f (o.dst.getD 0)) cx.P t (cd cx s n) (cd cx s c) s.H).bind fun r=>k r.1 r.2
 | .slice t x lo hi mx=>(bif mx.isNone || hi.isSome then fb cx.P t (cd cx s x) (lo.map (cd cx s)) (hi.map (cd cx s)) (mx.map (cd cx s)) s.H else none).bind fun a=>k a s.H
 | .fieldAddr t x i=>(fK cx.P t (cd cx s x) i s.H).bind fun a=>k a s.H
 | .field t x i=>(zd cx.P t (cd cx s x) i).bind fun a=>k a s.H
 | .indexAddr t x i=>(c9 cx.P t (cd cx s x) (cd cx s i) s.H).bind fun a=>k a s.H
 | .index t x i=>(zf cx.P t (cd cx s x) (cd cx s i)).bind fun a=>k a s.H
 | .extract x i=>(m9 (cd cx s x) i).bind fun a=>k a s.H
 | .nilCheck x=>(BD (cd cx s x) s.H).bind fun a=>k a s.H
 | .makeMap t none=>(pC cx.P t s.H).bind fun r=>k r.1 r.2
 | .insert t m i x=>(iZ cx.P t (cd cx s m) (cd cx s i) (cd cx s x) s.H lo).bind fun H=>k .any H
 | .mapUpdate t m i x=>(iZ cx.P t (cd cx s m) (cd cx s i) (cd cx s x) s.H lo).bind fun H=>k .any H
 | .lookup t m i c=>(fp cx.P t (cd cx s m) (cd cx s i) c s.H).bind fun a=>k a s.H
 | .typeAssert x _ t c=>(nT cx.P (cd cx s x) t c).bind fun a=>k a s.H
 | .call c=>pP cx f lo o.dst c s k
 | _=>none
def cY (P:Program) (k:Nat):Bool:=match P.funcs[k]? with | some fn=>fn.body.isSome&&!(fn.name == "runtime.NumGoroutine") | none=>false
def callee? (cx:Cx) (s:St):Op->Option (Nat×List A)
 | .call c=>match c.callee with
  | .value g=>match cd cx s g with
   | .fn (.func k) first cap=>bif cY cx.P k then some (k,first++c.args.toList.map (cd cx s)++cap) else none
   | _=>none
  | _=>none
 | _=>none
def yldOf? (cx:Cx) (s:St):Op->Option (Nat×List A)
 | .call c=>match c.callee with
  | .value g=>match cd cx s g with
   | .yld b=>some (b,c.args.toList.map (cd cx s))
   | _=>none
  | _=>none
 | _=>none
def xY (H:aB) (b:Nat):Bool:=match H[b]? with | some (.rng _)=>true | _=>false
def Jz {α β:Type} (x:Option α) (k:α->Option β) (e:Option β):Option β:=match x with | some a=>k a | none=>e
def iR:Op->Bool
 | .call c=>match c.callee with | .value _=>true | _=>false
 | _=>false
def ee (x:Out) (k:A->Option R) (pan:A->Option R):Option R:=match x with | .ret a=>k a | .pan a=>pan a
def Ae (L:Nat) (r:R):Option A:=match r.1 with
 | .ret a=>bif A.under L a then some a else none
 | .pan _=>none
def jr (cx:Cx) (s:St):Op->A
 | .call c=>match c.callee with | .value g=>cd cx s g | _=>.any
 | _=>.any
def ff (cx:Cx) (s:St):Op->List A
 | .call c=>c.args.toList.map (cd cx s)
 | _=>[]
def dA (cx:Cx) (call:bn) (fv:A) (args:List A) (H:aB) (lo:Nat) (k:A->aB->Option R) (pan:A->aB->Option R):Option R:=
 match fv with
 | .yld b=>bif xY H b then (call (cx.P.funcs.size+b) args H lo).bind fun r=>ee r.1 (fun a=>k a r.2) (fun _=>none) else none
 | .fn (.func q) first cap=>bif cY cx.P q then
   bif cx.isOrc q then (cx.C q ((first++args++cap).map (snap H))).bind fun a=>k a H
   else (call q (first++args++cap) H lo).bind fun r=>ee r.1 (fun a=>k a r.2) (fun a=>pan a r.2)
  else none
 | _=>none
theorem rZ {cx:Cx} {call:bn} {s:St} {op:Op} {lo:Nat} {k:A->aB->Option R} {pan:A->aB->Option R}:dA cx call (jr cx s op) (ff cx s op) s.H lo k pan =
   Jz (yldOf? cx s op) (fun p=>bif xY s.H p.1 then (call (cx.P.funcs.size+p.1) p.2 s.H lo).bind fun r=>ee r.1 (fun a=>k a r.2) (fun _=>none) else none)
   ((callee? cx s op).bind fun p=>bif cx.isOrc p.1 then (cx.C p.1 (p.2.map (snap s.H))).bind fun a=>k a s.H
    else (call p.1 p.2 s.H lo).bind fun r=>ee r.1 (fun a=>k a r.2) (fun a=>pan a r.2)):=by
 cases op with
 | call c=>
  cases hc:c.callee with
  | value g=>
   cases hf:cd cx s g with
   | fn f first cap=>cases f with
    | func q=>
     simp only[dA,jr,ff,yldOf?,callee?,Jz,hc,hf]
     cases cY cx.P q<;>rfl
    | _=>simp only[dA,jr,ff,yldOf?,callee?,Jz,hc,hf]; rfl
   | yld b=>simp only[dA,jr,ff,yldOf?,callee?,Jz,hc,hf]
   | _=>simp only[dA,jr,ff,yldOf?,callee?,Jz,hc,hf]; rfl
  | _=>simp only[dA,jr,ff,yldOf?,callee?,Jz,hc]; rfl
 | _=>rfl
def vG {β:Type} (cx:Cx) (call:bn) (fv:A) (args:List A) (H:aB) (k:A->Option β):Option β:=
 match fv with
 | .fn (.func q) first cap=>bif cY cx.P q then
   bif cx.isOrcV q then (cx.C q ((first++args++cap).map (snap H))).bind k
   else ((call q (first++args++cap) H H.length).bind fun r=>Ae H.length r).bind k
  else none
 | _=>none
def HH {β:Type} (x:A) (k:A->Option β):Option β:=match x with | .ifc t y=>k (.ifc t y) | _=>none
def sd (cx:Cx) (call:bn) (f lo:Nat) (o:Oper) (s:St) (k:St->Option R) (pan:A->St->Option R):Option R:=
 match o.op with
 | .pick c a b=>(cu (cd cx s c) (some (cd cx s a)) (some (cd cx s b))).bind fun x=>k (s.put o.dst x)
 | .panic x=>HH (cd cx s x) fun a=>pan a s
 | .buildSlice t n parts=>bif cx.wrAt f (o.dst.getD 0) then (ql cx.P t n (parts.toList.map fun p=>(p.1,cK s.H (cd cx s p.2))) s.H).bind fun r=>k ({ s with H:=r.2 }.put o.dst r.1) else bO cx f lo o s fun a H=>k ({ s with H:=H }.put o.dst a)
 | .makeSlice t n c=>bif cx.wrAt f (o.dst.getD 0) then (fj true cx.P t (cd cx s n) (cd cx s c) s.H).bind fun r=>k ({ s with H:=r.2 }.put o.dst r.1) else bO cx f lo o s fun a H=>k ({ s with H:=H }.put o.dst a)
 | .convert t t' x=>bif Nat.beq t t' then (DA cx.P t t' (cd cx s x) s.H lo).bind fun r=>k ({ s with H:=r.2 }.put o.dst r.1) else bO cx f lo o s fun a H=>k ({ s with H:=H }.put o.dst a)
 | .call _=>bif iR o.op then
   dA cx call (jr cx s o.op) (ff cx s o.op) s.H lo (fun a H=>k ({ s with H:=H }.put o.dst a)) (fun a H=>pan a { s with H:=H })
  else bO cx f lo o s fun a H=>k ({ s with H:=H }.put o.dst a)
 | _=>bO cx f lo o s fun a H=>k ({ s with H:=H }.put o.dst a)
def b9 (ops:Array Oper) (o:Oper):Option (Nat×Bool):=match o.guard with
 | some (j,want)=>match ops[j]? with
  | some q=>match q.dst with
   | some t=>some (t,want)
   | none=>none
  | none=>none
 | none=>none
theorem jL (ops:Array Oper) (o:Oper):b9 ops o=match o.guard with | some (j,want)=>((ops[j]?).bind (·.dst)).map (·,want) | none=>none:=by
 unfold b9
 split
 ·rename_i j want h
  cases ops[j]? with
  | none=>rfl
  | some q=>show _=(Option.bind (some q) (·.dst)).map _; cases h:q.dst<;>simp[h]
 ·rfl
def pY {β:Type} (g:A) (want:Bool) (run skip:Option β):Option β:=match g with
 | .v (.bool b)=>bif b then bif want then run else skip else bif want then skip else run
 | .v (.tuple _)=>skip
 | _=>none
theorem vH {β:Type} {cx:Cx} {call:bn} {s:St} {op:Op} {k:A->Option β}:vG cx call (jr cx s op) (ff cx s op) s.H k =
   ((callee? cx s op).bind fun p=>bif cx.isOrcV p.1 then cx.C p.1 (p.2.map (snap s.H))
    else (call p.1 p.2 s.H s.H.length).bind fun r=>Ae s.H.length r).bind k:=by
 cases op with
 | call c=>
  cases hc:c.callee with
  | value g=>
   cases hf:cd cx s g with
   | fn f first cap=>cases f with
    | func q=>
     simp only[vG,jr,ff,callee?,hc,hf]
     cases cY cx.P q with
     | false=>rfl
     | true=>
      simp only[Yi,Yf]
      cases cx.isOrcV q<;>rfl
    | _=>simp only[vG,jr,ff,callee?,hc,hf]; rfl
   | _=>simp only[vG,jr,ff,callee?,hc,hf]; rfl
  | _=>simp only[vG,jr,ff,callee?,hc]; rfl
 | _=>rfl
def hX (cx:Cx) (call:bn) (f:Nat) (o:Oper) (s:St):Option A:=
 match o.op with
 | .pick c a b=>cu (cd cx s c) (some (cd cx s a)) (some (cd cx s b))
 | .alloc _ | .box .. | .store .. | .makeSlice .. | .panic _ | .makeMap .. | .insert .. | .mapUpdate ..=>none
 | .call c=>bif iR o.op then
   vG cx call (jr cx s o.op) (ff cx s o.op) s.H some
  else match c.callee with
   | .builtin .len=>bO cx f 0 o s fun a _=>some a
   | _=>none
 | _=>bO cx f 0 o s fun a _=>some a
def sv {β:Type} (cx:Cx) (call:bn) (f:Nat) (o:Oper) (s:St) (k:A->Option β):Option β:=
 match o.op with
 | .pick c a b=>(cu (cd cx s c) (some (cd cx s a)) (some (cd cx s b))).bind k
 | .alloc _ | .box .. | .store .. | .makeSlice .. | .panic _ | .makeMap .. | .insert .. | .mapUpdate ..=>none
 | .call c=>bif iR o.op then
   vG cx call (jr cx s o.op) (ff cx s o.op) s.H k
  else match c.callee with
   | .builtin .len=>bO cx f 0 o s fun a _=>k a
   | _=>none
 | _=>bO cx f 0 o s fun a _=>k a
def quiet (cx:Cx) (f:Nat) (o:Oper):Bool:=
 match o.op with
 | .alloc _ | .box .. | .store .. | .makeSlice .. | .panic _ | .makeMap .. | .insert .. | .mapUpdate ..=>false
 | .call c=>match c.callee with
  | .value (.func k)=>cx.isOrc k
  | .value _=>match o.dst with | some d=>!cx.loud f d | none=>true
  | .builtin .len=>true
  | _=>false
 | _=>true
def bk {β:Type} (l:List A) (k:A->List A->Option β):Option β:=match l with | a :: r=>k a r | []=>none
def HS {β:Type}:List Nat->List A->(List (Nat×A)->Option β)->Option β
 | [],_,k=>k []
 | d :: ds,l,k=>bk l fun a r=>HS ds r fun fr=>k ((d,a) :: fr)
def jE (t:Nat):List Nat->Bool
 | []=>false
 | x :: l=>bif Nat.beq x t then true else jE t l
def kH (o:Oper):List Nat:=match o.dst with | some d=>[d] | none=>[]
def sJ (ops:Array Oper) (g:Nat) (w:Bool) (ds:List Nat) (o:Oper):Bool:=
 match o.guard with
 | none=>false
 | some _=>match b9 ops o with
  | none=>false
  | some (t,w')=>bif jE g (kH o) then false else bif Nat.beq t g then (bif w then w' else !w') else jE t ds
def b6 (ops:Array Oper) (g:Nat) (w:Bool):List Nat->List Oper->List Oper×List Oper
 | _,[]=>([],[])
 | ds,o :: os=>bif sJ ops g w ds o then (o :: (b6 ops g w (kH o++ds) os).1,(b6 ops g w (kH o++ds) os).2) else ([],o :: os)
def iD:List Oper->List Nat
 | []=>[]
 | o :: os=>iD os++kH o
def pD (cx:Cx) (f:Nat):List Oper->Bool
 | []=>true
 | o :: os=>bif quiet cx f o then pD cx f os else false
def sZ (ops:Array Oper) (asm:Option (Nat×Bool)) (o:Oper):Bool:=
 match o.guard with
 | none=>true
 | some _=>match asm,b9 ops o with
  | some (g,w),some (t,w')=>bif Nat.beq t g then (bif w then w' else !w') else false
  | _,_=>false
def vK (ops:Array Oper) (asm:Option (Nat×Bool)) (g:Nat):List Oper->Option (Nat×Operand×Operand)
 | o :: _=>bif sZ ops asm o then (match o.op,o.dst with
  | .pick (.tmp t) a b,some d=>bif Nat.beq t g then some (d,a,b) else none
  | _,_=>none) else none
 | []=>none
def zu (d:Option Nat) (x:A) (dl:List (Nat×A)):List (Nat×A):=match d with | some d=>(d,x) :: dl | none=>dl
def eF (dl:List (Nat×A)) (s:St):St:=⟨dl++s.fr,s.H⟩
def qP (ds:List Nat):List (Nat×A):=ds.map fun d=>(d,.v undef)
def xB (cx:Cx) (fin:Option (Nat×Operand)) (dl:List (Nat×A)) (s:St):List (Nat×A):=match fin with | some (d,x)=>(d,cd cx (eF dl s) x) :: dl | none=>dl
def M4 {β:Type} (ops:Array Oper) (asm:Option (Nat×Bool)) (g:Nat) (w:Bool) (os:List Oper) (s:St) (vals:Option (Nat×Operand)->List Oper->Option (List A)) (ud:Option (Nat×Operand)->List Oper->Option (List A)) (k:List Oper->List (Nat×A)->Option β):Option β:=
 match vK ops asm g (b6 ops g w [] os).2 with
 | some (d,a,b)=>(cu (look s.fr g) (bif w then vals (some (d,a)) (b6 ops g w [] os).1 else ud (some (d,a)) (b6 ops g w [] os).1) (bif w then ud (some (d,b)) (b6 ops g w [] os).1 else vals (some (d,b)) (b6 ops g w [] os).1)).bind fun l=>
   HS (d :: iD (b6 ops g w [] os).1) l fun fr=>k (b6 ops g w [] os).2.tail fr
 | none=>(pY (look s.fr g) w (vals none (b6 ops g w [] os).1) (ud none (b6 ops g w [] os).1)).bind fun l=>
   HS (iD (b6 ops g w [] os).1) l fun fr=>k (b6 ops g w [] os).2 fr
def PM (cx:Cx) (s:St) (fin:Option (Nat×Operand)) (run:List Oper):Option (List A):=some ((xB cx fin (qP (iD run)) s).map (·.2))
def oN (cx:Cx) (call:bn) (f:Nat) (ops:Array Oper):Nat->Option (Nat×Bool)->Option (Nat×Operand)->List Oper->List (Nat×A)->St->Option (List A)
 | 0,_,_,_,_,_=>none
 | _+1,_,fin,[],dl,s=>some ((xB cx fin dl s).map (·.2))
 | q+1,asm,fin,o :: os,dl,s=>bif sZ ops asm o then sv cx call f o (eF dl s) fun x=>oN cx call f ops q asm fin os (zu o.dst x dl) s
  else match b9 ops o with
   | none=>none
   | some (t,w)=>bif sJ ops t w [] o then M4 ops asm t w (o :: os) (eF dl s) (fun fin' run=>oN cx call f ops q (some (t,w)) fin' run [] (eF dl s)) (PM cx (eF dl s)) (fun rest fr=>oN cx call f ops q asm fin rest (fr++dl) s) else none
def fL (cx:Cx) (call:bn) (f lo:Nat) (ops:Array Oper):List Oper->St->(E->St->Option R)->Option R
 | [],s,k=>k .normal s
 | o :: os,s,k=>match o.guard with
  | none=>sd cx call f lo o s (fun s=>fL cx call f lo ops os s k) (fun a s=>k (.pan a) s)
  | some _=>match b9 ops o with
   | none=>none
   | some (g,want)=>bif quiet cx f o then (pY (look s.fr g) want (hX cx call f o s) (some (.v undef))).bind fun x=>fL cx call f lo ops os (s.put o.dst x) k
    else pY (look s.fr g) want (sd cx call f lo o s (fun s=>fL cx call f lo ops os s k) (fun a s=>k (.pan a) s)) (fL cx call f lo ops os (s.put o.dst (.v undef)) k)
def gN (cx:Cx) (call:bn) (f lo:Nat) (ops:Array Oper):Nat->List Oper->St->(E->St->Option R)->Option R
 | 0,_,_,_=>none
 | _+1,[],s,k=>k .normal s
 | q+1,o :: os,s,k=>match o.guard with
  | none=>sd cx call f lo o s (fun s=>gN cx call f lo ops q os s k) (fun a s=>k (.pan a) s)
  | some _=>match b9 ops o with
   | none=>none
   | some (t,w)=>bif sJ ops t w [] o&&pD cx f (b6 ops t w [] (o :: os)).1 then
     M4 ops none t w (o :: os) s (fun fin run=>oN cx call f ops q (some (t,w)) fin run [] s) (PM cx s) (fun rest fr=>gN cx call f lo ops q rest (eF fr s) k)
    else bif quiet cx f o then (pY (look s.fr t) w (hX cx call f o s) (some (.v undef))).bind fun x=>gN cx call f lo ops q os (s.put o.dst x) k
    else pY (look s.fr t) w (sd cx call f lo o s (fun s=>gN cx call f lo ops q os s k) (fun a s=>k (.pan a) s)) (gN cx call f lo ops q os (s.put o.dst (.v undef)) k)
def jH (cx:Cx) (call:bn) (f:Nat) (ops:Array Oper):List Oper->St->(St->Option R)->Option R
 | [],s,k=>k s
 | o :: os,s,k=>match o.guard with
  | none=>(hX cx call f o s).bind fun x=>jH cx call f ops os (s.put o.dst x) k
  | some _=>match b9 ops o with
   | none=>none
   | some (g,want)=>(pY (look s.fr g) want (hX cx call f o s) (some (.v undef))).bind fun x=>jH cx call f ops os (s.put o.dst x) k
def qz (cx:Cx) (call:bn) (f:Nat) (ops:Array Oper):Nat->List Oper->St->(St->Option R)->Option R
 | 0,_,_,_=>none
 | _+1,[],s,k=>k s
 | q+1,o :: os,s,k=>match o.guard with
  | none=>sv cx call f o s fun x=>qz cx call f ops q os (s.put o.dst x) k
  | some _=>match b9 ops o with
   | none=>none
   | some (t,w)=>bif sJ ops t w [] o then
     M4 ops none t w (o :: os) s (fun fin run=>oN cx call f ops q (some (t,w)) fin run [] s) (PM cx s) (fun rest fr=>qz cx call f ops q rest (eF fr s) k)
    else none
def dR (o:Oper):Bool:=match o.op with
 | .store .. | .alloc _ | .box .. | .makeSlice ..=>true
 | .call c=>match c.callee with | .builtin .append | .builtin .copy=>true | _=>false
 | _=>false
def dw (ops:Array Oper) (i:Nat):Bool:=match ops[i]? with | some o=>dR o | none=>false
def blk?:A->Option Nat
 | .ptr b _ | .ep b _ _ | .sl b _ _ _ | .mr b=>some b
 | _=>none
def apart (a e:A):Bool:=match blk? a with
 | none=>true
 | some b=>match blk? e with | some c=>!Nat.beq b c | none=>true
def du (cx:Cx) (s:St):Op->A
 | .store _ a _=>cd cx s a
 | .call c=>match c.args.toList with | x :: _=>cd cx s x | []=>.any
 | _=>.any
def addrOf (cx:Cx) (s:St):Op->A
 | .load _ a=>cd cx s a
 | .fieldAddr _ x _=>cd cx s x
 | .indexAddr _ x _=>cd cx s x
 | .slice _ x _ _ _=>cd cx s x
 | .nilCheck x=>cd cx s x
 | .convert _ _ x=>cd cx s x
 | .lookup _ x _ _=>cd cx s x
 | .call c=>match c.args.toList with | x :: _=>cd cx s x | []=>.any
 | _=>.any
def bR (o:Oper):Nat:=match o.op with
 | .pick .. | .move _ | .assign _ | .extract .. | .field .. | .unOp .. | .binOp .. | .index .. | .build .. | .makeFunc .. | .makeInterface .. | .typeAssert ..=>0
 | .load .. | .fieldAddr .. | .indexAddr .. | .slice .. | .nilCheck ..=>1
 | .convert .. | .lookup ..=>1
 | .call c=>match c.callee with | .builtin .len=>1 | .value (.func _)=>4 | _=>3
 | .buildSlice ..=>2
 | _=>3
def zl (o:Oper):Bool:=match o.op with
 | .store .. | .alloc _ | .box ..=>true
 | .makeSlice _ (.tmp a) (.tmp b)=>Nat.beq a b
 | .call c=>match c.callee with | .builtin .copy=>true | _=>false
 | _=>false
def vB (ops:Array Oper) (i:Nat):Bool:=match ops[i]? with | some o=>zl o | none=>false
def uP (cx:Cx) (o:Oper):Bool:=match o.op with
 | .call c=>match c.callee with | .value (.func q)=>cY cx.P q&&cx.isOrcV q | _=>false
 | _=>false
def I8:A->Bool
 | .sl ..=>false
 | _=>true
def sy:A->Bool
 | .sl ..=>false
 | .agg cs=>cs.all I8
 | _=>true
def partsOf (cx:Cx) (s:St):Op->List A
 | .buildSlice _ _ parts=>parts.toList.map fun p=>cd cx s p.2
 | _=>[]
def pU:List A->Bool
 | []=>true
 | a :: l=>bif sy a then pU l else false
def lD (ops:Array Oper) (i:Nat) (a:A):List (Nat×A)->Bool
 | []=>true
 | p :: l=>bif fG ops i p.1 || fG ops p.1 i then lD ops i a l else bif apart a p.2 then lD ops i a l else false
def kD (ops:Array Oper) (i:Nat) (e:A):List (Nat×A)->Bool
 | []=>true
 | p :: l=>bif fG ops i p.1 || fG ops p.1 i then kD ops i e l else bif apart p.2 e then kD ops i e l else false
def vD (ops:Array Oper) (m:Nat):Bool:=(List.range m).all fun i=>(List.range m).all fun j=>!(dw ops i&&dw ops j&&decide (i<j)) || fG ops j i
def D7 (ops:Array Oper) (m:Nat):Bool:=(List.range m).any (dw ops)
def IY (ops:Array Oper) (m i:Nat):Bool:=(List.range m).all fun e=>!dw ops e || vB ops e || e==i || fG ops i e || fG ops e i
def vU (cx:Cx) (f:Nat) (o:Oper):Option TypeId:=match o.op with
 | .alloc t=>bif cx.arr f t then none else some t
 | _=>none
def sM (cx:Cx) (f:Nat) (ops:Array Oper) (i:Nat):Bool:=match ops[i]? with | some o=>(vU cx f o).isSome | none=>false
def rY (cx:Cx) (f:Nat) (ops:Array Oper) (m:Nat):Bool:=(List.range m).all fun i=>(List.range m).all fun j=>!(dw ops i&&dw ops j&&decide (i<j)&&!sM cx f ops i&&!sM cx f ops j) || fG ops j i
def cZ (i:Nat):List (Nat×A)->Option A
 | []=>none
 | p :: l=>bif Nat.beq p.1 i then some p.2 else cZ i l
def ahead {β:Type} (cx:Cx) (f:Nat):Nat->List Oper->aB->(List (Nat×A)->aB->Option β)->Option β
 | _,[],H,k=>k [] H
 | i,o :: os,H,k=>match vU cx f o with
  | some t=>(mf cx.P t H).bind fun r=>ahead cx f (i+1) os r.2 fun fl H=>k ((i,r.1) :: fl) H
  | none=>ahead cx f (i+1) os H k
def jP (fl:List (Nat×A)) (ops:Array Oper) (m i:Nat):Bool:=(List.range m).all fun e=>!dw ops e || (cZ e fl).isSome || e==i || fG ops i e || fG ops e i
def pa (cx:Cx) (o:Oper):Bool:=Nat.beq (bR o) 0 || Nat.beq (bR o) 1 || Nat.beq (bR o) 2 || (Nat.beq (bR o) 4&&uP cx o)
def xC (ops:Array Oper) (i:Nat):List (Nat×A)->Bool
 | []=>true
 | p :: l=>bif fG ops i p.1 then xC ops i l else false
def GC (cx:Cx) (s:St) (o:Oper):Bool:=match o.op with
 | .call c=>bif iR (.call c) then match jr cx s (.call c) with | .fn (.func q) _ _=>cY cx.P q&&cx.isOrcV q | _=>false else false
 | _=>false
def sj (cx:Cx) (call:bn) (f lo:Nat) (ops:Array Oper) (m:Nat) (fl:List (Nat×A)) (i:Nat) (o:Oper) (effs seen:List (Nat×A)) (s:St) (rec:List (Nat×A)->List (Nat×A)->St->Option R):Option R:=
 match cZ i fl with
 | some a=>rec effs seen (s.put o.dst a)
 | none=>bif dR o then bif kD ops i (du cx s o.op) seen then bO cx f lo o s fun a H=>rec ((i,du cx s o.op) :: effs) seen ({ s with H:=H }.put o.dst a) else none
  else bif jP fl ops m i&&(pa cx o || xC ops i fl || GC cx s o) then sv cx call f o s fun x=>rec effs seen (s.put o.dst x)
  else bif Nat.beq (bR o) 0 then sv cx call f o s fun x=>rec effs seen (s.put o.dst x)
  else bif Nat.beq (bR o) 1 then bif lD ops i (addrOf cx s o.op) effs then sv cx call f o s fun x=>rec effs ((i,addrOf cx s o.op) :: seen) (s.put o.dst x) else none
  else bif (Nat.beq (bR o) 2 || (Nat.beq (bR o) 4&&uP cx o))&&IY ops m i then sv cx call f o s fun x=>rec effs seen (s.put o.dst x)
  else bif Nat.beq (bR o) 2 then bif pU (partsOf cx s o.op) then sv cx call f o s fun x=>rec effs seen (s.put o.dst x) else none
  else none
def vP (cx:Cx) (ops:Array Oper) (m:Nat) (fl:List (Nat×A)) (i:Nat) (o:Oper) (effs seen:List (Nat×A)) (s:St) (rec:List (Nat×A)->List (Nat×A)->St->Option R):Option R:=
 bif dR o then bif kD ops i (du cx s o.op) seen then rec ((i,du cx s o.op) :: effs) seen (s.put o.dst (.v undef)) else none
 else bif Nat.beq (bR o) 1 then bif jP fl ops m i then rec effs seen (s.put o.dst (.v undef)) else bif lD ops i (addrOf cx s o.op) effs then rec effs ((i,addrOf cx s o.op) :: seen) (s.put o.dst (.v undef)) else none
 else rec effs seen (s.put o.dst (.v undef))
def fN (cx:Cx) (call:bn) (f lo:Nat) (ops:Array Oper) (m:Nat) (fl:List (Nat×A)):Nat->List Oper->List (Nat×A)->List (Nat×A)->St->(St->Option R)->Option R
 | _,[],_,_,s,k=>k s
 | i,o :: os,effs,seen,s,k=>match o.guard with
  | some _=>match b9 ops o with
   | none=>none
   | some (t,w)=>bif Nat.beq (bR o) 0&&!dR o&&(cZ i fl).isNone then (pY (look s.fr t) w (hX cx call f o s) (some (.v undef))).bind fun x=>fN cx call f lo ops m fl (i+1) os effs seen (s.put o.dst x) k
    else bif (cZ i fl).isNone then cu (look s.fr t)
     (bif w then sj cx call f lo ops m fl i o effs seen (s.put (some t) (.v (.bool true))) (fun effs seen s=>fN cx call f lo ops m fl (i+1) os effs seen s k) else vP cx ops m fl i o effs seen (s.put (some t) (.v (.bool true))) (fun effs seen s=>fN cx call f lo ops m fl (i+1) os effs seen s k))
     (bif w then vP cx ops m fl i o effs seen (s.put (some t) (.v (.bool false))) (fun effs seen s=>fN cx call f lo ops m fl (i+1) os effs seen s k) else sj cx call f lo ops m fl i o effs seen (s.put (some t) (.v (.bool false))) (fun effs seen s=>fN cx call f lo ops m fl (i+1) os effs seen s k))
    else none
  | none=>sj cx call f lo ops m fl i o effs seen s fun effs seen s=>fN cx call f lo ops m fl (i+1) os effs seen s k
def vX:Op->Bool
 | .alloc _ | .box .. | .store .. | .makeSlice .. | .call _ | .makeMap .. | .insert .. | .mapUpdate ..=>true
 | _=>false
def qN (ops:Array Oper):Option Nat:=(List.range (ops.size+1)).find? (fA ops)
def AL (ops:Array Oper) (N:Nat):Bool:=ops.toList.all fun o=>match o.dst with | some d=>decide (d<N) | none=>true
def vY (cx:Cx) (o:Oper):Bool:=match o.op with
 | .call c=>match c.callee with | .value (.func q)=>cY cx.P q&&!cx.isOrc q&&(!Nat.beq (cx.cut q) 0 || cx.fre q) | _=>false
 | _=>false
def FZ (cx:Cx) (o:Oper):Nat:=match o.op with
 | .call c=>match c.callee with | .value (.func q)=>cx.cut q | _=>0
 | _=>0
def FB (cx:Cx) (o:Oper) (lo:Nat) (H:aB):Nat:=match o.op with
 | .call c=>match c.callee with | .value (.func q)=>bif cx.fre q then H.length else lo | _=>lo
 | _=>lo
def DL (cx:Cx):Nat->List Oper->Option Nat
 | _,[]=>none
 | i,o :: os=>bif vY cx o then some i else DL cx (i+1) os
def NH (ops:Array Oper) (c m:Nat):List Nat:=(List.range m).filter fun i=>fG ops c i&&(dw ops i || (List.range m).any fun e=>dw ops e&&fG ops i e)
def qw (ops:Array Oper) (c m:Nat):List Nat:=NH ops c m++c :: (List.range m).filter fun i=>fG ops i c
def Bi (ops:Array Oper) (c m:Nat):List Nat:=(List.range m).filter fun i=>(qw ops c m).all fun j=>!Nat.beq i j
def vE (ops:Array Oper):List Nat->List Nat->Bool
 | _,[]=>true
 | ps,i :: is=>bif ps.all (fun p=>fG ops i p) then vE ops (i :: ps) is else false
def Mm (ops:Array Oper) (L T:List Nat):Bool:=L.all fun i=>T.all fun j=>!fG ops i j
def tQ (o:Oper):Bool:=match o.guard with | none=>true | some _=>false
def UU (o:Oper):Bool:=tQ o&&(Nat.beq (bR o) 0 || Nat.beq (bR o) 1 || Nat.beq (bR o) 2)
def UX (o:Oper):Bool:=tQ o&&(dR o || !vX o.op)&&!iR o.op
def Py (cx:Cx) (call:bn) (f:Nat) (ops:Array Oper):List Nat->List (Nat×A)->St->(List (Nat×A)->St->Option R)->Option R
 | [],seen,s,k=>k seen s
 | i :: is,seen,s,k=>match ops[i]? with
  | none=>none
  | some o=>bif UU o then bif (bif Nat.beq (bR o) 2 then pU (partsOf cx s o.op) else true) then sv cx call f o s fun x=>Py cx call f ops is (bif Nat.beq (bR o) 1 then (i,addrOf cx s o.op) :: seen else seen) (s.put o.dst x) k else none else none
def jA (m:Nat) (a:A):Bool:=match blk? a with | none=>true | some b=>Nat.ble m b
def uW (ops:Array Oper) (c m:Nat):List (Nat×A)->Bool
 | []=>true
 | p :: l=>bif fG ops c p.1 then uW ops c m l else bif jA m p.2 then uW ops c m l else false
def Lu (cx:Cx) (call:bn) (f lo:Nat) (ops:Array Oper) (c:Nat) (kp:A->aB->Option R):List Nat->List (Nat×A)->St->(St->Option R)->Option R
 | [],_,s,k=>k s
 | i :: is,seen,s,k=>match ops[i]? with
  | none=>none
  | some o=>bif Nat.beq i c then bif uW ops c (FZ cx o) seen then dA cx call (jr cx s o.op) (ff cx s o.op) s.H (FB cx o lo s.H) (fun a H=>Lu cx call f lo ops c kp is seen ({ s with H:=H }.put o.dst a) k) kp else none
   else bif UX o then bif (bif dR o then kD ops i (du cx s o.op) seen else true) then bO cx f lo o s fun a H=>Lu cx call f lo ops c kp is seen ({ s with H:=H }.put o.dst a) k else none else none
def JE (cx:Cx) (N:Nat) (ops:Array Oper) (c m:Nat) (o:Oper):Bool:=(ops.toList.take m).all tQ&&vY cx o&&tU ops N&&vE ops [] (qw ops c m)&&Mm ops (Bi ops c m) (qw ops c m)&&(qw ops c m).all fun i=>Nat.blt i m
def Kg (cx:Cx) (ops:Array Oper):Option Nat:=match qN ops with | none=>none | some m=>DL cx 0 (ops.toList.take m)
def AR (cx:Cx) (call:bn) (f lo N:Nat) (ops:Array Oper) (c:Nat) (s:St) (k:E->St->Option R):Option R:=
 match ops[c]? with
 | none=>none
 | some o=>(qN ops).bind fun m=>bif JE cx N ops c m o then Py cx call f ops (Bi ops c m) [] s fun seen s1=>
   Lu cx call f lo ops c (fun a H=>k (.pan a) ⟨[],H⟩) (qw ops c m) seen s1 fun s=>gN cx call f lo ops (ops.size+1) (ops.toList.drop m) s k
  else none
def cb:Code->Nat
 | .region id _ _=>id
 | .seq a _=>cb a
 | .block _ c=>cb c
 | .scope c=>cb c
 | .loop c=>cb c
 | _=>0
def Gg (H:aB) (a:A):A:=match a with | .sl b o n c=>snap H (.sl b o n c) | .imm els _=>.imm els false | a=>a
def I9 (H:aB) (a:A):A:=match a with | .sl b o n c=>snap H (.sl b o n c) | .imm els _=>.imm els false | .agg cs=>.agg (cs.map (Gg H)) | a=>a
def eB (es:Nat) (H:aB):A->A×aB
 | .imm els true=>bif els.all (fun cs=>Nat.beq cs.length es) then (.sl H.length 0 els.length false,H++[.row false es els]) else (.imm els true,H)
 | a=>(a,H)
def lV (es:Nat) (H:aB):A->A×aB
 | .imm [] true=>(.sl H.length 0 0 false,H++[.row true es []])
 | a=>(a,H)
def lW (es:Nat) (H:aB):A->A×aB
 | .imm els true=>bif els.all (fun cs=>Nat.beq cs.length es) then (.sl H.length 0 els.length false,H++[.row false es els]) else (.imm els true,H++[.dead])
 | a=>(a,H++[.dead])
def dG (lo off m:Nat) (a:A) (H:aB):aB:=
 match a with
 | .ptr b o=>match H[b]? with
  | some (.box cs)=>match cs[o+off]? with
   | some c=>bif decide (lo<=b) then match m with
    | 0=>H.set b (.box (cs.set (o+off) (I9 H c)))
    | es+1=>(eB es H c).2.set b (.box (cs.set (o+off) (eB es H c).1))
    else H
   | none=>H
  | _=>H
 | _=>H
def oB (lo:Nat) (p:Nat×Nat×Nat) (s:St):St:=
 match p.2.1 with
 | 0=>match p.2.2 with
  | 0=>⟨(p.1,I9 s.H (look s.fr p.1)) :: s.fr,s.H⟩
  | es+1=>bif Nat.ble 500000 es then (bif Nat.ble 1000000 es then ⟨(p.1,(lW (es - 1000000) s.H (look s.fr p.1)).1) :: s.fr,(lW (es - 1000000) s.H (look s.fr p.1)).2⟩ else ⟨(p.1,(lV (es - 500000) s.H (look s.fr p.1)).1) :: s.fr,(lV (es - 500000) s.H (look s.fr p.1)).2⟩) else ⟨(p.1,(eB es s.H (look s.fr p.1)).1) :: s.fr,(eB es s.H (look s.fr p.1)).2⟩
 | off+1=>⟨s.fr,dG lo off p.2.2 (look s.fr p.1) s.H⟩
def en (lo:Nat):List (Nat×Nat×Nat)->St->St
 | [],s=>s
 | p :: ps,s=>en lo ps (oB lo p s)
def rB (lo:Nat):List (Nat×Nat×Nat)->St->(St->Option R)->Option R
 | [],s,k=>k s
 | p :: ps,s,k=>(um lo (look s.fr p.1) s.H).bind fun r=>rB lo ps ⟨(p.1,r.1) :: s.fr,r.2⟩ k
def zG:List (Nat×Nat×Nat)->List (Nat×Nat×Nat)
 | []=>[]
 | p :: ps=>match p.2.2 with | 0=>p :: zG ps | _+1=>zG ps
def dM (keep:List Nat) (s:St):St:=⟨keep.map fun t=>(t,look s.fr t),s.H⟩
def aK (L:Nat) (fr:List (Nat×A)):List Nat->Bool
 | []=>true
 | t :: ts=>bif A.under L (look fr t) then aK L fr ts else false
theorem nE (L:Nat) (fr:List (Nat×A)):∀ keep:List Nat,aK L fr keep=true->keep.all (fun t=>A.under L (look fr t))=true
 | [],_=>rfl
 | t :: ts,h=>by
  rw[aK] at h
  cases hu:A.under L (look fr t) with
  | false=>rw[hu] at h; cases h
  | true=>
   rw[hu] at h
   rw[Z8,hu,YP]
   exact nE L fr ts h
def ye (keep:List Nat) (L:Nat) (s:St) (k:St->Option R):Option R:=
 (trim L s.H).bind fun H=>bif (bif Nat.beq s.H.length L then true else aK L s.fr keep) then k ⟨keep.map fun t=>(t,look s.fr t),H⟩ else none
def yy:List (Nat×Nat×Nat)->Option (Nat×Nat×Nat)
 | []=>none
 | p :: ps=>match ps with
  | []=>match p.2.1 with
   | 0=>bif Nat.ble 1000001 p.2.2 then some p else none
   | _+1=>none
  | _ :: _=>yy ps
def NI (n:Nat):Nat:=n - 1
def KB:A->Bool | .imm _ true=>true | _=>false
def Jw (lo:Nat) (keep:List Nat) (p:Nat×Nat×Nat) (L:Nat) (s:St) (k:St->Option R):Option R:=
 bif KB (look s.fr p.1) then ye keep (NI L) s fun s=>bif Nat.beq (oB lo p s).H.length L then k (dM keep (oB lo p s)) else none else ye keep L s k
def EN (lo:Nat) (keep:List Nat) (acts:List (Nat×Nat×Nat)) (L:Nat) (s:St) (k:St->Option R):Option R:=
 match yy acts with
 | none=>ye keep L (en lo (zG acts) s) k
 | some p=>Jw lo keep p L (en lo (zG acts) s) k
def Fq (s:St) (keep:List Nat) (k:Nat->St->Option R):Option R:=k s.H.length (dM keep s)
def iter (lo:Nat) (keep:List Nat) (acts:List (Nat×Nat×Nat)) (L:Nat) (f:St->(E->St->Option R)->Option R) (kx kg:Nat->St->Option R) (kr:St->Option R) (kp:A->St->Option R):Nat->St->Option R
 | 0,_=>none
 | n+1,s=>f s fun e s'=>match e with
  | .normal=>EN lo keep acts L s' fun s'=>iter lo keep acts L f kx kg kr kp n s'
  | .exit i=>kx i (dM keep s')
  | .goto l=>kg l (dM keep s')
  | .ret=>kr (dM keep s')
  | .pan a=>kp a (dM keep s')
def jJ:Code->Bool
 | .seq a b=>jJ a&&jJ b
 | .cond _ a b=>jJ a&&jJ b
 | .block _ c=>jJ c
 | .loop c=>jJ c
 | .rangeFunc .. | .scope _=>false
 | _=>true
def Bd:List Nat->List A->List (Nat×A)->List (Nat×A)
 | p :: ps,a :: as,fr=>Bd ps as ((p,a) :: fr)
 | _,_,fr=>fr
def JC {β:Type} (H:aB) (b:Nat) (x:Option β):Option β:=match H[b]? with | some (.rng .ready)=>x | _=>none
def Fz {β:Type} (H:aB) (b:Nat) (x:Option β):Option β:=match H[b]? with | some (.rng .busy)=>x | _=>none
def K3 (b:Nat) (e:E) (H:aB):Option R:=
 match e with
 | .normal=>Fz H b (some (.ret (.v (.bool true)),H.set b (.rng .ready)))
 | .exit i=>Fz H b (some (.ret (.v (.bool false)),H.set b (.rng (.done (.exit i)))))
 | .goto l=>Fz H b (some (.ret (.v (.bool false)),H.set b (.rng (.done (.goto l)))))
 | .ret=>Fz H b (some (.ret (.v (.bool false)),H.set b (.rng (.done .ret))))
 | .pan _=>none
def roundOf (F1 F2:St->(E->St->Option R)->Option R) (lo b:Nat) (ps:List Nat) (fr:List (Nat×A)) (args:List A) (H:aB) (lo':Nat):Option R:=
 bif Nat.beq args.length ps.length&&Nat.ble lo' lo then
  JC H b (F1 ⟨Bd ps args fr,H⟩ fun e s=>match e with
   | .normal=>JC s.H b (F2 ⟨s.fr,s.H.set b (.rng .busy)⟩ fun e s=>K3 b e s.H)
   | _=>none)
 else none
def tZ (q:Nat) (call:bn) (b:Nat) (rnd:List A->aB->Nat->Option R):bn:=fun k args H lo=>bif Nat.beq k (q+b) then rnd args H lo else call k args H lo
def ph {β:Type} (b:Nat) (H:aB) (kn:aB->Option β) (kx kg:Nat->aB->Option β) (kr:aB->Option β):Option β:=
 match H[b]? with
 | some (.rng .ready)=>kn (H.set b .dead)
 | some (.rng (.done (.exit i)))=>kx i (H.set b .dead)
 | some (.rng (.done (.goto l)))=>kg l (H.set b .dead)
 | some (.rng (.done .ret))=>kr (H.set b .dead)
 | _=>none
def Ag (b:Nat) (H:aB) (k:E->aB->Option R):Option R:=ph b H (fun H=>k .normal H) (fun i H=>k (.exit i) H) (fun l H=>k (.goto l) H) (fun H=>k .ret H)
def nO (s:St) (k:St->Option R):Option R:=k s
def Ge (P:Program):A->Option (Nat×List A)
 | .fn (.func gf) [] cap=>bif cY P gf then some (gf,cap) else none
 | _=>none
def xa (N:Nat):List Nat->Bool
 | []=>true
 | p :: ps=>bif Nat.blt p N then xa N ps else false
def Af (body:Code):Nat:=1000000+cb body
def oP:Code->Nat
 | .region id _ _=>id
 | .seq a _=>oP a
 | .block _ c=>oP c
 | .scope c=>oP c
 | .loop c=>oP c
 | .cond _ a _=>oP a
 | _=>0
def Jf (keep:List Nat) (e:E) (s:St):Option R:=match e with
 | .normal=>some (.ret (.tup (keep.map (look s.fr))),s.H)
 | _=>none
def NR {β:Type} (r:R) (k:List A->aB->Option β):Option β:=match r with
 | (.ret (.tup l),H)=>k l H
 | _=>none
theorem Bp {β:Type} (fr:List (Nat×A)):∀ (keep:List Nat) (k:List (Nat×A)->Option β),HS keep (keep.map (look fr)) k=k (keep.map fun t=>(t,look fr t))
 | [],_=>rfl
 | d :: ds,k=>by
  show HS ds (ds.map (look fr)) (fun r=>k ((d,look fr d) :: r))=_
  rw[Bp fr ds]; rfl
def v9:Code->Nat
 | .block _ c=>oP c
 | .cond _ a _=>500000+oP a
 | .seq _ b=>v9 b
 | _=>999999
def TD (js:List Nat) (X:(E->St->Option R)->Option R) (Y:St->Option R) (k:E->St->Option R):Option R:=match js with
 | []=>X fun e s'=>match e with | .normal=>Y s' | e=>k e s'
 | j :: js=>(X (Jf (j :: js))).bind fun r=>NR r fun l H=>HS (j :: js) l fun fr=>Y ⟨fr,H⟩
noncomputable def ot (cx:Cx) (call:bn) (rg:bn->bn) (n f lo N:Nat):Code->St->(E->St->Option R)->Option R
 | .skip,s,k=>k .normal s
 | .label _,s,k=>k .normal s
 | .region id ops draw,s,k=>rB lo (cx.acts f (2000000+id)) s fun s=>bif AL ops N then
  bif draw then match Kg cx ops with | some c=>AR cx call f lo N ops c s k | none=>bif tU ops N then (qN ops).bind fun m=>bif D7 ops m then bif vD ops m then fN cx call f lo ops m [] 0 (ops.toList.take m) [] [] s fun s=>gN cx call f lo ops (ops.size+1) (ops.toList.drop m) s k else bif rY cx f ops m then ahead cx f 0 (ops.toList.take m) s.H fun fl H=>fN cx call f lo ops m fl 0 (ops.toList.take m) [] [] ⟨s.fr,H⟩ fun s=>gN cx call f lo ops (ops.size+1) (ops.toList.drop m) s k else none else qz cx call f ops (ops.size+1) (ops.toList.take m) s fun s=>gN cx call f lo ops (ops.size+1) (ops.toList.drop m) s k else none
  else gN cx call f lo ops (ops.size+1) ops.toList s k
  else none
 | .seq a b,s,k=>TD (cx.join f (v9 a)) (fun k=>ot cx call rg n f lo N a s k) (fun s=>ot cx call rg n f lo N b s k) k
 | .cond c a b,s,k=>aX (cd cx s c) (ot cx call rg n f lo N a s k) (ot cx call rg n f lo N b s k)
 | .block id c,s,k=>ot cx call rg n f lo N c s fun e s'=>match e with | .exit j=>bif Nat.beq j id then k .normal s' else k (.exit j) s' | e=>k e s'
 | .scope c,s,k=>ot cx call rg n f lo N c s fun e s'=>match e with | .goto _=>none | e=>k e s'
 | .loop c,s,k=>Fq (en lo (cx.acts f (cb c)) (dM (cx.keep f (cb c)) s)) (cx.keep f (cb c)) fun L s=>iter lo (cx.keep f (cb c)) (cx.acts f (cb c)) L (fun s k=>ot cx call rg n f lo N c s k) (fun i s=>k (.exit i) s) (fun l s=>k (.goto l) s) (fun s=>k .ret s) (fun a s=>k (.pan a) s) n s
 | .exit id,s,k=>k (.exit id) s
 | .goto l,s,k=>k (.goto l) s
 | .ret,s,k=>k .ret s
 | .rangeFunc g ps asg body,s,k=>nO (en lo (cx.acts f (Af body)) s) fun s=>(Ge cx.P (cd cx s g)).bind fun p=>bif xa N ps.toList&&jJ asg&&jJ body&&Nat.ble lo s.H.length then
   (rg (tZ cx.P.funcs.size call s.H.length (roundOf (fun s k=>ot cx call rg n f lo N asg s k) (fun s k=>ot cx call rg n f lo N body s k) lo s.H.length ps.toList (dM (cx.keep f (Af body)) s).fr)) p.1 (.yld s.H.length :: p.2) (s.H++[.rng .ready]) lo).bind fun r=>
    ee r.1 (fun _=>Ag s.H.length r.2 fun e H=>k e ⟨s.fr,H⟩) (fun _=>none)
  else none
 | _,_,_=>none
def jd:Code->List Code
 | .loop c=>c :: jd c
 | .seq a b=>jd a++jd b
 | .cond _ a b=>jd a++jd b
 | .block _ c=>jd c
 | .scope c=>jd c
 | .rangeFunc _ _ a b=>jd a++jd b
 | _=>[]
def zK (cx:Cx) (f i:Nat):Code:=match (cx.P.funcs[f]?).bind (·.body) with | some c=>(jd c).getD i .skip | none=>.skip
def SN (cx:Cx) (f:Nat):Nat:=match cx.P.funcs[f]? with | some fn=>fn.ntmps | none=>0
def ju:Code->List (List Nat×Code×Code)
 | .loop c=>ju c
 | .seq a b=>ju a++ju b
 | .cond _ a b=>ju a++ju b
 | .block _ c=>ju c
 | .scope c=>ju c
 | .rangeFunc _ ps a b=>[(ps.toList,a,b)]
 | _=>[]
def rangeAt (cx:Cx) (f i:Nat):List Nat×Code×Code:=match (cx.P.funcs[f]?).bind (·.body) with | some c=>(ju c).getD i ([],.skip,.skip) | none=>([],.skip,.skip)
noncomputable def qH (cx:Cx) (call:bn) (rg:bn->bn) (n f lo i b:Nat) (fr:List (Nat×A)) (args:List A) (H:aB) (lo':Nat):Option R:=
 roundOf (fun s k=>ot cx call rg n f lo (SN cx f) (rangeAt cx f i).2.1 s k) (fun s k=>ot cx call rg n f lo (SN cx f) (rangeAt cx f i).2.2 s k) lo b (rangeAt cx f i).1 fr args H lo'
noncomputable def aE (cx:Cx) (call:bn) (rg:bn->bn) (n f lo i L:Nat) (kx kg:Nat->St->Option R) (kr:St->Option R) (kp:A->St->Option R) (m:Nat) (s:St):Option R:=
 iter lo (cx.keep f (cb (zK cx f i))) (cx.acts f (cb (zK cx f i))) L (fun s k=>ot cx call rg n f lo (SN cx f) (zK cx f i) s k) kx kg kr kp m s
def sn (cx:Cx) (s:St):ResultVar->Option A
 | .tmp t=>some (look s.fr t)
 | .cell a t=>lC cx.P t (look s.fr a) s.H
def oM (cx:Cx) (s:St):List ResultVar->Option (List A)
 | []=>some []
 | r :: rs=>(sn cx s r).bind fun a=>(oM cx s rs).bind fun l=>some (a :: l)
def AQ (cx:Cx) (fn:Func) (s:St):Option A:=match fn.results.toList with
 | [r]=>sn cx s r
 | rs=>(oM cx s rs).bind fun l=>some (.tup l)
def vR (cx:Cx) (s:St):List ResultVar->(List A->Option R)->Option R
 | [],k=>k []
 | r :: rs,k=>(sn cx s r).bind fun a=>vR cx s rs fun l=>k (a :: l)
def mm (cx:Cx) (fn:Func) (s:St):Option R:=match fn.results.toList with
 | [r]=>(sn cx s r).bind fun a=>some (.ret a,s.H)
 | rs=>vR cx s rs fun l=>some (.ret (.tup l),s.H)
theorem uz (cx:Cx) (s:St):∀ (rs:List ResultVar) (k:List A->Option R),vR cx s rs k=(oM cx s rs).bind k
 | [],_=>rfl
 | r :: rs,k=>by
  rw[vR,oM,YU]
  congr 1; funext a
  rw[uz cx s rs,YU]
  rfl
theorem BR (cx:Cx) (fn:Func) (s:St):mm cx fn s=(AQ cx fn s).bind fun a=>some (.ret a,s.H):=by
 unfold mm AQ
 split
 ·rename_i h; rfl
 ·rw[uz,YU]
  rfl
def frame (args:List A):List (Nat×A):=args.zipIdx.map fun p=>(p.2,p.1)
noncomputable def Kw (cx:Cx) (call:bn) (rg:bn->bn) (n f lo:Nat) (fn:Func) (c:Code) (args:List A) (H:aB):Option R:=
 ot cx call rg n f lo fn.ntmps c ⟨frame args,H⟩ fun e s=>match e with
  | .normal | .ret=>nO (en lo (cx.acts f 3000000) s) fun s=>mm cx fn s
  | .pan a=>some (.pan a,s.H)
  | _=>none
def Gm (o:Oper):Bool:=match o.op with | .defer _=>true | _=>false
def xZ:List Oper->Option (List Oper×Oper)
 | []=>none
 | o :: os=>match os with
  | []=>some ([],o)
  | _ :: _=>(xZ os).map fun p=>(o :: p.1,p.2)
def xQ:Code->Bool
 | .seq _ (.seq (.region _ ops false) _)=>ops.toList.any Gm
 | _=>false
def US (cx:Cx) (q:Nat) (o:Oper):Bool:=cY cx.P q&&tQ o&&o.dst.isNone
def DN (cx:Cx) (s:St) (o:Oper):Option (Nat×List A):=match o.op with
 | .defer c=>match c.callee,c.args.toList with
  | .value g,[]=>match cd cx s g with
   | .fn (.func q) [] cap=>bif US cx q o then some (q,cap) else none
   | _=>none
  | _,_=>none
 | _=>none
def mB (o:Oper):Option Nat:=match o.op with
 | .call c=>match c.callee,c.args.toList with
  | .builtin .recover,[]=>bif tQ o then o.dst else none
  | _,_=>none
 | _=>none
def recAt:Nat->List Oper->Option (Nat×Nat)
 | _,[]=>none
 | i,o :: os=>match mB o with | some d=>some (i,d) | none=>recAt (i+1) os
def kB (ops:Array Oper) (i d:Nat):Array Oper:=match ops[i]? with | some o=>ops.setIfInBounds i { o with op:=.move (.tmp d) } | none=>ops
def jM (d:Nat) (o:Oper):Bool:=tQ o&&(match o.op with | .load _ (.tmp t)=>!Nat.beq t d | _=>false)&&(match o.dst with | some e=>!Nat.beq e d | none=>false)
def xX (d:Nat) (ops:Array Oper) (j:Nat):Bool:=match ops[j]? with | some o=>jM d o | none=>true
def JD (ops:Array Oper) (i d:Nat):Bool:=(List.range ops.size).all fun j=>Nat.beq j i || match ops[j]? with | some o=>jM d o || o.after.any fun e=>Region.binds .any e&&!xX d ops e.on | none=>false
def UW (cap:List A) (ops:Array Oper) (fn:Func) (rest:Code):Bool:=decide (cap.length<=fn.ntmps)&&AL ops fn.ntmps&&jJ rest&&fn.results.toList.isEmpty
def UT (ops:Array Oper) (N:Nat) (a:Code):Bool:=AL ops N&&jJ a
def vQ (cx:Cx) (call:bn) (f lo N:Nat) (ops:Array Oper) (s:St) (k:E->St->Option R):Option R:=
 bif AL ops N then
  match Kg cx ops with | some c=>AR cx call f lo N ops c s k | none=>bif tU ops N then (qN ops).bind fun m=>bif D7 ops m then bif vD ops m then fN cx call f lo ops m [] 0 (ops.toList.take m) [] [] s fun s=>gN cx call f lo ops (ops.size+1) (ops.toList.drop m) s k else bif rY cx f ops m then ahead cx f 0 (ops.toList.take m) s.H fun fl H=>fN cx call f lo ops m fl 0 (ops.toList.take m) [] [] ⟨s.fr,H⟩ fun s=>gN cx call f lo ops (ops.size+1) (ops.toList.drop m) s k else none else qz cx call f ops (ops.size+1) (ops.toList.take m) s fun s=>gN cx call f lo ops (ops.size+1) (ops.toList.drop m) s k else none
 else none
def UY (cap:List A) (ops:Array Oper) (fn:Func) (p:Nat×Nat):Bool:=decide (cap.length<=fn.ntmps)&&decide (p.2<fn.ntmps)&&JD ops p.1 p.2&&(match ops[p.1]? with | some o=>o.after.toList.isEmpty | none=>false)&&fn.results.toList.isEmpty
noncomputable def xq (cx:Cx) (call:bn) (rg:bn->bn) (n lo q:Nat) (cap:List A) (v:A) (H:aB) (k:aB->Option R):Option R:=
 (cx.P.funcs[q]?).bind fun fn=>fn.body.bind fun c=>match c with
  | .seq (.region _ ops false) rest=>match ops.toList with
   | o :: os=>(mB o).bind fun d=>bif UW cap ops fn rest then fL cx call q lo ops os ⟨(d,v) :: frame cap,H⟩ fun e s=>match e with
     | .normal=>ot cx call rg n q lo fn.ntmps rest s fun e s=>match e with
      | .normal | .ret=>k s.H
      | _=>none
     | _=>none
    else none
   | []=>none
  | .region _ ops true=>(recAt 0 ops.toList).bind fun p=>bif UY cap ops fn p then vQ cx call q lo fn.ntmps (kB ops p.1 p.2) ⟨(p.2,v) :: frame cap,H⟩ fun e s=>match e with
    | .normal=>k s.H
    | _=>none
   else none
  | _=>none
noncomputable def vN (cx:Cx) (call:bn) (rg:bn->bn) (n f lo:Nat) (fn:Func) (c:Code) (args:List A) (H:aB):Option R:=match c with
 | .seq a (.seq (.region _ ops false) rest)=>bif UT ops fn.ntmps a then ot cx call rg n f lo fn.ntmps a ⟨frame args,H⟩ fun e s=>match e with
  | .normal=>(xZ ops.toList).bind fun p=>fL cx call f lo ops p.1 s fun e s=>match e with
   | .normal=>(DN cx s p.2).bind fun z=>ot cx call rg n f lo fn.ntmps rest s fun e s=>match e with
    | .normal | .ret=>xq cx call rg n lo z.1 z.2 (.v .nilIface) s.H fun H=>nO (en lo (cx.acts f 3000000) ⟨s.fr,H⟩) fun s=>mm cx fn s
    | .pan x=>xq cx call rg n lo z.1 z.2 x s.H fun H=>nO (en lo (cx.acts f 3000000) ⟨s.fr,H⟩) fun s=>mm cx fn s
    | _=>none
   | _=>none
  | _=>none
  else none
 | _=>none
noncomputable def aG (cx:Cx) (call:bn) (rg:bn->bn) (n f:Nat) (args:List A) (H:aB) (lo:Nat):Option R:=
 (cx.P.funcs[f]?).bind fun fn=>fn.body.bind fun c=>bif decide (args.length<=fn.ntmps) then bif xQ c then vN cx call rg n f lo fn c args H else Kw cx call rg n f lo fn c args H else none
def Gx:bn:=fun _ _ _ _=>none
def XA:A->Bool | .v _=>true | _=>false
def il (cx:Cx) (k:Nat) (H:aB):Bool:=bif cx.deep k then bif Nat.beq H.length 0 then false else true else false
def nc (cx:Cx) (k:Nat) (args:List A) (H:aB):Option R:=(cx.C k (args.map (jx 6 H))).bind fun r=>bif XA r then some (.ret r,H) else none
def gD (cx:Cx) (k:Nat) (H:aB):Bool:=bif Nat.beq (cx.cut k) 0 then false else bif Nat.ble (cx.cut k) H.length then true else bif Nat.beq H.length 0 then false else Nat.beq (cx.cut k) 999999999
def cutAt (cx:Cx) (k:Nat) (H:aB):Nat:=bif Nat.ble (cx.cut k) H.length then cx.cut k else H.length
def lU (m:Nat):Out->Bool
 | .ret a=>A.under m a
 | .pan a=>A.under m a
def nW (m:Nat) (f:aB->Option R) (args:List A) (H:aB):Option R:=
 bif bt m args&&(H.take m).all (aC.under m) then (f (H.take m)).bind fun r=>bif Nat.ble m r.2.length&&(r.2.take m).all (aC.under m)&&lU m r.1 then some (r.1,r.2.take m++H.drop m) else none else none
noncomputable def bw (cx:Cx):Nat->bn->bn
 | 0,base,k,args,H,lo=>bif Nat.ble cx.P.funcs.size k then base k args H lo else none
 | n+1,base,k,args,H,lo=>bif Nat.ble cx.P.funcs.size k then base k args H lo else bif gD cx k H then nW (cutAt cx k H) (fun H=>aG cx (bw cx n Gx) (bw cx n) n k args H lo) args H else bif il cx k H then nc cx k args H else aG cx (bw cx n base) (bw cx n) n k args H lo
noncomputable def dH (cx:Cx) (n:Nat):bn:=bw cx n Gx
section
open Go.RowKit
structure Gh where
 mu:Nat->Option Nat
 ga:Nat->List (List Value)
 S:Nat->Nat->Prop
 lr:Nat->Loop
def Jh:Loop:={ state:=.ready,pending:=none,fn:=0,tmps:=#[],params:=#[],assign:=.skip,body:=.skip,defers:=0 }
def It.code:It->Code
 | .exit id=>.exit id
 | .goto l=>.goto l
 | .ret=>.ret
def jv (r:Loop):jW->Loop
 | .ready=>{ r with state:=.ready,pending:=none }
 | .busy=>{ r with state:=.busy,pending:=none }
 | .done j=>{ r with state:=.done,pending:=some j.code }
def fi (H:aB) (g:Gh) (k o:Nat):Prop:=g.S k o/\∀ b,g.mu b=some k->∃ es els,H[b]? = some (.row false es els)/\o<es*els.length
def bK (H:aB) (g:Gh) (w:World) (k off:Nat) (ds:List Value):Prop:=∀ j v,ds[j]? = some v->w.cell? ⟨k,off+j,none⟩=some v/\fi H g k (off+j)
mutual
def VR (H:aB) (g:Gh) (w:World):A->Value->Prop
 | .any,_=>True
 | .v x,c=>c=x
 | .ptr b o,c=>match H[b]? with
  | some (.box _)=>∃ k,g.mu b=some k/\c=.pointer (some ⟨k,o,none⟩)
  | some .hole=>False
  | some _=>c.oneCell'=true
  | none=>False
 | .ep b i o,c=>match H[b]? with
  | some (.row true es els)=>i<els.length/\∃ k,g.mu b=some k/\c=.pointer (some ⟨k,i*es+o,none⟩)
  | some .hole=>False
  | some _=>c.oneCell'=true
  | none=>False
 | .ip cs,c=>∃ k off ds,c=.pointer (some ⟨k,off,none⟩)/\bK H g w k off ds/\bE H g w cs ds
 | .imm els clip,c=>∃ a cap ds es,c=.slice a els.length cap/\els.length<=cap/\(clip=true->cap=els.length)/\(∀ d∈ds,d.length=es)/\(0<els.length->∃ k off,a=some ⟨k,off,none⟩/\bK H g w k off ds.flatten)/\bC H g w els ds
 | .sl b o n clip,c=>match H[b]? with
  | some (.row true es els)=>o+n<=els.length/\∃ a cap,c=.slice a n cap/\n<=cap/\(clip=true->cap=n)/\(0<n->∃ k,g.mu b=some k/\a=some ⟨k,o*es,none⟩)
  | some (.row false es els)=>o+n<=els.length/\∃ a cap,c=.slice a n cap/\n<=cap/\(clip=true->cap=n)/\(0<n->∃ k off,a=some ⟨k,off,none⟩/\bK H g w k off (((g.ga b).drop o).take n).flatten) ∧
    (clip=false->o=0->n=els.length->n<cap->∃ k arr ty,g.mu b=some k/\a=some ⟨k,0,none⟩/\w.heap[k]? = some (.cells arr ty (0,0))/\cap*es<=arr.size)
  | some .hole=>False
  | some _=>c.oneCell'=true
  | none=>False
 | .agg cs,c=>∃ ds,c=.agg ds/\bE H g w cs ds.toList
 | .tup cs,c=>∃ ds,c=.tuple ds/\bE H g w cs ds.toList
 | .fn f a b,c=>∃ ds es,c=.func f ds es/\bE H g w a ds.toList/\bE H g w b es.toList
 | .ifc t x,c=>∃ d,c=.iface t d/\VR H g w x d
 | .yld b,c=>match H[b]? with
  | some (.rng _)=>∃ k,g.mu b=some k/\c=.func (.yield k) #[] #[]
  | some .hole=>False
  | some _=>c.oneCell'=true
  | none=>False
 | .nq els,c=>∃ b,c=.bool b/\(b=true->els=[])
 | .mr b,c=>match H[b]? with
  | some (.mp ..)=>∃ k,g.mu b=some k/\c=.map (some k)
  | some .hole=>False
  | some _=>c.oneCell'=true
  | none=>False
 | .mv k ks vs,c=>∃ r arr cl,c=.map (some r)/\fi H g r 0/\w.heap[r]? = some (.map arr cl)/\arr.toList.map (·.key)=ks.map (.int k)/\bE H g w vs (arr.toList.map (·.val))
def bE (H:aB) (g:Gh) (w:World):List A->List Value->Prop
 | [],ds=>ds=[]
 | a :: as,ds=>∃ d ds',ds=d :: ds'/\VR H g w a d/\bE H g w as ds'
def bC (H:aB) (g:Gh) (w:World):List (List A)->List (List Value)->Prop
 | [],ds=>ds=[]
 | a :: as,ds=>∃ d ds',ds=d :: ds'/\bE H g w a d/\bC H g w as ds'
end
def lZ (H:aB) (g:Gh) (w:World) (b:Nat):aC->Prop
 | .box cs=>∃ k arr ty,g.mu b=some k/\w.heap[k]? = some (.cells arr ty (0,0))/\bE H g w cs arr.toList
 | .row true es els=>∃ ds,bC H g w els ds/\(∀ d∈ds,d.length=es)/\(0<els.length->∃ (k:Nat) (arr:Array Value) (ty:TypeId),g.mu b=some k/\w.heap[k]? = some (.cells arr ty (0,0))/\∀ (j:Nat) (v:Value),ds.flatten[j]? = some v->arr[j]? = some v)
 | .row false es els=>bC H g w els (g.ga b)/\(∀ d∈g.ga b,d.length=es)
 | .rng st=>∃ k,g.mu b=some k/\w.heap[k]? = some (.loop (jv (g.lr b) st))
 | .dead=>g.mu b=none
 | .hole=>g.mu b=none
 | .mp k ks vs=>∃ r arr cl,g.mu b=some r/\w.heap[r]? = some (.map arr cl)/\arr.toList.map (·.key)=ks.map (.int k)/\bE H g w vs (arr.toList.map (·.val))
structure Rel (H:aB) (g:Gh) (w0 w:World):Prop where
 below:Below w0.heap.size w0 w
 dom:∀ b k,g.mu b=some k->b<H.length/\w0.heap.size<=k/\k<w.heap.size
 inj:∀ b c k,g.mu b=some k->g.mu c=some k->b=c
 out:∀ k o,w.heap.size<=k->g.S k o
 own:∀ b k o,g.mu b=some k->g.S k o
 blk:∀ b B,H[b]? = some B->lZ H g w b B
def BT (g:Gh) (w:World) (g':Gh) (w':World) (b:Nat):aC->aC->Prop
 | .box _,.box _=>g'.mu b=g.mu b
 | .row true es els,.row true es' els'=>es'=es/\els'.length=els.length/\g'.mu b=g.mu b
 | .row false es els,.row false es' els'=>es'=es/\(∃ r,g'.ga b=g.ga b++r)/\(g.ga b).length=els.length/\els.length<=els'.length/\(els'.length=els.length->g'.mu b=g.mu b/\∀ k arr ty,g.mu b=some k->w.heap[k]? = some (.cells arr ty (0,0))->∃ arr',w'.heap[k]? = some (.cells arr' ty (0,0))/\arr.size<=arr'.size)
 | .rng _,.rng _=>g'.mu b=g.mu b/\g'.lr b=g.lr b
 | .mp ..,.mp ..=>g'.mu b=g.mu b
 | .hole,_=>True
 | _,.dead=>True
 | _,_=>False
structure wI (H:aB) (g:Gh) (w:World) (H':aB) (g':Gh) (w':World):Prop where
 cell:∀ k o v,fi H g k o->w.cell? ⟨k,o,none⟩=some v->w'.cell? ⟨k,o,none⟩=some v/\fi H' g' k o
 blk:∀ (b:Nat) (B:aC),H[b]? = some B->∃ B',H'[b]? = some B'/\BT g w g' w' b B B'
 map:∀ k arr cl,fi H g k 0->w.heap[k]? = some (.map arr cl)->w'.heap[k]? = some (.map arr cl)/\fi H' g' k 0
structure Ext (H:aB) (g:Gh) (w:World) (H':aB) (g':Gh) (w':World):Prop where
 cell:∀ k o v,fi H g k o->w.cell? ⟨k,o,none⟩=some v->w'.cell? ⟨k,o,none⟩=some v/\fi H' g' k o
 blk:∀ (b:Nat) (B:aC),H[b]? = some B->∃ B',H'[b]? = some B'/\BT g w g' w' b B B'
 kept:∀ (k:Nat) (x:Option (List Deferred)),w.heap[k]? = some (.deferred x)->w'.heap[k]? = some (.deferred x)
 size:w.heap.size<=w'.heap.size
 map:∀ k arr cl,fi H g k 0->w.heap[k]? = some (.map arr cl)->w'.heap[k]? = some (.map arr cl)/\fi H' g' k 0
 obj:∀ k,k<w.heap.size->(∀ b,g.mu b≠some k)->w'.heap[k]? = w.heap[k]?
 fresh:∀ b k,g'.mu b=some k->(∃ c,g.mu c=some k)∨w.heap.size<=k
variable {H H':aB} {g g':Gh} {w0 w w':World}
theorem bE.length:∀ {cs:List A} {ds:List Value},bE H g w cs ds->ds.length=cs.length
 | [],_,h=>by rw[bE] at h; subst h; rfl
 | a :: as,_,h=>by rw[bE] at h; obtain ⟨d,ds',rfl,_,h2⟩:=h; simp[bE.length h2]
theorem bC.length:∀ {cs:List (List A)} {ds:List (List Value)},bC H g w cs ds->ds.length=cs.length
 | [],_,h=>by rw[bC] at h; subst h; rfl
 | a :: as,_,h=>by rw[bC] at h; obtain ⟨d,ds',rfl,_,h2⟩:=h; simp[bC.length h2]
theorem bK.fq (he:wI H g w H' g' w') {k off:Nat} {ds:List Value} (h:bK H g w k off ds):bK H' g' w' k off ds:=fun j v hj=>let ⟨h1,h2⟩:=h j v hj; he.cell _ _ _ h2 h1
mutual
theorem VR.fq (he:wI H g w H' g' w'):∀ (a:A) (c:Value),VR H g w a c->VR H' g' w' a c
 | .any,_,_=>X2
 | .v x,c,h=>by rw[VR] at h ⊢; exact h
 | .ptr b o,c,h=>by
  rw[VR] at h ⊢
  cases hb:H[b]? with
  | none=>rw[hb] at h; exact h.elim
  | some B=>
   obtain ⟨B',hB',ht⟩:=he.blk b B hb
   rw[hb] at h; rw[hB']
   cases B with
   | box _=>cases B' with
    | box _=>obtain ⟨k,h1,h2⟩:=h; exact⟨k,(show g'.mu b=g.mu b from ht).trans h1,h2⟩
    | row wr _ _=>exact False.elim ht
    | rng _=>exact False.elim ht
    | mp _ _ _=>exact False.elim ht
    | dead=>obtain ⟨k,h1,h2⟩:=h; subst h2; rfl
    | hole=>exact False.elim ht
   | row wr _ _=>cases B' with
    | box _=>cases wr<;>exact False.elim ht
    | row _ _ _=>exact h
    | rng _=>cases wr<;>exact False.elim ht
    | mp _ _ _=>cases wr<;>exact False.elim ht
    | dead=>exact h
    | hole=>cases wr<;>exact False.elim ht
   | rng _=>cases B'<;>first | exact h | (exact False.elim ht)
   | mp _ _ _=>cases B'<;>first | exact h | (exact False.elim ht)
   | dead=>cases B'<;>first | exact h | (exact False.elim ht)
   | hole=>exact False.elim h
 | .ep b i o,c,h=>by
  rw[VR] at h ⊢
  cases hb:H[b]? with
  | none=>rw[hb] at h; exact h.elim
  | some B=>
   obtain ⟨B',hB',ht⟩:=he.blk b B hb
   rw[hb] at h; rw[hB']
   cases B with
   | box _=>cases B' with
    | box _=>exact h
    | row wr _ _=>exact False.elim ht
    | rng _=>exact False.elim ht
    | mp _ _ _=>exact False.elim ht
    | dead=>exact h
    | hole=>exact False.elim ht
   | row wr es els=>cases wr with
    | true=>cases B' with
     | box _=>exact False.elim ht
     | row wr' es' els'=>cases wr' with
      | true=>
       obtain ⟨e1,e2,e3⟩:=ht
       obtain ⟨h0,k,h1,h2⟩:=h
       subst e1
       exact⟨r7,k,e3.trans h1,h2⟩
      | false=>exact False.elim ht
     | rng _=>exact False.elim ht
     | mp _ _ _=>exact False.elim ht
     | dead=>obtain ⟨_,k,h1,h2⟩:=h; subst h2; rfl
     | hole=>exact False.elim ht
    | false=>cases B' with
     | box _=>exact False.elim ht
     | row wr' es' els'=>cases wr' with
      | true=>exact False.elim ht
      | false=>exact h
     | rng _=>exact False.elim ht
     | mp _ _ _=>exact False.elim ht
     | dead=>exact h
     | hole=>exact False.elim ht
   | rng _=>cases B'<;>first | exact h | (exact False.elim ht)
   | mp _ _ _=>cases B'<;>first | exact h | (exact False.elim ht)
   | dead=>cases B'<;>first | exact h | (exact False.elim ht)
   | hole=>exact False.elim h
 | .ip cs,c,h=>by
  rw[VR] at h ⊢
  obtain ⟨k,off,ds,h1,h2,h3⟩:=h
  exact⟨k,off,ds,h1,h2.fq he,bE.fq he cs ds h3⟩
 | .imm els clip,c,h=>by
  rw[VR] at h ⊢
  obtain ⟨a,cap,ds,es,h1,h2,h3,h4,h5,h6⟩:=h
  exact⟨a,cap,ds,es,h1,h2,h3,h4,fun hp=>let ⟨k,off,e1,e2⟩:=h5 hp; ⟨k,off,e1,e2.fq he⟩,bC.fq he els ds h6⟩
 | .sl b o n clip,c,h=>by
  rw[VR] at h ⊢
  cases hb:H[b]? with
  | none=>rw[hb] at h; exact h.elim
  | some B=>
   obtain ⟨B',hB',ht⟩:=he.blk b B hb
   rw[hb] at h; rw[hB']
   cases B with
   | box _=>cases B' with
    | box _=>exact h
    | row wr _ _=>exact False.elim ht
    | rng _=>exact False.elim ht
    | mp _ _ _=>exact False.elim ht
    | dead=>exact h
    | hole=>exact False.elim ht
   | row wr es els=>cases wr with
    | true=>cases B' with
     | box _=>exact False.elim ht
     | row wr' es' els'=>cases wr' with
      | true=>
       obtain ⟨e1,e2,e3⟩:=ht
       obtain ⟨h0,a,cap,h1,h2,h3,h4⟩:=h
       subst e1
       exact⟨r7,a,cap,h1,h2,h3,fun hp=>let ⟨k,g1,g2⟩:=h4 hp; ⟨k,e3.trans g1,g2⟩⟩
      | false=>exact False.elim ht
     | rng _=>exact False.elim ht
     | mp _ _ _=>exact False.elim ht
     | dead=>obtain ⟨_,a,cap,h1,_⟩:=h; subst h1; rfl
     | hole=>exact False.elim ht
    | false=>cases B' with
     | box _=>exact False.elim ht
     | row wr' es' els'=>cases wr' with
      | true=>exact False.elim ht
      | false=>
       obtain ⟨e1,⟨r,e2⟩,e3,e4,e5⟩:=ht
       obtain ⟨h0,a,cap,h1,h2,h3,h4,h5⟩:=h
       subst e1
       refine⟨r7,a,cap,h1,h2,h3,fun hp=>?_,fun hc ho hn hlt=>?_⟩
       ·obtain ⟨k,off,g1,g2⟩:=h4 hp
        refine⟨k,off,g1,?_⟩
        have:((g'.ga b).drop o).take n=((g.ga b).drop o).take n:=by
         rw[e2,qbc r7,qbd so]
        rw[this]
        exact g2.fq he
       ·have hel:els'.length=els.length:=by omega
        obtain ⟨k,arr,ty,g1,g2,g3,g4⟩:=h5 hc ho r7 hlt
        obtain ⟨m1,m2⟩:=e5 hel
        obtain ⟨arr',m3,m4⟩:=m2 k arr ty g1 g3
        exact⟨k,arr',ty,m1.trans g1,g2,m3,r7⟩
     | rng _=>exact False.elim ht
     | mp _ _ _=>exact False.elim ht
     | dead=>obtain ⟨_,a,cap,h1,_⟩:=h; subst h1; rfl
     | hole=>exact False.elim ht
   | rng _=>cases B'<;>first | exact h | (exact False.elim ht)
   | mp _ _ _=>cases B'<;>first | exact h | (exact False.elim ht)
   | dead=>cases B'<;>first | exact h | (exact False.elim ht)
   | hole=>exact False.elim h
 | .agg cs,c,h=>by
  rw[VR] at h ⊢
  obtain ⟨ds,h1,h2⟩:=h
  exact⟨ds,h1,bE.fq he cs _ h2⟩
 | .tup cs,c,h=>by
  rw[VR] at h ⊢
  obtain ⟨ds,h1,h2⟩:=h
  exact⟨ds,h1,bE.fq he cs _ h2⟩
 | .fn f a b,c,h=>by
  rw[VR] at h ⊢
  obtain ⟨ds,es,h1,h2,h3⟩:=h
  exact⟨ds,es,h1,bE.fq he a _ h2,bE.fq he b _ h3⟩
 | .ifc t x,c,h=>by
  rw[VR] at h ⊢
  obtain ⟨d,h1,h2⟩:=h
  exact⟨d,h1,VR.fq he x d h2⟩
 | .yld b,c,h=>by
  rw[VR] at h ⊢
  cases hb:H[b]? with
  | none=>rw[hb] at h; exact h.elim
  | some B=>
   obtain ⟨B',hB',ht⟩:=he.blk b B hb
   rw[hb] at h; rw[hB']
   cases B with
   | rng st=>cases B' with
    | rng st'=>obtain ⟨k,h1,h2⟩:=h; exact⟨k,(show g'.mu b=g.mu b from ht.1).trans h1,h2⟩
    | dead=>obtain ⟨k,h1,h2⟩:=h; subst h2; rfl
    | hole=>exact False.elim ht
    | box _=>exact False.elim ht
    | row _ _ _=>exact False.elim ht
    | mp _ _ _=>exact False.elim ht
   | row wr _ _=>cases wr<;>cases B'<;>first | exact h | (exact False.elim ht)
   | dead=>cases B'<;>first | exact h | (exact False.elim ht)
   | box _=>cases B'<;>first | exact h | (exact False.elim ht)
   | mp _ _ _=>cases B'<;>first | exact h | (exact False.elim ht)
   | hole=>exact False.elim h
 | .nq els,c,h=>by rw[VR] at h ⊢; exact h
 | .mr b,c,h=>by
  rw[VR] at h ⊢
  cases hb:H[b]? with
  | none=>rw[hb] at h; exact h.elim
  | some B=>
   obtain ⟨B',hB',ht⟩:=he.blk b B hb
   rw[hb] at h; rw[hB']
   cases B with
   | mp _ _ _=>cases B' with
    | mp _ _ _=>obtain ⟨k,h1,h2⟩:=h; exact⟨k,(show g'.mu b=g.mu b from ht).trans h1,h2⟩
    | dead=>obtain ⟨k,h1,h2⟩:=h; subst h2; rfl
    | hole=>exact False.elim ht
    | box _=>exact False.elim ht
    | row _ _ _=>exact False.elim ht
    | rng _=>exact False.elim ht
   | row wr _ _=>cases wr<;>cases B'<;>first | exact h | (exact False.elim ht)
   | dead=>cases B'<;>first | exact h | (exact False.elim ht)
   | box _=>cases B'<;>first | exact h | (exact False.elim ht)
   | rng _=>cases B'<;>first | exact h | (exact False.elim ht)
   | hole=>exact False.elim h
 | .mv k ks vs,c,h=>by
  rw[VR] at h ⊢
  obtain ⟨r,arr,cl,h1,h2,h3,h4,h5⟩:=h
  obtain ⟨e1,e2⟩:=he.map r arr cl h2 h3
  exact⟨r,arr,cl,h1,e2,e1,h4,bE.fq he vs _ h5⟩
theorem bE.fq (he:wI H g w H' g' w'):∀ (cs:List A) (ds:List Value),bE H g w cs ds->bE H' g' w' cs ds
 | [],_,h=>by rw[bE] at h ⊢; exact h
 | a :: as,_,h=>by
  rw[bE] at h ⊢
  obtain ⟨d,ds',h1,h2,h3⟩:=h
  exact⟨d,ds',h1,VR.fq he a d h2,bE.fq he as ds' h3⟩
theorem bC.fq (he:wI H g w H' g' w'):∀ (cs:List (List A)) (ds:List (List Value)),bC H g w cs ds->bC H' g' w' cs ds
 | [],_,h=>by rw[bC] at h ⊢; exact h
 | a :: as,_,h=>by
  rw[bC] at h ⊢
  obtain ⟨d,ds',h1,h2,h3⟩:=h
  exact⟨d,ds',h1,bE.fq he a d h2,bC.fq he as ds' h3⟩
end
theorem Ext.PL (he:Ext H g w H' g' w'):wI H g w H' g' w':=⟨he.cell,he.blk,he.map⟩
theorem bK.ext (he:Ext H g w H' g' w') {k off:Nat} {ds:List Value} (h:bK H g w k off ds):bK H' g' w' k off ds:=h.fq he.PL
theorem VR.ext (he:Ext H g w H' g' w') (a:A) (c:Value) (h:VR H g w a c):VR H' g' w' a c:=VR.fq he.PL a c h
theorem bE.ext (he:Ext H g w H' g' w') (cs:List A) (ds:List Value) (h:bE H g w cs ds):bE H' g' w' cs ds:=bE.fq he.PL cs ds h
theorem bC.ext (he:Ext H g w H' g' w') (cs:List (List A)) (ds:List (List Value)) (h:bC H g w cs ds):bC H' g' w' cs ds:=bC.fq he.PL cs ds h
theorem lZ.len {b es:Nat} {els:List (List A)} (h:lZ H g w b (.row false es els)):(g.ga b).length=els.length:=h.1.length
theorem Rel.Aa (hr:Rel H g w0 w) (he:Ext H g w H' g' w') (hS:g'.S=g.S:=by rfl):∀ k o,w'.heap.size<=k->g'.S k o:=fun k o hk=>by rw[hS]; exact hr.out k o (YG he.size hk)
theorem Rel.yk (hr:Rel H g w0 w) (he:Ext H g w H' g' w') (hS:g'.S=g.S:=by rfl):∀ b k o,g'.mu b=some k->g'.S k o:=fun b k o h=>by
 rw[hS]
 rcases he.fresh b k h with ⟨c,hc⟩ | hl
 ·exact hr.own c k o hc
 ·exact hr.out k o hl
theorem Ext.below (hr:Rel H g w0 w) (hb:Below w.heap.size w w'):Ext H g w H g w':=by
 refine⟨fun k o v hs hc=>⟨(hb.cell (p:=⟨k,o,none⟩) (Z9 w _ hc)).trans hc,hs⟩,fun b B hB=>⟨B,hB,?_⟩,fun k o ho=>(hb.block k (Yo.1 ho).1).trans ho,hb.size,fun k arr cl hs hm=>⟨(hb.block k (Yo.1 hm).1).trans hm,hs⟩,fun k hk _=>hb.block k hk,fun b k h=>.inl ⟨b,h⟩⟩
 cases B with
 | box _=>rfl
 | mp _ _ _=>rfl
 | row wr es els=>cases wr with
  | true=>exact⟨rfl,rfl,rfl⟩
  | false=>exact⟨rfl,⟨[],r9⟩,(hr.blk b _ hB).len,Yk _,fun _=>⟨rfl,fun k arr ty hk ha=>⟨arr,(hb.block k (hr.dom b k hk).2.2).trans ha,Yk _⟩⟩⟩
 | rng _=>exact⟨rfl,rfl⟩
 | dead=>trivial
 | hole=>trivial
theorem lZ.below {b:Nat} {B:aC} (hr:Rel H g w0 w) (hb:Below w.heap.size w w') (h:lZ H g w b B):lZ H g w' b B:=by
 have he:=Ext.below hr hb
 cases B with
 | box cs=>obtain ⟨k,arr,ty,h1,h2,h3⟩:=h; exact⟨k,arr,ty,h1,(hb.block k (hr.dom b k h1).2.2).trans h2,bE.ext he _ _ h3⟩
 | row wr es els=>cases wr with
  | true=>
   obtain ⟨ds,h1,h2,h3⟩:=h
   exact⟨ds,bC.ext he _ _ h1,h2,fun hp=>let ⟨k,arr,ty,e1,e2,e3⟩:=h3 hp; ⟨k,arr,ty,e1,(hb.block k (hr.dom b k e1).2.2).trans e2,e3⟩⟩
  | false=>exact⟨bC.ext he _ _ h.1,h.2⟩
 | rng st=>obtain ⟨k,h1,h2⟩:=h; exact⟨k,h1,(hb.block k (hr.dom b k h1).2.2).trans h2⟩
 | mp _ _ _=>obtain ⟨k,arr,cl,h1,h2,h3,h4⟩:=h; exact⟨k,arr,cl,h1,(hb.block k (hr.dom b k h1).2.2).trans h2,h3,bE.ext he _ _ h4⟩
 | dead=>exact h
 | hole=>exact h
theorem Rel.eQ (hr:Rel H g w0 w) (hb:Below w.heap.size w w'):Rel H g w0 w':=
 ⟨hr.below.trans (hb.mono hr.below.size),fun b k hk=>⟨(hr.dom b k hk).1,(hr.dom b k hk).2.1,YA (hr.dom b k hk).2.2 hb.size⟩,hr.inj,fun k o hk=>hr.out k o (YG hb.size hk),hr.own,fun b B hB=>(hr.blk b B hB).below hr hb⟩
theorem Rel.xf (hr:Rel H g w0 w) {B:Nat} (hc:cq B w w'):wI H g w H g w':=by
 refine⟨fun k o v hs h=>⟨Calm.cell (B:=B) ⟨k,o,none⟩ v w w' h hc,hs⟩,fun b Bk hB=>⟨Bk,hB,?_⟩,fun k arr cl hs hm=>⟨hc.data _ _ hm rfl,hs⟩⟩
 cases Bk with
 | box _=>rfl
 | mp _ _ _=>rfl
 | row wr es els=>cases wr with
  | true=>exact⟨rfl,rfl,rfl⟩
  | false=>exact⟨rfl,⟨[],r9⟩,(hr.blk b _ hB).len,Yk _,fun _=>⟨rfl,fun k arr ty hk ha=>⟨arr,hc.data _ _ ha rfl,Yk _⟩⟩⟩
 | rng _=>exact⟨rfl,rfl⟩
 | dead=>trivial
 | hole=>trivial
theorem Rel.calm (hr:Rel H g w0 w) {B:Nat} (hB:w0.heap.size<=B) (hc:cq B w w') (hl:∀ (k:Nat) (o:Loop),w.heap[k]? = some (.loop o)->w'.heap[k]? = some (.loop o)):Rel H g w0 w':=by
 have he:=hr.xf hc
 refine⟨Calm.below (Yk _) hB w w' hr.below hc,fun b k hk=>⟨(hr.dom b k hk).1,(hr.dom b k hk).2.1,YA (hr.dom b k hk).2.2 hc.size⟩,hr.inj,fun k o hk=>hr.out k o (YG hc.size hk),hr.own,fun b Bk hBk=>?_⟩
 have h:=hr.blk b Bk hBk
 cases Bk with
 | box cs=>obtain ⟨k,arr,ty,h1,h2,h3⟩:=h; exact⟨k,arr,ty,h1,hc.data _ _ h2 rfl,bE.fq he _ _ h3⟩
 | row wr es els=>cases wr with
  | true=>
   obtain ⟨ds,h1,h2,h3⟩:=h
   exact⟨ds,bC.fq he _ _ h1,h2,fun hp=>let ⟨k,arr,ty,e1,e2,e3⟩:=h3 hp; ⟨k,arr,ty,e1,hc.data _ _ e2 rfl,e3⟩⟩
  | false=>exact⟨bC.fq he _ _ h.1,h.2⟩
 | rng st=>obtain ⟨k,h1,h2⟩:=h; exact⟨k,h1,hl k _ h2⟩
 | mp _ _ _=>obtain ⟨k,arr,cl,h1,h2,h3,h4⟩:=h; exact⟨k,arr,cl,h1,hc.data _ _ h2 rfl,h3,bE.fq he _ _ h4⟩
 | dead=>exact h
 | hole=>exact h
theorem Ext.calm {H0:aB} {g0:Gh} {ws:World} (he:Ext H0 g0 ws H g w) (hr:Rel H g w0 w) {B:Nat} (hB:ws.heap.size<=B) (hc:cq B w w'):Ext H0 g0 ws H g w':=by
 have h0:=hr.xf hc
 refine⟨fun k o v hs h=>?_,fun b Bk hBk=>?_,fun k o ho=>?_,YG he.size hc.size,fun k arr cl hs hm=>let ⟨c1,s1⟩:=he.map k arr cl hs hm; h0.map k arr cl s1 c1,fun k hk hn=>(hc.low k r7 (YA hk he.size)).trans (he.obj k hk hn),he.fresh⟩
 ·obtain ⟨c1,s1⟩:=he.cell k o v hs h
  exact h0.cell k o v s1 c1
 ·obtain ⟨B',hB',ht⟩:=he.blk b Bk hBk
  refine⟨B',hB',?_⟩
  cases Bk with
  | row wr es els=>cases wr with
   | false=>cases B' with
    | row wr' es' els'=>cases wr' with
     | false=>
      obtain ⟨e1,e2,e3,e4,e5⟩:=ht
      refine⟨e1,e2,e3,e4,fun hl=>⟨(e5 hl).1,fun k arr ty hk ha=>?_⟩⟩
      obtain ⟨arr',q1,q2⟩:=(e5 hl).2 k arr ty hk ha
      exact⟨arr',hc.data _ _ q1 rfl,q2⟩
     | true=>exact ht
    | _=>exact ht
   | true=>cases B' with
    | row wr' es' els'=>cases wr'<;>exact ht
    | _=>exact ht
  | _=>cases B'<;>exact ht
 ·have hk:=he.kept k o ho
  have hlt:=(Yo.1 ho).1
  exact(hc.low k r7 (Yo.1 hk).1).trans hk
end
section
open Go.RowKit
variable {P:Program} {H:aB} {g:Gh} {w0 w:World}
theorem ef {α:Type} {P:Program}:∀ {s:Sem α} {a:α},cP P s=some a->∀ w,s.run P w=.ok a w
 | .pure a,_,h,w=>by simp only[cP,Zd] at h; subst h; rfl
 | .program k,a,h,w=>by simp only[cP] at h; exact ef (s:=k P) h w
 | .mark _ k,a,h,w=>by simp only[cP] at h; exact ef (s:=k) h w
 | .load ..,_,h,_ | .store ..,_,h,_ | .new ..,_,h,_ | .shape ..,_,h,_ | .freeze ..,_,h,_ | .frozen ..,_,h,_ | .getObj ..,_,h,_ | .setObj ..,_,h,_ | .choose ..,_,h,_ | .sys ..,_,h,_ | .halt _,_,h,_=>by cases h
theorem dK:∀ {cs:List A} {ds:List Value},bE H g w cs ds↔ds.length=cs.length/\∀ (i:Nat) a d,cs[i]? = some a->ds[i]? = some d->VR H g w a d
 | [],ds=>by
  rw[bE]
  exact⟨fun h=>by subst h; simp,fun h=>by simpa using h.1⟩
 | a :: as,ds=>by
  rw[bE]
  constructor
  ·rintro ⟨d,ds',rfl,h1,h2⟩
   obtain ⟨h3,h4⟩:=dK.1 h2
   refine⟨by simp[h3],fun i x y hx hy=>?_⟩
   cases i with
   | zero=>simp at hx hy; subst hx; subst hy; exact h1
   | succ i=>exact h4 i x y (by simpa using hx) (by simpa using hy)
  ·rintro ⟨h1,h2⟩
   cases ds with
   | nil=>simp at h1
   | cons d ds'=>exact⟨d,ds',rfl,h2 0 a d rfl rfl,dK.2 ⟨by simpa using h1,fun i x y hx hy=>h2 (i+1) x y (by simpa using hx) (by simpa using hy)⟩⟩
theorem cX:∀ {cs:List (List A)} {ds:List (List Value)},bC H g w cs ds↔ds.length=cs.length/\∀ (i:Nat) a d,cs[i]? = some a->ds[i]? = some d->bE H g w a d
 | [],ds=>by
  rw[bC]
  exact⟨fun h=>by subst h; simp,fun h=>by simpa using h.1⟩
 | a :: as,ds=>by
  rw[bC]
  constructor
  ·rintro ⟨d,ds',rfl,h1,h2⟩
   obtain ⟨h3,h4⟩:=cX.1 h2
   refine⟨by simp[h3],fun i x y hx hy=>?_⟩
   cases i with
   | zero=>simp at hx hy; subst hx; subst hy; exact h1
   | succ i=>exact h4 i x y (by simpa using hx) (by simpa using hy)
  ·rintro ⟨h1,h2⟩
   cases ds with
   | nil=>simp at h1
   | cons d ds'=>exact⟨d,ds',rfl,h2 0 a d rfl rfl,cX.2 ⟨by simpa using h1,fun i x y hx hy=>h2 (i+1) x y (by simpa using hx) (by simpa using hy)⟩⟩
theorem bE.get {cs:List A} {ds:List Value} (h:bE H g w cs ds) {i:Nat} {a:A} (ha:cs[i]? = some a):∃ d,ds[i]? = some d/\VR H g w a d:=by
 obtain ⟨h1,h2⟩:=dK.1 h
 have hi:i<ds.length:=by rw[h1]; exact(Ym.1 ha).1
 exact⟨ds[i],Yg hi,h2 i a _ ha (Yg hi)⟩
theorem bC.get {cs:List (List A)} {ds:List (List Value)} (h:bC H g w cs ds) {i:Nat} {a:List A} (ha:cs[i]? = some a):∃ d,ds[i]? = some d/\bE H g w a d:=by
 obtain ⟨h1,h2⟩:=cX.1 h
 have hi:i<ds.length:=by rw[h1]; exact(Ym.1 ha).1
 exact⟨ds[i],Yg hi,h2 i a _ ha (Yg hi)⟩
theorem bE.drop {cs:List A} {ds:List Value} (h:bE H g w cs ds) (n:Nat):bE H g w (cs.drop n) (ds.drop n):=by
 obtain ⟨h1,h2⟩:=dK.1 h
 exact dK.2 ⟨by simp[h1],fun i a d ha hd=>h2 (n+i) a d (by simpa using ha) (by simpa using hd)⟩
theorem bE.take {cs:List A} {ds:List Value} (h:bE H g w cs ds) (n:Nat):bE H g w (cs.take n) (ds.take n):=by
 obtain ⟨h1,h2⟩:=dK.1 h
 refine dK.2 ⟨by simp[h1],fun i a d ha hd=>?_⟩
 rw[YN] at ha hd
 split at ha
 ·rename_i hlt; rw[Yq hlt] at hd; exact h2 _ _ _ ha hd
 ·cases ha
theorem bE.append {cs cs':List A} {ds ds':List Value} (h:bE H g w cs ds) (h':bE H g w cs' ds'):bE H g w (cs++cs') (ds++ds'):=by
 obtain ⟨h1,h2⟩:=dK.1 h
 obtain ⟨h3,h4⟩:=dK.1 h'
 refine dK.2 ⟨by simp[h1,h3],fun i a d ha hd=>?_⟩
 rw[Z5] at ha hd
 rw[h1] at hd
 split at ha
 ·rename_i hlt; rw[Yq hlt] at hd; exact h2 _ _ _ ha hd
 ·rename_i hlt; rw[Yp hlt] at hd; exact h4 _ _ _ ha hd
theorem bC.drop {cs:List (List A)} {ds:List (List Value)} (h:bC H g w cs ds) (n:Nat):bC H g w (cs.drop n) (ds.drop n):=by
 obtain ⟨h1,h2⟩:=cX.1 h
 exact cX.2 ⟨by simp[h1],fun i a d ha hd=>h2 (n+i) a d (by simpa using ha) (by simpa using hd)⟩
theorem bC.take {cs:List (List A)} {ds:List (List Value)} (h:bC H g w cs ds) (n:Nat):bC H g w (cs.take n) (ds.take n):=by
 obtain ⟨h1,h2⟩:=cX.1 h
 refine cX.2 ⟨by simp[h1],fun i a d ha hd=>?_⟩
 rw[YN] at ha hd
 split at ha
 ·rename_i hlt; rw[Yq hlt] at hd; exact h2 _ _ _ ha hd
 ·cases ha
theorem bC.append {cs cs':List (List A)} {ds ds':List (List Value)} (h:bC H g w cs ds) (h':bC H g w cs' ds'):bC H g w (cs++cs') (ds++ds'):=by
 obtain ⟨h1,h2⟩:=cX.1 h
 obtain ⟨h3,h4⟩:=cX.1 h'
 refine cX.2 ⟨by simp[h1,h3],fun i a d ha hd=>?_⟩
 rw[Z5] at ha hd
 rw[h1] at hd
 split at ha
 ·rename_i hlt; rw[Yq hlt] at hd; exact h2 _ _ _ ha hd
 ·rename_i hlt; rw[Yp hlt] at hd; exact h4 _ _ _ ha hd
theorem bE.bB {cs xs:List A} {ds ys:List Value} (h:bE H g w cs ds) (h':bE H g w xs ys) (o:Nat):bE H g w (bB cs o xs) (bB ds o ys):=by
 unfold Go.Proofs.YtebkhfhcipnfgaaGreat.bB
 rw[h'.length]
 exact((h.take o).append h').append (h.drop _)
theorem bC.bB {cs xs:List (List A)} {ds ys:List (List Value)} (h:bC H g w cs ds) (h':bC H g w xs ys) (o:Nat):bC H g w (bB cs o xs) (bB ds o ys):=by
 unfold Go.Proofs.YtebkhfhcipnfgaaGreat.bB
 rw[h'.length]
 exact((h.take o).append h').append (h.drop _)
theorem ij {α:Type} (es:Nat):∀ (q:Nat) (xs:List α),(chunk es q xs).length=q
 | 0,_=>rfl
 | q+1,xs=>by rw[chunk,YD,ij es q]
theorem jZ {α:Type} {es:Nat}:∀ {q:Nat} {xs:List α},xs.length=q*es->∀ d∈chunk es q xs,d.length=es
 | 0,_,_,d,hd=>by cases hd
 | q+1,xs,h,d,hd=>by
  rw[Zi,qbA] at h
  rcases Y1.1 hd with rfl | hd
  ·simp; omega
  ·exact jZ so d hd
theorem mj {α:Type} {es:Nat}:∀ {q:Nat} {xs:List α},xs.length=q*es->(chunk es q xs).flatten=xs
 | 0,xs,h=>by
  have:xs=[]:=YI (by simpa using h)
  subst this; rfl
 | q+1,xs,h=>by
  rw[Zi,qbA] at h
  rw[chunk,ZB,mj so]
  exact ZH _ _
theorem bE.chunk {es:Nat}:∀ (q:Nat) {cs:List A} {ds:List Value},bE H g w cs ds->bC H g w (chunk es q cs) (chunk es q ds)
 | 0,_,_,_=>by rw[Go.Proofs.YtebkhfhcipnfgaaGreat.chunk,Go.Proofs.YtebkhfhcipnfgaaGreat.chunk,bC]
 | q+1,cs,ds,h=>by
  rw[Go.Proofs.YtebkhfhcipnfgaaGreat.chunk,Go.Proofs.YtebkhfhcipnfgaaGreat.chunk,bC]
  exact⟨_,_,rfl,h.take es,bE.chunk q (h.drop es)⟩
theorem bC.flat:∀ {els:List (List A)} {ds:List (List Value)},bC H g w els ds->bE H g w els.flatten ds.flatten
 | [],_,h=>by rw[bC] at h; subst h; rw[List.flatten_nil,bE]; rfl
 | a :: els,_,h=>by
  rw[bC] at h
  obtain ⟨d,ds',rfl,h1,h2⟩:=h
  rw[ZB,ZB]
  exact h1.append (bC.flat h2)
theorem EZ (x:Value):VR H g w (zY x) x:=by
 unfold zY
 split
 ·rw[VR]; exact⟨none,0,[],0,rfl,Yk _,fun _=>rfl,r9,r9,by rw[bC]⟩
 ·rw[VR]
theorem jO (l:List Value):bE H g w (l.map zY) l:=
 dK.2 ⟨r9,fun i a d ha hd=>by rw[YJ,hd] at ha; cases ha; exact EZ d⟩
theorem pe (x:Value):VR H g w (tR x) x:=by
 unfold tR
 split
 ·rename_i cs; rw[VR]; exact⟨cs,rfl,jO _⟩
 ·exact EZ _
mutual
theorem nP:∀ (a:A) {v c:Value},a.qO=some v->VR H g w a c->c=v
 | .any,_,_,h,_=>by simp[A.qO] at h
 | .v x,_,_,h,hr=>by simp[A.qO] at h; rw[VR] at hr; rw[hr,h]
 | .ptr ..,_,_,h,_=>by simp[A.qO] at h
 | .ep ..,_,_,h,_=>by simp[A.qO] at h
 | .ip _,_,_,h,_=>by simp[A.qO] at h
 | .imm ..,_,_,h,_=>by simp[A.qO] at h
 | .sl ..,_,_,h,_=>by simp[A.qO] at h
 | .agg cs,_,_,h,hr=>by
  simp[A.qO] at h
  obtain ⟨l,hl,rfl⟩:=h
  rw[VR] at hr
  obtain ⟨ds,rfl,h2⟩:=hr
  have:=Bo cs hl h2
  rw[<-this]
 | .tup _,_,_,h,_=>by simp[A.qO] at h
 | .fn (.func f) [] [],_,_,h,hr=>by
  simp[A.qO] at h
  subst h
  rw[VR] at hr
  obtain ⟨ds,es,rfl,h1,h2⟩:=hr
  rw[bE] at h1 h2
  have e1:ds=#[]:=by cases ds; simp_all
  have e2:es=#[]:=by cases es; simp_all
  rw[e1,e2]
 | .fn (.func _) (_ :: _) _,_,_,h,_=>by simp[A.qO] at h
 | .fn (.func _) [] (_ :: _),_,_,h,_=>by simp[A.qO] at h
 | .fn (.method _) _ _,_,_,h,_=>by simp[A.qO] at h
 | .fn (.methodOf ..) _ _,_,_,h,_=>by simp[A.qO] at h
 | .fn (.via ..) _ _,_,_,h,_=>by simp[A.qO] at h
 | .fn (.yield _) _ _,_,_,h,_=>by simp[A.qO] at h
 | .ifc t x,_,_,h,hr=>by
  simp[A.qO] at h
  obtain ⟨v,hv,rfl⟩:=h
  rw[VR] at hr
  obtain ⟨d,rfl,h2⟩:=hr
  rw[nP x hv h2]
theorem Bo:∀ (cs:List A) {l ds:List Value},Ce cs=some l->bE H g w cs ds->ds=l
 | [],_,_,h,hr=>by simp[Ce] at h; rw[bE] at hr; rw[hr,<-h]
 | a :: as,_,_,h,hr=>by
  rw[Ce] at h
  cases hx:a.qO with
  | none=>rw[hx] at h; cases h
  | some x=>
   rw[hx] at h
   cases hl:Ce as with
   | none=>rw[hl] at h; cases h
   | some l=>
    rw[hl] at h
    cases h
    rw[bE] at hr
    obtain ⟨d,ds',rfl,h1,h2⟩:=hr
    rw[nP a hx h1,Bo as hl h2]
end
theorem rX {a:A} {c:Value} (hc:a.cell=true) (h:VR H g w a c):c.oneCell'=true:=by
 cases a with
 | any=>simp[A.cell] at hc
 | v x=>rw[VR] at h; rw[h]; simpa [A.cell] using hc
 | ptr b o=>
  rw[VR] at h
  split at h
  ·obtain ⟨k,_,rfl⟩:=h; rfl
  ·exact h.elim
  ·exact h
  ·exact h.elim
 | ep b i o=>
  rw[VR] at h
  split at h
  ·obtain ⟨_,k,_,rfl⟩:=h; rfl
  ·exact h.elim
  ·exact h
  ·exact h.elim
 | ip cs=>rw[VR] at h; obtain ⟨_,_,_,rfl,_⟩:=h; rfl
 | imm els clip=>rw[VR] at h; obtain ⟨_,_,_,_,rfl,_⟩:=h; rfl
 | sl b o n clip=>
  rw[VR] at h
  split at h
  ·obtain ⟨_,_,_,rfl,_⟩:=h; rfl
  ·obtain ⟨_,_,_,rfl,_⟩:=h; rfl
  ·exact h.elim
  ·exact h
  ·exact h.elim
 | agg _=>simp[A.cell] at hc
 | tup _=>simp[A.cell] at hc
 | fn f a b=>rw[VR] at h; obtain ⟨_,_,rfl,_⟩:=h; rfl
 | ifc t x=>rw[VR] at h; obtain ⟨_,rfl,_⟩:=h; rfl
 | nq _=>simp[A.cell] at hc
 | yld b=>
  rw[VR] at h
  split at h
  ·obtain ⟨_,_,rfl⟩:=h; rfl
  ·exact h.elim
  ·exact h
  ·exact h.elim
 | mr b=>
  rw[VR] at h
  split at h
  ·obtain ⟨_,_,rfl⟩:=h; rfl
  ·exact h.elim
  ·exact h
  ·exact h.elim
 | mv k ks vs=>rw[VR] at h; obtain ⟨_,_,_,rfl,_⟩:=h; rfl
theorem vC {c:Value} (h:c.oneCell'=true):c.cells=#[c]:=by cases c<;>first | rfl | simp[Value.oneCell'] at h
theorem na {a:A} {c:Value} {cs:List A} (ha:a.cells? = some cs) (h:VR H g w a c):bE H g w cs c.cells.toList/\(∀ x∈c.cells.toList,x.oneCell'=true)/\∀ x∈cs,x.cell=true:=by
 have one:∀ {x:A} {d:Value},x.cell=true->VR H g w x d->bE H g w [x] d.cells.toList/\(∀ y∈d.cells.toList,y.oneCell'=true)/\∀ y∈[x],y.cell=true:=fun {x d} hx hv=>by
  have h1:=rX hx hv
  rw[vC h1]
  refine⟨?_,by simp[h1],by simp[hx]⟩
  rw[bE]; exact⟨d,[],rfl,hv,H7⟩
 cases a with
 | any=>simp[A.cells?] at ha
 | tup _=>simp[A.cells?] at ha
 | agg as=>
  simp only[A.cells?,cond_eq_ite] at ha
  split at ha
  ·rename_i hall
   cases ha
   rw[VR] at h
   obtain ⟨ds,rfl,h2⟩:=h
   refine⟨h2,fun x hx=>?_,Yw.1 hall⟩
   obtain ⟨i,hi,rfl⟩:=Zf hx
   have hl:=h2.length
   obtain ⟨d,hd,hv⟩:=h2.get (i:=i) (Yg (by simp only[Value.cells] at hi; omega))
   have hd':(Value.agg ds).cells.toList[i]? = some d:=hd
   rw[Yg hi] at hd'
   cases hd'
   exact rX (Yw.1 hall _ (YH _)) hv
  ·cases ha
 | v x=>
  simp only[A.cells?,cond_eq_ite] at ha
  split at ha
  ·rename_i hx; cases ha; exact one hx h
  ·cases ha
 | nq _=>simp[A.cells?] at ha
 | _=>simp only[A.cells?,Zd] at ha; subst ha; exact one rfl h
theorem wa {t:TypeId} {cs:List A} {ds:List Value} {a:A} (hj:join P t cs=some a) (h:bE H g w cs ds):∃ c,VR H g w a c/\(if mw P t=true then c=.agg ds.toArray else ds=[c]):=by
 unfold Go.Proofs.YtebkhfhcipnfgaaGreat.join at hj
 cases hA:mw P t
 ·rw[hA] at hj
  simp only[Yh] at hj
  split at hj
  ·cases hj
   rw[bE] at h
   obtain ⟨d,ds',rfl,h1,h2⟩:=h
   rw[bE] at h2
   subst h2
   exact⟨d,h1,r9⟩
  ·cases hj
 ·rw[hA] at hj
  simp only[Yi,Zd] at hj
  subst hj
  exact⟨.agg ds.toArray,by rw[VR]; exact⟨_,rfl,by simpa using h⟩,r9⟩
theorem uK (t:TypeId) {d:TypeDesc} (hu:P.underlying t=some d) (w:World):(isAgg t).run P w=.ok (mw P t) w:=by
 unfold isAgg mw
 rw[YZ,Yu hu w,hu]
 cases d<;>rfl
theorem ml {t:TypeId} {n:Nat} (h:cM P t=some n):∃ d,P.underlying t=some d:=by
 unfold cM at h
 cases hu:P.underlying t with
 | none=>rw[hu] at h; cases h
 | some d=>exact⟨d,rfl⟩
theorem gC {t:TypeId} {n:Nat} (h:cM P t=some n):∃ i,P.info? t=some i/\i.size=n:=by
 obtain ⟨d,hu⟩:=ml h
 unfold cM at h
 rw[hu] at h
 cases hi:P.info? t with
 | none=>rw[hi] at h; cases h
 | some i=>rw[hi] at h; exact⟨i,rfl,by simpa using h⟩
theorem eC {t:TypeId} {n:Nat} (h:cM P t=some n) (w:World):(sizeOf t).run P w=.ok n w:=by
 obtain ⟨i,hi,rfl⟩:=gC h
 simp[sizeOf,typeInfo,hi]
theorem ya {t:TypeId} {n:Nat} (hs:cM P t=some n) {d:TypeDesc} (hu:P.underlying t=some d) {k off:Nat} {ds:List Value} (hl:ds.length=n) (hc:w.rangeAt k off ds) {c:Value} (h:if mw P t=true then c=.agg ds.toArray else ds=[c]) :
  (loadVar t ⟨k,off,none⟩).run P w=.ok c w:=by
 have hc':(loadCells ⟨k,off,none⟩ ds.length).run P w=.ok ds.toArray w:=
  run_loadCells_list (P:=P) w ⟨k,off,none⟩ ds (fun j v hv=>by rw[ZA]; exact hc j v hv)
 unfold loadVar
 rw[YZ,uK t hu w]
 cases hA:mw P t
 ·rw[hA] at h
  simp at h
  subst h
  have:=hc 0 c rfl
  simp only[ZM] at this
  simp[load,Sem.run,this]
 ·rw[hA] at h
  simp at h
  subst h
  simp[eC hs,<-hl,hc']
end
section
open Go.RowKit
variable {P:Program} {H:aB} {g:Gh} {w0 w:World}
theorem bD {α β:Type} {x:Option α} {f:α->Option β} {y:β} (h:x.bind f=some y):∃ a,x=some a/\f a=some y:=by
 cases x with
 | none=>cases h
 | some a=>exact⟨a,rfl,h⟩
theorem bF {α:Type} {b:Bool} {x y:α}:(bif b then x else y)=if b=true then x else y:=by cases b<;>rfl
theorem eG {α:Type} {b:Bool} {x:Option α} {y:α} (h:(bif b then none else x)=some y):b=false/\x=some y:=by cases b<;>simp_all
theorem bu {α:Type} {b:Bool} {x:Option α} {y:α} (h:(bif b then x else none)=some y):b=true/\x=some y:=by cases b<;>simp_all
theorem bK.drop {k off:Nat} {ds:List Value} (h:bK H g w k off ds) (n:Nat):bK H g w k (off+n) (ds.drop n):=fun j v hj=>by
 rw[ZC] at hj
 rw[ZY]
 exact h (n+j) v hj
theorem bK.take {k off:Nat} {ds:List Value} (h:bK H g w k off ds) (n:Nat):bK H g w k off (ds.take n):=fun j v hj=>by
 rw[YN] at hj
 split at hj
 ·exact h j v hj
 ·cases hj
theorem bK.range {k off:Nat} {ds:List Value} (h:bK H g w k off ds):w.rangeAt k off ds:=fun j v hj=>(h j v hj).1
theorem kb {es:Nat}:∀ {ds:List (List Value)},(∀ d∈ds,d.length=es)->∀ {j:Nat} {d:List Value},ds[j]? = some d->∀ i,i<es->ds.flatten[j*es+i]? = d[i]?
 | [],_,j,d,h,i,_=>by simp at h
 | x :: xs,hl,j,d,h,i,hi=>by
  have hx:=hl x r9
  cases j with
  | zero=>simp at h; subst h; simp[Z5,hx,hi]
  | succ j=>
   have:=kb (ds:=xs) (fun d hd=>hl d (by simp[hd])) (j:=j) (d:=d) (by simpa using h) i hi
   rw[ZB,YY (by rw[hx,Zi]; omega),hx,<-this]
   congr 1
   rw[Zi]; omega
theorem cp {es:Nat}:∀ {ds:List (List Value)},(∀ d∈ds,d.length=es)->ds.flatten.length=ds.length*es
 | [],_=>r9
 | x :: xs,hl=>by
  rw[ZB,YF,hl x r9,cp (fun d hd=>hl d (by simp[hd])),YD,Zi]; omega
theorem bK.elem {k off es:Nat} {ds:List (List Value)} (h:bK H g w k off ds.flatten) (hl:∀ d∈ds,d.length=es) {j:Nat} {d:List Value} (hd:ds[j]? = some d):bK H g w k (off+j*es) d:=fun i v hi=>by
 have hdl:d.length=es:=hl d (YQ hd)
 have hi':i<es:=by rw[<-hdl]; exact(Ym.1 hi).1
 rw[ZY]
 exact h (j*es+i) v (by rw[kb hl hd i hi']; exact hi)
theorem bK.sub {k off es:Nat} {ds:List (List Value)} (h:bK H g w k off ds.flatten) (hl:∀ d∈ds,d.length=es) (l m:Nat):bK H g w k (off+l*es) ((ds.drop l).take m).flatten:=fun i v hi=>by
 have hl2:∀ d∈(ds.drop l).take m,d.length=es:=fun d hd=>hl d (Y0 (YT hd))
 have hlen:=(Ym.1 hi).1
 rw[cp hl2] at hlen
 have hes:0<es:=by rcases qav es with h0 | h0; (rw[h0] at hlen; simp at hlen); exact h0
 have hq:i / es<((ds.drop l).take m).length:=qa6 (by rw[Zr]; exact hlen)
 have hdm:=qa7 i es
 have hr:=qaD i hes
 obtain ⟨d,hd⟩:∃ d,((ds.drop l).take m)[i / es]? = some d:=⟨_,Yg hq⟩
 have e1:=kb hl2 hd (i % es) hr
 have e2:i / es*es+i % es=i:=by rw[Zr]; exact hdm
 rw[e2,hi] at e1
 have hd2:ds[l+i / es]? = some d:=by
  rw[YN] at hd
  split at hd
  ·rwa [ZC] at hd
  ·cases hd
 have e3:=kb hl hd2 (i % es) hr
 have:=h ((l+i / es)*es+i % es) v (by rw[e3,<-e1])
 rwa [show off+((l+i / es)*es+i % es)=off+l*es+i by rw[Zi]; omega] at this
theorem oX {a:A} {c:Value} {j:Nat} (h:idx a=some j) (hv:VR H g w a c):∃ k n,c=.int k n/\0<=n/\n.toNat=j:=by
 unfold idx at h
 split at h
 ·rename_i k n
  replace h:=bu h
  obtain ⟨h1,h2⟩:=h
  rw[VR] at hv
  exact⟨k,n,hv,by simpa using h1,by simpa using h2⟩
 ·cases h
theorem qW (hr:Rel H g w0 w) {t:TypeId} {x y:A} {c:Value} (h:lC P t x H=some y) (hx:VR H g w x c):∃ d,(Instr.loadAt t c).run P w=.ok d w/\VR H g w y d:=by
 unfold lC at h
 replace h:=bD h
 obtain ⟨n,hn,h⟩:=h
 replace h:=eG h
 obtain ⟨_,h⟩:=h
 obtain ⟨dd,hu⟩:=ml hn
 have fin:∀ {k off:Nat} {cs:List A} {ds:List Value},c=.pointer (some ⟨k,off,none⟩)->bE H g w cs ds->cs.length=n->w.rangeAt k off ds->join P t cs=some y->∃ d,(Instr.loadAt t c).run P w=.ok d w/\VR H g w y d:=by
  intro k off cs ds hc hv hl hcells hj
  obtain ⟨d,h1,h2⟩:=wa hj hv
  refine⟨d,?_,h1⟩
  subst hc
  simp only[Instr.loadAt,Instr.sureAddr,YZ,qam,YS]
  exact ya hn hu (hv.length.trans hl) hcells h2
 have seg:∀ {k:Nat} {arr:Array Value} {ty:TypeId} (o:Nat) (ds:List Value),w.heap[k]? = some (.cells arr ty (0,0))->(∀ (j:Nat) v,ds[j]? = some v->arr[o+j]? = some v)->w.rangeAt k o ds:=fun {k arr ty} o ds hk hd j v hj=>by
  rw[ZN w k (o+j) arr ty (0,0) hk]; exact hd j v hj
 split at h
 ·rename_i b o
  split at h
  ·rename_i cs hb
   replace h:=bu h
   obtain ⟨h1,h2⟩:=h
   have h1:=Yr h1
   rw[VR,hb] at hx
   obtain ⟨k,hk,rfl⟩:=hx
   obtain ⟨k',arr,ty,hk',ha,hv⟩:=hr.blk b _ hb
   rw[hk] at hk'; cases hk'
   refine fin rfl ((hv.drop o).take n) so (seg o _ ha fun j v hj=>?_) h2
   rw[YN] at hj
   split at hj
   ·rw[ZC] at hj; simpa using hj
   ·cases hj
  ·cases h
 ·rename_i b i o
  split at h
  ·rename_i es els hb
   split at h
   ·rename_i cs hi
    rw[VR,hb] at hx
    obtain ⟨hlt,k,hk,rfl⟩:=hx
    obtain ⟨ds,hv,hl,hrow⟩:=hr.blk b _ hb
    obtain ⟨k',arr,ty,hk',ha,hcell⟩:=hrow r7
    rw[hk] at hk'; cases hk'
    obtain ⟨d,hd,hvd⟩:=hv.get hi
    rw[bF] at h
    split at h
    rotate_left
    ·replace h:=bu h
     obtain ⟨h1,h2⟩:=h
     simp only[Yj,qaE] at h1
     obtain ⟨rfl,h1⟩:=h1
     have hcs:cs.length=es:=by rw[<-hvd.length]; exact hl d (YQ hd)
     refine fin rfl ((hv.drop i).take (n / cs.length)).flat h1 (seg _ _ ha fun j v hj=>?_) h2
     refine hcell _ v ?_
     have e1:ds.flatten=(ds.take i).flatten++(ds.drop i).flatten:=X8
     have e2:(ds.take i).flatten.length=i*es:=by
      have h3:=hv.length
      rw[cp (es:=es) (fun d hd=>hl d (YT hd)),Zq,ZQ r7]
     have e3:(ds.drop i).flatten=((ds.drop i).take (n / cs.length)).flatten++((ds.drop i).drop (n / cs.length)).flatten:=X8
     rw[e1,YY r7,e2,e3]
     rw[YE (by
      have:=(Ym.1 hj).1
      omega)]
     rw[<-hj]; congr 1; omega
    rename_i h1
    have h2:=h
    have h1:=Yr h1
    refine fin rfl ((hvd.drop o).take n) so (seg _ _ ha fun j v hj=>?_) h2
    rw[YN] at hj
    split at hj
    ·rw[ZC] at hj
     have hdl:d.length=es:=hl d (YQ hd)
     have hoj:o+j<es:=by rw[<-hdl]; exact(Ym.1 hj).1
     have:=hcell (i*es+(o+j)) v (by rw[kb hl hd _ hoj]; exact hj)
     rwa [<-ZY] at this
    ·cases hj
   ·cases h
  ·cases h
 ·rename_i cs
  replace h:=bu h
  obtain ⟨h1,h2⟩:=h
  have h1:=Yr h1
  rw[VR] at hx
  obtain ⟨k,off,ds,rfl,hc,hv⟩:=hx
  exact fin rfl (hv.take n) so (hc.take n).range h2
 ·cases h
theorem rL {x y:A} {i:Nat} {c:Value} (h:m9 x i=some y) (hx:VR H g w x c):∃ d,(Instr.extract c i).run P w=.ok d w/\VR H g w y d:=by
 unfold m9 at h
 split at h
 ·rw[VR] at hx
  obtain ⟨ds,rfl,hv⟩:=hx
  obtain ⟨d,hd,hvd⟩:=hv.get h
  have hd':ds[i]? = some d:=by simpa using hd
  exact⟨d,by simp[Instr.extract,hd'],hvd⟩
 ·cases h
theorem ym {t:TypeId} {n off:Nat} (hs:cM P t=some n) {ds:Array Value} {c:Value} (h:if mw P t=true then c=.agg ((ds.toList.drop off).take n).toArray else (ds.toList.drop off).take n=[c]) :
  (part t ds off).run P w=.ok c w:=by
 obtain ⟨d,hu⟩:=ml hs
 unfold part
 rw[YZ,uK t hu w]
 cases hA:mw P t
 ·rw[hA] at h
  simp at h
  have:ds[off]? = some c:=by
   have h0:((ds.toList.drop off).take n)[0]? = some c:=by rw[h]; rfl
   rw[YN] at h0
   split at h0
   ·simpa using h0
   ·cases h0
  simp[this]
 ·rw[hA] at h
  simp at h
  subst h
  simp[eC hs]
  apply Z6
  simp[List.take_drop,qbo]
theorem vq {t:TypeId} {x y:A} {i:Nat} {c:Value} (h:zd P t x i=some y) (hx:VR H g w x c):∃ d,(Instr.field t c i).run P w=.ok d w/\VR H g w y d:=by
 unfold zd at h
 split at h
 ·rename_i fs cs hu
  replace h:=bD h
  obtain ⟨f,hf,h⟩:=h
  replace h:=bD h
  obtain ⟨n,hn,h⟩:=h
  replace h:=bu h
  obtain ⟨h1,h2⟩:=h
  have h1:=Yr h1
  rw[VR] at hx
  obtain ⟨ds,rfl,hv⟩:=hx
  obtain ⟨d,h3,h4⟩:=wa h2 ((hv.drop f.offset).take n)
  refine⟨d,?_,h3⟩
  unfold Instr.field
  rw[YZ,Yu hu w]
  simp[hf,asAgg]
  exact ym hn h4
 ·cases h
theorem vu {t:TypeId} {x i y:A} {c e:Value} (h:zf P t x i=some y) (hx:VR H g w x c) (hi:VR H g w i e):∃ d,(Instr.index t c e).run P w=.ok d w/\VR H g w y d:=by
 unfold zf at h
 replace h:=bD h
 obtain ⟨j,hj,h⟩:=h
 obtain ⟨ik,n,rfl,hn0,rfl⟩:=oX hj hi
 split at h
 ·rename_i len el cs hu
  replace h:=bD h
  obtain ⟨m,hm,h⟩:=h
  replace h:=bu h
  obtain ⟨h1,h2⟩:=h
  simp only[Yj,Yn] at h1
  rw[VR] at hx
  obtain ⟨ds,rfl,hv⟩:=hx
  obtain ⟨d,h3,h4⟩:=wa h2 ((hv.drop (n.toNat*m)).take m)
  refine⟨d,?_,h3⟩
  have hlt:n<(len:Int):=r7
  unfold Instr.index
  simp[asIntOf,Yu hu,hn0,hlt,eC hm]
  exact ym hm h4
 ·rename_i s hu
  cases hb:s[n.toNat]? with
  | none=>rw[hb] at h; cases h
  | some b=>
   rw[hb] at h
   cases h
   rw[VR] at hx
   subst hx
   refine⟨.int .u8 b.toNat,?_,y7⟩
   unfold Instr.index
   simp[asIntOf,Yu hu,hn0,hb]
 ·cases h
theorem uR {b o:Nat} (h:gh H (.ptr b o)=true):∃ cs,H[b]? = some (.box cs):=by
 unfold gh at h; cases hb:H[b]? with
 | none=>simp[hb] at h
 | some B=>cases B<;>simp[hb] at h ⊢
theorem yu {b i o:Nat} (h:gh H (.ep b i o)=true):∃ es els,H[b]? = some (.row true es els):=by
 unfold gh at h; cases hb:H[b]? with
 | none=>simp[hb] at h
 | some B=>cases B with
  | row wr _ _=>cases wr<;>simp[hb] at h ⊢
  | _=>simp[hb] at h
theorem E9 {b o n:Nat} {cl:Bool} (h:gh H (.sl b o n cl)=true):∃ wr es els,H[b]? = some (.row wr es els):=by
 unfold gh at h; cases hb:H[b]? with
 | none=>simp[hb] at h
 | some B=>cases B<;>simp[hb] at h ⊢
theorem qm {t:TypeId} {x y:A} {i:Nat} {c:Value} (h:fK P t x i H=some y) (hx:VR H g w x c) :
  ∃ d,(Instr.fieldAt t c i).run P w=.ok d w/\VR H g w y d:=by
 unfold fK at h
 replace h:=bu h
 obtain ⟨hok,h⟩:=h
 split at h
 ·rename_i fs hu
  replace h:=bD h
  obtain ⟨f,hf,h⟩:=h
  replace h:=bD h
  obtain ⟨n,hn,h⟩:=h
  replace h:=eG h
  obtain ⟨hn0,h⟩:=h
  have hn0:n≠0:=by simpa using hn0
  have fin:∀ {k off:Nat},c=.pointer (some ⟨k,off,none⟩)->(Instr.fieldAt t c i).run P w=.ok (.pointer (some ⟨k,off+f.offset,none⟩)) w:=fun {k off} hc=>by
   subst hc
   unfold Instr.fieldAt
   rw[YZ,Yu hu w]
   simp[hf,Instr.sureAddr,fieldPlace,eC hn,hn0,ZA]
  split at h
  ·rename_i b o
   cases h
   obtain ⟨cs,hb⟩:=uR hok
   rw[VR,hb] at hx
   obtain ⟨k,hk,rfl⟩:=hx
   exact⟨_,fin rfl,by rw[VR,hb]; exact⟨k,hk,rfl⟩⟩
  ·rename_i b j o
   cases h
   obtain ⟨es,els,hb⟩:=yu hok
   rw[VR,hb] at hx
   obtain ⟨hlt,k,hk,rfl⟩:=hx
   exact⟨_,fin rfl,by rw[VR,hb]; exact⟨hlt,k,hk,by rw[ZY]⟩⟩
  ·cases h
   rw[VR] at hx
   obtain ⟨k,off,ds,rfl,hc,hv⟩:=hx
   exact⟨_,fin rfl,by rw[VR]; exact⟨k,_,_,rfl,hc.drop _,hv.drop _⟩⟩
  ·cases h
 ·cases h
theorem zg {x y:A} {c:Value} {t ty:TypeId} (h:rM P t x H=some y) (hx:VR H g w x c):∃ d,(Builtin.len_ #[t] ty #[c]).run P w=.ok d w/\VR H g w y d:=by
 unfold rM at h
 replace h:=bu h
 obtain ⟨hok,h⟩:=h
 split at h
 ·rename_i s hu
  cases h
  rw[VR] at hx
  subst hx
  exact⟨_,by simp[Builtin.len_,Yu hu,goInt]; rfl,y7⟩
 ·rename_i e els cl hu
  cases h
  rw[VR] at hx
  obtain ⟨a,cap,ds,es,rfl,_⟩:=hx
  exact⟨_,by simp[Builtin.len_,Yu hu,goInt]; rfl,y7⟩
 ·rename_i e b o n cl hu
  cases h
  obtain ⟨wr,es,els,hb⟩:=E9 hok
  rw[VR,hb] at hx
  cases wr
  ·obtain ⟨_,a,cap,rfl,_⟩:=hx
   exact⟨_,by simp[Builtin.len_,Yu hu,goInt]; rfl,y7⟩
  ·obtain ⟨_,a,cap,rfl,_⟩:=hx
   exact⟨_,by simp[Builtin.len_,Yu hu,goInt]; rfl,y7⟩
 ·cases h
theorem bC.lens {els:List (List A)} {ds:List (List Value)} (h:bC H g w els ds) {es j n:Nat} (hl:∀ d∈ds,d.length=es) {cs:List A} (hj:els[j]? = some cs) (hn:cs.length=n):es=n:=by
 obtain ⟨d,hd,hv⟩:=h.get hj
 rw[<-hl d (YQ hd),hv.length,hn]
theorem qn (hr:Rel H g w0 w) {t:TypeId} {x i y:A} {c e:Value} (h:c9 P t x i H=some y) (hx:VR H g w x c) (hi:VR H g w i e):∃ d,(Instr.indexAt t c e).run P w=.ok d w/\VR H g w y d:=by
 unfold c9 at h
 replace h:=bD h
 obtain ⟨j,hj,h⟩:=h
 obtain ⟨ik,n,rfl,hn0,rfl⟩:=oX hj hi
 replace h:=bu h
 obtain ⟨hok,h⟩:=h
 split at h
 ·rename_i el hu
  replace h:=bD h
  obtain ⟨m,hm,h⟩:=h
  have fin:∀ {k off len cap:Nat},c=.slice (some ⟨k,off,none⟩) len cap->n.toNat<len->(Instr.indexAt t c (.int ik n)).run P w=.ok (.pointer (some ⟨k,off+n.toNat*m,none⟩)) w:=fun {k off len cap} hc hlt=>by
   subst hc
   have:n<(len:Int):=r7
   unfold Instr.indexAt
   simp[asIntOf,Yu hu,hn0,this,eC hm,ZA]
  split at h
  ·rename_i els cl
   replace h:=bD h
   obtain ⟨cs,hcs,h⟩:=h
   replace h:=bu h
   obtain ⟨h1,h⟩:=h
   cases h
   have h1:cs.length=m:=by simpa using h1
   rw[VR] at hx
   obtain ⟨a,cap,ds,es,rfl,h2,h3,h4,h5,h6⟩:=hx
   have hlt:n.toNat<els.length:=(Ym.1 hcs).1
   obtain ⟨k,off,rfl,hc⟩:=h5 r7
   obtain rfl:=h6.lens h4 hcs h1
   obtain ⟨d,hd,hv⟩:=h6.get hcs
   exact⟨_,fin rfl hlt,by rw[VR]; exact⟨k,_,d,rfl,hc.elem h4 hd,hv⟩⟩
  ·rename_i b o len cl
   replace h:=bu h
   obtain ⟨hlt,h⟩:=h
   have hlt:=Yr hlt
   rw[VR] at hx
   split at h
   ·rename_i es els hb
    replace h:=bu h
    obtain ⟨h1,h⟩:=h
    cases h
    obtain rfl:es=m:=by simpa using h1
    rw[hb] at hx
    obtain ⟨h2,a,cap,rfl,h3,h4,h5⟩:=hx
    obtain ⟨k,hk,rfl⟩:=h5 r7
    refine⟨_,fin rfl hlt,?_⟩
    rw[VR,hb]
    exact⟨r7,k,hk,by rw[Zi]; rfl⟩
   ·rename_i es els hb
    replace h:=bu h
    obtain ⟨h1,h⟩:=h
    obtain rfl:es=m:=by simpa using h1
    rw[hb] at hx
    obtain ⟨h2,a,cap,rfl,h3,h4,h5,_⟩:=hx
    obtain ⟨k,off,rfl,hc⟩:=h5 r7
    cases hcs:els[o+n.toNat]? with
    | none=>rw[hcs] at h; cases h
    | some cs=>
     rw[hcs] at h
     cases h
     obtain ⟨hga,hgl⟩:=hr.blk b _ hb
     obtain ⟨d,hd,hv⟩:=hga.get hcs
     refine⟨_,fin rfl hlt,?_⟩
     rw[VR]
     refine⟨k,_,d,rfl,hc.elem (fun d hd=>hgl d (Y0 (YT hd))) ?_,hv⟩
     rw[YN,Yq hlt,ZC]; exact hd
   ·cases h
  ·cases h
 ·rename_i len el hu
  replace h:=bD h
  obtain ⟨m,hm,h⟩:=h
  replace h:=eG h
  obtain ⟨hlt,h⟩:=h
  have hlt:n.toNat<len:=by simpa using hlt
  have fin:∀ {k off:Nat},c=.pointer (some ⟨k,off,none⟩)->(Instr.indexAt t c (.int ik n)).run P w=.ok (.pointer (some ⟨k,off+n.toNat*m,none⟩)) w:=fun {k off} hc=>by
   subst hc
   have:n<(len:Int):=r7
   unfold Instr.indexAt
   simp[asIntOf,Yu hu,hn0,this,eC hm,ZA,Instr.sureAddr]
  split at h
  ·rename_i b o
   cases h
   obtain ⟨cs,hb⟩:=uR hok
   rw[VR,hb] at hx
   obtain ⟨k,hk,rfl⟩:=hx
   exact⟨_,fin rfl,by rw[VR,hb]; exact⟨k,hk,rfl⟩⟩
  ·rename_i b q o
   obtain ⟨es,els,hb⟩:=yu hok
   simp only[hb] at h
   rw[VR,hb] at hx
   obtain ⟨hq,k,hk,rfl⟩:=hx
   rw[bF] at h
   split at h
   ·rename_i hc
    simp only[Yj,qaE,Yn] at hc
    obtain ⟨⟨rfl,rfl⟩,hlt2⟩:=hc
    cases h
    exact⟨_,fin rfl,by rw[VR,hb]; exact⟨hlt2,k,hk,by rw[Zi]; simp⟩⟩
   ·cases h
    exact⟨_,fin rfl,by rw[VR,hb]; exact⟨hq,k,hk,by rw[ZY]⟩⟩
  ·cases h
   rw[VR] at hx
   obtain ⟨k,off,ds,rfl,hc,hv⟩:=hx
   exact⟨_,fin rfl,by rw[VR]; exact⟨k,_,_,rfl,hc.drop _,hv.drop _⟩⟩
  ·cases h
 ·cases h
theorem ze {t:TypeId} {x y:A} {c:Value} (h:FU P t x=some y) (hx:VR H g w x c):∃ d,(Instr.makeInterface t c).run P w=.ok d w/\VR H g w y d:=by
 unfold FU at h
 split at h
 ·cases h
 ·cases h
 ·rename_i d hn hu
  cases h
  refine⟨.iface t c,?_,by rw[VR]; exact⟨c,rfl,hx⟩⟩
  unfold Instr.makeInterface
  rw[YZ,Yu hu w]
  cases d<;>first | rfl | exact absurd rfl (hn _)
theorem xo (op:BinOp) (t:TypeId) (x y:Operand) (a b:Value):eqGuard op t x y a b=eqGuard op t (rep (Lx x)) (rep (Lx y)) a b:=by
 unfold eqGuard
 cases x<;>cases y<;>rfl
theorem qy {q:TypeId->Value->Value->Option Bool} {d:Nat} (hq:∀ t x y r,q t x y=some r->∀ w,(Op.equalIn d t x y).run P w=.ok r w) (xs ys:Array Value):∀ (fs:List Field) (r:Bool),sc P q xs ys fs=some r->∀ w,(Op.eqFields d xs ys fs).run P w=.ok r w
 | [],r,h,w=>by cases h; simp[Op.eqFields]
 | [f],r,h,w=>by
  unfold sc at h
  rw[bF] at h
  unfold Op.eqFields
  split at h
  ·rename_i hn
   cases h
   have hn:f.name = "_" := by simpa using hn
   simp[hn,Op.eqFields]
  ·rename_i hn
   have hn:f.name ≠ "_" := by simpa using hn
   obtain ⟨a,ha,h⟩:=bD h
   obtain ⟨b,hb,h⟩:=bD h
   rw[Yq hn]
   simp only[YZ,ef ha w,ef hb w,hq _ _ _ _ h w,YS]
   cases r<;>simp[Op.eqFields]
 | f :: g :: fs,r,h,w=>by
  unfold sc at h
  rw[bF] at h
  unfold Op.eqFields
  split at h
  ·rename_i hn
   have hn:f.name = "_" := by simpa using hn
   rw[Yp (by simp[hn])]
   exact qy hq xs ys (g :: fs) r h w
  ·rename_i hn
   have hn:f.name ≠ "_" := by simpa using hn
   obtain ⟨a,ha,h⟩:=bD h
   obtain ⟨b,hb,h⟩:=bD h
   obtain ⟨r1,h1,h⟩:=bD h
   rw[Yq hn]
   simp only[YZ,ef ha w,ef hb w,hq _ _ _ _ h1 w,YS]
   cases hf:sc P q xs ys (g :: fs) with
   | none=>rw[hf] at h; cases h
   | some r2=>
    rw[hf] at h; cases h
    have:=qy hq xs ys (g :: fs) r2 hf w
    cases r1<;>simp[this]
theorem uw {q:TypeId->Value->Value->Option Bool} {d:Nat} (hq:∀ t x y r,q t x y=some r->∀ w,(Op.equalIn d t x y).run P w=.ok r w) (e:TypeId) (c:Nat) (xs ys:Array Value):∀ (is:List Nat) (r:Bool),uv P q e c xs ys is=some r->∀ w,(Op.eqItems d e c xs ys is).run P w=.ok r w
 | [],r,h,w=>by cases h; simp[Op.eqItems]
 | [i],r,h,w=>by
  unfold uv at h
  unfold Op.eqItems
  obtain ⟨a,ha,h⟩:=bD h
  obtain ⟨b,hb,h⟩:=bD h
  simp only[YZ,ef ha w,ef hb w,hq _ _ _ _ h w,YS]
  cases r<;>simp[Op.eqItems]
 | i :: j :: is,r,h,w=>by
  unfold uv at h
  unfold Op.eqItems
  obtain ⟨a,ha,h⟩:=bD h
  obtain ⟨b,hb,h⟩:=bD h
  obtain ⟨r1,h1,h⟩:=bD h
  simp only[YZ,ef ha w,ef hb w,hq _ _ _ _ h1 w,YS]
  cases hf:uv P q e c xs ys (j :: is) with
  | none=>rw[hf] at h; cases h
  | some r2=>
   rw[hf] at h; cases h
   have:=uw hq e c xs ys (j :: is) r2 hf w
   cases r1<;>simp[this]
theorem AP (D:Nat):∀ (d:Nat) (t:TypeId) (x y:Value) (r:Bool),MU P d t x y=some r->∀ w,(Op.equalIn (D+d) t x y).run P w=.ok r w
 | 0,_,_,_,_,h,_=>by cases h
 | d+1,t,x,y,r,h,w=>by
  have ih:=AP D d
  unfold MU at h
  split at h
  ·rename_i k0 k a k' b hu
   obtain ⟨hk,h⟩:=bu h
   cases h
   have hk:k=k':=by simpa using hk
   subst hk
   simp[Op.equalIn,Yu hu]
  ·rename_i a b hu
   cases h
   simp[Op.equalIn,Yu hu]
  ·rename_i a b hu
   cases h
   simp[Op.equalIn,Yu hu]
  ·rename_i fs xs ys hu
   obtain ⟨hs,h⟩:=eG h
   have hfs:P.fieldsOf t=fs:=by simp[Program.fieldsOf,hu]
   exact(run_equalIn_struct w (D+d) t xs ys (by rw[hfs]; exact hu) hs).trans (qy ih xs ys _ r h w)
  ·rename_i n e xs ys hu
   obtain ⟨i,hi,h⟩:=bD h
   exact(run_equalIn_array w (D+d) xs ys hu hi).trans (uw ih e (P.cellsOf e) xs ys _ r h w)
  ·cases h
theorem yY {op:BinOp} {t:TypeId} {x y z:A} {c d:Value} {p q:Operand} (h:km P op t (Lx p) (Lx q) x y=some z) (hx:VR H g w x c) (hy:VR H g w y d) :
  ∃ e,(do eqGuard op t p q c d; binOp op t c d:Sem Value).run P w=.ok e w/\VR H g w z e:=by
 unfold km at h
 have eqs:∀ {r:Bool} {xs ys:List A} (op:BinOp),ux P t (.agg xs) (.agg ys)=some r->VR H g w (.agg xs) c->VR H g w (.agg ys) d->∃ cs ds,c=.agg cs/\d=.agg ds/\(eqGuard op t p q c d).run P w=.ok () w/\(Op.equalIn 10000 t c d).run P w=.ok r w:=by
  intro r xs ys op h hx hy
  unfold ux at h
  obtain ⟨hg,h⟩:=eG h
  obtain ⟨a,ha,h⟩:=bD h
  obtain ⟨b,hb,h⟩:=bD h
  obtain rfl:=nP _ ha hx
  obtain rfl:=nP _ hb hy
  rw[VR] at hx hy
  obtain ⟨cs,rfl,_⟩:=hx
  obtain ⟨ds,rfl,_⟩:=hy
  exact⟨cs,ds,rfl,rfl,run_eqGuard_agg w op t p q cs ds hg,AP 9980 20 t _ _ r h w⟩
 split at h
 ·cases hr:ux P t (.agg _) (.agg _) with
  | none=>rw[hr] at h; cases h
  | some r=>
   rw[hr] at h; cases h
   obtain ⟨cs,ds,rfl,rfl,h1,h2⟩:=eqs .eql hr hx hy
   exact⟨.bool r,by simp only[YZ,h1,YS,run_eql_struct,h2],y7⟩
 ·cases hr:ux P t (.agg _) (.agg _) with
  | none=>rw[hr] at h; cases h
  | some r=>
   rw[hr] at h; cases h
   obtain ⟨cs,ds,rfl,rfl,h1,h2⟩:=eqs .neq hr hx hy
   exact⟨.bool (!r),by simp only[YZ,h1,YS,run_neq_struct,h2],y7⟩
 replace h:=bD h
 obtain ⟨a,ha,h⟩:=h
 replace h:=bD h
 obtain ⟨b,hb,h⟩:=h
 obtain rfl:=nP x ha hx
 obtain rfl:=nP y hb hy
 rw[<-xo] at h
 cases he:cP P (do eqGuard op t p q c d; binOp op t c d:Sem Value) with
 | none=>rw[he] at h; cases h
 | some e=>rw[he] at h; cases h; exact⟨e,ef he w,pe e⟩
theorem BF {op:UnOp} {x z:A} {c:Value} (h:iC P op x=some z) (hx:VR H g w x c):∃ e,(Op.unary op c).run P w=.ok e w/\VR H g w z e:=by
 unfold iC at h
 replace h:=bD h
 obtain ⟨a,ha,h⟩:=h
 obtain rfl:=nP x ha hx
 cases he:cP P (Op.unary op c) with
 | none=>rw[he] at h; cases h
 | some e=>rw[he] at h; cases h; exact⟨e,ef he w,pe e⟩
theorem uu (hr:Rel H g w0 w) {x:A} {els:List (List A)} {c:Value} (h:els? H x=some els) (hx:VR H g w x c):(∃ s,c=.string s/\x=.v (.string s))∨∃ a cap ds es,c=.slice a els.length cap/\els.length<=cap/\(∀ d∈ds,d.length=es)/\bC H g w els ds/\(0<els.length->∃ k off,a=some ⟨k,off,none⟩/\w.rangeAt k off ds.flatten):=by
 unfold els? at h
 split at h
 ·cases h
  rw[VR] at hx
  obtain ⟨a,cap,ds,es,rfl,h2,h3,h4,h5,h6⟩:=hx
  exact .inr ⟨a,cap,ds,es,rfl,h2,h4,h6,fun hp=>let ⟨k,off,e1,e2⟩:=h5 hp; ⟨k,off,e1,e2.range⟩⟩
 ·rename_i b o n cl
  split at h
  ·rename_i wr es els' hb
   cases h
   rw[VR,hb] at hx
   cases wr
   ·obtain ⟨h2,a,cap,rfl,h3,h4,h5,_⟩:=hx
    obtain ⟨hga,hgl⟩:=hr.blk b _ hb
    have hlen:((els'.drop o).take n).length=n:=so
    refine .inr ⟨a,cap,((g.ga b).drop o).take n,es,by rw[hlen],r7,fun d hd=>hgl d (Y0 (YT hd)),(hga.drop o).take n,fun hp=>?_⟩
    obtain ⟨k,off,e1,e2⟩:=h5 r7
    exact⟨k,off,e1,e2.range⟩
   ·obtain ⟨h2,a,cap,rfl,h3,h4,h5⟩:=hx
    obtain ⟨ds,hv,hl,hrow⟩:=hr.blk b _ hb
    have hlen:((els'.drop o).take n).length=n:=so
    refine .inr ⟨a,cap,(ds.drop o).take n,es,by rw[hlen],r7,fun d hd=>hl d (Y0 (YT hd)),(hv.drop o).take n,fun hp=>?_⟩
    obtain ⟨k,hk,rfl⟩:=h5 r7
    obtain ⟨k',arr,ty,hk',ha,hcell⟩:=hrow r7
    rw[hk] at hk'; cases hk'
    have hall:w.rangeAt k 0 ds.flatten:=fun j v hj=>by
     rw[ZN w k (0+j) arr ty (0,0) ha,Y9]; exact hcell j v hj
    refine⟨k,_,rfl,fun j v hj=>?_⟩
    have hw:bK [] ⟨fun _=>none,fun _=>[],fun _ _=>True,fun _=>Jh⟩ w k 0 ds.flatten:=fun j v hj=>⟨hall j v hj,trivial,fun b hb=>by cases hb⟩
    have:=(hw.sub hl o n j v hj).1
    rwa [Y9] at this
  ·cases h
 ·exact .inl ⟨_,by rw[VR] at hx; exact hx,rfl⟩
 ·cases h
theorem xe:∀ {els:List (List A)} {l:List UInt8} {ds:List (List Value)},bytesOf els=some l->bC H g w els ds->∃ ns:List Int,ds=ns.map (fun n=>[.int .u8 n])/\l=ns.map (fun n=>n.toNat.toUInt8)
 | [],_,_,h,hv=>by simp only[bytesOf,Zd] at h; rw[bC] at hv; exact⟨[],by simp[hv],by simp[<-h]⟩
 | e :: r,l,ds,h,hv=>by
  unfold bytesOf at h
  split at h
  ·rename_i heq; cases heq
  ·rename_i n r' heq
   cases heq
   cases hr:bytesOf r with
   | none=>rw[hr] at h; cases h
   | some l'=>
    rw[hr] at h
    cases h
    rw[bC] at hv
    obtain ⟨d,ds',rfl,h1,h2⟩:=hv
    obtain ⟨ns,rfl,rfl⟩:=xe hr h2
    rw[bE] at h1
    obtain ⟨x,xs,rfl,h3,h4⟩:=h1
    rw[VR] at h3
    rw[bE] at h4
    exact⟨n :: ns,by simp[h3,h4],r9⟩
  ·cases h
theorem foldl_push (ns:List Int):∀ r:ByteArray,ns.foldl (fun r n=>r.push (UInt8.ofNat n.toNat)) r=⟨r.data++(ns.map (fun n=>n.toNat.toUInt8)).toArray⟩:=by
 induction ns with
 | nil=>intro r; simp
 | cons n ns ih=>
  intro r
  rw[qbw,ih]
  simp[ByteArray.push]
end
section
open Go.RowKit
variable {P:Program} {H:aB} {g:Gh} {w0 w:World}
theorem nU {a:A} {c:Value} {j y:Nat} (h:idx a=some j) (hv:VR H g w a c) (hy:j<=y) (code:BoundsCode):(Instr.sliceBound c y code).run P w=.ok j w:=by
 obtain ⟨k,n,rfl,h0,rfl⟩:=oX h hv
 have:0<=n/\n<=(y:Int):=⟨h0,r7⟩
 simp[Instr.sliceBound,asIntOf,this]
def J7 (H:aB) (g:Gh) (w:World):Option A->Option Value->Prop
 | none,none=>True
 | some a,some c=>VR H g w a c
 | _,_=>False
def SG (cap h:Nat):Option A->Prop
 | none=>h<=cap
 | some m=>idx m=some h/\h<=cap
def sV (cap h:Nat):Option A->Nat
 | none=>cap
 | some _=>h
theorem gM {lo hi:Option A} {clo chi cmx:Option Value} {mx:Option A} {len cap h l:Nat} (isS:Bool) (hlo:J7 H g w lo clo) (hhi:J7 H g w hi chi) (hmx:J7 H g w mx cmx)
  (e1:kN len hi=some h) (e2:kN 0 lo=some l) (hl:l<=h) (hm:SG cap h mx) (hhm:mx=none∨hi.isSome=true) :
  (Instr.sliceBounds isS len cap clo chi cmx).run P w=.ok (l,h,sV cap h mx) w:=by
 have hlo':(clo=none/\l=0)∨∃ v,clo=some v/\∀ code,(Instr.sliceBound v h code).run P w=.ok l w:=by
  cases lo with
  | none=>cases clo with
   | none=>simp only[kN,Zd] at e2; exact .inl ⟨rfl,e2.symm⟩
   | some _=>exact hlo.elim
  | some a=>cases clo with
   | none=>exact hlo.elim
   | some v=>exact .inr ⟨v,rfl,fun code=>nU e2 hlo hl code⟩
 clear hlo e2
 unfold Instr.sliceBounds
 cases mx with
 | none=>cases cmx with
  | some _=>exact hmx.elim
  | none=>
   cases hi with
   | none=>cases chi with
    | some _=>exact hhi.elim
    | none=>
     simp only[kN,Zd] at e1
     subst e1
     rcases hlo' with ⟨rfl,rfl⟩ | ⟨v,rfl,hv⟩
     ·simp[sV]
     ·simp[Result.andThen,hv,sV]
   | some a=>cases chi with
    | none=>exact hhi.elim
    | some v=>
     have hb:=fun code=>nU (P:=P) e1 hhi (show h<=cap from hm) code
     rcases hlo' with ⟨rfl,rfl⟩ | ⟨v,rfl,hv⟩
     ·simp[Result.andThen,hb,sV]
     ·simp[Result.andThen,hb,hv,sV]
 | some m=>cases cmx with
  | none=>exact hmx.elim
  | some mv=>
   have hb1:=fun code=>nU (P:=P) hm.1 hmx hm.2 code
   cases hi with
   | none=>simp at hhm
   | some a=>cases chi with
    | none=>exact hhi.elim
    | some v=>
     have hb:=fun code=>nU (P:=P) e1 hhi (Yk h) code
     rcases hlo' with ⟨rfl,rfl⟩ | ⟨v,rfl,hv⟩
     ·simp[Result.andThen,hb,hb1,sV]
     ·simp[Result.andThen,hb,hb1,hv,sV]
theorem je {t e:TypeId} (hu:P.underlying t=some (.slice e)) {a:Option Addr} {len cap l h m z:Nat} {clo chi cmx:Option Value} (hb:(Instr.sliceBounds true len cap clo chi cmx).run P w=.ok (l,h,m) w) (hz:cM P e=some z) :
  (Instr.sliceAt t (.slice a len cap) clo chi cmx).run P w=.ok (.slice (if m=l then a else a.map (·.add (l*z))) (h - l) (m - l)) w:=by
 unfold Instr.sliceAt
 rw[YZ,Yu hu w]
 unfold Instr.slice
 simp[Yu hu,hb,eC hz,Result.andThen]
theorem rk {t e:TypeId} {n:Nat} (hu:P.underlying t=some (.array n e)) {a:Addr} {l h m z:Nat} {clo chi cmx:Option Value} (hb:(Instr.sliceBounds false n n clo chi cmx).run P w=.ok (l,h,m) w) (hz:cM P e=some z) :
  (Instr.sliceAt t (.pointer (some a)) clo chi cmx).run P w=.ok (.slice (some (if m=l then a else a.add (l*z))) (h - l) (m - l)) w:=by
 unfold Instr.sliceAt
 rw[YZ,Yu hu w]
 simp[Instr.sureAddr,hb,eC hz,Result.andThen]
theorem vv (hr:Rel H g w0 w) {t:TypeId} {x y:A} {lo hi mx:Option A} {c:Value} {clo chi cmx:Option Value} (h:fb P t x lo hi mx H=some y) (hx:VR H g w x c) (hlo:J7 H g w lo clo) (hhi:J7 H g w hi chi) (hmx:J7 H g w mx cmx) (hhm:mx=none∨hi.isSome=true) :
  ∃ d,(Instr.sliceAt t c clo chi cmx).run P w=.ok d w/\VR H g w y d:=by
 unfold fb at h
 split at h
 ·rename_i s hu
  replace h:=eG h
  obtain ⟨hm,h⟩:=h
  obtain rfl:mx=none:=by cases mx<;>simp at hm ⊢
  replace h:=bD h
  obtain ⟨hh,e1,h⟩:=h
  replace h:=bD h
  obtain ⟨l,e2,h⟩:=h
  replace h:=bu h
  obtain ⟨h1,h⟩:=h
  simp only[Yj,Yn] at h1
  cases h
  rw[VR] at hx
  subst hx
  have hb:=gM (P:=P) (cap:=s.size) false hlo hhi hmx e1 e2 h1.1 h1.2 (.inl rfl)
  cases cmx with
  | some _=>exact hmx.elim
  | none=>
   refine⟨.string (s.extract l hh),?_,y7⟩
   unfold Instr.sliceAt
   rw[YZ,Yu hu w]
   unfold Instr.slice
   simp[Yu hu,hb,Result.andThen]
 ·rename_i e els cl hu
  replace h:=bD h
  obtain ⟨z,hz,h⟩:=h
  replace h:=bD h
  obtain ⟨hh,e1,h⟩:=h
  replace h:=bD h
  obtain ⟨l,e2,h⟩:=h
  replace h:=bu h
  obtain ⟨h1,h⟩:=h
  simp only[Yj,Yn,Zb,Zx] at h1
  obtain ⟨⟨h1,h2⟩,h3⟩:=h1
  rw[VR] at hx
  obtain ⟨a,cap,ds,es,rfl,g1,g2,g3,g4,g5⟩:=hx
  have hlenn:((els.drop l).take (hh - l)).length=hh - l:=so
  have fin:∀ (m:Nat) (b:Bool),hh<=m->m<=cap->(b=true->m=hh)->VR H g w (.imm ((els.drop l).take (hh - l)) b) (.slice (if m=l then a else a.map (·.add (l*z))) (hh - l) (m - l)):=fun m b hm1 hm2 hb=>by
   rw[VR]
   refine⟨_,m - l,(ds.drop l).take (hh - l),es,by rw[hlenn],r7,fun hb'=>by rw[hlenn,hb hb'],fun d hd=>g3 d (Y0 (YT hd)),fun hp=>?_,(g5.drop l).take _⟩
   have hll:l<hh:=r7
   obtain ⟨k,off,rfl,hc⟩:=g4 r7
   rw[Yp r7]
   refine⟨k,off+l*es,?_,hc.sub g3 l (hh - l)⟩
   rcases h3 with rfl | h3
   ·simp[ZA]
   ·have hlt:l<els.length:=by omega
    rw[Yg hlt] at h3
    simp only[Zx] at h3
    obtain rfl:=g5.lens g3 (Yg hlt) h3
    simp[ZA]
  split at h
  ·cases h
   have hb:=gM (P:=P) (cap:=cap) true hlo hhi hmx e1 e2 h1 (show hh<=cap by omega) (.inl rfl)
   refine⟨_,je hu hb hz,fin cap _ r7 (Yk _) (fun hc=>?_)⟩
   simp only[Yj,Zx] at hc
   have:=g2 hc.1; omega
  ·rename_i m
   replace h:=bD h
   obtain ⟨m',hm',h⟩:=h
   replace h:=bu h
   obtain ⟨hmh,h⟩:=h
   obtain rfl:m'=hh:=by simpa using hmh
   cases h
   have hb:=gM (P:=P) (cap:=cap) true hlo hhi hmx e1 e2 h1 ⟨hm',r7⟩ hhm
   exact⟨_,je hu hb hz,fin m' _ (Yk _) r7 (fun _=>rfl)⟩
 ·rename_i e b o n cl hu
  replace h:=bD h
  obtain ⟨z,hz,h⟩:=h
  replace h:=bD h
  obtain ⟨hh,e1,h⟩:=h
  replace h:=bD h
  obtain ⟨l,e2,h⟩:=h
  replace h:=bu h
  obtain ⟨h1,h⟩:=h
  simp only[Yj,Yn] at h1
  obtain ⟨⟨h1,h2⟩,h3⟩:=h1
  obtain ⟨wr,els,hb⟩:∃ wr els,H[b]? = some (.row wr z els):=by
   cases hb:H[b]? with
   | none=>simp[hb] at h3
   | some B=>cases B with
    | row wr es els=>simp[hb] at h3; subst h3; exact⟨wr,els,rfl⟩
    | _=>simp[hb] at h3
  rw[VR,hb] at hx
  have main:∀ (a:Option Addr) (cap:Nat),c=.slice a n cap->n<=cap->(cl=true->cap=n)->(∀ (m:Nat) (q:Bool),hh<=m->m<=cap->(q=true->m=hh)->(q=false->m=cap)->VR H g w (.sl b (o+l) (hh - l) q) (.slice (if m=l then a else a.map (·.add (l*z))) (hh - l) (m - l)))->∃ d,(Instr.sliceAt t c clo chi cmx).run P w=.ok d w/\VR H g w y d:=by
   intro a cap hc hn hcl fin
   subst hc
   split at h
   ·cases h
    have hb:=gM (P:=P) (cap:=cap) true hlo hhi hmx e1 e2 h1 (show hh<=cap by omega) (.inl rfl)
    refine⟨_,je hu hb hz,fin cap _ r7 (Yk _) (fun hc=>?_) (fun _=>rfl)⟩
    simp only[Yj,Zx] at hc
    have:=hcl hc.1; omega
   ·rename_i m
    replace h:=bD h
    obtain ⟨m',hm',h⟩:=h
    replace h:=bu h
    obtain ⟨hmh,h⟩:=h
    obtain rfl:m'=hh:=by simpa using hmh
    cases h
    have hb:=gM (P:=P) (cap:=cap) true hlo hhi hmx e1 e2 h1 ⟨hm',r7⟩ hhm
    exact⟨_,je hu hb hz,fin m' _ (Yk _) r7 (fun _=>rfl) (fun h=>by cases h)⟩
  cases wr
  ·obtain ⟨g0,a,cap,rfl,g1,g2,g3,g4⟩:=hx
   refine main a cap rfl g1 g2 fun m q hm1 hm2 hq hq2=>?_
   rw[VR,hb]
   refine⟨r7,_,m - l,rfl,r7,fun hc=>by rw[hq hc],fun hp=>?_,fun hc ho hn hlt=>?_⟩
   ·obtain ⟨k,off,rfl,hcell⟩:=g3 r7
    rw[Yp r7]
    refine⟨k,off+l*z,by simp[ZA],?_⟩
    have hga:=(hr.blk b _ hb).2
    have:=hcell.sub (fun d hd=>hga d (Y0 (YT hd))) l (hh - l)
    have e3:((((g.ga b).drop o).take n).drop l).take (hh - l)=((g.ga b).drop (o+l)).take (hh - l):=by
     rw[List.drop_take,qbe,List.take_take]; congr 1; omega
    rwa [e3] at this
   ·obtain rfl:l=0:=by omega
    obtain rfl:o=0:=r7
    have hmc:=hq2 hc
    subst hmc
    by_cases hcl:cl=true
    ·have:=g2 hcl; omega
    ·obtain ⟨k,arr,ty,k1,k2,k3,k4⟩:=g4 (by simpa using hcl) rfl r7 r7
     refine⟨k,arr,ty,k1,?_,k3,by simpa using k4⟩
     rw[k2]; split<;>simp[ZA]
  ·obtain ⟨g0,a,cap,rfl,g1,g2,g3⟩:=hx
   refine main a cap rfl g1 g2 fun m q hm1 hm2 hq hq2=>?_
   rw[VR,hb]
   refine⟨r7,_,m - l,rfl,r7,fun hc=>by rw[hq hc],fun hp=>?_⟩
   obtain ⟨k,hk,rfl⟩:=g3 r7
   rw[Yp r7]
   exact⟨k,hk,by simp[ZA,Zi]⟩
 ·rename_i n e cs hu
  replace h:=bD h
  obtain ⟨z,hz,h⟩:=h
  replace h:=bD h
  obtain ⟨hh,e1,h⟩:=h
  replace h:=bD h
  obtain ⟨l,e2,h⟩:=h
  replace h:=bu h
  obtain ⟨h1,h⟩:=h
  simp only[Yj,Yn,Ze] at h1
  obtain ⟨⟨⟨⟨h1,h2⟩,h3⟩,h4⟩,h5⟩:=h1
  obtain rfl:mx=none:=by cases mx<;>simp at h4 ⊢
  cases h
  rw[VR] at hx
  obtain ⟨k,off,ds,rfl,hc,hv⟩:=hx
  have hb:(Instr.sliceBounds false n n clo chi cmx).run P w=.ok (l,hh,n) w:=gM (P:=P) (cap:=n) false hlo hhi hmx e1 e2 h1 h2 (.inl rfl)
  cases cmx with
  | some _=>exact hmx.elim
  | none=>
   refine⟨_,rk hu hb hz,?_⟩
   have hdl:=hv.length
   have htl:(ds.take (n*z)).length=n*z:=XX
   have htc:(cs.take (n*z)).length=n*z:=XX
   have hck:∀ {α:Type} (q:Nat) (xs:List α),q*z<=xs.length->chunk z q xs=chunk z q (xs.take (q*z)):=by
    intro α q
    induction q with
    | zero=>intro xs _; rfl
    | succ q ih=>
     intro xs hq
     rw[Zi,qbA] at hq
     rw[chunk,chunk,ih (xs.drop z) so,List.take_take,List.drop_take,ZQ (by rw[Zi]; omega)]
     congr 3
     rw[Zi]; omega
   have hlenn:(((chunk z n cs).drop l).take (hh - l)).length=hh - l:=by simp[ij]; omega
   rw[VR]
   refine⟨_,n - l,((chunk z n (ds.take (n*z))).drop l).take (hh - l),z,by rw[hlenn],r7,fun hb'=>by rw[hlenn]; have:=(qaE ▸ hb':hh=n); omega,fun d hd=>jZ htl d (Y0 (YT hd)),fun hp=>?_,?_⟩
   ·rw[hlenn] at hp
    rw[Yp r7]
    refine⟨k,off+l*z,by simp[ZA],?_⟩
    refine bK.sub (es:=z) ?_ (jZ htl) l (hh - l)
    rw[mj htl]
    exact hc.take _
   ·rw[hck n cs h3]
    exact(((hv.take (n*z)).chunk n).drop l).take _
 ·rename_i n e b q o hu
  replace h:=bD h
  obtain ⟨z,hz,h⟩:=h
  replace h:=bD h
  obtain ⟨hh,e1,h⟩:=h
  replace h:=bD h
  obtain ⟨l,e2,h⟩:=h
  replace h:=bu h
  obtain ⟨h1,h⟩:=h
  simp only[Yj,Yn,Ze] at h1
  obtain ⟨⟨⟨⟨h1,h2⟩,h4⟩,h5⟩,h6⟩:=h1
  obtain rfl:o=0:=by simpa [qaE] using h5
  obtain rfl:mx=none:=by cases mx<;>simp at h4 ⊢
  cases h
  obtain ⟨els,hbk,hq⟩:∃ els,H[b]? = some (.row true z els)/\q+n<=els.length:=by
   split at h6
   ·rename_i es els hbk
    simp only[Yj,Yn,qaE] at h6
    obtain ⟨rfl,h6⟩:=h6
    exact⟨els,hbk,h6⟩
   ·cases h6
  rw[VR,hbk] at hx
  obtain ⟨hqe,k,hk,rfl⟩:=hx
  have hb:(Instr.sliceBounds false n n clo chi cmx).run P w=.ok (l,hh,n) w:=gM (P:=P) (cap:=n) false hlo hhi hmx e1 e2 h1 h2 (.inl rfl)
  cases cmx with
  | some _=>exact hmx.elim
  | none=>
   refine⟨_,rk hu hb hz,?_⟩
   rw[VR,hbk]
   refine⟨r7,_,n - l,rfl,r7,fun hb'=>by have:=(qaE ▸ hb':hh=n); omega,fun hp=>⟨k,hk,?_⟩⟩
   rw[Yp r7]
   simp[ZA,Zi]
 ·cases h
theorem nv (hr:Rel H g w0 w) {w':World} {arr:Array Value} {ty:TypeId} {fr:Nat×Nat} (ha:w'.heap[w.heap.size]? = some (.cells arr ty fr)) {ds:List Value} (hd:∀ (j:Nat) v,ds[j]? = some v->arr[j]? = some v):bK H g w' w.heap.size 0 ds:=fun j v hj=>by
 refine⟨?_,hr.out _ _ (Yk _),fun b hb=>absurd (hr.dom b _ hb).2.2 (ZZ _)⟩
 rw[Y9,ZN w' _ j arr ty fr ha]
 exact hd j v hj
theorem BL {x:A} {els:List (List A)} (h:xm H x=some els):els? H x=some els/\∀ s,x≠.v (.string s):=by
 cases x<;>simp only[xm] at h<;>first | exact⟨h,r9⟩ | cases h
theorem nr {α β:Type} (f:α->β) (l:List α):(l.map fun n=>[f n]).flatten=l.map f:=by
 induction l with
 | nil=>rfl
 | cons n l ih=>simp[ih]
theorem rK (hr:Rel H g w0 w) {s t:TypeId} {x y:A} {c:Value} (h:bz P s t x H=some y) (hx:VR H g w x c):∃ d w',(convert s t c).run P w=.ok d w'/\Below w.heap.size w w'/\VR H g w' y d:=by
 unfold bz at h
 split at h
 ·rename_i e hs hd
  split at h
  ·rename_i he hz
   replace h:=bD h
   obtain ⟨els,h1,h⟩:=h
   cases hb:bytesOf els with
   | none=>rw[hb] at h; cases h
   | some l=>
    rw[hb] at h
    cases h
    refine⟨.string ⟨l.toArray⟩,w,?_,Below.refl _ _,y7⟩
    have h1':=BL h1
    rcases uu hr h1'.1 hx with ⟨s',rfl,rfl⟩ | ⟨a,cap,ds,es,rfl,h2,h3,h4,h5⟩
    ·exact absurd rfl (h1'.2 s')
    ·obtain ⟨ns,rfl,rfl⟩:=xe hb h4
     have hl:els.length=ns.length:=by have:=h4.length; simpa using this.symm
     simp only[convert,YZ,Yu hs,Yu hd,Yu he,YS]
     cases a with
     | none=>
      have hn:ns=[]:=by
       by_cases hp:0<els.length
       ·obtain ⟨k,off,e1,_⟩:=h5 hp; cases e1
       ·exact YI r7
      subst hn
      simp[Conv.bytesToString]
      rfl
     | some a=>
      have hl2:(loadCells a els.length).run P w=.ok (ns.map (Value.int .u8)).toArray w:=by
       by_cases hp:0<els.length
       ·obtain ⟨k,off,e1,hc⟩:=h5 hp
        cases e1
        rw[nr] at hc
        have:=run_loadCells_list (P:=P) w ⟨k,off,none⟩ (ns.map (Value.int .u8)) (fun j v hv=>by rw[ZA]; exact hc j v hv)
        rwa [ZR,<-hl] at this
       ·have hn:ns=[]:=YI r7
        subst hn
        rw[hl]
        rfl
      rw[run_bytesToString w a _ cap ns hl2,foldl_push]
      simp
  ·cases h
 ·rename_i e s' hs hd
  split at h
  ·rename_i he
   cases h
   rw[VR] at hx
   subst hx
   have hr':=run_bytes_of_string (P:=P) w s t e s' hs hd he
   have hb:Below w.heap.size w (w.drew.alloc (.cells (bytesRow s' (grownCap w s'.size 0 e)) e ((bytesRow s' (grownCap w s'.size 0 e)).size,(bytesRow s' (grownCap w s'.size 0 e)).size+1))):=((Below.refl _ w).drew).alloc (Yk _) _
   refine⟨_,_,hr',hb,?_⟩
   rw[VR]
   have hlen:(s'.data.toList.map fun c=>[A.v (.int .u8 c.toNat)]).length=s'.size:=by rw[ZR,qar]; rfl
   refine⟨_,_,s'.data.toList.map fun c=>[.int .u8 c.toNat],1,by rw[hlen],by rw[hlen]; exact qbU w _ _ _,fun h=>(by cases h),r9,fun _=>⟨w.heap.size,0,rfl,?_⟩,?_⟩
   ·refine nv hr (ZO w.drew _) fun j v hj=>?_
    rw[nr] at hj
    unfold bytesRow
    rw[qaK]
    ·simpa using hj
    ·have:=(Ym.1 hj).1
     simpa using this
   ·refine cX.2 ⟨r9,fun i a d ha hd=>?_⟩
    simp only[YJ,Y2] at ha hd
    obtain ⟨b,hb,rfl⟩:=ha
    obtain ⟨b',hb',rfl⟩:=hd
    rw[hb] at hb'; cases hb'
    rw[bE]; exact⟨_,[],rfl,y7,H7⟩
  ·cases h
 ·replace h:=bD h
  obtain ⟨v,hv,h⟩:=h
  obtain rfl:=nP _ hv hx
  cases he:cP P (convert s t c) with
  | none=>rw[he] at h; cases h
  | some e=>rw[he] at h; cases h; exact⟨e,w,ef he w,Below.refl _ _,pe e⟩
theorem tn (vs:List Value):∀ (off:Nat) (cs:Array Value),off+vs.length<=cs.size->((vs.zipIdx 0).foldl (fun cs p=>cs.setIfInBounds (off+p.2) p.1) cs).toList=bB cs.toList off vs:=by
 have gen:∀ (vs:List Value) (n off:Nat) (cs:Array Value),off+n+vs.length<=cs.size->((vs.zipIdx n).foldl (fun cs p=>cs.setIfInBounds (off+p.2) p.1) cs).toList=bB cs.toList (off+n) vs:=by
  intro vs
  induction vs with
  | nil=>intro n off cs _; simp[bB]
  | cons v vs ih=>
   intro n off cs h
   rw[List.zipIdx_cons,qbw,ih (n+1) off _ (by simp at h ⊢; omega)]
   simp only[bB,Array.toList_setIfInBounds,YD]
   have hlt:off+n<cs.toList.length:=by simp at h ⊢; omega
   rw[show off+(n+1)=off+n+1 by omega,List.take_succ_eq_append_getElem (by simp; simp at hlt; omega)]
   simp only[List.getElem_set_self]
   rw[List.take_set_of_le (Yk _),Za,Za]
   rw[List.drop_set_of_lt r7]
   have e:off+n+1+vs.length=off+n+(vs.length+1):=r7
   rw[e]
   simp
 intro off cs h
 exact gen vs 0 off cs (by simpa using h)
theorem AS {place:Nat->Option (Nat×Nat)}:∀ {parts:List (Nat×A)} {vparts:List (Nat×Value)} {cs ds:List A} {arr:Array Value},uD place cs parts=some ds->bE H g w cs arr.toList ->
  (∀ i:Nat,(∀ p,parts[i]? = some p->∃ q,vparts[i]? = some q/\q.1=p.1/\VR H g w p.2 q.2))->vparts.length=parts.length->∃ arr',Instr.fill place arr vparts=some arr'/\bE H g w ds arr'.toList
 | [],vparts,cs,ds,arr,h,hv,hp,hl=>by
  simp only[uD,Zd] at h
  subst h
  have:vparts=[]:=YI (by simpa using hl)
  subst this
  exact⟨arr,rfl,hv⟩
 | (i,x) :: r,vparts,cs,ds,arr,h,hv,hp,hl=>by
  cases vparts with
  | nil=>simp at hl
  | cons q vr=>
   obtain ⟨q',hq,e1,hx⟩:=hp 0 (i,x) rfl
   simp at hq
   subst hq
   simp only[uD] at h
   replace h:=bD h
   obtain ⟨p,hpl,h⟩:=h
   replace h:=bD h
   obtain ⟨xs,hxs,h⟩:=h
   replace h:=bu h
   obtain ⟨hc,h⟩:=h
   simp only[Yj,Zx,Yn] at hc
   obtain ⟨hvs,_,_⟩:=na hxs hx
   have hvl:=hvs.length
   have hal:=hv.length
   obtain ⟨qi,qv⟩:=q
   simp only at e1
   subst e1
   have hsz:qv.cells.size=p.2:=by simpa [hc.1] using hvl
   have hfit:p.1+qv.cells.size<=arr.size:=by simp at hal; omega
   have hset:(qv.cells.zipIdx.foldl (fun cs (c,j)=>cs.setIfInBounds (p.1+j) c) arr).toList=bB arr.toList p.1 qv.cells.toList:=by
    have:=tn qv.cells.toList p.1 arr (by simpa using hfit)
    rw[<-this,<-qat]
    simp
   obtain ⟨arr',h1,h2⟩:=AS (place:=place) (arr:=qv.cells.zipIdx.foldl (fun cs (c,j)=>cs.setIfInBounds (p.1+j) c) arr) (vparts:=vr) h (by rw[hset]; exact hv.bB hvs p.1) (fun j p' hj=>by have:=hp (j+1) p' (by simpa using hj); simpa using this) (by simpa using hl)
   refine⟨arr',?_,h2⟩
   unfold Instr.fill
   rw[hpl]
   obtain ⟨p1,p2⟩:=p
   simp only at hsz hfit ⊢
   rw[Yp (by simp[hsz]; omega)]
   exact h1
theorem fS {t:TypeId} {z:List A} (h:hU P t=some z):∃ i v,P.info? t=some i/\i.zero=some v/\z=v.cells.toList.map zY:=by
 unfold hU at h
 cases hi:P.info? t with
 | none=>rw[hi] at h; cases h
 | some i=>
  rw[hi] at h
  simp only[Yf] at h
  cases hz:i.zero with
  | none=>rw[hz] at h; cases h
  | some v=>rw[hz] at h; cases h; exact⟨i,v,rfl,hz,rfl⟩
def m0 (H:aB) (g:Gh) (w:World) (parts:List (Nat×A)) (vparts:List (Nat×Value)):Prop:=vparts.length=parts.length/\∀ (i:Nat) p,parts[i]? = some p->∃ q,vparts[i]? = some q/\q.1=p.1/\VR H g w p.2 q.2
theorem vp {t:TypeId} {parts:List (Nat×A)} {vparts:Array (Nat×Value)} {y:A} (h:vo P t parts=some y) (hp:m0 H g w parts vparts.toList):∃ d,(Instr.build t vparts).run P w=.ok d w/\VR H g w y d:=by
 unfold vo at h
 replace h:=bD h
 obtain ⟨z,hz,h⟩:=h
 replace h:=bD h
 obtain ⟨place,hpl,h⟩:=h
 obtain ⟨it,v,hi,hv,rfl⟩:=fS hz
 cases hf:uD place (v.cells.toList.map zY) parts with
 | none=>rw[hf] at h; cases h
 | some ds=>
  rw[hf] at h
  cases h
  obtain ⟨arr,h1,h2⟩:=AS (arr:=v.cells) hf (jO _) (fun i p hi=>hp.2 i p hi) hp.1
  refine⟨.agg arr,run_build w t vparts arr ?_,by rw[VR]; exact⟨arr,rfl,h2⟩⟩
  unfold Bc at hpl
  unfold Program.built
  rw[hi]
  split at hpl
  ·rename_i fs hu
   rw[hu]
   cases hm:(fs.toList.mapM fun f=>(P.info? f.type).map fun i=>(f.offset,i.size)) with
   | none=>rw[hm] at hpl; cases hpl
   | some places=>
    rw[hm] at hpl
    cases hpl
    simp only[hv,hm]
    exact h1
  ·rename_i n e hu
   rw[hu]
   cases hie:P.info? e with
   | none=>rw[hie] at hpl; cases hpl
   | some ie=>
    rw[hie] at hpl
    cases hpl
    simp only[hv,hie]
    exact h1
  ·cases hpl
end
section
open Go.RowKit
variable {P:Program} {H:aB} {g:Gh} {w0 w:World}
def Gh.put (g:Gh) (b:Nat) (k:Option Nat) (γ:List (List Value)):Gh:={ g with mu:=fun c=>if c=b then k else g.mu c,ga:=fun c=>if c=b then γ else g.ga c }
theorem Gh.bJ (g:Gh) (b:Nat) (k:Option Nat) (γ:List (List Value)):(g.put b k γ).mu b=k:=by simp[Gh.put]
theorem Gh.iv (g:Gh) (b:Nat) (k:Option Nat) (γ:List (List Value)):(g.put b k γ).ga b=γ:=by simp[Gh.put]
theorem Gh.aR (g:Gh) {b c:Nat} (k:Option Nat) (γ:List (List Value)) (h:c≠b):(g.put b k γ).mu c=g.mu c:=by simp[Gh.put,h]
theorem Gh.ft (g:Gh) {b c:Nat} (k:Option Nat) (γ:List (List Value)) (h:c≠b):(g.put b k γ).ga c=g.ga c:=by simp[Gh.put,h]
def Step (H:aB) (g:Gh) (w0 w:World) (lo:Nat) (r:Result Value) (y:A) (H':aB):Prop:=
 ∃ d w' g',r=.ok d w'/\Rel H' g' w0 w'/\Ext H g w H' g' w'/\VR H' g' w' y d/\H.length<=H'.length/\(∀ b,b<lo->b<H.length->H'[b]? = H[b]?)/\g'.S=g.S
theorem eS {k:Nat} {o:Obj} {w w':World} (hb:Below w.heap.size w w') (h:w.heap[k]? = some o):w'.heap[k]? = some o:=(hb.block k (Yo.1 h).1).trans h
theorem Rel.push (hr:Rel H g w0 w) {w':World} (hb:Below w.heap.size w w') (B:aC) (ko:Option Nat) (γ:List (List Value)) (hk:∀ k,ko=some k->k=w.heap.size/\w.heap.size<w'.heap.size)
  (hB:Ext H g w (H++[B]) (g.put H.length ko γ) w'->lZ (H++[B]) (g.put H.length ko γ) w' H.length B):Rel (H++[B]) (g.put H.length ko γ) w0 w'/\Ext H g w (H++[B]) (g.put H.length ko γ) w':=by
 have old:∀ {b k},(g.put H.length ko γ).mu b=some k->k<w.heap.size->b≠H.length/\g.mu b=some k:=fun {b k} h hlt=>by
  by_cases e:b=H.length
  ·subst e; rw[Gh.bJ] at h; have:=(hk k h).1; omega
  ·exact⟨e,by rwa [Gh.aR _ _ _ e] at h⟩
 have he:Ext H g w (H++[B]) (g.put H.length ko γ) w':=by
  refine⟨fun k o v hs hc=>?_,fun b B' hB'=>⟨B',?_,?_⟩,fun k o ho=>(hb.block k (Yo.1 ho).1).trans ho,hb.size,fun k arr cl hs hm=>?_,fun k hk' _=>hb.block k hk',fun b k h=>?_⟩
  rotate_right 1
  ·by_cases e:b=H.length
   ·subst e; rw[Gh.bJ] at h; exact .inr (qaV (hk k h).1.symm)
   ·exact .inl ⟨b,by rwa [Gh.aR _ _ _ e] at h⟩
  ·have hlt:=Z9 w ⟨k,o,none⟩ hc
   refine⟨(hb.cell (p:=⟨k,o,none⟩) hlt).trans hc,hs.1,fun b hbk=>?_⟩
   obtain ⟨_,h2⟩:=old hbk hlt
   obtain ⟨es,els,h3,h4⟩:=hs.2 b h2
   exact⟨es,els,by rw[YE (Ym.1 h3).1]; exact h3,h4⟩
  ·rw[YE (Ym.1 hB').1]; exact hB'
  ·have hne:b≠H.length:=by have:=(Ym.1 hB').1; omega
   cases B' with
   | box _=>exact Gh.aR _ _ _ hne
   | row wr es els=>cases wr with
    | true=>exact⟨rfl,rfl,Gh.aR _ _ _ hne⟩
    | false=>exact⟨rfl,⟨[],by rw[Gh.ft _ _ _ hne]; simp⟩,(hr.blk b _ hB').len,Yk _,fun _=>⟨Gh.aR _ _ _ hne,fun k arr ty hk' ha=>⟨arr,eS hb ha,Yk _⟩⟩⟩
   | rng _=>exact⟨Gh.aR _ _ _ hne,rfl⟩
   | mp _ _ _=>exact Gh.aR _ _ _ hne
   | dead=>trivial
   | hole=>trivial
  ·have hlt:=(Yo.1 hm).1
   refine⟨(hb.block k hlt).trans hm,hs.1,fun b hbk=>?_⟩
   obtain ⟨_,h2⟩:=old hbk hlt
   obtain ⟨es,els,h3,h4⟩:=hs.2 b h2
   exact⟨es,els,by rw[YE (Ym.1 h3).1]; exact h3,h4⟩
 refine⟨⟨hr.below.trans (hb.mono hr.below.size),fun b k hbk=>?_,fun b c k h1 h2=>?_,hr.Aa he,hr.yk he,fun b B' hB'=>?_⟩,he⟩
 ·by_cases e:b=H.length
  ·subst e; rw[Gh.bJ] at hbk
   obtain ⟨rfl,h2⟩:=hk k hbk
   exact⟨r9,hr.below.size,h2⟩
  ·rw[Gh.aR _ _ _ e] at hbk
   obtain ⟨h1,h2,h3⟩:=hr.dom b k hbk
   exact⟨so,h2,YA h3 hb.size⟩
 ·by_cases e:b=H.length
  ·by_cases e':c=H.length
   ·rw[e,e']
   ·subst e
    rw[Gh.bJ] at h1
    rw[Gh.aR _ _ _ e'] at h2
    have:=(hk k h1).1; have:=(hr.dom c k h2).2.2; omega
  ·by_cases e':c=H.length
   ·subst e'
    rw[Gh.bJ] at h2
    rw[Gh.aR _ _ _ e] at h1
    have:=(hk k h2).1; have:=(hr.dom b k h1).2.2; omega
   ·rw[Gh.aR _ _ _ e] at h1
    rw[Gh.aR _ _ _ e'] at h2
    exact hr.inj b c k h1 h2
 ·by_cases e:b=H.length
  ·subst e
   rw[YY (Yk _)] at hB'
   simp at hB'
   subst hB'
   exact hB he
  ·have hlt:b<H.length:=by have:=(Ym.1 hB').1; simp at this; omega
   rw[YE hlt] at hB'
   have h:=hr.blk b B' hB'
   cases B' with
   | box cs=>obtain ⟨k,arr,ty,h1,h2,h3⟩:=h; exact⟨k,arr,ty,(Gh.aR _ _ _ e).trans h1,eS hb h2,bE.ext he _ _ h3⟩
   | row wr es els=>cases wr with
    | true=>
     obtain ⟨ds,h1,h2,h3⟩:=h
     exact⟨ds,bC.ext he _ _ h1,h2,fun hp=>let ⟨k,arr,ty,e1,e2,e3⟩:=h3 hp; ⟨k,arr,ty,(Gh.aR _ _ _ e).trans e1,eS hb e2,e3⟩⟩
    | false=>
     obtain ⟨h1,h2⟩:=h
     refine⟨?_,?_⟩
     ·rw[Gh.ft _ _ _ e]; exact bC.ext he _ _ h1
     ·rw[Gh.ft _ _ _ e]; exact h2
   | rng st=>obtain ⟨k,h1,h2⟩:=h; exact⟨k,(Gh.aR _ _ _ e).trans h1,eS hb h2⟩
   | mp _ _ _=>obtain ⟨k,arr,cl,h1,h2,h3,h4⟩:=h; exact⟨k,arr,cl,(Gh.aR _ _ _ e).trans h1,eS hb h2,h3,bE.ext he _ _ h4⟩
   | dead=>exact(Gh.aR _ _ _ e).trans h
   | hole=>exact(Gh.aR _ _ _ e).trans h
theorem ew (H:aB) (B:aC):(H++[B])[H.length]? = some B:=r9
theorem jc (H:aB) (B:aC) (lo:Nat):∀ b,b<lo->b<H.length->(H++[B])[b]? = H[b]?:=fun _ _ h=>YE h
theorem za (hr:Rel H g w0 w) {t:TypeId} {x y:A} {H':aB} {c:Value} (lo:Nat) (h:yZ x H=some (y,H')) (hx:VR H g w x c):Step H g w0 w lo ((Instr.box t c).run P w) y H':=by
 unfold yZ at h
 cases hc:x.cells? with
 | none=>rw[hc] at h; cases h
 | some cs=>
  rw[hc] at h
  cases h
  obtain ⟨hv,_,_⟩:=na hc hx
  have hb:Below w.heap.size w (w.alloc (.cells c.cells t)):=(Below.refl _ w).alloc (Yk _) _
  obtain ⟨h1,h2⟩:=hr.push hb (.box cs) (some w.heap.size) [] (fun k hk=>by cases hk; exact⟨rfl,r9⟩) (fun he=>⟨w.heap.size,c.cells,t,Gh.bJ _ _ _ _,ZO w _,bE.ext he _ _ hv⟩)
  refine⟨.pointer (some ⟨w.heap.size,0,none⟩),_,_,by simp[Instr.box,newVar,newRow,newObj]; rfl,h1,h2,?_,r9,jc _ _ _,rfl⟩
  rw[VR,ew]; exact⟨w.heap.size,Gh.bJ _ _ _ _,rfl⟩
theorem vm (hr:Rel H g w0 w) {t:TypeId} {y:A} {H':aB} (lo:Nat) (h:mf P t H=some (y,H')):Step H g w0 w lo ((Instr.alloc t true (.tuple #[])).run P w) y H':=by
 unfold mf at h
 cases hz:hU P t with
 | none=>rw[hz] at h; cases h
 | some cs=>
  rw[hz] at h
  cases h
  obtain ⟨i,z,hi,hzz,rfl⟩:=fS hz
  have hb:Below w.heap.size w (w.alloc (.cells z.cells t)):=(Below.refl _ w).alloc (Yk _) _
  obtain ⟨h1,h2⟩:=hr.push hb (.box (z.cells.toList.map zY)) (some w.heap.size) [] (fun k hk=>by cases hk; exact⟨rfl,r9⟩) (fun he=>⟨w.heap.size,z.cells,t,Gh.bJ _ _ _ _,ZO w _,jO _⟩)
  refine⟨.pointer (some ⟨w.heap.size,0,none⟩),_,_,by simp[Instr.alloc,zeroValue,typeInfo,hi,hzz,newVar,newRow,newObj]; rfl,h1,h2,?_,r9,jc _ _ _,rfl⟩
  rw[VR,ew]; exact⟨w.heap.size,Gh.bJ _ _ _ _,rfl⟩
theorem th (hr:Rel H g w0 w) {t:TypeId} {cs:List A} {y:A} {H':aB} {arr:Array Value} {ty:TypeId} (h:rowOf P t cs H=some (y,H')) (hv:bE H g w cs arr.toList) :
  Rel H' (g.put H.length (some w.heap.size) []) w0 (w.alloc (.cells arr ty))/\Ext H g w H' (g.put H.length (some w.heap.size) []) (w.alloc (.cells arr ty))/\VR H' (g.put H.length (some w.heap.size) []) (w.alloc (.cells arr ty)) y (.pointer (some ⟨w.heap.size,0,none⟩))/\H.length<=H'.length/\∀ lo b,b<lo->b<H.length->H'[b]? = H[b]?:=by
 unfold rowOf at h
 split at h
 ·rename_i n e hu
  replace h:=bD h
  obtain ⟨es,hes,h⟩:=h
  replace h:=eG h
  obtain ⟨h0,h⟩:=h
  cases h
  simp only[Zh,ZT,qaE] at h0
  obtain ⟨⟨h1,h2⟩,h3⟩:=h0
  have h2:n≠0:=fun e=>by rw[e] at h2; cases h2
  have hb:Below w.heap.size w (w.alloc (.cells arr ty)):=(Below.refl _ w).alloc (Yk _) _
  have hal:arr.toList.length=n*es:=by rw[hv.length,h3]
  obtain ⟨r1,r2⟩:=hr.push hb (.row true es (chunk es n cs)) (some w.heap.size) [] (fun k hk=>by cases hk; exact⟨rfl,r9⟩) (fun he=>⟨chunk es n arr.toList,(bE.ext he _ _ hv).chunk n,jZ hal,fun _=>⟨w.heap.size,arr,ty,Gh.bJ _ _ _ _,ZO w _,fun j v hj=>by
   rw[mj hal] at hj; simpa using hj⟩⟩)
  refine⟨r1,r2,?_,r9,fun lo=>jc _ _ _⟩
  rw[VR,ew]
  exact⟨by rw[ij]; omega,w.heap.size,Gh.bJ _ _ _ _,r9⟩
 ·cases h
theorem w5 (hr:Rel H g w0 w) {t:TypeId} {x y:A} {H':aB} {c:Value} (lo:Nat) (h:uk P t x H=some (y,H')) (hx:VR H g w x c):Step H g w0 w lo ((Instr.box t c).run P w) y H':=by
 unfold uk at h
 cases hc:x.cells? with
 | none=>rw[hc] at h; cases h
 | some cs=>
  rw[hc] at h
  obtain ⟨hv,_,_⟩:=na hc hx
  obtain ⟨r1,r2,r3,r4,r5⟩:=th (P:=P) hr (ty:=t) h hv
  exact⟨.pointer (some ⟨w.heap.size,0,none⟩),_,_,by simp[Instr.box,newVar,newRow,newObj]; rfl,r1,r2,r3,r4,r5 lo,rfl⟩
theorem tH (hr:Rel H g w0 w) {t:TypeId} {y:A} {H':aB} (lo:Nat) (h:ku P t H=some (y,H')):Step H g w0 w lo ((Instr.alloc t true (.tuple #[])).run P w) y H':=by
 unfold ku at h
 cases hz:hU P t with
 | none=>rw[hz] at h; cases h
 | some cs=>
  rw[hz] at h
  obtain ⟨i,z,hi,hzz,rfl⟩:=fS hz
  obtain ⟨r1,r2,r3,r4,r5⟩:=th (P:=P) hr (arr:=z.cells) (ty:=t) h (jO _)
  exact⟨.pointer (some ⟨w.heap.size,0,none⟩),_,_,by simp[Instr.alloc,zeroValue,typeInfo,hi,hzz,newVar,newRow,newObj]; rfl,r1,r2,r3,r4,r5 lo,rfl⟩
theorem Rel.write (hr:Rel H g w0 w) {b k:Nat} {arr arr':Array Value} {ty:TypeId} (hk:g.mu b=some k) (ha:w.heap[k]? = some (.cells arr ty (0,0))) {B B':aC} (hB:H[b]? = some B)
  (hkind:(∃ cs cs',B=.box cs/\B'=.box cs')∨∃ es els els',B=.row true es els/\B'=.row true es els'/\els'.length=els.length)
  (hB':Ext H g w (H.set b B') g (w.setRow k arr')->(w.setRow k arr').heap[k]? = some (.cells arr' ty (0,0))->lZ (H.set b B') g (w.setRow k arr') b B'):Rel (H.set b B') g w0 (w.setRow k arr')/\Ext H g w (H.set b B') g (w.setRow k arr'):=by
 have hlt:b<H.length:=(Ym.1 hB).1
 have hnew:(w.setRow k arr').heap[k]? = some (.cells arr' ty (0,0)):=setRow_heap w k arr arr' ty (0,0) ha
 have hoth:∀ j,j≠k->(w.setRow k arr').heap[j]? = w.heap[j]?:=fun j hj=>setRow_other w k j arr' hj
 have hnot:∀ {o:Nat},¬ fi H g k o:=fun {o} hs=>by
  obtain ⟨es,els,h1,_⟩:=hs.2 b hk
  rw[hB] at h1
  rcases hkind with ⟨cs,cs',rfl,_⟩ | ⟨es',els1,els',rfl,_⟩<;>cases h1
 have he:Ext H g w (H.set b B') g (w.setRow k arr'):=by
  refine⟨fun k' o v hs hc=>?_,fun c C hC=>?_,fun k' o ho=>(hoth k' (fun e=>by subst e; rw[ha] at ho; cases ho)).trans ho,by simp[World.setRow],fun k' marr cl hs hm=>?_,fun k' _ hn=>hoth k' (fun e=>hn b (e ▸ hk)),fun c k' h=>.inl ⟨c,h⟩⟩
  ·have hne:k'≠k:=fun e=>hnot (e ▸ hs)
   refine⟨(ZU (a:=⟨k',o,none⟩) (hoth k' hne)).trans hc,hs.1,fun c hck=>?_⟩
   obtain ⟨es,els,h1,h2⟩:=hs.2 c hck
   have hcb:c≠b:=fun e=>by subst e; rw[hk] at hck; exact hne (by cases hck; rfl)
   exact⟨es,els,by rw[Yz (Zl hcb)]; exact h1,h2⟩
  ·by_cases e:c=b
   ·subst e
    rw[hB] at hC; cases hC
    refine⟨B',by rw[YO hlt],?_⟩
    rcases hkind with ⟨cs,cs',rfl,rfl⟩ | ⟨es,els,els',rfl,rfl,hl⟩
    ·rfl
    ·exact⟨rfl,hl,rfl⟩
   ·refine⟨C,by rw[Yz (Zl e)]; exact hC,?_⟩
    cases C with
    | box _=>rfl
    | row wr es els=>cases wr with
     | true=>exact⟨rfl,rfl,rfl⟩
     | false=>exact⟨rfl,⟨[],r9⟩,(hr.blk c _ hC).len,Yk _,fun _=>⟨rfl,fun k' arr1 ty1 hk1 ha1=>⟨arr1,(hoth k' (fun e2=>e (hr.inj c b k (e2 ▸ hk1) hk))).trans ha1,Yk _⟩⟩⟩
    | rng _=>exact⟨rfl,rfl⟩
    | mp _ _ _=>rfl
    | dead=>trivial
    | hole=>trivial
  ·have hne:k'≠k:=fun e=>by subst e; rw[ha] at hm; cases hm
   refine⟨(hoth k' hne).trans hm,hs.1,fun c hck=>?_⟩
   obtain ⟨es,els,h1,h2⟩:=hs.2 c hck
   have hcb:c≠b:=fun e=>by subst e; rw[hk] at hck; exact hne (by cases hck; rfl)
   exact⟨es,els,by rw[Yz (Zl hcb)]; exact h1,h2⟩
 have hsz:(w.setRow k arr').heap.size=w.heap.size:=by simp[World.setRow]
 have hkb:=(hr.dom b k hk).2.1
 refine⟨⟨hr.below.trans ⟨rfl,rfl,rfl,by rw[hsz]; exact Yk _,fun j hj=>hoth j r7⟩,fun c j hcj=>⟨by simpa using (hr.dom c j hcj).1,(hr.dom c j hcj).2.1,by rw[hsz]; exact(hr.dom c j hcj).2.2⟩,hr.inj,hr.Aa he,hr.yk he,fun c C hC=>?_⟩,he⟩
 by_cases e:c=b
 ·subst e
  rw[YO hlt] at hC; cases hC
  exact hB' he hnew
 ·rw[Yz (Zl e)] at hC
  have h:=hr.blk c C hC
  have hmu:∀ {j},g.mu c=some j->j≠k:=fun {j} hj e2=>e (hr.inj c b k (e2 ▸ hj) hk)
  cases C with
  | box cs=>obtain ⟨j,arr1,ty1,h1,h2,h3⟩:=h; exact⟨j,arr1,ty1,h1,(hoth j (hmu h1)).trans h2,bE.ext he _ _ h3⟩
  | row wr es els=>cases wr with
   | true=>
    obtain ⟨ds,h1,h2,h3⟩:=h
    exact⟨ds,bC.ext he _ _ h1,h2,fun hp=>let ⟨j,arr1,ty1,e1,e2,e3⟩:=h3 hp; ⟨j,arr1,ty1,e1,(hoth j (hmu e1)).trans e2,e3⟩⟩
   | false=>exact⟨bC.ext he _ _ h.1,h.2⟩
  | rng st=>obtain ⟨j,h1,h2⟩:=h; exact⟨j,h1,(hoth j (hmu h1)).trans h2⟩
  | mp _ _ _=>obtain ⟨j,arr1,cl,h1,h2,h3,h4⟩:=h; exact⟨j,arr1,cl,h1,(hoth j (hmu h1)).trans h2,h3,bE.ext he _ _ h4⟩
  | dead=>exact h
  | hole=>exact h
theorem nH (H:aB) (B:aC) {lo b:Nat} (hb:lo<=b):∀ c,c<lo->c<H.length->(H.set b B)[c]? = H[c]?:=fun _ hc _=>Yz r7
theorem mF {t:TypeId} {n k o:Nat} {c:Value} {arr:Array Value} {ty:TypeId} (hs:cM P t=some n) (hn:c.cells.size=n) (ha:w.heap[k]? = some (.cells arr ty (0,0))) (hfit:o+n<=arr.size) (h1:∀ x∈c.cells.toList,x.oneCell'=true) :
  (Instr.storeAt t (.pointer (some ⟨k,o,none⟩)) c).run P w=.ok () (w.setRow k (bB arr.toList o c.cells.toList).toArray):=by
 have:=qbk P k o ty c.cells.toList 0 arr w ha (by simpa [hn] using hfit) h1
 simp only[ZM] at this
 simp only[Instr.storeAt,Instr.sureAddr,YZ,qam,YS,storeVar,eC hs]
 rw[Yp (by simp[hn])]
 rw[this]
 simp[bB]
theorem jf {α:Type} (cs xs:List α) (o:Nat) (h:o+xs.length<=cs.length):(bB cs o xs).length=cs.length:=by
 simp[bB]; omega
theorem gQ {α:Type} (cs xs:List α) (o j:Nat) (h:o+xs.length<=cs.length):(bB cs o xs)[j]? = if o<=j/\j<o+xs.length then xs[j - o]? else cs[j]?:=by
 unfold bB
 rw[Za,Z5,Zq,ZQ r7]
 by_cases h1:j<o
 ·rw[Yq h1,Yp r7,YN,Yq h1]
 ·rw[Yp h1,Z5]
  by_cases h2:j<o+xs.length
  ·rw[Yq r7,Yq r7]
  ·rw[Yp r7,Yp r7,ZC]
   congr 1; omega
theorem tv {α:Type} (x l xs:List α) (n:Nat):bB (x++l) (x.length+n) xs=x++bB l n xs:=by
 unfold bB
 rw[ZY,List.take_length_add_append,List.drop_length_add_append]
 simp
theorem sz {es:Nat}:∀ {ds:List (List Value)} {i:Nat} {d d':List Value},(∀ d∈ds,d.length=es)->ds[i]? = some d->∀ o xs,o+xs.length<=es->d'=bB d o xs->(ds.set i d').flatten=bB ds.flatten (i*es+o) xs
 | [],i,d,d',_,h,_,_,_,_=>by simp at h
 | x :: r,i,d,d',hl,h,o,xs,hf,hd=>by
  have hx:=hl x r9
  cases i with
  | zero=>
   simp at h; subst h; subst hd
   simp only[List.set_cons_zero,ZB,Nat.zero_mul,Y9,bB]
   rw[qbd r7,qbc r7]
   simp
  | succ i=>
   have ih:=sz (ds:=r) (i:=i) (d:=d) (d':=d') (fun d hd=>hl d (by simp[hd])) (by simpa using h) o xs hf hd
   have e:(i+1)*es+o=x.length+(i*es+o):=by rw[hx,Zi]; omega
   rw[List.set_cons_succ,ZB,ZB,ih,e,tv]
theorem iX {es:Nat} {ds:List (List Value)} (hl:∀ d∈ds,d.length=es) {m:Nat} (hm:m<=ds.length):(ds.take m).flatten.length=m*es:=by
 rw[cp (fun d hd=>hl d (YT hd)),Zq,ZQ hm]
theorem nu {es:Nat}:∀ {ds:List (List Value)} (o:Nat) {xs:List (List Value)},(∀ d∈ds,d.length=es)->(∀ d∈xs,d.length=es)->o+xs.length<=ds.length->(bB ds o xs).flatten=bB ds.flatten (o*es) xs.flatten
 | ds,0,xs,hl,hx,h=>by
  have:ds=ds.take xs.length++ds.drop xs.length:=(ZH _ _).symm
  have h1:(ds.take xs.length).flatten.length=xs.length*es:=iX hl r7
  simp only[bB,qbD,Zs,Y9,Nat.zero_mul,qaa]
  congr 1
  have e:ds.flatten=(ds.take xs.length).flatten++(ds.drop xs.length).flatten:=X8
  rw[e,List.drop_append,h1,cp hx]
  simp[h1]
 | [],o+1,xs,hl,hx,h=>by simp at h
 | d :: r,o+1,xs,hl,hx,h=>by
  have ih:=nu (ds:=r) o (xs:=xs) (fun d hd=>hl d (by simp[hd])) hx (by simp at h; omega)
  have e1:bB (d :: r) (o+1) xs=d :: bB r o xs:=by
   simp only[bB,List.take_succ_cons,Y5]
   rw[show o+1+xs.length=o+xs.length+1 by omega,qbN]
  rw[e1,ZB,ih,ZB]
  have e2:(o+1)*es=d.length+o*es:=by rw[hl d r9,Zi]; omega
  rw[e2,tv]
theorem vw (hr:Rel H g w0 w) {t:TypeId} {a x:A} {H':aB} {lo:Nat} {ca cx:Value} (h:jz P t a x H lo=some H') (ha:VR H g w a ca) (hx:VR H g w x cx) :
  ∃ w',(Instr.storeAt t ca cx).run P w=.ok () w'/\Rel H' g w0 w'/\Ext H g w H' g w'/\H.length<=H'.length/\∀ b,b<lo->b<H.length->H'[b]? = H[b]?:=by
 unfold jz at h
 replace h:=bD h
 obtain ⟨n,hn,h⟩:=h
 replace h:=bD h
 obtain ⟨xs,hxs,h⟩:=h
 replace h:=eG h
 obtain ⟨h0,h⟩:=h
 simp only[Zh,ZT,Zx] at h0
 obtain ⟨hvs,h1,_⟩:=na hxs hx
 have hsz:cx.cells.size=n:=by have:=hvs.length; simp at this; omega
 split at h
 ·rename_i b o
  split at h
  ·rename_i cs hb
   replace h:=bu h
   obtain ⟨hc,h⟩:=h
   simp only[Yj,Yn] at hc
   cases h
   rw[VR,hb] at ha
   obtain ⟨k,hk,rfl⟩:=ha
   obtain ⟨k',arr,ty,hk',har,hv⟩:=hr.blk b _ hb
   rw[hk] at hk'; cases hk'
   have hal:arr.size=cs.length:=by simpa using hv.length
   have hrun:=mF (P:=P) hn hsz har (o:=o) r7 h1
   obtain ⟨r1,r2⟩:=hr.write hk har (arr':=(bB arr.toList o cx.cells.toList).toArray) (B':=.box (bB cs o xs)) hb (.inl ⟨_,_,rfl,rfl⟩) (fun he hnew=>⟨k,_,ty,hk,hnew,bE.ext he _ _ (by simpa using hv.bB hvs o)⟩)
   exact⟨_,hrun,r1,r2,r9,nH _ _ hc.1⟩
  ·cases h
 ·rename_i b i o
  split at h
  ·rename_i es els hb
   split at h
   ·rename_i cs hi
    rw[VR,hb] at ha
    obtain ⟨hlt,k,hk,rfl⟩:=ha
    obtain ⟨ds,hv,hl,hrow⟩:=hr.blk b _ hb
    obtain ⟨k',arr,ty,hk',har,hcell⟩:=hrow r7
    rw[hk] at hk'; cases hk'
    obtain ⟨d,hd,hvd⟩:=hv.get hi
    have hdl:d.length=es:=hl d (YQ hd)
    have hcl:cs.length=es:=by rw[<-hvd.length]; exact hdl
    have hfl:=cp hl
    have hvl:=hv.length
    have hbound:i*es+es<=ds.length*es:=by
     have:=ZV es (show i+1<=ds.length by omega)
     rw[Zi] at this; omega
    have hal:ds.flatten.length<=arr.size:=by
     by_cases hz:ds.flatten.length=0
     ·omega
     ·have:=hcell (ds.flatten.length - 1) _ (Yg r7)
      have:=(Yo.1 this).1
      omega
    have hxl:cx.cells.toList.length=n:=by simpa using hsz
    rw[bF] at h
    split at h
    rotate_left
    ·replace h:=bu h
     obtain ⟨hc,h⟩:=h
     simp only[Yj,Yn,qaE] at hc
     obtain ⟨⟨⟨hlo,rfl⟩,hq⟩,hfit⟩:=hc
     cases h
     have hxq:cx.cells.toList.length=n / es*es:=r7
     have hq2:i*es+n / es*es<=ds.length*es:=by
      have:=ZV es (show i+n / es<=ds.length by omega)
      rwa [Zi] at this
     have hrun:=mF (P:=P) hn hsz har (o:=i*es+0) r7 h1
     have hcl2:=jZ (es:=es) hxq
     obtain ⟨r1,r2⟩:=hr.write hk har (arr':=(bB arr.toList (i*es+0) cx.cells.toList).toArray) (B':=.row true es (bB els i (chunk es (n / es) xs))) hb (.inr ⟨es,els,_,rfl,rfl,by rw[jf _ _ _ (by rw[ij]; omega)]⟩) (fun he hnew=>by
      refine⟨bB ds i (chunk es (n / es) cx.cells.toList),?_,?_,fun _=>⟨k,_,ty,hk,hnew,fun j v hj=>?_⟩⟩
      ·have hv2:=bC.ext he _ _ hv
       have hx2:=bC.ext he _ _ (hvs.chunk (es:=es) (n / es))
       exact hv2.bB hx2 i
      ·intro d' hd'
       unfold bB at hd'
       rcases Zz.1 hd' with hd' | hd'
       ·rcases Zz.1 hd' with hd' | hd'
        ·exact hl d' (YT hd')
        ·exact hcl2 d' hd'
       ·exact hl d' (Y0 hd')
      ·rw[nu i hl hcl2 (by rw[ij]; omega),mj hxq] at hj
       rw[gQ _ _ _ _ r7] at hj
       have:(bB arr.toList (i*es+0) cx.cells.toList).toArray[j]? = (bB arr.toList (i*es+0) cx.cells.toList)[j]?:=r9
       rw[this,gQ _ _ _ _ so]
       simp only[ZM]
       split
       ·rename_i hin; rw[Yq hin] at hj; exact hj
       ·rename_i hin; rw[Yp hin] at hj
        have:=hcell j v hj
        simpa using this)
     exact⟨_,hrun,r1,r2,r9,nH _ _ hlo⟩
    rename_i hc
    simp only[Yj,Yn] at hc
    cases h
    have hrun:=mF (P:=P) hn hsz har (o:=i*es+o) r7 h1
    obtain ⟨r1,r2⟩:=hr.write hk har (arr':=(bB arr.toList (i*es+o) cx.cells.toList).toArray) (B':=.row true es (els.set i (bB cs o xs))) hb (.inr ⟨es,els,_,rfl,rfl,r9⟩) (fun he hnew=>by
     refine⟨ds.set i (bB d o cx.cells.toList),?_,?_,fun _=>⟨k,_,ty,hk,hnew,fun j v hj=>?_⟩⟩
     ·have hv2:=bC.ext he _ _ hv
      have hvd2:=bE.ext he _ _ (hvd.bB hvs o)
      obtain ⟨g1,g2⟩:=cX.1 hv2
      refine cX.2 ⟨by simp[g1],fun j a' d' ha' hd'=>?_⟩
      by_cases e:j=i
      ·subst e
       rw[YO r7] at ha'
       rw[YO r7] at hd'
       cases ha'; cases hd'; exact hvd2
      ·rw[Yz (Zl e)] at ha' hd'
       exact g2 j a' d' ha' hd'
     ·intro d' hd'
      rcases qbm hd' with h' | rfl
      ·exact hl d' h'
      ·rw[jf _ _ _ r7]; exact hdl
     ·rw[sz hl hd o cx.cells.toList r7 rfl] at hj
      rw[gQ _ _ _ _ r7] at hj
      have:(bB arr.toList (i*es+o) cx.cells.toList).toArray[j]? = (bB arr.toList (i*es+o) cx.cells.toList)[j]?:=r9
      rw[this,gQ _ _ _ _ so]
      split
      ·rename_i hin; rw[Yq hin] at hj; exact hj
      ·rename_i hin; rw[Yp hin] at hj
       have:=hcell j v hj
       simpa using this)
    exact⟨_,hrun,r1,r2,r9,nH _ _ hc.1⟩
   ·cases h
  ·cases h
 ·cases h
end
section
open Go.RowKit
variable {P:Program} {H:aB} {g:Gh} {w0 w:World}
theorem ka {t e:TypeId} (h:j0 P t=some e):P.underlying t=some (.slice e):=by
 unfold j0 at h
 split at h
 ·rename_i hu; cases h; exact hu
 ·cases h
theorem nY (z:Array Value) (len:Nat) (hz:0<z.size):(madeCells z (len*z.size)).toList=(List.replicate len z.toList).flatten:=by
 have hl:∀ d∈List.replicate len z.toList,d.length=z.size:=fun d hd=>by rw[(qaw.1 hd).2]; simp
 apply Zv
 intro j
 by_cases hj:j<len*z.size
 ·have hq:j / z.size<len:=qa6 (by rw[Zr]; exact hj)
  have e:=kb hl (j:=j / z.size) (d:=z.toList) (by rw[ZK,Yq hq]) (j % z.size) (qaD _ hz)
  rw[show j / z.size*z.size+j % z.size=j by rw[Zr]; exact qa7 _ _] at e
  rw[e]
  have hm:=qaD j hz
  have:(madeCells z (len*z.size))[j]? = some (z[j % z.size]!):=by simp[madeCells,hj]
  rw[YV,this]
  simp[hm]
 ·rw[Y7 (by simp[madeCells]; omega),Y7 (by rw[cp hl]; simp; omega)]
theorem xz {es:Nat}:∀ {parts:List (Nat×A)} {vparts:List (Nat×Value)} {els els':List (List A)} {ds:List (List Value)} {arr:Array Value},mD els parts=some els'->arr.toList=ds.flatten->bC H g w els ds->(∀ d∈ds,d.length=es) ->
  (∀ p∈parts,p.1<els.length/\∃ xs,p.2.cells? = some xs/\xs.length=es)->m0 H g w parts vparts->∃ arr' ds',Instr.fill (fun i=>some (i*es,es)) arr vparts=some arr'/\arr'.toList=ds'.flatten/\bC H g w els' ds'/\(∀ d∈ds',d.length=es)
 | [],vparts,els,els',ds,arr,h,ha,hv,hl,_,hp=>by
  simp only[mD,Zd] at h
  subst h
  have:vparts=[]:=YI (by simpa using hp.1)
  subst this
  exact⟨arr,ds,rfl,ha,hv,hl⟩
 | (i,x) :: r,vparts,els,els',ds,arr,h,ha,hv,hl,hc,hp=>by
  cases vparts with
  | nil=>simp[m0] at hp
  | cons q vr=>
   obtain ⟨q',hq,e1,hx⟩:=hp.2 0 (i,x) rfl
   simp at hq
   subst hq
   obtain ⟨hi,xs,hxs,hxl⟩:=hc (i,x) r9
   simp only[mD,hxs,Yf] at h
   obtain ⟨hvs,_,_⟩:=na hxs hx
   have hvl:=hvs.length
   have hel:=hv.length
   obtain ⟨qi,qv⟩:=q
   simp only at e1 hi
   subst e1
   have hsz:qv.cells.size=es:=by simpa [hxl] using hvl
   obtain ⟨d,hd,_⟩:=hv.get (i:=qi) (Yg hi)
   have hdl:d.length=es:=hl d (YQ hd)
   have hfl:=cp hl
   have hfit:qi*es+qv.cells.size<=arr.size:=by
    have e2:arr.size=ds.length*es:=by rw[<-hfl,<-ha]; simp
    have:=ZV es (show qi+1<=ds.length by omega)
    rw[Zi] at this; omega
   have hsp:qv.cells.toList=bB d 0 qv.cells.toList:=by
    unfold bB
    rw[qbD,Zs,qbz so,Zp]
   have hset:(qv.cells.zipIdx.foldl (fun cs (c,j)=>cs.setIfInBounds (qi*es+j) c) arr).toList=(ds.set qi qv.cells.toList).flatten:=by
    have:=tn qv.cells.toList (qi*es) arr (by simpa using hfit)
    rw[sz hl hd 0 qv.cells.toList so hsp,<-ha,ZM,<-this,<-qat]
    simp
   obtain ⟨arr',ds',h1,h2,h3,h4⟩:=xz (els:=els.set qi xs) (ds:=ds.set qi qv.cells.toList) (arr:=qv.cells.zipIdx.foldl (fun cs (c,j)=>cs.setIfInBounds (qi*es+j) c) arr) (vparts:=vr) h hset
    (by
     obtain ⟨g1,g2⟩:=cX.1 hv
     refine cX.2 ⟨by simp[g1],fun j a' d' ha' hd'=>?_⟩
     by_cases e:j=qi
     ·subst e
      rw[YO r7] at ha'
      rw[YO r7] at hd'
      cases ha'; cases hd'; exact hvs
     ·rw[Yz (Zl e)] at ha' hd'
      exact g2 j a' d' ha' hd')
    (fun d' hd'=>by
     rcases qbm hd' with h' | rfl
     ·exact hl d' h'
     ·simpa using hsz)
    (fun p hpm=>by have:=hc p (by simp[hpm]); simpa using this) ⟨by simpa using hp.1,fun j p' hj=>by have:=hp.2 (j+1) p' (by simpa using hj); simpa using this⟩
   refine⟨arr',ds',?_,h2,h3,h4⟩
   unfold Instr.fill
   simp only
   rw[Yp (by simp[hsz]; omega)]
   exact h1
theorem mK {t:TypeId} {len:Nat} {parts:List (Nat×A)} {vparts:Array (Nat×Value)} {y:A} (h:aL P t len parts=some y) (hp:m0 H g w parts vparts.toList) :
  ∃ e es els arr' ds,y=.imm els true/\j0 P t=some e/\cM P e=some es/\es≠0/\(Instr.buildSlice t len vparts).run P w=.ok (.slice (some ⟨w.heap.size,0,none⟩) len len) (w.alloc (.cells arr' e))/\els.length=len/\arr'.toList=ds.flatten/\bC H g w els ds/\∀ d∈ds,d.length=es:=by
 unfold aL at h
 replace h:=bD h
 obtain ⟨e,he,h⟩:=h
 have hu:=ka he
 replace h:=bD h
 obtain ⟨es,hes,h⟩:=h
 replace h:=bD h
 obtain ⟨z,hz,h⟩:=h
 replace h:=eG h
 obtain ⟨h0,h⟩:=h
 replace h:=bu h
 obtain ⟨hc,h⟩:=h
 simp only[Zh,ZT,Zx,Yn,qab] at h0
 obtain ⟨⟨h0,h1⟩,h2⟩:=h0
 obtain ⟨it,v,hi,hv,rfl⟩:=fS hz
 obtain ⟨it',hi',hsz⟩:=gC hes
 rw[hi] at hi'; cases hi'
 have hvs:v.cells.size=es:=by simpa using h1
 cases hse:mD (List.replicate len (v.cells.toList.map zY)) parts with
 | none=>rw[hse] at h; cases h
 | some els=>
  rw[hse] at h
  cases h
  have hz0:0<v.cells.size:=r7
  have hall:∀ p∈parts,p.1<(List.replicate len (v.cells.toList.map zY)).length/\∃ xs,p.2.cells? = some xs/\xs.length=es:=fun p hpm=>by
   have:=Yw.1 hc p hpm
   simp only[Yj,Yn] at this
   refine⟨by simpa using this.1,?_⟩
   have h3:=this.2
   split at h3
   ·rename_i xs hx; exact⟨xs,hx,by simpa using h3⟩
   ·cases h3
  have hrep:bC H g w (List.replicate len (v.cells.toList.map zY)) (List.replicate len v.cells.toList):=cX.2 ⟨r9,fun i a d ha hd=>by
   rw[ZK] at ha hd
   split at ha
   ·rename_i hlt; rw[Yq hlt] at hd; cases ha; cases hd; exact jO _
   ·cases ha⟩
  obtain ⟨arr',ds',f1,f2,f3,f4⟩:=xz (es:=es) (arr:=madeCells v.cells (len*es)) hse (by rw[<-hvs]; exact nY _ _ hz0) hrep (fun d hd=>by rw[(qaw.1 hd).2]; simpa using hvs) hall hp
  have hb:Below w.heap.size w (w.alloc (.cells arr' e)):=(Below.refl _ w).alloc (Yk _) _
  have hlen:els.length=len:=by
   have gen:∀ (parts:List (Nat×A)) (els els':List (List A)),mD els parts=some els'->els'.length=els.length:=by
    intro parts
    induction parts with
    | nil=>intro els els' h; simp only[mD,Zd] at h; rw[h]
    | cons p r ih=>
     intro els els' h
     obtain ⟨i,x⟩:=p
     simp only[mD] at h
     obtain ⟨xs,_,h⟩:=bD h
     rw[ih _ _ h]; simp
   rw[gen _ _ _ hse]; simp
  refine⟨e,es,els,arr',ds',rfl,he,hes,h0,?_,hlen,f2,f3,f4⟩
  unfold Instr.buildSlice
  have hsz':(sizeOf e).run P w=.ok es w:=eC hes w
  have hbig:¬ (16777216<len*es):=r7
  by_cases hle:len*es=0
  ·rw[hle] at f1
   rw[show madeCells v.cells 0=#[] by simp[madeCells]] at f1
   simp[Yu hu,hsz',hle,show Array.range 0=#[] from rfl,f1,newRow,newObj]
   rfl
  ·unfold madeCells at f1
   simp[Yu hu,hsz',hle,hbig,zeroValue,typeInfo,hi,hv,f1,newRow,newObj]
   rfl
theorem pB (hr:Rel H g w0 w) {t:TypeId} {len:Nat} {parts:List (Nat×A)} {vparts:Array (Nat×Value)} {y:A} (h:aL P t len parts=some y) (hp:m0 H g w parts vparts.toList) :
  ∃ d w',(Instr.buildSlice t len vparts).run P w=.ok d w'/\Below w.heap.size w w'/\VR H g w' y d:=by
 obtain ⟨e,es,els,arr',ds',rfl,_,_,_,hrun,hlen,f2,f3,f4⟩:=mK h hp
 have hb:Below w.heap.size w (w.alloc (.cells arr' e)):=(Below.refl _ w).alloc (Yk _) _
 refine⟨_,_,hrun,hb,?_⟩
 rw[VR]
 have he:=Ext.below hr hb
 refine⟨_,len,ds',es,by rw[hlen],r7,fun _=>hlen.symm,f4,fun _=>⟨w.heap.size,0,rfl,?_⟩,bC.ext he _ _ f3⟩
 exact nv hr (ZO w _) fun j v hj=>by rw[<-f2] at hj; simpa using hj
theorem rm (hr:Rel H g w0 w) {t:TypeId} {len:Nat} {parts:List (Nat×A)} {vparts:Array (Nat×Value)} {y:A} {H':aB} (lo:Nat) (h:ql P t len parts H=some (y,H')) (hp:m0 H g w parts vparts.toList) :
  Step H g w0 w lo ((Instr.buildSlice t len vparts).run P w) y H':=by
 unfold ql at h
 obtain ⟨e0,h1,h⟩:=bD h
 obtain ⟨es0,h2,h⟩:=bD h
 obtain ⟨y0,h3,h⟩:=bD h
 obtain ⟨e,es,els,arr',ds',rfl,g1,g2,g3,hrun,hlen,f2,f3,f4⟩:=mK h3 hp
 rw[h1] at g1; cases g1
 rw[h2] at g2; cases g2
 simp only[Zd,Prod.mk.injEq] at h
 obtain ⟨rfl,rfl⟩:=h
 have hb:Below w.heap.size w (w.alloc (.cells arr' e0)):=(Below.refl _ w).alloc (Yk _) _
 obtain ⟨k1,k2⟩:=hr.push hb (.row true es0 els) (some w.heap.size) [] (fun k hk=>by cases hk; exact⟨rfl,by show w.heap.size<(w.heap.push _).size; rw[Array.size_push]; exact qan _⟩) (fun he=>⟨ds',bC.ext he _ _ f3,f4,fun _=>⟨w.heap.size,arr',e0,Gh.bJ _ _ _ _,ZO w _,fun j v hj=>by rw[<-f2] at hj; simpa using hj⟩⟩)
 refine⟨_,_,_,hrun,k1,k2,?_,r9,fun b _ hb=>YE hb,rfl⟩
 rw[VR,ew]
 exact⟨r9,_,len,by rw[hlen],r7,fun _=>hlen.symm,fun _=>⟨w.heap.size,Gh.bJ _ _ _ _,r9⟩⟩
theorem HT {x:A} {c:Value} (h:VR H g w x c):VR H g w (tX x) c:=by
 cases x with
 | imm els cl=>
  simp only[tX]
  rw[VR] at h ⊢
  obtain ⟨a,cap,ds,es,h1,h2,_,h4,h5,h6⟩:=h
  exact⟨a,cap,ds,es,h1,h2,fun h=>(by cases h),h4,h5,h6⟩
 | _=>exact h
theorem p9:∀ {cs:List A} {ds:List Value},bE H g w cs ds->bE H g w (cs.map tX) ds
 | [],_,h=>h
 | a :: as,_,h=>by
  rw[bE] at h
  obtain ⟨d,ds',rfl,h1,h2⟩:=h
  rw[Zc,bE]
  exact⟨d,ds',rfl,HT h1,p9 h2⟩
theorem rN (hr:Rel H g w0 w) {t:TypeId} {n c y:A} {cn cc:Value} {H':aB} (h:ig P t n c H=some (y,H')) (hn:VR H g w n cn) (hc:VR H g w c cc):H'=H/\∃ d w',(Instr.makeSlice t cn cc).run P w=.ok d w'/\Below w.heap.size w w'/\VR H g w' y d:=by
 unfold ig at h
 obtain ⟨e,he,h⟩:=bD h
 have hu:=ka he
 obtain ⟨es,hes,h⟩:=bD h
 obtain ⟨by_,hby,h⟩:=bD h
 obtain ⟨z,hz,h⟩:=bD h
 obtain ⟨ni,hni,h⟩:=bD h
 obtain ⟨ci,hci,h⟩:=bD h
 obtain ⟨h0,h⟩:=eG h
 simp only[Zh,ZT,Zx,Yn,qab] at h0
 obtain ⟨⟨⟨⟨h0,h1⟩,h2⟩,h3⟩,h4⟩:=h0
 cases h
 obtain ⟨it,v,hi,hv,rfl⟩:=fS hz
 obtain ⟨it',hi',hsz⟩:=gC hes
 rw[hi] at hi'; cases hi'
 have hvs:v.cells.size=es:=by simpa using h1
 have hbv:it.bytes=by_:=by unfold jY at hby; rw[hi] at hby; simpa using hby
 obtain ⟨kn,zn,rfl,hn0,rfl⟩:=oX hni hn
 obtain ⟨kc,zc,rfl,hc0,rfl⟩:=oX hci hc
 unfold di at h2 h3
 have hbz:(it.bytes:Int)*zc<=281474976710656:=by
  have:((zc.toNat*by_:Nat):Int)<=140737488355328:=r7
  rw[qax,qaP hc0,qbS,<-hbv] at this
  omega
 have hrun:=run_make (P:=P) w t e it v hu hi hv kn kc zn zc hn0 r7 hbz r7
 have hb:Below w.heap.size w (w.alloc (.cells (madeCells v.cells (zc.toNat*it.size)) e)):=(Below.refl _ w).alloc (Yk _) _
 rw[hsz] at hrun hb
 have hz0:0<v.cells.size:=r7
 refine⟨rfl,_,_,hrun,hb,?_⟩
 rw[VR]
 refine⟨_,zc.toNat,List.replicate zn.toNat v.cells.toList,es,r9,so,fun h=>(by cases h),fun d hd=>by rw[(qaw.1 hd).2]; simpa using hvs,fun _=>⟨w.heap.size,0,rfl,?_⟩,cX.2 ⟨r9,fun i a d ha hd=>?_⟩⟩
 ·exact nv hr (ZO w _) fun j x hj=>by rw[<-YV,<-hvs,nY _ _ hz0,<-h4]; exact hj
 ·rw[ZK] at ha hd
  split at ha
  ·rename_i hlt; rw[Yq hlt] at hd; cases ha; cases hd; exact p9 (jO _)
  ·cases ha
theorem kv {ck:Bool} (hr:Rel H g w0 w) {t:TypeId} {n c y:A} {cn cc:Value} {H':aB} (lo:Nat) (h:fj ck P t n c H=some (y,H')) (hn:VR H g w n cn) (hc:VR H g w c cc):Step H g w0 w lo ((Instr.makeSlice t cn cc).run P w) y H':=by
 unfold fj at h
 replace h:=bD h
 obtain ⟨e,he,h⟩:=h
 have hu:=ka he
 replace h:=bD h
 obtain ⟨es,hes,h⟩:=h
 replace h:=bD h
 obtain ⟨by_,hby,h⟩:=h
 replace h:=bD h
 obtain ⟨z,hz,h⟩:=h
 replace h:=bD h
 obtain ⟨ni,hni,h⟩:=h
 replace h:=bD h
 obtain ⟨ci,hci,h⟩:=h
 replace h:=eG h
 obtain ⟨h0,h⟩:=h
 simp only[Zh,ZT,Zx,Yn,qab] at h0
 obtain ⟨⟨⟨⟨h0,h1⟩,h2⟩,h3⟩,h4⟩:=h0
 obtain ⟨it,v,hi,hv,rfl⟩:=fS hz
 obtain ⟨it',hi',hsz⟩:=gC hes
 rw[hi] at hi'; cases hi'
 have hvs:v.cells.size=es:=by simpa using h1
 have hbv:it.bytes=by_:=by unfold jY at hby; rw[hi] at hby; simpa using hby
 obtain ⟨kn,zn,rfl,hn0,rfl⟩:=oX hni hn
 obtain ⟨kc,zc,rfl,hc0,rfl⟩:=oX hci hc
 unfold di at h2 h3
 have hbz:(it.bytes:Int)*zc<=281474976710656:=by
  have:((zc.toNat*by_:Nat):Int)<=140737488355328:=r7
  rw[qax,qaP hc0,qbS,<-hbv] at this
  omega
 have hrun:=run_make (P:=P) w t e it v hu hi hv kn kc zn zc hn0 r7 hbz r7
 have hb:Below w.heap.size w (w.alloc (.cells (madeCells v.cells (zc.toNat*it.size)) e)):=(Below.refl _ w).alloc (Yk _) _
 rw[hsz] at hrun hb
 have hz0:0<v.cells.size:=r7
 rw[bF] at h
 split at h
 ·rename_i hnc
  have hnc:zn.toNat=zc.toNat:=by simpa using hnc
  cases h
  obtain ⟨r1,r2⟩:=hr.push hb (.row true es (List.replicate zn.toNat ((v.cells.toList.map zY).map tX))) (some w.heap.size) [] (fun k hk=>by cases hk; exact⟨rfl,r9⟩) (fun he'=>by
   refine⟨List.replicate zn.toNat v.cells.toList,cX.2 ⟨r9,fun i a d ha hd=>?_⟩,fun d hd=>by rw[(qaw.1 hd).2]; simpa using hvs,fun _=>⟨w.heap.size,_,e,Gh.bJ _ _ _ _,ZO w _,fun j x hj=>?_⟩⟩
   ·rw[ZK] at ha hd
    split at ha
    ·rename_i hlt; rw[Yq hlt] at hd; cases ha; cases hd; exact p9 (jO _)
    ·cases ha
   ·rw[<-YV,<-hvs,nY _ _ hz0,<-hnc]; exact hj)
  refine⟨_,_,_,hrun,r1,r2,?_,r9,jc _ _ _,rfl⟩
  rw[VR,ew]
  refine⟨r9,_,zc.toNat,rfl,r7,fun _=>r7,fun _=>⟨w.heap.size,Gh.bJ _ _ _ _,r9⟩⟩
 ·rw[bF] at h
  split at h
  ·rename_i hn00
   have hn00:zn.toNat=0:=by simpa using hn00
   cases h
   obtain ⟨r1,r2⟩:=hr.push hb (.row false es []) (some w.heap.size) [] (fun k hk=>by cases hk; exact⟨rfl,r9⟩) (fun he'=>by
    refine⟨?_,?_⟩
    ·rw[Gh.iv,bC]
    ·rw[Gh.iv]; simp)
   refine⟨_,_,_,hrun,r1,r2,?_,r9,jc _ _ _,rfl⟩
   rw[VR,ew]
   refine⟨r9,_,zc.toNat,by rw[hn00],r7,fun h=>(by cases h),fun h=>absurd h r9,fun _ _ _ _=>⟨w.heap.size,_,e,Gh.bJ _ _ _ _,rfl,ZO w _,by rw[size_madeCells]; exact Yk _⟩⟩
  ·cases h
theorem qp (hr:Rel H g w0 w) {t:TypeId} {n c y:A} {cn cc:Value} {H':aB} (lo:Nat) (h:ek P t n c H=some (y,H')) (hn:VR H g w n cn) (hc:VR H g w c cc):Step H g w0 w lo ((Instr.makeSlice t cn cc).run P w) y H':=kv hr lo h hn hc
end
end Go.Proofs.YtebkhfhcipnfgaaGreat
