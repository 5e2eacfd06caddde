/-
 Slices made, appended to, copied into: as the model's.
-/
import Derived.Below
import Derived.ChangeArms
import Derived.Deep.Slices
import Derived.RangeFuncNested
import Derived.RangeFuncCalls
import Derived.RangeFuncLeaves
import Derived.OrdersIn
import Derived.TacticsIn
import Derived.Maps.AppendAt
import Derived.OwnWalkIn
import Derived.OwnWalk
import Derived.Deep.MidRow
import Derived.DeepKeys
import Derived.Laws.StructEq
import Derived.Laws.Tables
import Derived.Laws.IdiomStrings
import Derived.Laws.BytesString
import Derived.Laws.Slices
import Derived.Laws.MakeOwn
import Derived.KernelRfl
namespace Go.Proofs.Ytebkhfhcipnfgaa
set_option linter.unusedVariables false
set_option linter.unusedSimpArgs false
set_option linter.defProp false
theorem r7 {p:Prop} (h:p:=by omega):p:=h
theorem r9 {p:Prop} (h:p:=by simp):p:=h
theorem so {p:Prop} (h:p:=by simp; omega):p:=h
theorem u2 {p:Prop} (h:p:=by rw[VR]):p:=h
theorem x5 {p:Prop} (h:p:=by rw[bt]):p:=h
theorem x6 {p:Prop} (h:p:=by rw[List.length_take]; omega):p:=h
theorem H6 {p:Prop} (h:p:=by rw[VR]; trivial):p:=h
theorem Ta {p:Prop} (h:p:=by rw[<-List.flatten_append,List.take_append_drop]):p:=h
def Ti:=@Option.bind_some
def Tj:=@List.getElem?_eq_getElem
def Tk:=@cond_false
def Tl:=@Bool.and_eq_true
def Tm:=@Nat.le_refl
def Tn:=@cond_true
def Tp:=@List.getElem?_eq_some_iff
def Tt:=@Array.getElem?_eq_some_iff
def Tu:=@decide_eq_true_eq
def Tv:=@of_decide_eq_true
def Tw:=@if_neg
def Ty:=@if_pos
def Tz:=@run_underlying
def TA:=@List.all_eq_true
def TB:=@List.drop_eq_getElem_cons
def TC:=@Nat.eq_of_beq_eq_true
def TD:=@List.getElem?_set_ne
def TE:=@Nat.lt_of_lt_of_le
def TG:=@List.getElem?_append_left
def TH:=@List.length_append
def TI:=@Nat.le_trans
def TK:=@List.eq_nil_of_length_eq_zero
def TM:=@List.length_cons
def TN:=@List.getElem?_take
def TP:=@List.getElem?_set_self
def TQ:=@Bool.false_eq_true
def TT:=@List.mem_of_getElem?
def TU:=@Bool.true_and
def TV:=@List.mem_range
def TW:=@Result.andThen_ok
def TX:=@List.mem_of_mem_take
def TY:=@Array.getElem?_toList
def TZ:=@Sem.run_bind
def T0:=@List.getElem?_map
def T1:=@Option.bind_assoc
def T2:=@List.mem_of_mem_drop
def T4:=@List.getElem?_append_right
def T6:=@Option.map_eq_some_iff
def Ub:=@List.getElem_mem
def Uc:=@List.cons_append
def Ud:=@List.mem_cons
def Ue:=@congrArg
def Uf:=@Option.some.injEq
def Ug:=@List.append_assoc
def Uh:=@Nat.zero_add
def Ui:=@List.getElem_of_mem
def Uk:=@Bool.or_eq_false_iff
def Ul:=@Nat.add_mul
def Um:=@List.map_cons
def Un:=@Array.getD_eq_getD_getElem?
def Up:=@Bool.or_eq_true
def Uq:=@Option.map_some
def Us:=@Ne.symm
def Uu:=@Array.getElem?_eq_getElem
def Uv:=@Bool.not_eq_true'
def Ux:=@Nat.mul_comm
def Uy:=@List.append_nil
def Uz:=@List.length_take
def UB:=@World.putObj_heap_other
def UD:=@beq_iff_eq
def UF:=@Addr.add_mid
def UH:=@List.getElem?_eq_none
def UI:=@List.flatten_cons
def UJ:=@List.getElem?_drop
def UK:=@List.nil_append
def UL:=@List.mem_append
def UO:=@List.countP_eq_length_filter
def UP:=@List.take_append_drop
def UR:=@Nat.lt_of_not_le
def UT:=@Nat.add_zero
def UU:=@cell_of_row
def UW:=@heap_alloc_new
def UX:=@List.ext_getElem?
def UY:=@Nat.min_eq_left
def U0:=@Bool.not_eq_false'
def U1:=@World.cell?_of_block
def U2:=@Nat.mul_le_mul_right
def U4:=@List.getElem?_replicate
def U5:=@Nat.add_assoc
def U8:=@Array.getElem?_setIfInBounds_ne
def U9:=@List.getElem?_append
def Va:=@Array.ext'
def Vb:=@List.length_map
def Ve:=@World.block_lt_of_cell?
def Vg:=@List.flatten_append
def Vh:=@beq_eq_false_iff_ne
def Vj:=@Nat.le_of_not_lt
def Vl:=@List.length_pos_of_mem
def Vn:=@List.mem_replicate
def Vp:=@List.all_cons
def Vq:=@Nat.lt_irrefl
def Vs:=@getD_set_ne
def Vu:=@Array.all_eq_true_iff_forall_mem
def Vv:=@Sem.run_pure
def Vw:=@Array.length_toList
def Vy:=@Array.foldl_toList
def Vz:=@mem_ready
def VA:=@Nat.eq_zero_or_pos
def VB:=@Int.natCast_mul
def VH:=@if_true
def VJ:=@Nat.mod_lt
def VK:=@Nat.beq_eq
def VN:=@Array.getElem?_append_left
def VS:=@Int.toNat_of_nonneg
def VU:=@Nat.le_of_eq
def V1:=@List.length_filter_le
def V2:=@List.mem_map
def V3:=@List.mem_filter
def V4:=@Nat.le_antisymm
def V5:=@Nat.div_lt_of_lt_mul
def V6:=@Nat.div_add_mod
def Wc:=@List.drop_append_of_le_length
def Wd:=@List.take_append_of_le_length
def We:=@List.drop_drop
def Wi:=@run_storeCells_at
def Wk:=@List.mem_or_eq_of_mem_set
def Wm:=@Nat.add_comm
def Wu:=@List.nodup_cons
def Wv:=@List.foldl_cons
def Wx:=@List.drop_of_length_le
def Wy:=@Nat.one_mul
def WB:=@List.countP_mono_left
def WC:=@List.take_zero
def WH:=@Classical.not_forall
def WK:=@Oper.semAt_eq
def WS:=@Bool.true_or
def WT:=@Int.mul_comm
def WV:=@grownCap_ge
section
open Go.RowKit
def jR:Obj->Bool
 | .cells ..=>true
 | .map ..=>true
 | _=>false
def fe (B:Nat) (w w':World):Prop:=∀ (k:Nat) (o:Obj),k<B->w.heap[k]? = some o->jR o=true->w'.heap[k]? = some o
theorem fe.ek {B n:Nat} {w w':World} (h:Below B w w') (hn:n<=B):fe n w w':=fun k _ hk ho _=>(h.block k (TE hk hn)).trans ho
theorem fe.mono {B n:Nat} {w w':World} (h:fe B w w') (hn:n<=B):fe n w w':=fun k o hk=>h k o (TE hk hn)
theorem fe.refl (B:Nat) (w:World):fe B w w:=fun _ _ _ h _=>h
theorem fe.trans {B:Nat} {a b c:World} (h:fe B a b) (k:fe B b c):fe B a c:=fun i o hi ho hd=>k i o hi (h i o hi ho hd) hd
def ee (T:Nat->Prop) (w w':World):Prop:=∀ (k:Nat) (o:Obj),T k->w.heap[k]? = some o->jR o=true->w'.heap[k]? = some o
theorem ee.refl (T:Nat->Prop) (w:World):ee T w w:=fun _ _ _ h _=>h
theorem ee.trans {T:Nat->Prop} {a b c:World} (h:ee T a b) (k:ee T b c):ee T a c:=fun i o hi ho hd=>k i o hi (h i o hi ho hd) hd
theorem ee.sub {T T':Nat->Prop} {a b:World} (h:ee T a b) (hs:∀ k,T' k->T k):ee T' a b:=fun i o hi ho hd=>h i o (hs i hi) ho hd
theorem ee.keeps {T:Nat->Prop} {B:Nat} {a b:World} (h:ee T a b) (hs:∀ k,k<B->T k):fe B a b:=fun i o hi ho hd=>h i o (hs i hi) ho hd
theorem ee.alloc (T:Nat->Prop) (w:World) (o:Obj):ee T w (w.alloc o):=fun k _ _ h _=>(Below.heap_alloc w o k (Tt.1 h).1).trans h
theorem ee.ek {T:Nat->Prop} {w w':World} (h:Below w.heap.size w w'):ee T w w':=fun k _ _ ho _=>(h.block k (Tt.1 ho).1).trans ho
theorem fe.alloc (B:Nat) (w:World) (o:Obj):fe B w (w.alloc o):=fun k _ _ h _=>(Below.heap_alloc w o k (Tt.1 h).1).trans h
theorem wV {B:Nat} {w w':World} (h:fe B w w') {a:Addr} {v:Value} (hb:a.block<B) (hc:w.cell? a=some v):w'.cell? a=some v:=by
 have hx:∃ o,w.heap[a.block]? = some o/\jR o=true:=by
  unfold World.cell? at hc
  cases ho:w.heap[a.block]? with
  | none=>simp[ho] at hc
  | some o=>cases o<;>simp[ho] at hc<;>exact⟨_,rfl,rfl⟩
 obtain ⟨o,ho,hd⟩:=hx
 rw[<-hc]
 exact U1 ((h _ o hb ho hd).trans ho.symm)
structure xP (α:Type) where
 k:Nat
 rd:Nat->World->List Value->α->Prop
 len:∀ {B:Nat} {w:World} {cs:List Value} {a:α},rd B w cs a->cs.length=k
 mono:∀ {B B':Nat} {w:World} {cs:List Value} {a:α},B<=B'->rd B w cs a->rd B' w cs a
 stab:∀ {B:Nat} {w w':World} {cs:List Value} {a:α},fe B w w'->rd B w cs a->rd B w' cs a
def NY:xP Int:={ k:=1,rd:=fun _ _ cs n=>cs=[.int .i64 n]/\-9223372036854775808<=n/\n<=9223372036854775807,len:=fun h=>by rw[h.1]; rfl,mono:=fun _ h=>h,stab:=fun _ h=>h }
def jh {α:Type} (L:xP α) (B:Nat) (w:World) (b off i:Nat) (x:α):Prop:=
 ∃ vs:List Value,L.rd B w vs x/\∀ j,j<L.k->w.cell? ⟨b,off+i*L.k+j,none⟩=vs[j]?
def fx {α:Type} (L:xP α) (B:Nat) (w:World) (v:Value) (l:List α):Prop:=
 ∃ a cap,v=.slice a l.length cap/\l.length<=cap/\cap<=maxLen/\(0<l.length->∃ b off,a=some ⟨b,off,none⟩/\b<B/\∀ i (h:i<l.length),jh L B w b off i l[i])
theorem jh.mono {α:Type} {L:xP α} {B B':Nat} {w:World} {b off i:Nat} {x:α} (hB:B<=B') (h:jh L B w b off i x):jh L B' w b off i x:=by
 obtain ⟨vs,h1,h2⟩:=h
 exact⟨vs,L.mono hB h1,h2⟩
theorem jh.stab {α:Type} {L:xP α} {B:Nat} {w w':World} {b off i:Nat} {x:α} (hb:b<B) (hw:fe B w w') (h:jh L B w b off i x):jh L B w' b off i x:=by
 obtain ⟨vs,h1,h2⟩:=h
 exact⟨vs,L.stab hw h1,fun j hj=>by
  have hlt:j<vs.length:=by rw[L.len h1]; exact hj
  have h3:=h2 j hj
  rw[Tj hlt] at h3 ⊢
  exact wV hw hb h3⟩
theorem fx.mono {α:Type} {L:xP α} {B B':Nat} {w:World} {v:Value} {l:List α} (hB:B<=B') (h:fx L B w v l):fx L B' w v l:=by
 obtain ⟨a,cap,e,h1,h2,h3⟩:=h
 exact⟨a,cap,e,h1,h2,fun hp=>let ⟨b,off,e',hb,h4⟩:=h3 hp; ⟨b,off,e',TE hb hB,fun i hi=>(h4 i hi).mono hB⟩⟩
theorem fx.stab {α:Type} {L:xP α} {B:Nat} {w w':World} {v:Value} {l:List α} (hw:fe B w w') (h:fx L B w v l):fx L B w' v l:=by
 obtain ⟨a,cap,e,h1,h2,h3⟩:=h
 exact⟨a,cap,e,h1,h2,fun hp=>let ⟨b,off,e',hb,h4⟩:=h3 hp; ⟨b,off,e',hb,fun i hi=>(h4 i hi).stab hb hw⟩⟩
theorem fx.nil {α:Type} (L:xP α) (B:Nat) (w:World):fx L B w (.slice none 0 0) []:=⟨none,0,rfl,Tm _,by simp[maxLen],fun h=>by simp at h⟩
theorem jh.one {α:Type} {L:xP α} {B:Nat} {w:World} {b off i:Nat} {x:α} {v:Value} (h:jh L B w b off i x) (hk:L.k=1) (hv:∀ vs,L.rd B w vs x->vs=[v]):w.cell? ⟨b,off+i,none⟩=some v:=by
 obtain ⟨vs,h1,h2⟩:=h
 have:=h2 0 r7
 rw[hv vs h1,hk] at this
 simpa using this
theorem jh.int {B:Nat} {w:World} {b off i:Nat} {x:Int} (h:jh NY B w b off i x):w.cell? ⟨b,off+i,none⟩=some (.int .i64 x)/\-9223372036854775808<=x/\x<=9223372036854775807:=by
 refine⟨h.one rfl (fun vs hv=>hv.1),?_⟩
 obtain ⟨vs,h1,_⟩:=h
 exact h1.2
end
section
open Go.RowKit
structure bX (B:Nat) (W W':World):Prop where
 os:W'.os=W.os
 tape:W'.tape=W.tape
 output:W'.output=W.output
 size:W.heap.size<=W'.heap.size
 low:∀ (k:Nat),k<B->k<W.heap.size->W'.heap[k]? = W.heap[k]?
 data:∀ (k:Nat) (o:Obj),W.heap[k]? = some o->jR o=true->W'.heap[k]? = some o
theorem bX.refl (B:Nat) (W:World):bX B W W:=⟨rfl,rfl,rfl,Tm _,fun _ _ _=>rfl,fun _ _ h _=>h⟩
theorem bX.trans {B:Nat} {X Y Z:World} (h:bX B X Y) (k:bX B Y Z):bX B X Z:=
 ⟨k.os.trans h.os,k.tape.trans h.tape,k.output.trans h.output,TI h.size k.size,fun i hi hs=>(k.low i hi (TE hs h.size)).trans (h.low i hi hs),fun i o hi ho=>k.data i o (h.data i o hi ho) ho⟩
theorem bX.mono {B B':Nat} {W W':World} (h:bX B W W') (hB:B'<=B):bX B' W W':=⟨h.os,h.tape,h.output,h.size,fun k hk=>h.low k (TE hk hB),h.data⟩
theorem bX.alloc (B:Nat) (W:World) (o:Obj):bX B W (W.alloc o):=
 ⟨rfl,rfl,rfl,r9,fun k _ hs=>Below.heap_alloc W o k hs,fun k _ hk _=>(Below.heap_alloc W o k (Tt.1 hk).1).trans hk⟩
theorem bX.putObj {B:Nat} {W:World} {l:Nat} {o:Obj} (o':Obj) (hB:B<=l) (hl:W.heap[l]? = some o) (ho:jR o=false):bX B W (W.putObj l o'):=
 ⟨rfl,rfl,rfl,r9,fun k hk _=>UB r7,fun k _ hk hd=>by
  by_cases e:k=l
  ·subst e; rw[hl] at hk; cases hk; rw[ho] at hd; cases hd
  ·exact(UB e).trans hk⟩
theorem bX.ek {B:Nat} {W W':World} (h:Below W.heap.size W W'):bX B W W':=
 ⟨h.os,h.tape,h.output,h.size,fun k _ hs=>h.block k hs,fun k _ hk _=>(h.block k (Tt.1 hk).1).trans hk⟩
theorem bX.drew (B:Nat) (W:World):bX B W W.drew:=⟨rfl,rfl,rfl,Tm _,fun _ _ _=>rfl,fun _ _ h _=>h⟩
def Calm (B:Nat) (I:World->Prop):Prop:=∀ W W',I W->bX B W W'->I W'
theorem Calm.and {B:Nat} {I J:World->Prop} (h:Calm B I) (k:Calm B J):Calm B fun W=>I W/\J W:=fun W W' hs hc=>⟨h W W' hs.1 hc,k W W' hs.2 hc⟩
theorem Calm.pure (B:Nat) (p:Prop):Calm B fun _=>p:=fun _ _ h _=>h
theorem Calm.ex {α:Type} {B:Nat} {I:α->World->Prop} (h:∀ x,Calm B (I x)):Calm B fun W=>∃ x,I x W:=fun W W' ⟨x,hx⟩ hc=>⟨x,h x W W' hx hc⟩
theorem Calm.block {B:Nat} (b:Nat) (o:Obj) (hd:jR o=true):Calm B fun W=>W.heap[b]? = some o:=fun _ _ h hc=>hc.data b o h hd
theorem Calm.cell {B:Nat} (a:Addr) (v:Value):Calm B fun W=>W.cell? a=some v:=fun W W' h hc=>by
 have h1:W.cell? a=some v:=h
 obtain ⟨o,ho,hc1⟩:=cells_of_cell h1
 have h2:=hc.data _ _ ho (by cases o<;>first | rfl | (cases hc1))
 show W'.cell? a=some v
 rw[<-h1]
 exact U1 (h2.trans ho.symm)
theorem Calm.below {B n₀:Nat} {w:World} (hn:n₀<=w.heap.size) (hB:n₀<=B):Calm B fun W=>Below n₀ w W:=fun W W' h hc=>
 h.trans ⟨hc.os,hc.tape,hc.output,hc.size,fun k hk=>hc.low k r7 (by have:=h.size; omega)⟩
theorem bX.keeps {B n:Nat} {W W':World} (h:bX B W W'):fe n W W':=fun k o _ hk ho=>h.data k o hk ho
theorem Calm.slice {α:Type} (L:xP α) {B:Nat} (n:Nat) (v:Value) (l:List α):Calm B fun W=>fx L n W v l:=fun _ _ h hc=>h.stab hc.keeps
structure dQ (B:Nat) (W W':World):Prop where
 size:W.heap.size<=W'.heap.size
 same:∀ (k:Nat) (o:Obj),B<=k->W.heap[k]? = some o->jR o=false->W'.heap[k]? = some o
theorem dQ.refl (B:Nat) (W:World):dQ B W W:=⟨Tm _,fun _ _ _ h _=>h⟩
theorem dQ.trans {B:Nat} {X Y Z:World} (h:dQ B X Y) (k:dQ B Y Z):dQ B X Z:=⟨TI h.size k.size,fun i o hB hi ho=>k.same i o hB (h.same i o hB hi ho) ho⟩
theorem dQ.mono {B B':Nat} {W W':World} (h:dQ B W W') (hB:B<=B'):dQ B' W W':=⟨h.size,fun k o hk=>h.same k o (TI hB hk)⟩
theorem dQ.ek {B:Nat} {W W':World} (h:Below W.heap.size W W'):dQ B W W':=⟨h.size,fun k _ _ hk _=>(h.block k (Tt.1 hk).1).trans hk⟩
theorem dQ.alloc (B:Nat) (W:World) (o:Obj):dQ B W (W.alloc o):=⟨r9,fun k _ _ hk _=>(Below.heap_alloc W o k (Tt.1 hk).1).trans hk⟩
theorem dQ.drew (B:Nat) (W:World):dQ B W W.drew:=⟨Tm _,fun _ _ _ h _=>h⟩
theorem dQ.grown {B:Nat} {W W':World} {row:Option Nat} (hg:W.grownBy W' row) (hrow:∀ j,row=some j->j<B∨∃ o,W.heap[j]? = some o/\jR o=true):dQ B W W':=
 ⟨hg.size,fun k o hB hk ho=>(hg.block k (Tt.1 hk).1 (fun e=>by
  rcases hrow k e.symm with h | ⟨o',h1,h2⟩
  ·omega
  ·rw[hk] at h1; cases h1; rw[ho] at h2; cases h2)).trans hk⟩
def p5 (F:Fence):Prop:=F.depth=none/\∀ f,F.fn f
theorem p5.inRound {F:Fence} (h:p5 F) (l:Nat):p5 (F.inRound l):=h
theorem fe.putObj (B:Nat) {X:World} {l:Nat} {o:Obj} (o':Obj) (hl:X.heap[l]? = some o) (ho:jR o=false):fe B X (X.putObj l o'):=fun k o'' _ hk hd=>by
 by_cases e:k=l
 ·subst e; rw[hl] at hk; cases hk; rw[ho] at hd; cases hd
 ·exact(UB e).trans hk
theorem ee.putObj (T:Nat->Prop) {X:World} {l:Nat} {o:Obj} (o':Obj) (hl:X.heap[l]? = some o) (ho:jR o=false):ee T X (X.putObj l o'):=fun k o'' _ hk hd=>by
 by_cases e:k=l
 ·subst e; rw[hl] at hk; cases hk; rw[ho] at hd; cases hd
 ·exact(UB e).trans hk
variable {F:Fence} {n:Nat} {P:Program}
def Marks (B:Nat) (W:World) (ds:List Deferred):Prop:=∃ rs:List Nat,ds=rs.map (fun r=>{ target:=.collected r,args:=#[] })/\rs.Nodup/\∀ r∈rs,B<=r/\W.heap[r]? = some (.deferred (some []))
theorem Marks.nil (B:Nat) (W:World):Marks B W []:=⟨[],rfl,List.nodup_nil,fun _ h=>by cases h⟩
theorem Marks.cons {B D:Nat} {W:World} {ds:List Deferred} (h:Marks B W ds) (hD:B<=D) (hW:W.heap[D]? = some (.deferred (some []))) (hn:∀ r,(⟨.collected r,#[]⟩:Deferred)∈ds->r≠D):Marks B W ({ target:=.collected D,args:=#[] } :: ds):=by
 obtain ⟨rs,rfl,h2,h3⟩:=h
 refine⟨D :: rs,rfl,Wu.2 ⟨fun hm=>hn D (V2.2 ⟨D,hm,rfl⟩) rfl,h2⟩,fun r hr=>?_⟩
 rcases Ud.1 hr with rfl | hr
 ·exact⟨hD,hW⟩
 ·exact h3 r hr
theorem Marks.lt {B:Nat} {W:World} {ds:List Deferred} (h:Marks B W ds) {r:Nat} (hr:(⟨.collected r,#[]⟩:Deferred)∈ds):r<W.heap.size:=by
 obtain ⟨rs,rfl,h2,h3⟩:=h
 obtain ⟨q,hq,e⟩:=V2.1 hr
 cases e
 exact(Tt.1 (h3 _ hq).2).1
theorem Marks.kept {B C:Nat} {W W':World} {ds:List Deferred} (h:Marks B W ds) (hk:dQ C W W') (hC:C<=B):Marks B W' ds:=by
 obtain ⟨rs,e,h2,h3⟩:=h
 exact⟨rs,e,h2,fun r hr=>⟨(h3 r hr).1,hk.same r _ (TI hC (h3 r hr).1) (h3 r hr).2 rfl⟩⟩
theorem Marks.below {B C:Nat} {W W':World} {ds:List Deferred} (h:Marks B W ds) (hk:Below C W W') (hC:W.heap.size<=C):Marks B W' ds:=by
 obtain ⟨rs,e,h2,h3⟩:=h
 refine⟨rs,e,h2,fun r hr=>⟨(h3 r hr).1,(hk.block r ?_).trans (h3 r hr).2⟩⟩
 have:=(Tt.1 (h3 r hr).2).1
 omega
end
section
def wz (F:Fence) (n:Nat) (P:Program) (o:Oper) (ev:Operand->Value) (w:World) (R:Value->World->Prop):Prop:=
 match (execOp ev o).run P w with
 | .ok (.value v) w'=>R v w'
 | .ok .skip w'=>R undef w'
 | .ok (.enter f args) w'=>CallsIn F (n - 1) P f args w' fun
   | .returned v,w''=>R v w''
   | _,_=>False
 | .ok (.row row args) w'=>RowsIn F (n - 1) P row args w' R
 | .ok (.round l f tmps assign body) w'=>RoundIn F (n - 1) P l f tmps assign body w' fun
   | .returned v,w''=>R v w''
   | _,_=>False
 | _=>False
theorem wz.mono {F:Fence} {n:Nat} {P:Program} {o:Oper} {ev:Operand->Value} {w:World} {R R':Value->World->Prop} (h:wz F n P o ev w R) (hr:∀ v w',R v w'->R' v w'):wz F n P o ev w R':=by
 unfold wz at *
 generalize (execOp ev o).run P w=r at *
 cases r with
 | ok x w'=>
  cases x<;>simp only at h ⊢<;>first
   | exact hr _ _ h
   | exact h.mono fun e w'' he=>by cases e<;>first | exact hr _ _ he | exact he
   | exact h.mono fun v w'' he=>hr _ _ he
 | halt x w'=>exact h
def slot (a:Act) (t:Nat):Value:=a.tmps.getD t undef
def b7 (ops:Array Oper) (i:Nat):Option Nat:=(ops[i]?).bind (·.dst)
def eZ (ops:Array Oper) (i j:Nat):Bool:=((Region.before ops).getD i 0).testBit j
def lq (o:Oper):Bool:=match o.op with | .select ..=>false | .defer _=>false | _=>true
def rP (ops:Array Oper) (N:Nat):Bool:=
 (List.range ops.size).all fun i=>match ops[i]? with
  | none=>true
  | some o=>lq o&&(match o.dst with | some d=>decide (d<N) | none=>true) &&
   (o.after.all fun e=>!Region.binds .any e || decide (e.on<i)) &&
   ((List.range ops.size).all fun j=>i==j || o.dst.isNone || b7 ops j != o.dst) &&
   ((List.range ops.size).all fun j=>match b7 ops j with
    | none=>true
    | some t=>!(o.looksAt ops).contains t || i==j || eZ ops i j || eZ ops j i) &&
   !eZ ops i i
def eo (_ops:Array Oper) (listed:Array Bool) (i:Nat):Prop:=listed.getD i false=true
variable {F:Fence} {n:Nat} {P:Program} {ops:Array Oper} {Q:Exit->Act->World->Prop}
inductive mZ (ops:Array Oper):Nat->Nat->Prop
 | edge {i:Nat} {o:Oper} {e:Edge} (ho:ops[i]? = some o) (he:e∈o.after) (hb:Region.binds .any e=true):mZ ops i e.on
 | thru {i j:Nat} {o:Oper} {e:Edge} (ho:ops[i]? = some o) (he:e∈o.after) (hb:Region.binds .any e=true) (h:mZ ops e.on j):mZ ops i j
theorem qj (acc:Array Nat) (hacc:∀ i j,(acc.getD i 0).testBit j=true->mZ ops i j) {i:Nat} {o:Oper} (ho:ops[i]? = some o) :
  ∀ (l:List Edge) (s:Nat),(∀ e∈l,e∈o.after)->(∀ j,s.testBit j=true->mZ ops i j)->∀ j,(l.foldl (fun s e=>if Region.binds .any e then s ||| 2 ^ e.on ||| acc.getD e.on 0 else s) s).testBit j=true->mZ ops i j
 | [],s,_,hs,j,h=>hs j h
 | e :: l,s,hl,hs,j,h=>by
  rw[Wv] at h
  refine qj acc hacc ho l _ (fun e he=>hl e (by simp[he])) (fun j hj=>?_) j h
  split at hj
  ·rename_i hb
   rw[Nat.testBit_or,Nat.testBit_or,Up,Up] at hj
   rcases hj with (hj | hj) | hj
   ·exact hs j hj
   ·rw[Nat.testBit_two_pow] at hj
    obtain rfl:e.on=j:=by simpa using hj
    exact .edge ho (hl e r9) hb
   ·exact .thru ho (hl e r9) hb (hacc _ _ hj)
  ·exact hs j hj
theorem fy (i j:Nat) (h:eZ ops i j=true):mZ ops i j:=by
 unfold eZ Region.before at h
 rw[<-Vy] at h
 have key:∀ (l:List Oper) (k:Nat) (acc:Array Nat),(∀ m,l[m]? = ops[k+m]?)->acc.size=k->(∀ i j,(acc.getD i 0).testBit j=true->mZ ops i j) ->
   ∀ i j,((l.foldl (fun acc o=>acc.push (o.after.foldl (fun s e=>if Region.binds .any e then s ||| 2 ^ e.on ||| acc.getD e.on 0 else s) 0)) acc).getD i 0).testBit j=true->mZ ops i j:=by
  intro l
  induction l with
  | nil=>intro k acc _ _ hacc i j h; exact hacc i j h
  | cons o l ih=>
   intro k acc hl hk hacc i j h
   refine ih (k+1) _ (fun m=>by have:=hl (m+1); simpa [U5,Wm 1 m] using this) (by simp[hk]) (fun i j hij=>?_) i j h
   have ho:ops[k]? = some o:=by simpa using (hl 0).symm
   by_cases e:i=acc.size
   ·subst e
    rw[hk]
    have e2:∀ X:Nat,(acc.push X).getD acc.size 0=X:=fun X=>r9
    rw[e2,<-Vy] at hij
    exact qj acc hacc ho _ 0 (fun e he=>Array.mem_toList_iff.1 he) (fun j hj=>by simp at hj) j hij
   ·refine hacc i j ?_
    have:(acc.push (o.after.foldl (fun s e=>if Region.binds .any e then s ||| 2 ^ e.on ||| acc.getD e.on 0 else s) 0)).getD i 0=acc.getD i 0:=by
     simp only[Un,Array.getElem?_push,Tw e]
    rw[this] at hij; exact hij
 exact key ops.toList 0 #[] r9 rfl (fun i j h=>by simp at h) i j h
theorem kz {listed:Array Bool} (hcl:∀ i o,ops[i]? = some o->eo ops listed i->∀ e∈o.after,Region.binds .any e=true->eo ops listed e.on)
  (i j:Nat) (hi:∃ o,ops[i]? = some o/\∀ e∈o.after,Region.binds .any e=true->eo ops listed e.on) (h:eZ ops i j=true):eo ops listed j:=by
 have hw:=fy i j h
 clear h
 induction hw with
 | edge ho he hb=>
  obtain ⟨o',ho',hall⟩:=hi
  rw[ho] at ho'; cases ho'
  exact hall _ he hb
 | thru ho he hb hw ih=>
  obtain ⟨o',ho',hall⟩:=hi
  rw[ho] at ho'; cases ho'
  refine ih ?_
  have hc:=hall _ he hb
  cases hw with
  | edge ho2 _ _=>exact⟨_,ho2,hcl _ _ ho2 hc⟩
  | thru ho2 _ _ _=>exact⟨_,ho2,hcl _ _ ho2 hc⟩
theorem filter_lt {α:Type} (p q:α->Bool):∀ l:List α,(∀ x∈l,q x=true->p x=true)->(∃ x∈l,p x=true/\q x=false)->(l.filter q).length<(l.filter p).length
 | [],_,⟨x,hx,_⟩=>by cases hx
 | y :: l,h,⟨x,hx,hp,hq⟩=>by
  have hle:(l.filter q).length<=(l.filter p).length:=by
   clear hx hp hq
   induction l with
   | nil=>simp
   | cons z l ih=>
    have hz:=h z r9
    have:=ih (fun x hx=>h x (by rcases Ud.1 hx with rfl | hx; simp; simp[hx]))
    simp only[List.filter_cons]
    cases hqz:q z<;>cases hpz:p z<;>simp<;>first | omega | skip
    rw[hz hqz] at hpz; cases hpz
  have hy:=h y r9
  simp only[List.filter_cons]
  rcases Ud.1 hx with rfl | hx
  ·rw[hp,hq]; simp; omega
  ·have:=filter_lt p q l (fun x hx=>h x (by simp[hx])) ⟨x,hx,hp,hq⟩
   cases hqy:q y<;>cases hpy:p y<;>simp<;>first | omega | skip
   rw[hy hqy] at hpy; cases hpy
def yX (ops:Array Oper) (listed:Array Bool):Nat:=((List.range ops.size).filter fun i=>!listed.getD i true).length
theorem eO {a:Act} {d:Nat} {v:Value} (h:d<a.tmps.size):slot (a.put (some d) v) d=v:=by
 simp[slot,Act.put,h]
theorem dq {a:Act} {dst:Option Nat} {t:Nat} {v:Value} (h:dst≠some t):slot (a.put dst v) t=slot a t:=by
 cases dst with
 | none=>rfl
 | some d=>
  have hne:d≠t:=fun e=>h (by rw[e])
  simp[slot,Act.put,U8 hne]
theorem jV (hWF:p5 F) {i:Nat} {o:Oper} (ho:ops[i]? = some o) (hp:lq o=true) {a:Act} {w:World} {K:Act->World->Prop} {R:Value->World->Prop}
  (h:if Region.wanted o (yielded ops a.tmps)=true then wz F n P o a.eval w R else R undef w) (hK:∀ v w',R v w'->K (a.put o.dst v) w'):wpOpIn F n P ops Q i K a w:=by
 unfold wpOpIn
 simp only[ho]
 split
 ·rename_i hw
  rw[Ty hw] at h
  refine⟨fun f _=>hWF.2 f,?_⟩
  rw[WK _ _ _ (fun c hc=>by unfold lq at hp; rw[hc] at hp; cases hp)]
  unfold wz at h
  generalize (execOp a.eval o).run P w=r at *
  have hd:F.depth.isSome=true->1<=n:=fun hs=>by rw[hWF.1] at hs; cases hs
  cases r with
  | ok x w'=>
   cases x<;>simp only[Oper.uponIn] at h ⊢<;>first
    | exact hK _ _ h
    | exact⟨hd,h.mono fun e w'' he=>by cases e<;>first | exact hK _ _ he | exact he.elim⟩
    | exact⟨hd,h.mono fun v w'' he=>hK _ _ he⟩
    | exact h.elim
  | halt x w'=>exact h.elim
 ·rename_i hw
  rw[Tw hw] at h
  exact⟨fun f _=>hWF.2 f,hK _ _ h⟩
def qB (ops:Array Oper) (k:Nat):Array Bool:=((List.range ops.size).map fun i=>decide (i<k)).toArray
def eP (ops:Array Oper) (m:Nat):Bool:=decide (m<=ops.size)&&((List.range ops.size).all fun i=>decide (i<m) || (List.range m).all fun j=>eZ ops i j)&&(List.range (ops.size+1)).all fun k=>decide (k<m) || (Region.ready .any ops (qB ops k)==if k<ops.size then [k] else [])
theorem sC {listed:Array Bool} {k:Nat} (hls:listed.size=ops.size) (hc:∀ i,i<ops.size->(eo ops listed i↔i<k)):listed=qB ops k:=by
 refine Array.ext (by simp[qB,hls]) fun i h1 h2=>?_
 have:=hc i r7
 unfold eo at this
 simp only[qB,List.getElem_toArray,List.getElem_map,List.getElem_range]
 have e:listed.getD i false=listed[i]:=by simp[h1]
 rw[e] at this
 cases h:listed[i] with
 | true=>rw[h] at this; simpa using this.1 rfl
 | false=>rw[h] at this; simp at this; simp; exact this
theorem oB {m:Nat} (ht:eP ops m=true) :
  ∀ (r k:Nat),k+r=ops.size->m<=k->∀ (fuel:Nat) (listed:Array Bool) (a:Act) (w:World),r<=fuel->listed.size=ops.size->(∀ i,i<ops.size->(eo ops listed i↔i<k)) ->
   wpListIn F n P ops Q (ops.toList.drop k) a w->wpAnyIn F n P .any ops Q fuel listed a w:=by
 have hready:∀ k,k<=ops.size->m<=k->Region.ready .any ops (qB ops k)=if k<ops.size then [k] else []:=fun k hk hm=>by
  simp only[eP,Tl] at ht
  have:=TA.1 ht.2 k (TV.2 r7)
  simp only[Up,Tu,UD] at this
  exact this.resolve_left r7
 intro r
 induction r with
 | zero=>
  intro k hk hm fuel listed a w _ hls hc h
  have e:=sC hls hc
  have hr:Region.ready .any ops listed=[]:=by rw[e,hready k r7 hm,Tw r7]
  rw[Wx so] at h
  exact wpAnyIn_done hr h fuel
 | succ r ih=>
  intro k hk hm fuel listed a w hf hls hc h
  have e:=sC hls hc
  have hr:Region.ready .any ops listed=[k]:=by rw[e,hready k r7 hm,Ty r7]
  obtain ⟨fuel,rfl⟩:∃ f,fuel=f+1:=⟨fuel - 1,r7⟩
  have hlt:k<ops.toList.length:=so
  rw[TB hlt] at h
  have ho:ops[k]? = some ops.toList[k]:=by rw[Array.getElem_toList]; exact Uu _
  refine wpAnyIn_all hr r9 fun i hi=>?_
  obtain rfl:i=k:=by simpa using hi
  unfold wpOpIn
  simp only[ho]
  have next:∀ a w,wpListIn F n P ops Q (ops.toList.drop (i+1)) a w->wpAnyIn F n P .any ops Q fuel (listed.setIfInBounds i true) a w:=fun a w h'=>by
   refine ih (i+1) r7 r7 fuel _ a w r7 (by simpa using hls) (fun j hj=>?_) h'
   by_cases e:j=i
   ·subst e; unfold eo; simp[hls,hj]
   ·have:=hc j hj
    unfold eo at this ⊢
    rw[Vs false (Us e),this]; omega
  unfold wpListIn at h
  split
  ·rename_i hw; rw[Ty hw] at h; exact Oper.wpIn_mono next h
  ·rename_i hw; rw[Tw hw] at h; exact⟨h.1,next _ _ h.2⟩
def LW (F:Fence) (n:Nat) (P:Program) (ops:Array Oper) (Q:Exit->Act->World->Prop) (a:Act) (w:World):Prop:=∀ t,wpOpsIn F n P ops Q (Region.schedule (P.follows .mixedOrders) ops t) a { w with drawn:=w.drawn+1 }
theorem LW.wpIn {id:Nat} {a:Act} {w:World} (h:LW F n P ops Q a w):(Code.region id ops true).wpIn F n P Q a w:=wpIn_region_draw h
theorem Ab {a:Act} {w:World} (hm:P.follows .mixedOrders=true) (h:wpAnyIn F n P .any ops Q ops.size (Array.replicate ops.size false) a { w with drawn:=w.drawn+1 }):LW F n P ops Q a w:=fun t=>by
 simp only[Region.schedule,hm,WS,VH]
 exact wpAnyIn_sound ops.size t _ a _ h
theorem zL {a0:Act} {w0:World} (hWF:p5 F) (hm:P.follows .mixedOrders=true) (N m:Nat) (hN:a0.tmps.size=N) (iq:rP ops N=true) (chkt:eP ops m=true)
  (S:World->Prop) (Ext:World->World->Prop) (V:Nat->Value->World->Prop) (hV:∀ i v w w',V i v w->Ext w w'->V i v w') (hS:S w0.drew)
  (hstep:∀ i o,i<m->ops[i]? = some o->∀ (a:Act) (w:World),S w ->
   (∀ t∈o.looksAt ops,∀ j,b7 ops j=some t->eZ ops i j=true->V j (slot a t) w) ->
   (∀ t∈o.looksAt ops,(∀ j,b7 ops j=some t->eZ ops i j=false)->slot a t=slot a0 t)->a.tmps.size=N ->
   if Region.wanted o (yielded ops a.tmps)=true then wz F n P o a.eval w (fun v w'=>V i v w'/\S w'/\Ext w w') else V i undef w/\S w/\Ext w w)
  (hend:∀ (a:Act) (w:World),S w->a.defers=a0.defers->a.tmps.size=N->(∀ i t,i<m->b7 ops i=some t->V i (slot a t) w)->(∀ t,(∀ i,i<m->b7 ops i≠some t)->slot a t=slot a0 t) ->
   (∀ i o,i<m->ops[i]? = some o->o.dst=none->∃ v,V i v w)->wpListIn F n P ops Q (ops.toList.drop m) a w) :
  LW F n P ops Q a0 w0:=by
 have chk1:∀ i o,ops[i]? = some o->lq o=true/\(∀ d,o.dst=some d->d<N)/\(∀ e∈o.after,Region.binds .any e=true->e.on<i)/\(∀ j d,i≠j->o.dst=some d->b7 ops j≠some d) ∧
   (∀ j t,b7 ops j=some t->t∈o.looksAt ops->i=j∨eZ ops i j=true∨eZ ops j i=true)/\eZ ops i i=false:=by
  intro i o ho
  have hi:i<ops.size:=(Tt.1 ho).1
  have h:=TA.1 iq i (TV.2 hi)
  simp only[ho,Tl] at h
  obtain ⟨⟨⟨⟨⟨h1,h2⟩,h3⟩,h4⟩,h5⟩,h6⟩:=h
  refine⟨h1,fun d hd=>by rw[hd] at h2; simpa using h2,fun e he hb=>?_,fun j d hij hd hj=>?_,fun j t hj ht=>?_,by simpa using h6⟩
  ·have:=Vu.1 h3 e he
   rw[hb] at this; simpa using this
  ·have hjs:j<ops.size:=by
    unfold b7 at hj
    cases hx:ops[j]? with
    | none=>rw[hx] at hj; cases hj
    | some _=>exact(Tt.1 hx).1
   have:=TA.1 h4 j (TV.2 hjs)
   rw[hd,hj] at this
   simp at this
   exact hij this
  ·have hjs:j<ops.size:=by
    unfold b7 at hj
    cases hx:ops[j]? with
    | none=>rw[hx] at hj; cases hj
    | some _=>exact(Tt.1 hx).1
   have:=TA.1 h5 j (TV.2 hjs)
   rw[hj] at this
   simp[ht] at this
   rcases this with (h | h) | h
   ·exact .inl h
   ·exact .inr (.inl h)
   ·exact .inr (.inr h)
 have hm2:m<=ops.size:=by simp only[eP,Tl,Tu] at chkt; exact chkt.1.1
 have main:∀ (fuel:Nat) (listed:Array Bool) (a:Act) (w:World),yX ops listed<=fuel->listed.size=ops.size->S w->a.defers=a0.defers->a.tmps.size=N ->
   (∀ i o,ops[i]? = some o->eo ops listed i->∀ e∈o.after,Region.binds .any e=true->eo ops listed e.on)->(∀ i,m<=i->i<ops.size->¬ eo ops listed i) ->
   (∀ i t,i<m->b7 ops i=some t->eo ops listed i->V i (slot a t) w)->(∀ t,(∀ i,i<m->b7 ops i=some t->¬ eo ops listed i)->slot a t=slot a0 t) ->
   (∀ i o,i<m->ops[i]? = some o->o.dst=none->eo ops listed i->∃ v,V i v w)->wpAnyIn F n P .any ops Q fuel listed a w:=by
  have getD_eq:∀ (listed:Array Bool) (i:Nat),i<listed.size->listed.getD i true=listed.getD i false:=fun listed i hi=>by simp[hi]
  intro fuel
  induction fuel with
  | zero=>
   intro listed a w hu hls hSw hdf hsz hcl hnt hv hno hns
   have all:∀ i,i<ops.size->eo ops listed i:=fun i hi=>by
    cases hc:listed.getD i false with
    | true=>exact hc
    | false=>
     have hmem:i∈(List.range ops.size).filter (fun i=>!listed.getD i true):=V3.2 ⟨TV.2 hi,by rw[getD_eq _ _ r7,hc]; rfl⟩
     have:=Vl hmem
     unfold yX at hu; omega
   have hmm:m=ops.size:=V4 hm2 (Vj fun h=>hnt m (Tm _) h (all m h))
   exact oB chkt 0 ops.size r7 hm2 0 listed a w (Tm _) hls (fun i hi=>⟨fun _=>hi,fun _=>all i hi⟩)
    (by rw[<-hmm]; exact hend a w hSw hdf hsz (fun i t hi h=>hv i t hi h (all i r7)) (fun t h=>hno t (fun i hi hi2=>absurd hi2 (h i hi))) (fun i o hi ho hd=>hns i o hi ho hd (all i r7)))
  | succ fuel ih=>
   intro listed a w hu hls hSw hdf hsz hcl hnt hv hno hns
   by_cases hall:∀ i,i<m->eo ops listed i
   ·refine oB chkt (ops.size - m) m r7 (Tm _) (fuel+1) listed a w ?_ hls (fun i hi=>⟨fun h=>UR fun hle=>hnt i hle hi h,fun h=>hall i h⟩)
     (hend a w hSw hdf hsz (fun i t hi h=>hv i t hi h (hall i hi)) (fun t h=>hno t (fun i hi hi2=>absurd hi2 (h i hi))) (fun i o hi ho hd=>hns i o hi ho hd (hall i hi)))
    refine TI ?_ hu
    unfold yX
    have:((List.range ops.size).filter fun i=>decide (m<=i)).length=ops.size - m:=by
     rw[<-UO]
     have:∀ s,(List.range s).countP (fun i=>decide (m<=i))=s - m:=by
      intro s
      induction s with
      | zero=>simp
      | succ s ih=>rw[List.range_succ,List.countP_append,ih]; simp[List.countP_cons]; split<;>omega
     exact this _
    rw[<-this]
    rw[<-UO,<-UO]
    refine WB fun i hi h=>?_
    have hi:=TV.1 hi
    have hn:=hnt i (by simpa using h) hi
    unfold eo at hn
    rw[getD_eq _ _ r7]
    simpa using hn
   ·simp only[WH] at hall
    obtain ⟨i0,hi0,hni0⟩:=hall
    refine⟨fun hrd=>?_,fun i hi=>?_⟩
    ·exfalso
     have:∀ i,i<m->eo ops listed i:=by
      intro i
      induction i using Nat.strongRecOn with
      | _ i ih2=>
       intro hi
       cases hc:listed.getD i false with
       | true=>exact hc
       | false=>
        have:i∈Region.ready .any ops listed:=by
         refine Vz.2 ⟨by rw[getD_eq _ _ r7]; exact hc,_,Uu r7,fun e he hb=>?_⟩
         have hlt:=(chk1 i _ (Uu r7)).2.2.1 e he hb
         exact ih2 e.on hlt r7
        rw[hrd] at this; cases this
     exact hni0 (this i0 hi0)
    obtain ⟨hun,o,ho,hall⟩:=Vz.1 hi
    have his:i<ops.size:=(Tt.1 ho).1
    have him:i<m:=UR fun hle=>by
     simp only[eP,Tl] at chkt
     have h1:=TA.1 chkt.1.2 i (TV.2 his)
     simp only[Up,Tu] at h1
     have h2:=TA.1 (h1.resolve_left r7) i0 (TV.2 hi0)
     exact hni0 (kz hcl i i0 ⟨o,ho,hall⟩ h2)
    obtain ⟨c1,c2,c3,c4,c5,c6⟩:=chk1 i o ho
    have hnot:¬ eo ops listed i:=by unfold eo; rw[<-getD_eq _ _ r7,hun]; simp
    have hdst:∀ t,o.dst=some t->b7 ops i=some t:=fun t h=>by unfold b7; rw[ho]; exact h
    refine jV hWF ho c1 (hstep i o him ho a w hSw (fun t ht j hj hb=>?_) (fun t ht hj=>hno t fun j hjm hjt hcj=>?_) hsz) ?_
    ·have hcj:=kz hcl i j ⟨o,ho,hall⟩ hb
     have hjs:j<ops.size:=by
      unfold b7 at hj
      cases hx:ops[j]? with
      | none=>rw[hx] at hj; cases hj
      | some _=>exact(Tt.1 hx).1
     exact hv j t (UR fun hle=>hnt j hle hjs hcj) hj hcj
    ·rcases c5 j t hjt ht with rfl | h | h
     ·exact hnot hcj
     ·rw[hj j hjt] at h; cases h
     ·cases hoj:ops[j]? with
      | none=>unfold b7 at hjt; rw[hoj] at hjt; cases hjt
      | some oj=>exact hnot (kz hcl j i ⟨oj,hoj,hcl j oj hoj hcj⟩ h)
    ·rintro v w' ⟨hv1,hS1,hE1⟩
     have come_set:∀ k,eo ops (listed.setIfInBounds i true) k↔k=i∨eo ops listed k:=fun k=>by
      unfold eo
      by_cases e:k=i
      ·subst e; simp[hls,his]
      ·rw[Vs false (Us e)]; simp[e]
     refine ih _ _ _ ?_ (by simpa using hls) hS1 ?_ ?_ ?_ ?_ ?_ ?_ ?_
     ·have:=filter_lt (fun k=>!listed.getD k true) (fun k=>!(listed.setIfInBounds i true).getD k true) (List.range ops.size) (fun x hx hq=>by
       by_cases e:i=x
       ·subst e; rw[hun]; rfl
       ·rw[Vs true e] at hq; exact hq) ⟨i,TV.2 his,by rw[hun]; rfl,by simp[hls,his]⟩
      unfold yX at *; omega
     ·cases hd:o.dst<;>simp[Act.put,hdf]
     ·cases hd:o.dst<;>simp[Act.put,hsz]
     ·intro k ok hok hk e he hb
      rw[come_set]
      rcases (come_set k).1 hk with rfl | hk
      ·rw[ho] at hok; cases hok
       exact .inr (hall e he hb)
      ·exact .inr (hcl k ok hok hk e he hb)
     ·intro k hk hks hc
      rcases (come_set k).1 hc with rfl | hc
      ·omega
      ·exact hnt k hk hks hc
     ·intro k t hkm hkt hk
      rcases (come_set k).1 hk with rfl | hk
      ·have hd:o.dst=some t:=by unfold b7 at hkt; rw[ho] at hkt; exact hkt
       rw[hd,eO (by rw[hsz]; exact c2 t hd)]
       exact hv1
      ·have hne:k≠i:=fun e=>hnot (e ▸ hk)
       rw[dq (fun hd=>c4 k t (Us hne) hd hkt)]
       exact hV k _ _ _ (hv k t hkm hkt hk) hE1
     ·intro t ht
      rw[dq (fun hd=>ht i him (hdst t hd) ((come_set i).2 (.inl rfl)))]
      exact hno t fun k hkm hk hck=>ht k hkm hk ((come_set k).2 (.inr hck))
     ·intro k ok hkm hok hd hk
      rcases (come_set k).1 hk with rfl | hk
      ·exact⟨v,hv1⟩
      ·obtain ⟨u,hu⟩:=hns k ok hkm hok hd hk
       exact⟨u,hV k _ _ _ hu hE1⟩
 have h0:∀ i,¬ eo ops (Array.replicate ops.size false) i:=fun i hc=>by
  unfold eo at hc
  by_cases h:i<ops.size<;>simp[Array.getD,h] at hc
 refine Ab hm (main _ _ _ _ ?_ r9 hS rfl hN ?_ ?_ ?_ ?_ ?_)
 ·unfold yX
  exact TI (V1 _ _) r9
 ·intro i o _ hc; exact absurd hc (h0 i)
 ·intro i _ _ hc; exact h0 i hc
 ·intro i t _ _ hc; exact absurd hc (h0 i)
 ·intro t _; rfl
 ·intro i o _ _ _ hc; exact absurd hc (h0 i)
end
section
open Go.RowKit
def gi {α:Type} (L:xP α) (e:TypeId) (base B:Nat) (w:World) (v:Value) (l:List α):Prop:=
 ∃ xs,w.ownsRow base e L.k v l.length xs/\∀ i (h:i<l.length),∃ vs,L.rd B w vs l[i]/\∀ j,j<L.k->xs[i*L.k+j]? = vs[j]?
variable {α:Type} {L:xP α} {e:TypeId} {base B:Nat} {w:World} {v:Value} {l:List α}
theorem gi.nil (L:xP α) (e:TypeId) (base B:Nat) (w:World):gi L e base B w (.slice none 0 0) []:=
 ⟨[],World.ownsRow_nil w base e L.k,fun i h=>by simp at h⟩
theorem gi.made (L:xP α) (e:TypeId) (base B:Nat) (w:World) (cur:Array Value) (cap:Nat) (hb:base<=w.heap.size) (hm:cap<=maxLen) (hs:cur.size=cap*L.k) :
  gi L e base B (w.alloc (.cells cur e)) (.slice (some ⟨w.heap.size,0,none⟩) 0 cap) []:=
 ⟨[],World.ownsRow_made w cur cap hb hm hs,fun i h=>by simp at h⟩
theorem gi.kept {w':World} (h:gi L e base B w v l) (hb:Below w.heap.size w w') (hB:B<=w.heap.size):gi L e base B w' v l:=by
 obtain ⟨xs,h1,h2⟩:=h
 refine⟨xs,h1.kept (row:=none) ⟨hb.os,hb.tape,hb.output,hb.size,fun k hk _=>hb.block k hk⟩ (by cases v.ownBlock<;>simp),fun i hi=>?_⟩
 obtain ⟨vs,h3,h4⟩:=h2 i hi
 exact⟨vs,L.stab (fe.ek hb hB) h3,h4⟩
theorem gi.other {w':World} {row:Option Nat} (h:gi L e base B w v l) (hg:w.grownBy w' row) (hB:B<=w.heap.size) (hr:∀ k,row=some k->B<=k) (hne:v.ownBlock=none∨v.ownBlock≠row):gi L e base B w' v l:=by
 obtain ⟨xs,h1,h2⟩:=h
 refine⟨xs,h1.kept hg hne,fun i hi=>?_⟩
 obtain ⟨vs,h3,h4⟩:=h2 i hi
 exact⟨vs,L.stab (fe.ek ((Below.refl _ _).grown hg hB hr) (Tm _)) h3,h4⟩
theorem gi.alloc (h:gi L e base B w v l) (hB:B<=w.heap.size) (o:Obj):gi L e base B (w.alloc o) v l:=
 h.kept ((Below.refl _ _).alloc (Tm _) _) hB
theorem gi.drew (h:gi L e base B w v l) (hB:B<=w.heap.size):gi L e base B w.drew v l:=
 h.kept (Below.refl _ _).drew hB
theorem gi.lt (h:gi L e base B w v l):∀ k,v.ownBlock=some k->base<=k/\k<w.heap.size:=let ⟨_,h1,_⟩:=h; h1.lt
theorem uW (b off j:Nat):(⟨b,off,none⟩:Addr).add j=⟨b,off+j,none⟩:=by unfold Addr.add; split<;>simp_all
theorem gi.slice (h:gi L e base B w v l) {B':Nat} (hB:B<=B') (hw:w.heap.size<=B'):fx L B' w v l:=by
 obtain ⟨xs,h1,h2⟩:=h
 have hlt:=h1.lt
 have hcs:=fun g hg=>h1.cells (g:=g) hg
 obtain ⟨hl,h3⟩:=h1
 rcases h3 with ⟨rfl,hn⟩ | ⟨g,cap,cur,rfl,hb,hg,hc,hm,hs,ht⟩
 ·obtain rfl:l=[]:=TK hn
  exact fx.nil _ _ _
 ·refine⟨_,cap,rfl,hc,hm,fun _=>⟨g,0,rfl,TE (hlt g rfl).2 hw,fun i hi=>?_⟩⟩
  obtain ⟨vs,h4,h5⟩:=h2 i hi
  refine⟨vs,L.mono hB h4,fun j hj=>?_⟩
  have hlv:j<vs.length:=by rw[L.len h4]; exact hj
  rw[<-h5 j hj]
  have h6:=h5 j hj
  rw[Tj hlv] at h6
  have:=hcs g rfl _ _ h6
  rw[uW,Uh] at this
  rw[Uh,this,h6]
theorem fx.cells {B':Nat} {x:Value} {ys:List α} (hone:∀ vs y,L.rd B' w vs y->∀ u∈vs,u.oneCell'=true) (hk:0<L.k) (hx:fx L B' w x ys) (hp:0<ys.length) :
  ∃ (ad:Addr) (c:Nat) (news:List Value),x=.slice (some ad) ys.length c/\news.length=ys.length*L.k/\(∀ j u,news[j]? = some u->w.cell? (ad.add j)=some u)/\(∀ u∈news,u.oneCell'=true) ∧
   ∀ i (h:i<ys.length),∃ vs,L.rd B' w vs ys[i]/\∀ j,j<L.k->news[i*L.k+j]? = vs[j]?:=by
 obtain ⟨a,cap,rfl,hc,hm,h3⟩:=hx
 obtain ⟨b,off,rfl,hb,h4⟩:=h3 hp
 have key:∀ t,t<ys.length*L.k->∃ u,w.cell? ⟨b,off+t,none⟩=some u/\u.oneCell'=true:=fun t ht=>by
  have hi:t / L.k<ys.length:=V5 (by rw[Ux]; exact ht)
  have hj:=VJ t hk
  obtain ⟨vs,h5,h6⟩:=h4 _ hi
  have hlv:t % L.k<vs.length:=by rw[L.len h5]; exact hj
  have h7:=h6 _ hj
  rw[Tj hlv] at h7
  have e1:off+t / L.k*L.k+t % L.k=off+t:=by have:=V6 t L.k; rw[Ux] at this; omega
  rw[e1] at h7
  exact⟨_,h7,hone _ _ h5 _ (Ub _)⟩
 have at_:∀ j,j<ys.length*L.k->((List.range (ys.length*L.k)).map fun t=>(w.cell? ⟨b,off+t,none⟩).getD undef)[j]? = w.cell? ⟨b,off+j,none⟩:=fun j hj=>by
  obtain ⟨u,h5,_⟩:=key j hj
  rw[T0,List.getElem?_range hj,Uq,h5]
  rfl
 refine⟨_,cap,(List.range (ys.length*L.k)).map fun t=>(w.cell? ⟨b,off+t,none⟩).getD undef,rfl,r9,fun j u hu=>?_,fun u hu=>?_,fun i hi=>?_⟩
 ·have hj:j<ys.length*L.k:=by have:=(Tp.1 hu).1; simpa using this
  rw[at_ j hj] at hu
  rw[uW]; exact hu
 ·obtain ⟨t,ht,rfl⟩:=V2.1 hu
  obtain ⟨u,h5,h6⟩:=key t (TV.1 ht)
  rw[h5]; exact h6
 ·obtain ⟨vs,h5,h6⟩:=h4 i hi
  refine⟨vs,h5,fun j hj=>?_⟩
  have:i*L.k+j<ys.length*L.k:=by
   have:=U2 L.k (show i+1<=ys.length from hi)
   rw[Ul] at this; omega
  rw[at_ _ this,<-h6 j hj,U5]
end
inductive A where
 | any
 | v (x:Value)
 | ptr (b o:Nat)
 | ep (b i o:Nat)
 | ip (cs:List A)
 | imm (els:List (List A)) (clip:Bool)
 | sl (b o n:Nat) (clip:Bool)
 | agg (cs:List A)
 | tup (cs:List A)
 | fn (f:Fn) (first cap:List A)
 | ifc (t:TypeId) (x:A)
 | yld (b:Nat)
 | nq (els:List (List A))
 | mr (b:Nat)
 | mv (k:IntKind) (ks:List Int) (vs:List A)
 deriving Inhabited
inductive Mx where
 | exit (id:Nat)
 | goto (l:Nat)
 | ret
inductive CK where
 | ready
 | busy
 | done (j:Mx)
inductive aO where
 | box (cs:List A)
 | row (wr:Bool) (es:Nat) (els:List (List A))
 | rng (st:CK)
 | dead
 | hole
 | mp (k:IntKind) (ks:List Int) (vs:List A)
 deriving Inhabited
abbrev ay:=List aO
inductive E where
 | normal
 | exit (id:Nat)
 | goto (l:Nat)
 | ret
 | pan (v:A)
inductive Out where
 | ret (a:A)
 | pan (a:A)
abbrev R:=Out×ay
structure St where
 fr:List (Nat×A)
 H:ay
structure Cx where
 P:Program
 glob:Nat->Option (List Value)
 isOrc:Nat->Bool
 isOrcV:Nat->Bool
 C:Nat->List A->Option A
 keep:Nat->Nat->List Nat
 wrAt:Nat->Nat->Bool
 acts:Nat->Nat->List (Nat×Nat×Nat)
 loud:Nat->Nat->Bool
 arr:Nat->Nat->Bool
 join:Nat->Nat->List Nat:=fun _ _=>[]
 cut:Nat->Nat:=fun _=>0
 fre:Nat->Bool:=fun _=>false
 deep:Nat->Bool:=fun _=>false
def uj (f r:Nat):List ((Nat×Nat)×List Nat)->List Nat
 | []=>[]
 | p :: l=>bif Nat.beq p.1.1 f then bif Nat.beq p.1.2 r then p.2 else uj f r l else uj f r l
def A3 (f r:Nat):List ((Nat×Nat)×List (Nat×Nat×Nat))->List (Nat×Nat×Nat)
 | []=>[]
 | p :: l=>bif Nat.beq p.1.1 f then bif Nat.beq p.1.2 r then p.2 else A3 f r l else A3 f r l
def E3 (k:Nat):List (Nat×Nat)->Nat
 | []=>0
 | p :: l=>bif Nat.beq p.1 k then p.2 else E3 k l
def vK (f r:Nat):List (Nat×Nat)->Bool
 | []=>false
 | p :: l=>bif Nat.beq p.1 f&&Nat.beq p.2 r then true else vK f r l
def BV (k:Nat):List Nat->Bool
 | []=>true
 | x :: l=>bif Nat.beq x k then false else BV k l
def look:List (Nat×A)->Nat->A
 | [],_=>.any
 | (s,a) :: r,t=>bif Nat.beq s t then a else look r t
def St.put (s:St) (dst:Option Nat) (a:A):St:=match dst with | some d=>{ s with fr:=(d,a) :: s.fr } | none=>s
def cA {α:Type} (P:Program):Sem α->Option α
 | .pure a=>some a
 | .program k=>cA P (k P)
 | .mark _ k=>cA P k
 | _=>none
mutual
def A.pj:A->Option Value
 | .v x=>some x
 | .agg cs=>(zQ cs).map fun l=>.agg l.toArray
 | .ifc t x=>(A.pj x).map (.iface t)
 | .fn (.func f) [] []=>some (.func (.func f) #[] #[])
 | _=>none
def zQ:List A->Option (List Value)
 | []=>some []
 | a :: as=>(A.pj a).bind fun x=>(zQ as).map (x :: ·)
end
def xu:Value->A
 | .slice none 0 0=>.imm [] true
 | x=>.v x
def vU:Value->A
 | .agg cs=>.agg (cs.toList.map xu)
 | x=>xu x
def lj (P:Program) (t:TypeId):Bool:=match P.underlying t with | some (.struct _) | some (.array _ _)=>true | _=>false
def cR (P:Program) (t:TypeId):Option Nat:=(P.underlying t).bind fun _=>(P.info? t).map (·.size)
def jM (P:Program) (t:TypeId):Option Nat:=(P.info? t).map (·.bytes)
def gI (P:Program) (t:TypeId):Option (List A):=(P.info? t).bind fun i=>i.zero.map fun z=>z.cells.toList.map xu
def kC (P:Program) (t:TypeId):Option TypeId:=match P.underlying t with | some (.slice e)=>some e | _=>none
def A.cell:A->Bool
 | .any | .agg _ | .tup _ | .nq _=>false
 | .v x=>x.oneCell'
 | _=>true
def A.cells?:A->Option (List A)
 | .agg cs=>bif cs.all A.cell then some cs else none
 | .v x=>bif x.oneCell' then some [.v x] else none
 | .any | .tup _ | .nq _=>none
 | a=>some [a]
def join (P:Program) (t:TypeId) (cs:List A):Option A:=bif lj P t then some (.agg cs) else match cs with | [c]=>some c | _=>none
def chunk {α:Type} (es:Nat):Nat->List α->List (List α)
 | 0,_=>[]
 | q+1,xs=>xs.take es :: chunk es q (xs.drop es)
def lY (P:Program) (t:TypeId) (a:A) (H:ay):Option A:=
 (cR P t).bind fun n=>bif n==0 then none else
 match a with
 | .ptr b o=>match H[b]? with
  | some (.box cs)=>bif decide (o+n<=cs.length) then join P t ((cs.drop o).take n) else none
  | _=>none
 | .ep b i o=>match H[b]? with
  | some (.row true _ els)=>match els[i]? with
   | some cs=>bif decide (o+n<=cs.length) then join P t ((cs.drop o).take n) else
    bif Nat.beq o 0&&Nat.beq ((els.drop i).take (n / cs.length)).flatten.length n then join P t ((els.drop i).take (n / cs.length)).flatten else none
   | none=>none
  | _=>none
 | .ip cs=>bif decide (n<=cs.length) then join P t (cs.take n) else none
 | _=>none
def br {α:Type} (cs:List α) (o:Nat) (xs:List α):List α:=cs.take o++xs++cs.drop (o+xs.length)
def jL (P:Program) (t:TypeId) (a x:A) (H:ay) (lo:Nat):Option ay:=
 (cR P t).bind fun n=>x.cells?.bind fun xs=>bif n==0 || !(xs.length==n) then none else
 match a with
 | .ptr b o=>match H[b]? with
  | some (.box cs)=>bif decide (lo<=b)&&decide (o+n<=cs.length) then some (H.set b (.box (br cs o xs))) else none
  | _=>none
 | .ep b i o=>match H[b]? with
  | some (.row true es els)=>match els[i]? with
   | some cs=>bif decide (lo<=b)&&decide (o+n<=cs.length) then some (H.set b (.row true es (els.set i (br cs o xs)))) else
    bif decide (lo<=b)&&Nat.beq o 0&&Nat.beq (n / es*es) n&&decide (i+n / es<=els.length) then some (H.set b (.row true es (br els i (chunk es (n / es) xs)))) else none
   | none=>none
  | _=>none
 | _=>none
def kU (P:Program) (t:TypeId) (H:ay):Option (A×ay):=(gI P t).map fun cs=>(.ptr H.length 0,H++[.box cs])
def wK (x:A) (H:ay):Option (A×ay):=x.cells?.map fun cs=>(.ptr H.length 0,H++[.box cs])
def rowOf (P:Program) (t:TypeId) (cs:List A) (H:ay):Option (A×ay):=match P.underlying t with
 | some (.array n e)=>(cR P e).bind fun es=>bif Nat.beq es 0 || Nat.beq n 0 || !Nat.beq cs.length (n*es) then none else some (.ep H.length 0 0,H++[.row true es (chunk es n cs)])
 | _=>none
def jC (P:Program) (t:TypeId) (H:ay):Option (A×ay):=(gI P t).bind fun cs=>rowOf P t cs H
def sd (P:Program) (t:TypeId) (x:A) (H:ay):Option (A×ay):=x.cells?.bind fun cs=>rowOf P t cs H
def nm (b:Bool) (P:Program) (t:TypeId) (H:ay):Option (A×ay):=bif b then jC P t H else kU P t H
def wS (b:Bool) (P:Program) (t:TypeId) (x:A) (H:ay):Option (A×ay):=bif b then sd P t x H else wK x H
def rep (c:Bool):Operand:=if c then .const .nilIface else .tmp 0
def HD:Operand->Bool | .const _=>true | _=>false
def qq (P:Program) (q:TypeId->Value->Value->Option Bool) (xs ys:Array Value):List Field->Option Bool
 | []=>some true
 | [f]=>bif f.name == "_" then some true else (cA P (part f.type xs f.offset)).bind fun a=>(cA P (part f.type ys f.offset)).bind fun b=>q f.type a b
 | f :: fs=>bif f.name == "_" then qq P q xs ys fs else (cA P (part f.type xs f.offset)).bind fun a=>(cA P (part f.type ys f.offset)).bind fun b=>(q f.type a b).bind fun r=>(qq P q xs ys fs).map fun r'=>r&&r'
def su (P:Program) (q:TypeId->Value->Value->Option Bool) (e:TypeId) (c:Nat) (xs ys:Array Value):List Nat->Option Bool
 | []=>some true
 | [i]=>(cA P (part e xs (i*c))).bind fun a=>(cA P (part e ys (i*c))).bind fun b=>q e a b
 | i :: is=>(cA P (part e xs (i*c))).bind fun a=>(cA P (part e ys (i*c))).bind fun b=>(q e a b).bind fun r=>(su P q e c xs ys is).map fun r'=>r&&r'
def I7 (P:Program):Nat->TypeId->Value->Value->Option Bool
 | 0,_,_,_=>none
 | d+1,t,x,y=>match P.underlying t,x,y with
  | some (.int _),.int k a,.int k' b=>bif decide (k=k') then some (a==b) else none
  | some .bool,.bool a,.bool b=>some (a==b)
  | some .string,.string a,.string b=>some (a==b)
  | some (.struct _),.agg xs,.agg ys=>bif P.stoodInHeld t then none else qq P (I7 P d) xs ys (P.fieldsOf t).toList
  | some (.array n e),.agg xs,.agg ys=>(P.info? e).bind fun _=>su P (I7 P d) e (P.cellsOf e) xs ys (List.range n)
  | _,_,_=>none
def sw (P:Program) (t:TypeId) (x y:A):Option Bool:=bif P.eqGuardType P.depth t then none else x.pj.bind fun a=>y.pj.bind fun b=>I7 P 20 t a b
def jx (P:Program) (op:BinOp) (t:TypeId) (c d:Bool) (x y:A):Option A:=
 match op,x,y with
 | .eql,.agg _,.agg _=>(sw P t x y).map fun r=>.v (.bool r)
 | .neq,.agg _,.agg _=>(sw P t x y).map fun r=>.v (.bool (!r))
 | _,_,_=>x.pj.bind fun a=>y.pj.bind fun b=>(cA P (do eqGuard op t (rep c) (rep d) a b; binOp op t a b)).map vU
def iL (P:Program) (op:UnOp) (x:A):Option A:=x.pj.bind fun a=>(cA P (Op.unary op a)).map vU
def xZ (mn:Bool) (x y:A):Option A:=match x,y with
 | .v (.int k a),.v (.int l b)=>bif k==l then some (.v (.int k (if mn then (if b<a then b else a) else (if a<b then b else a)))) else none
 | _,_=>none
def Cz (mn:Bool):A->List A->Option A
 | x,[]=>some x
 | x,y :: r=>(xZ mn x y).bind fun z=>Cz mn z r
def zF (P:Program) (t:TypeId):Option (IntKind×TypeId):=match P.underlying t with
 | some (.map kt vt)=>match P.underlying kt with | some (.int k)=>some (k,vt) | _=>none
 | _=>none
def keyOf (k:IntKind):A->Option Int
 | .v (.int j n)=>bif decide (j=k) then some n else none
 | _=>none
def np (a:Int):List Int->List A->Option A
 | x :: ks,v :: vs=>bif decide (a=x) then some v else np a ks vs
 | _,_=>none
def zJ (a:Int) (y:A):List Int->List A->List Int×List A
 | x :: ks,v :: vs=>bif decide (a=x) then (x :: ks,y :: vs) else (x :: (zJ a y ks vs).1,v :: (zJ a y ks vs).2)
 | _,_=>([a],[y])
def qd (P:Program) (t:TypeId) (H:ay):Option (A×ay):=(zF P t).map fun p=>(.mr H.length,H++[.mp p.1 [] []])
def pS (P:Program) (t:TypeId) (m i x:A) (H:ay) (lo:Nat):Option ay:=(zF P t).bind fun p=>(keyOf p.1 i).bind fun a=>match m with
 | .mr b=>match H[b]? with
  | some (.mp k ks vs)=>bif decide (lo<=b)&&decide (k=p.1) then some (H.set b (.mp k (zJ a x ks vs).1 (zJ a x ks vs).2)) else none
  | _=>none
 | _=>none
def HF (P:Program) (vt:TypeId) (c:Bool) (r:Option A):Option A:=match r with
 | some y=>some (bif c then .tup [y,.v (.bool true)] else y)
 | none=>(P.info? vt).bind fun i=>i.zero.map fun z=>bif c then .tup [vU z,.v (.bool false)] else vU z
def kV (P:Program) (t:TypeId) (m i:A) (c:Bool) (H:ay):Option A:=(zF P t).bind fun p=>(keyOf p.1 i).bind fun a=>match m with
 | .mv k ks vs=>bif decide (k=p.1) then HF P p.2 c (np a ks vs) else none
 | .mr b=>match H[b]? with
  | some (.mp k ks vs)=>bif decide (k=p.1) then HF P p.2 c (np a ks vs) else none
  | _=>none
 | _=>none
def lX (x:A) (i:Nat):Option A:=match x with | .tup cs=>cs[i]? | _=>none
def wN (P:Program) (t:TypeId) (x:A) (i:Nat):Option A:=
 match P.underlying t,x with
 | some (.struct fs),.agg cs=>fs[i]?.bind fun f=>(cR P f.type).bind fun n=>bif decide (f.offset+n<=cs.length) then join P f.type ((cs.drop f.offset).take n) else none
 | _,_=>none
def idx:A->Option Nat
 | .v (.int _ n)=>bif decide (0<=n) then some n.toNat else none
 | _=>none
def wP (P:Program) (t:TypeId) (x i:A):Option A:=
 (idx i).bind fun j=>
 match P.underlying t,x with
 | some (.array len e),.agg cs=>(cR P e).bind fun n=>bif decide (j<len)&&decide (j*n+n<=cs.length) then join P e ((cs.drop (j*n)).take n) else none
 | some .string,.v (.string s)=>s[j]?.map fun b=>.v (.int .u8 b.toNat)
 | _,_=>none
def gn (H:ay):A->Bool
 | .ptr b _=>match H[b]? with | some (.box _)=>true | _=>false
 | .ep b _ _=>match H[b]? with | some (.row true _ _)=>true | _=>false
 | .sl b _ _ _=>match H[b]? with | some (.row ..)=>true | _=>false
 | .mr b=>match H[b]? with | some (.mp ..)=>true | _=>false
 | _=>true
def fg (P:Program) (t:TypeId) (x:A) (i:Nat) (H:ay):Option A:=
 bif gn H x then
 match P.underlying t with
 | some (.struct fs)=>fs[i]?.bind fun f=>(cR P f.type).bind fun n=>bif n==0 then none else
  match x with
  | .ptr b o=>some (.ptr b (o+f.offset))
  | .ep b j o=>some (.ep b j (o+f.offset))
  | .ip cs=>some (.ip (cs.drop f.offset))
  | _=>none
 | _=>none
 else none
def dF (P:Program) (t:TypeId) (x i:A) (H:ay):Option A:=
 (idx i).bind fun j=>bif gn H x then
 match P.underlying t with
 | some (.slice e)=>(cR P e).bind fun n=>match x with
  | .imm els _=>els[j]?.bind fun cs=>bif cs.length==n then some (.ip cs) else none
  | .sl b o m _=>bif decide (j<m) then match H[b]? with
   | some (.row true es _)=>bif es==n then some (.ep b (o+j) 0) else none
   | some (.row false es els)=>bif es==n then els[o+j]?.map .ip else none
   | _=>none else none
  | _=>none
 | some (.array len e)=>(cR P e).bind fun n=>bif !decide (j<len) then none else match x with
  | .ptr b o=>some (.ptr b (o+j*n))
  | .ep b k o=>match H[b]? with
   | some (.row _ es els)=>bif Nat.beq es n&&Nat.beq o 0&&decide (k+j<els.length) then some (.ep b (k+j) 0) else some (.ep b k (o+j*n))
   | _=>none
  | .ip cs=>some (.ip (cs.drop (j*n)))
  | _=>none
 | _=>none
 else none
def qb (P:Program) (t:TypeId) (x:A) (H:ay):Option A:=
 bif gn H x then
 match P.underlying t,x with
 | some .string,.v (.string s)=>some (.v (.int .i64 s.size))
 | some (.slice _),.imm els _=>some (.v (.int .i64 els.length))
 | some (.slice _),.sl _ _ n _=>some (.v (.int .i64 n))
 | _,_=>none
 else none
def pa (H:ay):A->Bool
 | .ptr b o=>gn H (.ptr b o)
 | .ep b i o=>gn H (.ep b i o)
 | .ip _=>true
 | .fn (.func _) _ _=>true
 | _=>false
def zh (a:A) (H:ay):Option A:=bif pa H a then some a else none
def jT (d:Nat):Option A->Option Nat
 | none=>some d
 | some a=>idx a
def eI (P:Program) (t:TypeId) (x:A) (lo hi mx:Option A) (H:ay):Option A:=
 match P.underlying t,x with
 | some .string,.v (.string s)=>bif mx.isSome then none else
  (jT s.size hi).bind fun h=>(jT 0 lo).bind fun l=>bif decide (l<=h)&&decide (h<=s.size) then some (.v (.string (s.extract l h))) else none
 | some (.slice e),.imm els c=>(cR P e).bind fun n=>(jT els.length hi).bind fun h=>(jT 0 lo).bind fun l=>
  bif decide (l<=h)&&decide (h<=els.length)&&(l==0 || match els[l]? with | some cs=>cs.length==n | none=>true) then match mx with
   | none=>some (.imm ((els.drop l).take (h - l)) (c&&h==els.length))
   | some m=>(idx m).bind fun m=>bif m==h then some (.imm ((els.drop l).take (h - l)) true) else none
  else none
 | some (.slice e),.sl b o n c=>(cR P e).bind fun z=>(jT n hi).bind fun h=>(jT 0 lo).bind fun l=>
  bif decide (l<=h)&&decide (h<=n)&&(match H[b]? with | some (.row _ es _)=>es==z | _=>false) then match mx with
   | none=>some (.sl b (o+l) (h - l) (c&&h==n))
   | some m=>(idx m).bind fun m=>bif m==h then some (.sl b (o+l) (h - l) true) else none
  else none
 | some (.array n e),.ip cs=>(cR P e).bind fun z=>(jT n hi).bind fun h=>(jT 0 lo).bind fun l=>
  bif decide (l<=h)&&decide (h<=n)&&decide (n*z<=cs.length)&&mx.isNone&&!Nat.beq z 0 then some (.imm (((chunk z n cs).drop l).take (h - l)) (Nat.beq h n)) else none
 | some (.array n e),.ep b k o=>(cR P e).bind fun z=>(jT n hi).bind fun h=>(jT 0 lo).bind fun l=>
  bif decide (l<=h)&&decide (h<=n)&&mx.isNone&&Nat.beq o 0&&(match H[b]? with | some (.row true es els)=>Nat.beq es z&&decide (k+n<=els.length) | _=>false) then some (.sl b (k+l) (h - l) (Nat.beq h n)) else none
 | _,_=>none
def els? (H:ay):A->Option (List (List A))
 | .imm els _=>some els
 | .sl b o n _=>match H[b]? with
  | some (.row _ _ els)=>some ((els.drop o).take n)
  | _=>none
 | .v (.string s)=>some (s.data.toList.map fun c=>[.v (.int .u8 c.toNat)])
 | _=>none
def vf (H:ay):A->Option (List (List A))
 | .v _=>none
 | x=>els? H x
def dm:Nat:=140737488355328
def mD (P:Program) (t:TypeId):Bool:=match P.underlying t with | some (.slice _) | some .string=>true | _=>false
def ug (P:Program) (t:TypeId):Bool:=match P.underlying t with | some (.int _)=>true | _=>false
def uC:A->A
 | .imm els _=>.imm els false
 | a=>a
def w5 (P:Program) (H:ay) (t2:TypeId) (by_:Nat) (z:List A) (y:A):Option (List (List A)):=bif mD P t2 then els? H y else match y with
 | .v (.int .i64 n)=>bif ug P t2&&decide (0<=n)&&decide (n*by_<=dm)&&decide (n<=dm) then some (List.replicate n.toNat (z.map uC)) else none
 | _=>none
def bW (P:Program) (t t2:TypeId) (wr:Bool) (x y:A) (H:ay) (lo:Nat):Option (A×ay):=
 (kC P t).bind fun e=>(cR P e).bind fun es=>(jM P e).bind fun by_=>(gI P e).bind fun z=>(w5 P H t2 by_ z y).bind fun ys=>
 bif es==0 || by_==0 || !(z.length==es) || !(ys.all fun cs=>cs.length==es&&cs.all A.cell) then none else
 match x with
 | .imm xs true=>
  bif !decide ((xs.length+ys.length)*by_<=dm) then none else
  bif wr&&xs.isEmpty then some (.sl H.length 0 ys.length false,H++[.row true es ys]) else
  bif xs.all (fun cs=>cs.length==es&&cs.all A.cell) then some (.sl H.length 0 (xs.length+ys.length) false,H++[.row false es (xs++ys)]) else none
 | .sl b o n c=>match H[b]? with
  | some (.row false es' els)=>
   bif !decide ((n+ys.length)*by_<=dm) || !(es'==es) || !decide (o+n<=els.length) then none else
   bif c then some (.sl H.length 0 (n+ys.length) false,H++[.row false es ((els.drop o).take n++ys)]) else
   bif decide (lo<=b)&&o==0&&n==els.length then some (.sl b 0 (n+ys.length) false,H.set b (.row false es (els++ys))) else none
  | _=>none
 | _=>none
def fh (ck:Bool) (P:Program) (t:TypeId) (n c:A) (H:ay):Option (A×ay):=
 (kC P t).bind fun e=>(cR P e).bind fun es=>(jM P e).bind fun by_=>(gI P e).bind fun z=>(idx n).bind fun n=>(idx c).bind fun c=>
 bif es==0 || !(z.length==es) || !decide (c*by_<=dm) || !decide (c<=dm) || !decide (n<=c) then none else
 bif n==c then some (.sl H.length 0 n ck,H++[.row true es (List.replicate n (z.map uC))]) else
 bif n==0 then some (.sl H.length 0 0 false,H++[.row false es []]) else none
def fW (P:Program) (t:TypeId) (n c:A) (H:ay):Option (A×ay):=fh false P t n c H
def fI (P:Program) (t:TypeId) (n c:A) (H:ay):Option (A×ay):=
 (kC P t).bind fun e=>(cR P e).bind fun es=>(jM P e).bind fun by_=>(gI P e).bind fun z=>(idx n).bind fun n=>(idx c).bind fun c=>
 bif es==0 || !(z.length==es) || !decide (c*by_<=dm) || !decide (c<=dm) || !(n==c) then none else some (.imm (List.replicate n (z.map uC)) false,H)
def qV (b:Bool) (P:Program) (t:TypeId) (n c:A) (H:ay):Option (A×ay):=bif b then fI P t n c H else fW P t n c H
def sB (place:Nat->Option (Nat×Nat)) (cs:List A):List (Nat×A)->Option (List A)
 | []=>some cs
 | (i,x) :: r=>(place i).bind fun p=>x.cells?.bind fun xs=>bif xs.length==p.2&&decide (p.1+p.2<=cs.length) then sB place (br cs p.1 xs) r else none
def yJ (P:Program) (t:TypeId):Option (Nat->Option (Nat×Nat)):=match P.underlying t with
 | some (.struct fs)=>(fs.toList.mapM fun f=>(P.info? f.type).map fun i=>(f.offset,i.size)).map fun places=>(places.toArray[·]?)
 | some (.array _ e)=>(P.info? e).map fun i=>fun j=>some (j*i.size,i.size)
 | _=>none
def tr (P:Program) (t:TypeId) (parts:List (Nat×A)):Option A:=
 (gI P t).bind fun z=>(yJ P t).bind fun place=>(sB place z parts).map .agg
def lA (els:List (List A)):List (Nat×A)->Option (List (List A))
 | []=>some els
 | (i,x) :: r=>x.cells?.bind fun xs=>lA (els.set i xs) r
def aN (P:Program) (t:TypeId) (len:Nat) (parts:List (Nat×A)):Option A:=
 (kC P t).bind fun e=>(cR P e).bind fun es=>(gI P e).bind fun z=>bif es==0 || !(z.length==es) || !decide (len*es<=16777216) then none else
 bif parts.all (fun p=>decide (p.1<len)&&(match p.2.cells? with | some xs=>xs.length==es | none=>false)) then (lA (List.replicate len z) parts).map fun els=>.imm els true else none
def oK (P:Program) (t:TypeId) (len:Nat) (parts:List (Nat×A)) (H:ay):Option (A×ay):=
 (kC P t).bind fun e=>(cR P e).bind fun es=>(aN P t len parts).bind fun a=>match a with
  | .imm els true=>some (.sl H.length 0 els.length true,H++[.row true es els])
  | _=>none
def px (P:Program) (t:TypeId) (x y:A) (H:ay) (lo:Nat):Option (A×ay):=
 (kC P t).bind fun e=>(cR P e).bind fun es=>(els? H y).bind fun ys=>bif es==0 || !(ys.all fun cs=>cs.length==es&&cs.all A.cell) then none else
 match x with
 | .sl b o n _=>match H[b]? with
  | some (.row true es' els)=>bif decide (lo<=b)&&es'==es then some (.v (.int .i64 (min ys.length n:Nat)),H.set b (.row true es (br els o (ys.take n)))) else none
  | _=>none
 | _=>none
def bytesOf:List (List A)->Option (List UInt8)
 | []=>some []
 | [.v (.int .u8 n)] :: r=>(bytesOf r).map (n.toNat.toUInt8 :: ·)
 | _=>none
def bn (P:Program) (s d:TypeId) (x:A) (H:ay):Option A:=
 match P.underlying s,P.underlying d,x with
 | some (.slice e),some .string,x=>match P.underlying e,cR P e with
  | some (.int .u8),some 1=>(vf H x).bind fun els=>(bytesOf els).map fun l=>.v (.string ⟨l.toArray⟩)
  | _,_=>none
 | some .string,some (.slice e),.v (.string s)=>match P.underlying e with
  | some (.int .u8)=>some (.imm (s.data.toList.map fun c=>[.v (.int .u8 c.toNat)]) false)
  | _=>none
 | _,_,x=>x.pj.bind fun a=>(cA P (convert s d a)).map vU
def CM (P:Program) (t:TypeId) (x:A):Option A:=match P.underlying t with | some (.interface _)=>none | none=>none | some _=>some (.ifc t x)
def uo (P:Program) (t:TypeId) (c:Bool):Option A:=bif c then (P.info? t).bind fun i=>i.zero.map fun z=>.tup [vU z,.v (.bool false)] else none
def mL (P:Program) (x:A) (t:TypeId) (c:Bool):Option A:=match P.underlying t with
 | none=>none
 | some (.interface _)=>none
 | some _=>match x with
  | .ifc t' y=>bif Nat.beq t' t then some (bif c then .tup [y,.v (.bool true)] else y) else uo P t c
  | .v .nilIface=>uo P t c
  | _=>none
mutual
def cg (g:Nat->Nat->Nat->A):A->A
 | .sl b o m _=>g b o m
 | .imm els _=>.imm (cX g els) false
 | .agg cs=>.agg (bc g cs)
 | .tup cs=>.tup (bc g cs)
 | .ifc t x=>.ifc t (cg g x)
 | .mv k ks vs=>.mv k ks (bc g vs)
 | .v x=>.v x
 | .fn f [] []=>.fn f [] []
 | _=>.any
def bc (g:Nat->Nat->Nat->A):List A->List A
 | []=>[]
 | a :: as=>cg g a :: bc g as
def cX (g:Nat->Nat->Nat->A):List (List A)->List (List A)
 | []=>[]
 | a :: as=>bc g a :: cX g as
end
def gN:Nat->ay->Nat->Nat->Nat->A
 | 0,_,_,_,_=>.any
 | n+1,H,b,o,m=>match H[b]? with
  | some (.row false _ els)=>.imm (cX (gN n H) ((els.drop o).take m)) false
  | _=>.any
def snap (H:ay) (a:A):A:=cg (gN 4 H) a
def jw:Nat->ay->Nat->Nat->Nat->A
 | 0,_,_,_,_=>.any
 | n+1,H,b,o,m=>match H[b]? with
  | some (.row _ _ els)=>.imm (cX (jw n H) ((els.drop o).take m)) false
  | _=>.any
def jK:Nat->ay->A->A
 | 0,_,_=>.any
 | n+1,H,.ptr b o=>match H[b]? with | some (.box cs)=>.ip ((cs.drop o).map (jK n H)) | _=>.any
 | n+1,H,.fn f p q=>.fn f (p.map (jK n H)) (q.map (jK n H))
 | n+1,H,.agg cs=>.agg (cs.map (jK n H))
 | _+1,H,a=>cg (jw 4 H) a
def bC (H:ay) (a:A):A:=match a with
 | .mr b=>match H[b]? with
  | some (.mp k ks vs)=>.mv k ks (bc (jw 4 H) vs)
  | _=>.any
 | .fn f p q=>jK 6 H (.fn f p q)
 | a=>cg (jw 4 H) a
def sf (lo:Nat) (a:A) (H:ay):Option (A×ay):=match a with
 | .sl b o n _=>match H[b]? with
  | some (.row true _ els)=>bif decide (lo<=b) then some (.imm (cX (gN 4 H) ((els.drop o).take n)) false,H.set b .dead) else none
  | some (.row false _ els)=>some (.imm (cX (gN 4 H) ((els.drop o).take n)) false,H)
  | _=>none
 | .ptr b o=>match H[b]? with
  | some (.box cs)=>bif decide (lo<=b)&&Nat.beq o 0 then some (.ip cs,H.set b .dead) else none
  | _=>none
 | _=>none
def A0 (P:Program) (s t:TypeId) (x:A) (H:ay) (lo:Nat):Option (A×ay):=
 match P.underlying s with
 | some (.slice e)=>match P.underlying e with
  | some (.int .u8)=>match x with
   | .sl b _ n _=>match H[b]? with
    | some (.row true _ _)=>bif Nat.beq s t&&decide (0<n) then sf lo x H else none
    | _=>none
   | _=>none
  | _=>none
 | _=>none
def zy (H:ay) (a:A):A:=match a with | .sl b o n c=>snap H (.sl b o n c) | .imm els _=>.imm els false | a=>a
def cU (H:ay) (a:A):A:=match a with | .sl b o n c=>snap H (.sl b o n c) | .agg cs=>.agg (cs.map (zy H)) | a=>a
def cD (a:A) (H:ay) (x:A):A:=match a with | .ep ..=>cU H x | _=>x
mutual
def A.under (L:Nat):A->Bool
 | .any | .v _ | .nq _=>true
 | .ptr b _ | .ep b _ _ | .sl b _ _ _ | .yld b | .mr b=>decide (b<L)
 | .mv _ _ vs=>bh L vs
 | .ip cs | .agg cs | .tup cs=>bh L cs
 | .imm els _=>aW L els
 | .fn _ a b=>bh L a&&bh L b
 | .ifc _ x=>A.under L x
def bh (L:Nat):List A->Bool
 | []=>true
 | a :: as=>A.under L a&&bh L as
def aW (L:Nat):List (List A)->Bool
 | []=>true
 | a :: as=>bh L a&&aW L as
end
def aO.under (L:Nat):aO->Bool
 | .box cs=>bh L cs
 | .row _ _ els=>aW L els
 | .rng _=>true
 | .dead=>true
 | .hole=>true
 | .mp _ _ vs=>bh L vs
def trim (L:Nat) (H:ay):Option ay:=bif H.length==L then some H else bif (H.take L).all (aO.under L) then some (H.take L) else none
def bU (cx:Cx) (s:St):Operand->A
 | .tmp t=>look s.fr t
 | .const x=>vU x
 | .global g=>match cx.glob g with | some vs=>.ip (vs.map .v) | none=>.any
 | .func f=>.fn (.func f) [] []
def cu {β:Type} (a:A) (x y:Option β):Option β:=match a with | .v (.bool b)=>bif b then x else y | _=>none
def Cj:Value->Value->Bool
 | .int k a,.int k' b=>decide (k=k')&&decide (a=b)
 | .bool a,.bool b=>a==b
 | .string a,.string b=>decide (a.data.toList=b.data.toList)
 | .nilIface,.nilIface=>true
 | .nilFunc,.nilFunc=>true
 | _,_=>false
theorem Ck:∀ (x y:Value),Cj x y=true->x=y:=fun x y h=>by
 unfold Cj at h
 split at h
 ·simp only[Tl,Tu] at h; rw[h.1,h.2]
 ·rw[eq_of_beq h]
 ·rename_i a b
  obtain ⟨⟨a⟩⟩:=a; obtain ⟨⟨b⟩⟩:=b
  exact Ue (fun l=>Value.string ⟨⟨l⟩⟩) (Tv h)
 ·rfl
 ·rfl
 ·cases h
mutual
def gG:A->A->Bool
 | .any,y=>match y with | .any=>true | _=>false
 | .v x,y=>match y with | .v z=>Cj x z | _=>false
 | .ptr b o,y=>match y with | .ptr b' o'=>Nat.beq b b'&&Nat.beq o o' | _=>false
 | .ep b i o,y=>match y with | .ep b' i' o'=>Nat.beq b b'&&Nat.beq i i'&&Nat.beq o o' | _=>false
 | .ip cs,y=>match y with | .ip ds=>sameAs cs ds | _=>false
 | .imm els c,y=>match y with | .imm ds d=>mV els ds&&(c==d) | _=>false
 | .sl b o n c,y=>match y with | .sl b' o' n' c'=>Nat.beq b b'&&Nat.beq o o'&&Nat.beq n n'&&(c==c') | _=>false
 | .agg cs,y=>match y with | .agg ds=>sameAs cs ds | _=>false
 | .tup cs,y=>match y with | .tup ds=>sameAs cs ds | _=>false
 | .mv k ks vs,y=>match y with | .mv k' ks' vs'=>decide (k=k')&&decide (ks=ks')&&sameAs vs vs' | _=>false
 | .mr b,y=>match y with | .mr b'=>Nat.beq b b' | _=>false
 | .fn _ _ _,_=>false
 | .ifc _ _,_=>false
 | .yld _,_=>false
 | .nq _,_=>false
def sameAs:List A->List A->Bool
 | [],y=>match y with | []=>true | _=>false
 | a :: l,y=>match y with | b :: m=>gG a b&&sameAs l m | []=>false
def mV:List (List A)->List (List A)->Bool
 | [],y=>match y with | []=>true | _=>false
 | a :: l,y=>match y with | b :: m=>sameAs a b&&mV l m | []=>false
end
mutual
theorem rk:∀ (x y:A),gG x y=true->x=y
 | .any,y,h=>by cases y<;>simp only[gG,TQ] at h; rfl
 | .v x,y,h=>by
  cases y<;>simp only[gG,TQ,Tl,Tu] at h
  rw[Ck _ _ h]
 | .ptr b o,y,h=>by
  cases y<;>simp only[gG,TQ,Tl,Tu] at h
  rw[TC h.1,TC h.2]
 | .ep b i o,y,h=>by
  cases y<;>simp only[gG,TQ,Tl,Tu] at h
  rw[TC h.1.1,TC h.1.2,TC h.2]
 | .ip cs,y,h=>by
  cases y<;>simp only[gG,TQ,Tl,Tu] at h
  rw[gp _ _ h]
 | .imm els c,y,h=>by
  cases y<;>simp only[gG,TQ,Tl,Tu] at h
  rw[nM _ _ h.1,eq_of_beq h.2]
 | .sl b o n c,y,h=>by
  cases y<;>simp only[gG,TQ,Tl,Tu] at h
  rw[TC h.1.1.1,TC h.1.1.2,TC h.1.2,eq_of_beq h.2]
 | .agg cs,y,h=>by
  cases y<;>simp only[gG,TQ,Tl,Tu] at h
  rw[gp _ _ h]
 | .tup cs,y,h=>by
  cases y<;>simp only[gG,TQ,Tl,Tu] at h
  rw[gp _ _ h]
 | .mv k ks vs,y,h=>by
  cases y<;>simp only[gG,TQ,Tl,Tu] at h
  rw[h.1.1,h.1.2,gp _ _ h.2]
 | .mr b,y,h=>by
  cases y<;>simp only[gG,TQ,Tl,Tu] at h
  rw[TC h]
 | .fn ..,y,h=>by cases y<;>simp only[gG,TQ] at h
 | .ifc ..,y,h=>by cases y<;>simp only[gG,TQ] at h
 | .yld ..,y,h=>by cases y<;>simp only[gG,TQ] at h
 | .nq ..,y,h=>by cases y<;>simp only[gG,TQ] at h
theorem gp:∀ (x y:List A),sameAs x y=true->x=y
 | [],y,h=>by cases y<;>simp only[sameAs,TQ] at h; rfl
 | a :: l,y,h=>by
  cases y<;>simp only[sameAs,TQ,Tl] at h
  rw[rk _ _ h.1,gp _ _ h.2]
theorem nM:∀ (x y:List (List A)),mV x y=true->x=y
 | [],y,h=>by cases y<;>simp only[mV,TQ] at h; rfl
 | a :: l,y,h=>by
  cases y<;>simp only[mV,TQ,Tl] at h
  rw[gp _ _ h.1,nM _ _ h.2]
end
def Cg:aO->aO->Bool
 | .box a,.box b=>sameAs a b
 | .row w e a,.row w' e' b=>(w==w')&&Nat.beq e e'&&mV a b
 | .dead,.dead=>true
 | .hole,.hole=>true
 | .mp k ks vs,.mp k' ks' vs'=>decide (k=k')&&decide (ks=ks')&&sameAs vs vs'
 | _,_=>false
theorem Ch:∀ (x y:aO),Cg x y=true->x=y:=fun x y h=>by
 unfold Cg at h
 split at h
 ·rw[gp _ _ h]
 ·rw[Tl,Tl] at h; rw[eq_of_beq h.1.1,TC h.1.2,nM _ _ h.2]
 ·rfl
 ·rfl
 ·simp only[Tl,Tu] at h; rw[h.1.1,h.1.2,gp _ _ h.2]
 ·cases h
def wk:ay->ay->Bool
 | [],[]=>true
 | a :: l,b :: m=>Cg a b&&wk l m
 | _,_=>false
theorem rl:∀ (x y:ay),wk x y=true->x=y
 | [],[],_=>rfl
 | [],_ :: _,h=>by cases h
 | _ :: _,[],h=>by cases h
 | a :: l,b :: m,h=>by
  rw[wk,Tl] at h; rw[Ch _ _ h.1,rl _ _ h.2]
def wm:Option R->Option R->Bool
 | some (.ret a,H),some (.ret b,H')=>gG a b&&wk H H'
 | some (.pan a,H),some (.pan b,H')=>gG a b&&wk H H'
 | none,none=>true
 | _,_=>false
theorem Ci (x y:Option R) (h:wm x y=true):x=y:=by
 unfold wm at h
 split at h
 ·rw[Tl] at h; rw[rk _ _ h.1,rl _ _ h.2]
 ·rw[Tl] at h; rw[rk _ _ h.1,rl _ _ h.2]
 ·rfl
 ·cases h
noncomputable def both (x y:Option R):Option R:=bif wm x y then y else open Classical in if x=y then y else none
noncomputable def Iu (els:List (List A)) (x y:Option R):Option R:=match els with | []=>both x y | _ :: _=>y
noncomputable def bk (a:A) (x y:Option R):Option R:=match a with | .nq els=>Iu els x y | a=>cu a x y
theorem A5 {x y:Option R} (h:x=y):both x y=y:=by
 unfold both
 cases wm x y
 ·exact Ty h
 ·rfl
theorem zl {x y:Option R} {r:R} (h:both x y=some r):x=y/\y=some r:=by
 unfold both at h
 cases e:wm x y
 ·rw[e] at h
  by_cases hxy:x=y
  ·rw[show (bif false then y else open Classical in if x=y then y else none)=y from Ty hxy] at h; exact⟨hxy,h⟩
  ·rw[show (bif false then y else open Classical in if x=y then y else none)=none from Tw hxy] at h; cases h
 ·rw[e] at h; exact⟨Ci _ _ e,h⟩
def MH (P:Program) (t:TypeId) (x:A):Option A:=match P.underlying t,x with | some (.slice _),.imm els _=>some (.nq els) | _,_=>none
def GF (op:BinOp) (y:Operand):Bool:=match op,y with | .eql,.const (.slice none 0 0)=>true | _,_=>false
def Iv (b:Bool) (P:Program) (op:BinOp) (t:TypeId) (c d:Bool) (x y:A):Option A:=bif b then MH P t x else jx P op t c d x y
abbrev bj:=Nat->List A->ay->Nat->Option R
def n8 {β:Type} (cx:Cx) (f lo:Nat) (dst:Option Nat) (c:Call) (s:St) (k:A->ay->Option β):Option β:=
 match c.callee,c.args.toList,c.argTypes.toList with
 | .builtin .len,[x],[t]=>(qb cx.P t (bU cx s x) s.H).bind fun a=>k a s.H
 | .builtin .append,[x,y],[t,t2]=>(bW cx.P t t2 (cx.wrAt f (dst.getD 0)) (bU cx s x) (bU cx s y) s.H lo).bind fun r=>k r.1 r.2
 | .builtin .copy,[x,y],[t,_]=>(px cx.P t (bU cx s x) (bU cx s y) s.H lo).bind fun r=>k r.1 r.2
 | .builtin .min,x :: r,_=>(Cz true (bU cx s x) (r.map (bU cx s))).bind fun a=>k a s.H
 | .builtin .max,x :: r,_=>(Cz false (bU cx s x) (r.map (bU cx s))).bind fun a=>k a s.H
 | _,_,_=>none
def bI {β:Type} (cx:Cx) (f:Nat) (lo:Nat) (o:Oper) (s:St) (k:A->ay->Option β):Option β:=
 match o.op with
 | .move x | .assign x=>k (bU cx s x) s.H
 | .alloc t=>(nm (cx.arr f t) cx.P t s.H).bind fun r=>k r.1 r.2
 | .box t x=>(wS (cx.arr f t) cx.P t (bU cx s x) s.H).bind fun r=>k r.1 r.2
 | .build t parts=>(tr cx.P t (parts.toList.map fun p=>(p.1,bU cx s p.2))).bind fun a=>k a s.H
 | .buildSlice t n parts=>(aN cx.P t n (parts.toList.map fun p=>(p.1,cU s.H (bU cx s p.2)))).bind fun a=>k a s.H
 | .load t a=>(lY cx.P t (bU cx s a) s.H).bind fun a=>k a s.H
 | .store t a x=>(jL cx.P t (bU cx s a) (cD (bU cx s a) s.H (bU cx s x)) s.H lo).bind fun H=>k .any H
 | .binOp op t x y _=>(Iv (GF op y) cx.P op t (HD x) (HD y) (bU cx s x) (bU cx s y)).bind fun a=>k a s.H
 | .unOp op _ x=>(iL cx.P op (bU cx s x)).bind fun a=>k a s.H
 | .convert a b x=>(bn cx.P a b (bU cx s x) s.H).bind fun a=>k a s.H
 | .makeInterface t x=>(CM cx.P t (bU cx s x)).bind fun a=>k a s.H
 | .makeFunc fn a b=>k (.fn fn (a.toList.map (bU cx s)) (b.toList.map (bU cx s))) s.H
 | .makeSlice t n c=>(qV (cx.loud f (o.dst.getD 0)) cx.P t (bU cx s n) (bU cx s c) s.H).bind fun r=>k r.1 r.2
 | .slice t x lo hi mx=>(bif mx.isNone || hi.isSome then eI cx.P t (bU cx s x) (lo.map (bU cx s)) (hi.map (bU cx s)) (mx.map (bU cx s)) s.H else none).bind fun a=>k a s.H
 | .fieldAddr t x i=>(fg cx.P t (bU cx s x) i s.H).bind fun a=>k a s.H
 | .field t x i=>(wN cx.P t (bU cx s x) i).bind fun a=>k a s.H
 | .indexAddr t x i=>(dF cx.P t (bU cx s x) (bU cx s i) s.H).bind fun a=>k a s.H
 | .index t x i=>(wP cx.P t (bU cx s x) (bU cx s i)).bind fun a=>k a s.H
 | .extract x i=>(lX (bU cx s x) i).bind fun a=>k a s.H
 | .nilCheck x=>(zh (bU cx s x) s.H).bind fun a=>k a s.H
 | .makeMap t none=>(qd cx.P t s.H).bind fun r=>k r.1 r.2
 | .insert t m i x=>(pS cx.P t (bU cx s m) (bU cx s i) (bU cx s x) s.H lo).bind fun H=>k .any H
 | .mapUpdate t m i x=>(pS cx.P t (bU cx s m) (bU cx s i) (bU cx s x) s.H lo).bind fun H=>k .any H
 | .lookup t m i c=>(kV cx.P t (bU cx s m) (bU cx s i) c s.H).bind fun a=>k a s.H
 | .typeAssert x _ t c=>(mL cx.P (bU cx s x) t c).bind fun a=>k a s.H
 | .call c=>n8 cx f lo o.dst c s k
 | _=>none
def cF (P:Program) (k:Nat):Bool:=match P.funcs[k]? with | some fn=>fn.body.isSome&&!(fn.name == "runtime.NumGoroutine") | none=>false
def callee? (cx:Cx) (s:St):Op->Option (Nat×List A)
 | .call c=>match c.callee with
  | .value g=>match bU cx s g with
   | .fn (.func k) first cap=>bif cF cx.P k then some (k,first++c.args.toList.map (bU cx s)++cap) else none
   | _=>none
  | _=>none
 | _=>none
def yldOf? (cx:Cx) (s:St):Op->Option (Nat×List A)
 | .call c=>match c.callee with
  | .value g=>match bU cx s g with
   | .yld b=>some (b,c.args.toList.map (bU cx s))
   | _=>none
  | _=>none
 | _=>none
def yx (H:ay) (b:Nat):Bool:=match H[b]? with | some (.rng _)=>true | _=>false
def FC {α β:Type} (x:Option α) (k:α->Option β) (e:Option β):Option β:=match x with | some a=>k a | none=>e
def gZ:Op->Bool
 | .call c=>match c.callee with | .value _=>true | _=>false
 | _=>false
def dU (x:Out) (k:A->Option R) (pan:A->Option R):Option R:=match x with | .ret a=>k a | .pan a=>pan a
def G2 (L:Nat) (r:R):Option A:=match r.1 with
 | .ret a=>bif A.under L a then some a else none
 | .pan _=>none
def ix (cx:Cx) (s:St):Op->A
 | .call c=>match c.callee with | .value g=>bU cx s g | _=>.any
 | _=>.any
def eA (cx:Cx) (s:St):Op->List A
 | .call c=>c.args.toList.map (bU cx s)
 | _=>[]
def dw (cx:Cx) (call:bj) (fv:A) (args:List A) (H:ay) (lo:Nat) (k:A->ay->Option R) (pan:A->ay->Option R):Option R:=
 match fv with
 | .yld b=>bif yx H b then (call (cx.P.funcs.size+b) args H lo).bind fun r=>dU r.1 (fun a=>k a r.2) (fun _=>none) else none
 | .fn (.func q) first cap=>bif cF cx.P q then
   bif cx.isOrc q then (cx.C q ((first++args++cap).map (snap H))).bind fun a=>k a H
   else (call q (first++args++cap) H lo).bind fun r=>dU r.1 (fun a=>k a r.2) (fun a=>pan a r.2)
  else none
 | _=>none
theorem qo {cx:Cx} {call:bj} {s:St} {op:Op} {lo:Nat} {k:A->ay->Option R} {pan:A->ay->Option R}:dw cx call (ix cx s op) (eA cx s op) s.H lo k pan =
   FC (yldOf? cx s op) (fun p=>bif yx s.H p.1 then (call (cx.P.funcs.size+p.1) p.2 s.H lo).bind fun r=>dU r.1 (fun a=>k a r.2) (fun _=>none) else none)
   ((callee? cx s op).bind fun p=>bif cx.isOrc p.1 then (cx.C p.1 (p.2.map (snap s.H))).bind fun a=>k a s.H
    else (call p.1 p.2 s.H lo).bind fun r=>dU r.1 (fun a=>k a r.2) (fun a=>pan a r.2)):=by
 cases op with
 | call c=>
  cases hc:c.callee with
  | value g=>
   cases hf:bU cx s g with
   | fn f first cap=>cases f with
    | func q=>
     simp only[dw,ix,eA,yldOf?,callee?,FC,hc,hf]
     cases cF cx.P q<;>rfl
    | _=>simp only[dw,ix,eA,yldOf?,callee?,FC,hc,hf]; rfl
   | yld b=>simp only[dw,ix,eA,yldOf?,callee?,FC,hc,hf]
   | _=>simp only[dw,ix,eA,yldOf?,callee?,FC,hc,hf]; rfl
  | _=>simp only[dw,ix,eA,yldOf?,callee?,FC,hc]; rfl
 | _=>rfl
def tK {β:Type} (cx:Cx) (call:bj) (fv:A) (args:List A) (H:ay) (k:A->Option β):Option β:=
 match fv with
 | .fn (.func q) first cap=>bif cF cx.P q then
   bif cx.isOrcV q then (cx.C q ((first++args++cap).map (snap H))).bind k
   else ((call q (first++args++cap) H H.length).bind fun r=>G2 H.length r).bind k
  else none
 | _=>none
def D9 {β:Type} (x:A) (k:A->Option β):Option β:=match x with | .ifc t y=>k (.ifc t y) | _=>none
def qs (cx:Cx) (call:bj) (f lo:Nat) (o:Oper) (s:St) (k:St->Option R) (pan:A->St->Option R):Option R:=
 match o.op with
 | .pick c a b=>(cu (bU cx s c) (some (bU cx s a)) (some (bU cx s b))).bind fun x=>k (s.put o.dst x)
 | .panic x=>D9 (bU cx s x) fun a=>pan a s
 | .buildSlice t n parts=>bif cx.wrAt f (o.dst.getD 0) then (oK cx.P t n (parts.toList.map fun p=>(p.1,cU s.H (bU cx s p.2))) s.H).bind fun r=>k ({ s with H:=r.2 }.put o.dst r.1) else bI cx f lo o s fun a H=>k ({ s with H:=H }.put o.dst a)
 | .makeSlice t n c=>bif cx.wrAt f (o.dst.getD 0) then (fh true cx.P t (bU cx s n) (bU cx s c) s.H).bind fun r=>k ({ s with H:=r.2 }.put o.dst r.1) else bI cx f lo o s fun a H=>k ({ s with H:=H }.put o.dst a)
 | .convert t t' x=>bif Nat.beq t t' then (A0 cx.P t t' (bU cx s x) s.H lo).bind fun r=>k ({ s with H:=r.2 }.put o.dst r.1) else bI cx f lo o s fun a H=>k ({ s with H:=H }.put o.dst a)
 | .call _=>bif gZ o.op then
   dw cx call (ix cx s o.op) (eA cx s o.op) s.H lo (fun a H=>k ({ s with H:=H }.put o.dst a)) (fun a H=>pan a { s with H:=H })
  else bI cx f lo o s fun a H=>k ({ s with H:=H }.put o.dst a)
 | _=>bI cx f lo o s fun a H=>k ({ s with H:=H }.put o.dst a)
def bR (ops:Array Oper) (o:Oper):Option (Nat×Bool):=match o.guard with
 | some (j,want)=>match ops[j]? with
  | some q=>match q.dst with
   | some t=>some (t,want)
   | none=>none
  | none=>none
 | none=>none
theorem iZ (ops:Array Oper) (o:Oper):bR ops o=match o.guard with | some (j,want)=>((ops[j]?).bind (·.dst)).map (·,want) | none=>none:=by
 unfold bR
 split
 ·rename_i j want h
  cases ops[j]? with
  | none=>rfl
  | some q=>show _=(Option.bind (some q) (·.dst)).map _; cases h:q.dst<;>simp[h]
 ·rfl
def oH {β:Type} (g:A) (want:Bool) (run skip:Option β):Option β:=match g with
 | .v (.bool b)=>bif b then bif want then run else skip else bif want then skip else run
 | .v (.tuple _)=>skip
 | _=>none
theorem tL {β:Type} {cx:Cx} {call:bj} {s:St} {op:Op} {k:A->Option β}:tK cx call (ix cx s op) (eA cx s op) s.H k =
   ((callee? cx s op).bind fun p=>bif cx.isOrcV p.1 then cx.C p.1 (p.2.map (snap s.H))
    else (call p.1 p.2 s.H s.H.length).bind fun r=>G2 s.H.length r).bind k:=by
 cases op with
 | call c=>
  cases hc:c.callee with
  | value g=>
   cases hf:bU cx s g with
   | fn f first cap=>cases f with
    | func q=>
     simp only[tK,ix,eA,callee?,hc,hf]
     cases cF cx.P q with
     | false=>rfl
     | true=>
      simp only[Tn,Ti]
      cases cx.isOrcV q<;>rfl
    | _=>simp only[tK,ix,eA,callee?,hc,hf]; rfl
   | _=>simp only[tK,ix,eA,callee?,hc,hf]; rfl
  | _=>simp only[tK,ix,eA,callee?,hc]; rfl
 | _=>rfl
def gr (cx:Cx) (call:bj) (f:Nat) (o:Oper) (s:St):Option A:=
 match o.op with
 | .pick c a b=>cu (bU cx s c) (some (bU cx s a)) (some (bU cx s b))
 | .alloc _ | .box .. | .store .. | .makeSlice .. | .panic _ | .makeMap .. | .insert .. | .mapUpdate ..=>none
 | .call c=>bif gZ o.op then
   tK cx call (ix cx s o.op) (eA cx s o.op) s.H some
  else match c.callee with
   | .builtin .len=>bI cx f 0 o s fun a _=>some a
   | _=>none
 | _=>bI cx f 0 o s fun a _=>some a
def qA {β:Type} (cx:Cx) (call:bj) (f:Nat) (o:Oper) (s:St) (k:A->Option β):Option β:=
 match o.op with
 | .pick c a b=>(cu (bU cx s c) (some (bU cx s a)) (some (bU cx s b))).bind k
 | .alloc _ | .box .. | .store .. | .makeSlice .. | .panic _ | .makeMap .. | .insert .. | .mapUpdate ..=>none
 | .call c=>bif gZ o.op then
   tK cx call (ix cx s o.op) (eA cx s o.op) s.H k
  else match c.callee with
   | .builtin .len=>bI cx f 0 o s fun a _=>k a
   | _=>none
 | _=>bI cx f 0 o s fun a _=>k a
def quiet (cx:Cx) (f:Nat) (o:Oper):Bool:=
 match o.op with
 | .alloc _ | .box .. | .store .. | .makeSlice .. | .panic _ | .makeMap .. | .insert .. | .mapUpdate ..=>false
 | .call c=>match c.callee with
  | .value (.func k)=>cx.isOrc k
  | .value _=>match o.dst with | some d=>!cx.loud f d | none=>true
  | .builtin .len=>true
  | _=>false
 | _=>true
def bf {β:Type} (l:List A) (k:A->List A->Option β):Option β:=match l with | a :: r=>k a r | []=>none
def Eh {β:Type}:List Nat->List A->(List (Nat×A)->Option β)->Option β
 | [],_,k=>k []
 | d :: ds,l,k=>bf l fun a r=>Eh ds r fun fr=>k ((d,a) :: fr)
def iU (t:Nat):List Nat->Bool
 | []=>false
 | x :: l=>bif Nat.beq x t then true else iU t l
def jO (o:Oper):List Nat:=match o.dst with | some d=>[d] | none=>[]
def qN (ops:Array Oper) (g:Nat) (w:Bool) (ds:List Nat) (o:Oper):Bool:=
 match o.guard with
 | none=>false
 | some _=>match bR ops o with
  | none=>false
  | some (t,w')=>bif iU g (jO o) then false else bif Nat.beq t g then (bif w then w' else !w') else iU t ds
def bP (ops:Array Oper) (g:Nat) (w:Bool):List Nat->List Oper->List Oper×List Oper
 | _,[]=>([],[])
 | ds,o :: os=>bif qN ops g w ds o then (o :: (bP ops g w (jO o++ds) os).1,(bP ops g w (jO o++ds) os).2) else ([],o :: os)
def gJ:List Oper->List Nat
 | []=>[]
 | o :: os=>gJ os++jO o
def nV (cx:Cx) (f:Nat):List Oper->Bool
 | []=>true
 | o :: os=>bif quiet cx f o then nV cx f os else false
def q9 (ops:Array Oper) (asm:Option (Nat×Bool)) (o:Oper):Bool:=
 match o.guard with
 | none=>true
 | some _=>match asm,bR ops o with
  | some (g,w),some (t,w')=>bif Nat.beq t g then (bif w then w' else !w') else false
  | _,_=>false
def tM (ops:Array Oper) (asm:Option (Nat×Bool)) (g:Nat):List Oper->Option (Nat×Operand×Operand)
 | o :: _=>bif q9 ops asm o then (match o.op,o.dst with
  | .pick (.tmp t) a b,some d=>bif Nat.beq t g then some (d,a,b) else none
  | _,_=>none) else none
 | []=>none
def wZ (d:Option Nat) (x:A) (dl:List (Nat×A)):List (Nat×A):=match d with | some d=>(d,x) :: dl | none=>dl
def dV (dl:List (Nat×A)) (s:St):St:=⟨dl++s.fr,s.H⟩
def pn (ds:List Nat):List (Nat×A):=ds.map fun d=>(d,.v undef)
def vu (cx:Cx) (fin:Option (Nat×Operand)) (dl:List (Nat×A)) (s:St):List (Nat×A):=match fin with | some (d,x)=>(d,bU cx (dV dl s) x) :: dl | none=>dl
def Jm {β:Type} (ops:Array Oper) (asm:Option (Nat×Bool)) (g:Nat) (w:Bool) (os:List Oper) (s:St) (vals:Option (Nat×Operand)->List Oper->Option (List A)) (ud:Option (Nat×Operand)->List Oper->Option (List A)) (k:List Oper->List (Nat×A)->Option β):Option β:=
 match tM ops asm g (bP ops g w [] os).2 with
 | some (d,a,b)=>(cu (look s.fr g) (bif w then vals (some (d,a)) (bP ops g w [] os).1 else ud (some (d,a)) (bP ops g w [] os).1) (bif w then ud (some (d,b)) (bP ops g w [] os).1 else vals (some (d,b)) (bP ops g w [] os).1)).bind fun l=>
   Eh (d :: gJ (bP ops g w [] os).1) l fun fr=>k (bP ops g w [] os).2.tail fr
 | none=>(oH (look s.fr g) w (vals none (bP ops g w [] os).1) (ud none (bP ops g w [] os).1)).bind fun l=>
   Eh (gJ (bP ops g w [] os).1) l fun fr=>k (bP ops g w [] os).2 fr
def Lu (cx:Cx) (s:St) (fin:Option (Nat×Operand)) (run:List Oper):Option (List A):=some ((vu cx fin (pn (gJ run)) s).map (·.2))
def nw (cx:Cx) (call:bj) (f:Nat) (ops:Array Oper):Nat->Option (Nat×Bool)->Option (Nat×Operand)->List Oper->List (Nat×A)->St->Option (List A)
 | 0,_,_,_,_,_=>none
 | _+1,_,fin,[],dl,s=>some ((vu cx fin dl s).map (·.2))
 | q+1,asm,fin,o :: os,dl,s=>bif q9 ops asm o then qA cx call f o (dV dl s) fun x=>nw cx call f ops q asm fin os (wZ o.dst x dl) s
  else match bR ops o with
   | none=>none
   | some (t,w)=>bif qN ops t w [] o then Jm ops asm t w (o :: os) (dV dl s) (fun fin' run=>nw cx call f ops q (some (t,w)) fin' run [] (dV dl s)) (Lu cx (dV dl s)) (fun rest fr=>nw cx call f ops q asm fin rest (fr++dl) s) else none
def fi (cx:Cx) (call:bj) (f lo:Nat) (ops:Array Oper):List Oper->St->(E->St->Option R)->Option R
 | [],s,k=>k .normal s
 | o :: os,s,k=>match o.guard with
  | none=>qs cx call f lo o s (fun s=>fi cx call f lo ops os s k) (fun a s=>k (.pan a) s)
  | some _=>match bR ops o with
   | none=>none
   | some (g,want)=>bif quiet cx f o then (oH (look s.fr g) want (gr cx call f o s) (some (.v undef))).bind fun x=>fi cx call f lo ops os (s.put o.dst x) k
    else oH (look s.fr g) want (qs cx call f lo o s (fun s=>fi cx call f lo ops os s k) (fun a s=>k (.pan a) s)) (fi cx call f lo ops os (s.put o.dst (.v undef)) k)
def fY (cx:Cx) (call:bj) (f lo:Nat) (ops:Array Oper):Nat->List Oper->St->(E->St->Option R)->Option R
 | 0,_,_,_=>none
 | _+1,[],s,k=>k .normal s
 | q+1,o :: os,s,k=>match o.guard with
  | none=>qs cx call f lo o s (fun s=>fY cx call f lo ops q os s k) (fun a s=>k (.pan a) s)
  | some _=>match bR ops o with
   | none=>none
   | some (t,w)=>bif qN ops t w [] o&&nV cx f (bP ops t w [] (o :: os)).1 then
     Jm ops none t w (o :: os) s (fun fin run=>nw cx call f ops q (some (t,w)) fin run [] s) (Lu cx s) (fun rest fr=>fY cx call f lo ops q rest (dV fr s) k)
    else bif quiet cx f o then (oH (look s.fr t) w (gr cx call f o s) (some (.v undef))).bind fun x=>fY cx call f lo ops q os (s.put o.dst x) k
    else oH (look s.fr t) w (qs cx call f lo o s (fun s=>fY cx call f lo ops q os s k) (fun a s=>k (.pan a) s)) (fY cx call f lo ops q os (s.put o.dst (.v undef)) k)
def iV (cx:Cx) (call:bj) (f:Nat) (ops:Array Oper):List Oper->St->(St->Option R)->Option R
 | [],s,k=>k s
 | o :: os,s,k=>match o.guard with
  | none=>(gr cx call f o s).bind fun x=>iV cx call f ops os (s.put o.dst x) k
  | some _=>match bR ops o with
   | none=>none
   | some (g,want)=>(oH (look s.fr g) want (gr cx call f o s) (some (.v undef))).bind fun x=>iV cx call f ops os (s.put o.dst x) k
def oX (cx:Cx) (call:bj) (f:Nat) (ops:Array Oper):Nat->List Oper->St->(St->Option R)->Option R
 | 0,_,_,_=>none
 | _+1,[],s,k=>k s
 | q+1,o :: os,s,k=>match o.guard with
  | none=>qA cx call f o s fun x=>oX cx call f ops q os (s.put o.dst x) k
  | some _=>match bR ops o with
   | none=>none
   | some (t,w)=>bif qN ops t w [] o then
     Jm ops none t w (o :: os) s (fun fin run=>nw cx call f ops q (some (t,w)) fin run [] s) (Lu cx s) (fun rest fr=>oX cx call f ops q rest (dV fr s) k)
    else none
def dt (o:Oper):Bool:=match o.op with
 | .store .. | .alloc _ | .box .. | .makeSlice ..=>true
 | .call c=>match c.callee with | .builtin .append | .builtin .copy=>true | _=>false
 | _=>false
def da (ops:Array Oper) (i:Nat):Bool:=match ops[i]? with | some o=>dt o | none=>false
def blk?:A->Option Nat
 | .ptr b _ | .ep b _ _ | .sl b _ _ _ | .mr b=>some b
 | _=>none
def apart (a e:A):Bool:=match blk? a with
 | none=>true
 | some b=>match blk? e with | some c=>!Nat.beq b c | none=>true
def cZ (cx:Cx) (s:St):Op->A
 | .store _ a _=>bU cx s a
 | .call c=>match c.args.toList with | x :: _=>bU cx s x | []=>.any
 | _=>.any
def addrOf (cx:Cx) (s:St):Op->A
 | .load _ a=>bU cx s a
 | .fieldAddr _ x _=>bU cx s x
 | .indexAddr _ x _=>bU cx s x
 | .slice _ x _ _ _=>bU cx s x
 | .nilCheck x=>bU cx s x
 | .convert _ _ x=>bU cx s x
 | .lookup _ x _ _=>bU cx s x
 | .call c=>match c.args.toList with | x :: _=>bU cx s x | []=>.any
 | _=>.any
def bL (o:Oper):Nat:=match o.op with
 | .pick .. | .move _ | .assign _ | .extract .. | .field .. | .unOp .. | .binOp .. | .index .. | .build .. | .makeFunc .. | .makeInterface .. | .typeAssert ..=>0
 | .load .. | .fieldAddr .. | .indexAddr .. | .slice .. | .nilCheck ..=>1
 | .convert .. | .lookup ..=>1
 | .call c=>match c.callee with | .builtin .len=>1 | .value (.func _)=>4 | _=>3
 | .buildSlice ..=>2
 | _=>3
def wT (o:Oper):Bool:=match o.op with
 | .store .. | .alloc _ | .box ..=>true
 | .makeSlice _ (.tmp a) (.tmp b)=>Nat.beq a b
 | .call c=>match c.callee with | .builtin .copy=>true | _=>false
 | _=>false
def tD (ops:Array Oper) (i:Nat):Bool:=match ops[i]? with | some o=>wT o | none=>false
def sM (cx:Cx) (o:Oper):Bool:=match o.op with
 | .call c=>match c.callee with | .value (.func q)=>cF cx.P q&&cx.isOrcV q | _=>false
 | _=>false
def E8:A->Bool
 | .sl ..=>false
 | _=>true
def qD:A->Bool
 | .sl ..=>false
 | .agg cs=>cs.all E8
 | _=>true
def partsOf (cx:Cx) (s:St):Op->List A
 | .buildSlice _ _ parts=>parts.toList.map fun p=>bU cx s p.2
 | _=>[]
def og:List A->Bool
 | []=>true
 | a :: l=>bif qD a then og l else false
def ky (ops:Array Oper) (i:Nat) (a:A):List (Nat×A)->Bool
 | []=>true
 | p :: l=>bif eZ ops i p.1 || eZ ops p.1 i then ky ops i a l else bif apart a p.2 then ky ops i a l else false
def jJ (ops:Array Oper) (i:Nat) (e:A):List (Nat×A)->Bool
 | []=>true
 | p :: l=>bif eZ ops i p.1 || eZ ops p.1 i then jJ ops i e l else bif apart p.2 e then jJ ops i e l else false
def tF (ops:Array Oper) (m:Nat):Bool:=(List.range m).all fun i=>(List.range m).all fun j=>!(da ops i&&da ops j&&decide (i<j)) || eZ ops j i
def Br (ops:Array Oper) (m:Nat):Bool:=(List.range m).any (da ops)
def E1 (ops:Array Oper) (m i:Nat):Bool:=(List.range m).all fun e=>!da ops e || tD ops e || e==i || eZ ops i e || eZ ops e i
def tY (cx:Cx) (f:Nat) (o:Oper):Option TypeId:=match o.op with
 | .alloc t=>bif cx.arr f t then none else some t
 | _=>none
def qQ (cx:Cx) (f:Nat) (ops:Array Oper) (i:Nat):Bool:=match ops[i]? with | some o=>(tY cx f o).isSome | none=>false
def qn (cx:Cx) (f:Nat) (ops:Array Oper) (m:Nat):Bool:=(List.range m).all fun i=>(List.range m).all fun j=>!(da ops i&&da ops j&&decide (i<j)&&!qQ cx f ops i&&!qQ cx f ops j) || eZ ops j i
def cG (i:Nat):List (Nat×A)->Option A
 | []=>none
 | p :: l=>bif Nat.beq p.1 i then some p.2 else cG i l
def ahead {β:Type} (cx:Cx) (f:Nat):Nat->List Oper->ay->(List (Nat×A)->ay->Option β)->Option β
 | _,[],H,k=>k [] H
 | i,o :: os,H,k=>match tY cx f o with
  | some t=>(kU cx.P t H).bind fun r=>ahead cx f (i+1) os r.2 fun fl H=>k ((i,r.1) :: fl) H
  | none=>ahead cx f (i+1) os H k
def jd (fl:List (Nat×A)) (ops:Array Oper) (m i:Nat):Bool:=(List.range m).all fun e=>!da ops e || (cG e fl).isSome || e==i || eZ ops i e || eZ ops e i
def nF (cx:Cx) (o:Oper):Bool:=Nat.beq (bL o) 0 || Nat.beq (bL o) 1 || Nat.beq (bL o) 2 || (Nat.beq (bL o) 4&&sM cx o)
def vv (ops:Array Oper) (i:Nat):List (Nat×A)->Bool
 | []=>true
 | p :: l=>bif eZ ops i p.1 then vv ops i l else false
def Dl (cx:Cx) (s:St) (o:Oper):Bool:=match o.op with
 | .call c=>bif gZ (.call c) then match ix cx s (.call c) with | .fn (.func q) _ _=>cF cx.P q&&cx.isOrcV q | _=>false else false
 | _=>false
def qu (cx:Cx) (call:bj) (f lo:Nat) (ops:Array Oper) (m:Nat) (fl:List (Nat×A)) (i:Nat) (o:Oper) (effs seen:List (Nat×A)) (s:St) (rec:List (Nat×A)->List (Nat×A)->St->Option R):Option R:=
 match cG i fl with
 | some a=>rec effs seen (s.put o.dst a)
 | none=>bif dt o then bif jJ ops i (cZ cx s o.op) seen then bI cx f lo o s fun a H=>rec ((i,cZ cx s o.op) :: effs) seen ({ s with H:=H }.put o.dst a) else none
  else bif jd fl ops m i&&(nF cx o || vv ops i fl || Dl cx s o) then qA cx call f o s fun x=>rec effs seen (s.put o.dst x)
  else bif Nat.beq (bL o) 0 then qA cx call f o s fun x=>rec effs seen (s.put o.dst x)
  else bif Nat.beq (bL o) 1 then bif ky ops i (addrOf cx s o.op) effs then qA cx call f o s fun x=>rec effs ((i,addrOf cx s o.op) :: seen) (s.put o.dst x) else none
  else bif (Nat.beq (bL o) 2 || (Nat.beq (bL o) 4&&sM cx o))&&E1 ops m i then qA cx call f o s fun x=>rec effs seen (s.put o.dst x)
  else bif Nat.beq (bL o) 2 then bif og (partsOf cx s o.op) then qA cx call f o s fun x=>rec effs seen (s.put o.dst x) else none
  else none
def tR (cx:Cx) (ops:Array Oper) (m:Nat) (fl:List (Nat×A)) (i:Nat) (o:Oper) (effs seen:List (Nat×A)) (s:St) (rec:List (Nat×A)->List (Nat×A)->St->Option R):Option R:=
 bif dt o then bif jJ ops i (cZ cx s o.op) seen then rec ((i,cZ cx s o.op) :: effs) seen (s.put o.dst (.v undef)) else none
 else bif Nat.beq (bL o) 1 then bif jd fl ops m i then rec effs seen (s.put o.dst (.v undef)) else bif ky ops i (addrOf cx s o.op) effs then rec effs ((i,addrOf cx s o.op) :: seen) (s.put o.dst (.v undef)) else none
 else rec effs seen (s.put o.dst (.v undef))
def fk (cx:Cx) (call:bj) (f lo:Nat) (ops:Array Oper) (m:Nat) (fl:List (Nat×A)):Nat->List Oper->List (Nat×A)->List (Nat×A)->St->(St->Option R)->Option R
 | _,[],_,_,s,k=>k s
 | i,o :: os,effs,seen,s,k=>match o.guard with
  | some _=>match bR ops o with
   | none=>none
   | some (t,w)=>bif Nat.beq (bL o) 0&&!dt o&&(cG i fl).isNone then (oH (look s.fr t) w (gr cx call f o s) (some (.v undef))).bind fun x=>fk cx call f lo ops m fl (i+1) os effs seen (s.put o.dst x) k
    else bif (cG i fl).isNone then cu (look s.fr t)
     (bif w then qu cx call f lo ops m fl i o effs seen (s.put (some t) (.v (.bool true))) (fun effs seen s=>fk cx call f lo ops m fl (i+1) os effs seen s k) else tR cx ops m fl i o effs seen (s.put (some t) (.v (.bool true))) (fun effs seen s=>fk cx call f lo ops m fl (i+1) os effs seen s k))
     (bif w then tR cx ops m fl i o effs seen (s.put (some t) (.v (.bool false))) (fun effs seen s=>fk cx call f lo ops m fl (i+1) os effs seen s k) else qu cx call f lo ops m fl i o effs seen (s.put (some t) (.v (.bool false))) (fun effs seen s=>fk cx call f lo ops m fl (i+1) os effs seen s k))
    else none
  | none=>qu cx call f lo ops m fl i o effs seen s fun effs seen s=>fk cx call f lo ops m fl (i+1) os effs seen s k
def ub:Op->Bool
 | .alloc _ | .box .. | .store .. | .makeSlice .. | .call _ | .makeMap .. | .insert .. | .mapUpdate ..=>true
 | _=>false
def ph (ops:Array Oper):Option Nat:=(List.range (ops.size+1)).find? (eP ops)
def yi (ops:Array Oper) (N:Nat):Bool:=ops.toList.all fun o=>match o.dst with | some d=>decide (d<N) | none=>true
def uf (cx:Cx) (o:Oper):Bool:=match o.op with
 | .call c=>match c.callee with | .value (.func q)=>cF cx.P q&&!cx.isOrc q&&(!Nat.beq (cx.cut q) 0 || cx.fre q) | _=>false
 | _=>false
def CR (cx:Cx) (o:Oper):Nat:=match o.op with
 | .call c=>match c.callee with | .value (.func q)=>cx.cut q | _=>0
 | _=>0
def CA (cx:Cx) (o:Oper) (lo:Nat) (H:ay):Nat:=match o.op with
 | .call c=>match c.callee with | .value (.func q)=>bif cx.fre q then H.length else lo | _=>lo
 | _=>lo
def A9 (cx:Cx):Nat->List Oper->Option Nat
 | _,[]=>none
 | i,o :: os=>bif uf cx o then some i else A9 cx (i+1) os
def JV (ops:Array Oper) (c m:Nat):List Nat:=(List.range m).filter fun i=>eZ ops c i&&(da ops i || (List.range m).any fun e=>da ops e&&eZ ops i e)
def oS (ops:Array Oper) (c m:Nat):List Nat:=JV ops c m++c :: (List.range m).filter fun i=>eZ ops i c
def yP (ops:Array Oper) (c m:Nat):List Nat:=(List.range m).filter fun i=>(oS ops c m).all fun j=>!Nat.beq i j
def tG (ops:Array Oper):List Nat->List Nat->Bool
 | _,[]=>true
 | ps,i :: is=>bif ps.all (fun p=>eZ ops i p) then tG ops (i :: ps) is else false
def Iy (ops:Array Oper) (L T:List Nat):Bool:=L.all fun i=>T.all fun j=>!eZ ops i j
def rO (o:Oper):Bool:=match o.guard with | none=>true | some _=>false
def Qh (o:Oper):Bool:=rO o&&(Nat.beq (bL o) 0 || Nat.beq (bL o) 1 || Nat.beq (bL o) 2)
def Qj (o:Oper):Bool:=rO o&&(dt o || !ub o.op)&&!gZ o.op
def Lm (cx:Cx) (call:bj) (f:Nat) (ops:Array Oper):List Nat->List (Nat×A)->St->(List (Nat×A)->St->Option R)->Option R
 | [],seen,s,k=>k seen s
 | i :: is,seen,s,k=>match ops[i]? with
  | none=>none
  | some o=>bif Qh o then bif (bif Nat.beq (bL o) 2 then og (partsOf cx s o.op) else true) then qA cx call f o s fun x=>Lm cx call f ops is (bif Nat.beq (bL o) 1 then (i,addrOf cx s o.op) :: seen else seen) (s.put o.dst x) k else none else none
def iM (m:Nat) (a:A):Bool:=match blk? a with | none=>true | some b=>Nat.ble m b
def sU (ops:Array Oper) (c m:Nat):List (Nat×A)->Bool
 | []=>true
 | p :: l=>bif eZ ops c p.1 then sU ops c m l else bif iM m p.2 then sU ops c m l else false
def HA (cx:Cx) (call:bj) (f lo:Nat) (ops:Array Oper) (c:Nat) (kp:A->ay->Option R):List Nat->List (Nat×A)->St->(St->Option R)->Option R
 | [],_,s,k=>k s
 | i :: is,seen,s,k=>match ops[i]? with
  | none=>none
  | some o=>bif Nat.beq i c then bif sU ops c (CR cx o) seen then dw cx call (ix cx s o.op) (eA cx s o.op) s.H (CA cx o lo s.H) (fun a H=>HA cx call f lo ops c kp is seen ({ s with H:=H }.put o.dst a) k) kp else none
   else bif Qj o then bif (bif dt o then jJ ops i (cZ cx s o.op) seen else true) then bI cx f lo o s fun a H=>HA cx call f lo ops c kp is seen ({ s with H:=H }.put o.dst a) k else none else none
def FI (cx:Cx) (N:Nat) (ops:Array Oper) (c m:Nat) (o:Oper):Bool:=(ops.toList.take m).all rO&&uf cx o&&rP ops N&&tG ops [] (oS ops c m)&&Iy ops (yP ops c m) (oS ops c m)&&(oS ops c m).all fun i=>Nat.blt i m
def Gd (cx:Cx) (ops:Array Oper):Option Nat:=match ph ops with | none=>none | some m=>A9 cx 0 (ops.toList.take m)
def yp (cx:Cx) (call:bj) (f lo N:Nat) (ops:Array Oper) (c:Nat) (s:St) (k:E->St->Option R):Option R:=
 match ops[c]? with
 | none=>none
 | some o=>(ph ops).bind fun m=>bif FI cx N ops c m o then Lm cx call f ops (yP ops c m) [] s fun seen s1=>
   HA cx call f lo ops c (fun a H=>k (.pan a) ⟨[],H⟩) (oS ops c m) seen s1 fun s=>fY cx call f lo ops (ops.size+1) (ops.toList.drop m) s k
  else none
def bS:Code->Nat
 | .region id _ _=>id
 | .seq a _=>bS a
 | .block _ c=>bS c
 | .scope c=>bS c
 | .loop c=>bS c
 | _=>0
def CW (H:ay) (a:A):A:=match a with | .sl b o n c=>snap H (.sl b o n c) | .imm els _=>.imm els false | a=>a
def E9 (H:ay) (a:A):A:=match a with | .sl b o n c=>snap H (.sl b o n c) | .imm els _=>.imm els false | .agg cs=>.agg (cs.map (CW H)) | a=>a
def eL (es:Nat) (H:ay):A->A×ay
 | .imm els true=>bif els.all (fun cs=>Nat.beq cs.length es) then (.sl H.length 0 els.length false,H++[.row false es els]) else (.imm els true,H)
 | a=>(a,H)
def kO (es:Nat) (H:ay):A->A×ay
 | .imm [] true=>(.sl H.length 0 0 false,H++[.row true es []])
 | a=>(a,H)
def kP (es:Nat) (H:ay):A->A×ay
 | .imm els true=>bif els.all (fun cs=>Nat.beq cs.length es) then (.sl H.length 0 els.length false,H++[.row false es els]) else (.imm els true,H++[.dead])
 | a=>(a,H++[.dead])
def dX (lo off m:Nat) (a:A) (H:ay):ay:=
 match a with
 | .ptr b o=>match H[b]? with
  | some (.box cs)=>match cs[o+off]? with
   | some c=>bif decide (lo<=b) then match m with
    | 0=>H.set b (.box (cs.set (o+off) (E9 H c)))
    | es+1=>(eL es H c).2.set b (.box (cs.set (o+off) (eL es H c).1))
    else H
   | none=>H
  | _=>H
 | _=>H
def nj (lo:Nat) (p:Nat×Nat×Nat) (s:St):St:=
 match p.2.1 with
 | 0=>match p.2.2 with
  | 0=>⟨(p.1,E9 s.H (look s.fr p.1)) :: s.fr,s.H⟩
  | es+1=>bif Nat.ble 500000 es then (bif Nat.ble 1000000 es then ⟨(p.1,(kP (es - 1000000) s.H (look s.fr p.1)).1) :: s.fr,(kP (es - 1000000) s.H (look s.fr p.1)).2⟩ else ⟨(p.1,(kO (es - 500000) s.H (look s.fr p.1)).1) :: s.fr,(kO (es - 500000) s.H (look s.fr p.1)).2⟩) else ⟨(p.1,(eL es s.H (look s.fr p.1)).1) :: s.fr,(eL es s.H (look s.fr p.1)).2⟩
 | off+1=>⟨s.fr,dX lo off p.2.2 (look s.fr p.1) s.H⟩
def dG (lo:Nat):List (Nat×Nat×Nat)->St->St
 | [],s=>s
 | p :: ps,s=>dG lo ps (nj lo p s)
def pW (lo:Nat):List (Nat×Nat×Nat)->St->(St->Option R)->Option R
 | [],s,k=>k s
 | p :: ps,s,k=>(sf lo (look s.fr p.1) s.H).bind fun r=>pW lo ps ⟨(p.1,r.1) :: s.fr,r.2⟩ k
def xf:List (Nat×Nat×Nat)->List (Nat×Nat×Nat)
 | []=>[]
 | p :: ps=>match p.2.2 with | 0=>p :: xf ps | _+1=>xf ps
def dp (keep:List Nat) (s:St):St:=⟨keep.map fun t=>(t,look s.fr t),s.H⟩
def aS (L:Nat) (fr:List (Nat×A)):List Nat->Bool
 | []=>true
 | t :: ts=>bif A.under L (look fr t) then aS L fr ts else false
theorem mA (L:Nat) (fr:List (Nat×A)):∀ keep:List Nat,aS L fr keep=true->keep.all (fun t=>A.under L (look fr t))=true
 | [],_=>rfl
 | t :: ts,h=>by
  rw[aS] at h
  cases hu:A.under L (look fr t) with
  | false=>rw[hu] at h; cases h
  | true=>
   rw[hu] at h
   rw[Vp,hu,TU]
   exact mA L fr ts h
def vT (keep:List Nat) (L:Nat) (s:St) (k:St->Option R):Option R:=
 (trim L s.H).bind fun H=>bif (bif Nat.beq s.H.length L then true else aS L s.fr keep) then k ⟨keep.map fun t=>(t,look s.fr t),H⟩ else none
def wj:List (Nat×Nat×Nat)->Option (Nat×Nat×Nat)
 | []=>none
 | p :: ps=>match ps with
  | []=>match p.2.1 with
   | 0=>bif Nat.ble 1000001 p.2.2 then some p else none
   | _+1=>none
  | _ :: _=>wj ps
def JW (n:Nat):Nat:=n - 1
def Gw:A->Bool | .imm _ true=>true | _=>false
def Fx (lo:Nat) (keep:List Nat) (p:Nat×Nat×Nat) (L:Nat) (s:St) (k:St->Option R):Option R:=
 bif Gw (look s.fr p.1) then vT keep (JW L) s fun s=>bif Nat.beq (nj lo p s).H.length L then k (dp keep (nj lo p s)) else none else vT keep L s k
def BS (lo:Nat) (keep:List Nat) (acts:List (Nat×Nat×Nat)) (L:Nat) (s:St) (k:St->Option R):Option R:=
 match wj acts with
 | none=>vT keep L (dG lo (xf acts) s) k
 | some p=>Fx lo keep p L (dG lo (xf acts) s) k
def Cr (s:St) (keep:List Nat) (k:Nat->St->Option R):Option R:=k s.H.length (dp keep s)
def iter (lo:Nat) (keep:List Nat) (acts:List (Nat×Nat×Nat)) (L:Nat) (f:St->(E->St->Option R)->Option R) (kx kg:Nat->St->Option R) (kr:St->Option R) (kp:A->St->Option R):Nat->St->Option R
 | 0,_=>none
 | n+1,s=>f s fun e s'=>match e with
  | .normal=>BS lo keep acts L s' fun s'=>iter lo keep acts L f kx kg kr kp n s'
  | .exit i=>kx i (dp keep s')
  | .goto l=>kg l (dp keep s')
  | .ret=>kr (dp keep s')
  | .pan a=>kp a (dp keep s')
def iX:Code->Bool
 | .seq a b=>iX a&&iX b
 | .cond _ a b=>iX a&&iX b
 | .block _ c=>iX c
 | .loop c=>iX c
 | .rangeFunc .. | .scope _=>false
 | _=>true
def yK:List Nat->List A->List (Nat×A)->List (Nat×A)
 | p :: ps,a :: as,fr=>yK ps as ((p,a) :: fr)
 | _,_,fr=>fr
def Ls {β:Type} (H:ay) (b:Nat) (x:Option β):Option β:=match H[b]? with | some (.rng .ready)=>x | _=>none
def Hy {β:Type} (H:ay) (b:Nat) (x:Option β):Option β:=match H[b]? with | some (.rng .busy)=>x | _=>none
def G4 (b:Nat) (e:E) (H:ay):Option R:=
 match e with
 | .normal=>Hy H b (some (.ret (.v (.bool true)),H.set b (.rng .ready)))
 | .exit i=>Hy H b (some (.ret (.v (.bool false)),H.set b (.rng (.done (.exit i)))))
 | .goto l=>Hy H b (some (.ret (.v (.bool false)),H.set b (.rng (.done (.goto l)))))
 | .ret=>Hy H b (some (.ret (.v (.bool false)),H.set b (.rng (.done .ret))))
 | .pan _=>none
def roundOf (F1 F2:St->(E->St->Option R)->Option R) (lo b:Nat) (ps:List Nat) (fr:List (Nat×A)) (args:List A) (H:ay) (lo':Nat):Option R:=
 bif Nat.beq args.length ps.length&&Nat.ble lo' lo then
  Ls H b (F1 ⟨yK ps args fr,H⟩ fun e s=>match e with
   | .normal=>Ls s.H b (F2 ⟨s.fr,s.H.set b (.rng .busy)⟩ fun e s=>G4 b e s.H)
   | _=>none)
 else none
def Hk (q:Nat) (call:bj) (b:Nat) (rnd:List A->ay->Nat->Option R):bj:=fun k args H lo=>bif Nat.beq k (q+b) then rnd args H lo else call k args H lo
def Cd {β:Type} (b:Nat) (H:ay) (kn:ay->Option β) (kx kg:Nat->ay->Option β) (kr:ay->Option β):Option β:=
 match H[b]? with
 | some (.rng .ready)=>kn (H.set b .dead)
 | some (.rng (.done (.exit i)))=>kx i (H.set b .dead)
 | some (.rng (.done (.goto l)))=>kg l (H.set b .dead)
 | some (.rng (.done .ret))=>kr (H.set b .dead)
 | _=>none
def xB (b:Nat) (H:ay) (k:E->ay->Option R):Option R:=Cd b H (fun H=>k .normal H) (fun i H=>k (.exit i) H) (fun l H=>k (.goto l) H) (fun H=>k .ret H)
def mH (s:St) (k:St->Option R):Option R:=k s
def Gr (P:Program):A->Option (Nat×List A)
 | .fn (.func gf) [] cap=>bif cF P gf then some (gf,cap) else none
 | _=>none
def uX (N:Nat):List Nat->Bool
 | []=>true
 | p :: ps=>bif Nat.blt p N then uX N ps else false
def xA (body:Code):Nat:=1000000+bS body
def nx:Code->Nat
 | .region id _ _=>id
 | .seq a _=>nx a
 | .block _ c=>nx c
 | .scope c=>nx c
 | .loop c=>nx c
 | .cond _ a _=>nx a
 | _=>0
def Fg (keep:List Nat) (e:E) (s:St):Option R:=match e with
 | .normal=>some (.ret (.tup (keep.map (look s.fr))),s.H)
 | _=>none
def J3 {β:Type} (r:R) (k:List A->ay->Option β):Option β:=match r with
 | (.ret (.tup l),H)=>k l H
 | _=>none
theorem yW {β:Type} (fr:List (Nat×A)):∀ (keep:List Nat) (k:List (Nat×A)->Option β),Eh keep (keep.map (look fr)) k=k (keep.map fun t=>(t,look fr t))
 | [],_=>rfl
 | d :: ds,k=>by
  show Eh ds (ds.map (look fr)) (fun r=>k ((d,look fr d) :: r))=_
  rw[yW fr ds]; rfl
def uh:Code->Nat
 | .block _ c=>nx c
 | .cond _ a _=>500000+nx a
 | .seq _ b=>uh b
 | _=>999999
def O3 (js:List Nat) (X:(E->St->Option R)->Option R) (Y:St->Option R) (k:E->St->Option R):Option R:=match js with
 | []=>X fun e s'=>match e with | .normal=>Y s' | e=>k e s'
 | j :: js=>(X (Fg (j :: js))).bind fun r=>J3 r fun l H=>Eh (j :: js) l fun fr=>Y ⟨fr,H⟩
noncomputable def nQ (cx:Cx) (call:bj) (rg:bj->bj) (n f lo N:Nat):Code->St->(E->St->Option R)->Option R
 | .skip,s,k=>k .normal s
 | .label _,s,k=>k .normal s
 | .region id ops draw,s,k=>pW lo (cx.acts f (2000000+id)) s fun s=>bif yi ops N then
  bif draw then match Gd cx ops with | some c=>yp cx call f lo N ops c s k | none=>bif rP ops N then (ph ops).bind fun m=>bif Br ops m then bif tF ops m then fk cx call f lo ops m [] 0 (ops.toList.take m) [] [] s fun s=>fY cx call f lo ops (ops.size+1) (ops.toList.drop m) s k else bif qn cx f ops m then ahead cx f 0 (ops.toList.take m) s.H fun fl H=>fk cx call f lo ops m fl 0 (ops.toList.take m) [] [] ⟨s.fr,H⟩ fun s=>fY cx call f lo ops (ops.size+1) (ops.toList.drop m) s k else none else oX cx call f ops (ops.size+1) (ops.toList.take m) s fun s=>fY cx call f lo ops (ops.size+1) (ops.toList.drop m) s k else none
  else fY cx call f lo ops (ops.size+1) ops.toList s k
  else none
 | .seq a b,s,k=>O3 (cx.join f (uh a)) (fun k=>nQ cx call rg n f lo N a s k) (fun s=>nQ cx call rg n f lo N b s k) k
 | .cond c a b,s,k=>bk (bU cx s c) (nQ cx call rg n f lo N a s k) (nQ cx call rg n f lo N b s k)
 | .block id c,s,k=>nQ cx call rg n f lo N c s fun e s'=>match e with | .exit j=>bif Nat.beq j id then k .normal s' else k (.exit j) s' | e=>k e s'
 | .scope c,s,k=>nQ cx call rg n f lo N c s fun e s'=>match e with | .goto _=>none | e=>k e s'
 | .loop c,s,k=>Cr (dG lo (cx.acts f (bS c)) (dp (cx.keep f (bS c)) s)) (cx.keep f (bS c)) fun L s=>iter lo (cx.keep f (bS c)) (cx.acts f (bS c)) L (fun s k=>nQ cx call rg n f lo N c s k) (fun i s=>k (.exit i) s) (fun l s=>k (.goto l) s) (fun s=>k .ret s) (fun a s=>k (.pan a) s) n s
 | .exit id,s,k=>k (.exit id) s
 | .goto l,s,k=>k (.goto l) s
 | .ret,s,k=>k .ret s
 | .rangeFunc g ps asg body,s,k=>mH (dG lo (cx.acts f (xA body)) s) fun s=>(Gr cx.P (bU cx s g)).bind fun p=>bif uX N ps.toList&&iX asg&&iX body&&Nat.ble lo s.H.length then
   (rg (Hk cx.P.funcs.size call s.H.length (roundOf (fun s k=>nQ cx call rg n f lo N asg s k) (fun s k=>nQ cx call rg n f lo N body s k) lo s.H.length ps.toList (dp (cx.keep f (xA body)) s).fr)) p.1 (.yld s.H.length :: p.2) (s.H++[.rng .ready]) lo).bind fun r=>
    dU r.1 (fun _=>xB s.H.length r.2 fun e H=>k e ⟨s.fr,H⟩) (fun _=>none)
  else none
 | _,_,_=>none
def hY:Code->List Code
 | .loop c=>c :: hY c
 | .seq a b=>hY a++hY b
 | .cond _ a b=>hY a++hY b
 | .block _ c=>hY c
 | .scope c=>hY c
 | .rangeFunc _ _ a b=>hY a++hY b
 | _=>[]
def xj (cx:Cx) (f i:Nat):Code:=match (cx.P.funcs[f]?).bind (·.body) with | some c=>(hY c).getD i .skip | none=>.skip
def SP (cx:Cx) (f:Nat):Nat:=match cx.P.funcs[f]? with | some fn=>fn.ntmps | none=>0
def iE:Code->List (List Nat×Code×Code)
 | .loop c=>iE c
 | .seq a b=>iE a++iE b
 | .cond _ a b=>iE a++iE b
 | .block _ c=>iE c
 | .scope c=>iE c
 | .rangeFunc _ ps a b=>[(ps.toList,a,b)]
 | _=>[]
def rangeAt (cx:Cx) (f i:Nat):List Nat×Code×Code:=match (cx.P.funcs[f]?).bind (·.body) with | some c=>(iE c).getD i ([],.skip,.skip) | none=>([],.skip,.skip)
noncomputable def aK (cx:Cx) (call:bj) (rg:bj->bj) (n f lo i L:Nat) (kx kg:Nat->St->Option R) (kr:St->Option R) (kp:A->St->Option R) (m:Nat) (s:St):Option R:=
 iter lo (cx.keep f (bS (xj cx f i))) (cx.acts f (bS (xj cx f i))) L (fun s k=>nQ cx call rg n f lo (SP cx f) (xj cx f i) s k) kx kg kr kp m s
def qx (cx:Cx) (s:St):ResultVar->Option A
 | .tmp t=>some (look s.fr t)
 | .cell a t=>lY cx.P t (look s.fr a) s.H
def nv (cx:Cx) (s:St):List ResultVar->Option (List A)
 | []=>some []
 | r :: rs=>(qx cx s r).bind fun a=>(nv cx s rs).bind fun l=>some (a :: l)
def yo (cx:Cx) (fn:Func) (s:St):Option A:=match fn.results.toList with
 | [r]=>qx cx s r
 | rs=>(nv cx s rs).bind fun l=>some (.tup l)
def tU (cx:Cx) (s:St):List ResultVar->(List A->Option R)->Option R
 | [],k=>k []
 | r :: rs,k=>(qx cx s r).bind fun a=>tU cx s rs fun l=>k (a :: l)
def la (cx:Cx) (fn:Func) (s:St):Option R:=match fn.results.toList with
 | [r]=>(qx cx s r).bind fun a=>some (.ret a,s.H)
 | rs=>tU cx s rs fun l=>some (.ret (.tup l),s.H)
theorem sy (cx:Cx) (s:St):∀ (rs:List ResultVar) (k:List A->Option R),tU cx s rs k=(nv cx s rs).bind k
 | [],_=>rfl
 | r :: rs,k=>by
  rw[tU,nv,T1]
  congr 1; funext a
  rw[sy cx s rs,T1]
  rfl
theorem zw (cx:Cx) (fn:Func) (s:St):la cx fn s=(yo cx fn s).bind fun a=>some (.ret a,s.H):=by
 unfold la yo
 split
 ·rename_i h; rfl
 ·rw[sy,T1]
  rfl
def frame (args:List A):List (Nat×A):=args.zipIdx.map fun p=>(p.2,p.1)
noncomputable def Gq (cx:Cx) (call:bj) (rg:bj->bj) (n f lo:Nat) (fn:Func) (c:Code) (args:List A) (H:ay):Option R:=
 nQ cx call rg n f lo fn.ntmps c ⟨frame args,H⟩ fun e s=>match e with
  | .normal | .ret=>mH (dG lo (cx.acts f 3000000) s) fun s=>la cx fn s
  | .pan a=>some (.pan a,s.H)
  | _=>none
def Da (o:Oper):Bool:=match o.op with | .defer _=>true | _=>false
def vP:List Oper->Option (List Oper×Oper)
 | []=>none
 | o :: os=>match os with
  | []=>some ([],o)
  | _ :: _=>(vP os).map fun p=>(o :: p.1,p.2)
def vJ:Code->Bool
 | .seq _ (.seq (.region _ ops false) _)=>ops.toList.any Da
 | _=>false
def Qf (cx:Cx) (q:Nat) (o:Oper):Bool:=cF cx.P q&&rO o&&o.dst.isNone
def Bb (cx:Cx) (s:St) (o:Oper):Option (Nat×List A):=match o.op with
 | .defer c=>match c.callee,c.args.toList with
  | .value g,[]=>match bU cx s g with
   | .fn (.func q) [] cap=>bif Qf cx q o then some (q,cap) else none
   | _=>none
  | _,_=>none
 | _=>none
def lu (o:Oper):Option Nat:=match o.op with
 | .call c=>match c.callee,c.args.toList with
  | .builtin .recover,[]=>bif rO o then o.dst else none
  | _,_=>none
 | _=>none
def recAt:Nat->List Oper->Option (Nat×Nat)
 | _,[]=>none
 | i,o :: os=>match lu o with | some d=>some (i,d) | none=>recAt (i+1) os
def jH (ops:Array Oper) (i d:Nat):Array Oper:=match ops[i]? with | some o=>ops.setIfInBounds i { o with op:=.move (.tmp d) } | none=>ops
def ja (d:Nat) (o:Oper):Bool:=rO o&&(match o.op with | .load _ (.tmp t)=>!Nat.beq t d | _=>false)&&(match o.dst with | some e=>!Nat.beq e d | none=>false)
def vO (d:Nat) (ops:Array Oper) (j:Nat):Bool:=match ops[j]? with | some o=>ja d o | none=>true
def FH (ops:Array Oper) (i d:Nat):Bool:=(List.range ops.size).all fun j=>Nat.beq j i || match ops[j]? with | some o=>ja d o || o.after.any fun e=>Region.binds .any e&&!vO d ops e.on | none=>false
def Qi (cap:List A) (ops:Array Oper) (fn:Func) (rest:Code):Bool:=decide (cap.length<=fn.ntmps)&&yi ops fn.ntmps&&iX rest&&fn.results.toList.isEmpty
def Qg (ops:Array Oper) (N:Nat) (a:Code):Bool:=yi ops N&&iX a
def tS (cx:Cx) (call:bj) (f lo N:Nat) (ops:Array Oper) (s:St) (k:E->St->Option R):Option R:=
 bif yi ops N then
  match Gd cx ops with | some c=>yp cx call f lo N ops c s k | none=>bif rP ops N then (ph ops).bind fun m=>bif Br ops m then bif tF ops m then fk cx call f lo ops m [] 0 (ops.toList.take m) [] [] s fun s=>fY cx call f lo ops (ops.size+1) (ops.toList.drop m) s k else bif qn cx f ops m then ahead cx f 0 (ops.toList.take m) s.H fun fl H=>fk cx call f lo ops m fl 0 (ops.toList.take m) [] [] ⟨s.fr,H⟩ fun s=>fY cx call f lo ops (ops.size+1) (ops.toList.drop m) s k else none else oX cx call f ops (ops.size+1) (ops.toList.take m) s fun s=>fY cx call f lo ops (ops.size+1) (ops.toList.drop m) s k else none
 else none
def Qk (cap:List A) (ops:Array Oper) (fn:Func) (p:Nat×Nat):Bool:=decide (cap.length<=fn.ntmps)&&decide (p.2<fn.ntmps)&&FH ops p.1 p.2&&(match ops[p.1]? with | some o=>o.after.toList.isEmpty | none=>false)&&fn.results.toList.isEmpty
noncomputable def vj (cx:Cx) (call:bj) (rg:bj->bj) (n lo q:Nat) (cap:List A) (v:A) (H:ay) (k:ay->Option R):Option R:=
 (cx.P.funcs[q]?).bind fun fn=>fn.body.bind fun c=>match c with
  | .seq (.region _ ops false) rest=>match ops.toList with
   | o :: os=>(lu o).bind fun d=>bif Qi cap ops fn rest then fi cx call q lo ops os ⟨(d,v) :: frame cap,H⟩ fun e s=>match e with
     | .normal=>nQ cx call rg n q lo fn.ntmps rest s fun e s=>match e with
      | .normal | .ret=>k s.H
      | _=>none
     | _=>none
    else none
   | []=>none
  | .region _ ops true=>(recAt 0 ops.toList).bind fun p=>bif Qk cap ops fn p then tS cx call q lo fn.ntmps (jH ops p.1 p.2) ⟨(p.2,v) :: frame cap,H⟩ fun e s=>match e with
    | .normal=>k s.H
    | _=>none
   else none
  | _=>none
noncomputable def tP (cx:Cx) (call:bj) (rg:bj->bj) (n f lo:Nat) (fn:Func) (c:Code) (args:List A) (H:ay):Option R:=match c with
 | .seq a (.seq (.region _ ops false) rest)=>bif Qg ops fn.ntmps a then nQ cx call rg n f lo fn.ntmps a ⟨frame args,H⟩ fun e s=>match e with
  | .normal=>(vP ops.toList).bind fun p=>fi cx call f lo ops p.1 s fun e s=>match e with
   | .normal=>(Bb cx s p.2).bind fun z=>nQ cx call rg n f lo fn.ntmps rest s fun e s=>match e with
    | .normal | .ret=>vj cx call rg n lo z.1 z.2 (.v .nilIface) s.H fun H=>mH (dG lo (cx.acts f 3000000) ⟨s.fr,H⟩) fun s=>la cx fn s
    | .pan x=>vj cx call rg n lo z.1 z.2 x s.H fun H=>mH (dG lo (cx.acts f 3000000) ⟨s.fr,H⟩) fun s=>la cx fn s
    | _=>none
   | _=>none
  | _=>none
  else none
 | _=>none
noncomputable def aF (cx:Cx) (call:bj) (rg:bj->bj) (n f:Nat) (args:List A) (H:ay) (lo:Nat):Option R:=
 (cx.P.funcs[f]?).bind fun fn=>fn.body.bind fun c=>bif decide (args.length<=fn.ntmps) then bif vJ c then tP cx call rg n f lo fn c args H else Gq cx call rg n f lo fn c args H else none
def Dj:bj:=fun _ _ _ _=>none
def SJ:A->Bool | .v _=>true | _=>false
def gA (cx:Cx) (k:Nat) (H:ay):Bool:=bif cx.deep k then bif Nat.beq H.length 0 then false else true else false
def l0 (cx:Cx) (k:Nat) (args:List A) (H:ay):Option R:=(cx.C k (args.map (jK 6 H))).bind fun r=>bif SJ r then some (.ret r,H) else none
def fS (cx:Cx) (k:Nat) (H:ay):Bool:=bif Nat.beq (cx.cut k) 0 then false else bif Nat.ble (cx.cut k) H.length then true else bif Nat.beq H.length 0 then false else Nat.beq (cx.cut k) 999999999
def cutAt (cx:Cx) (k:Nat) (H:ay):Nat:=bif Nat.ble (cx.cut k) H.length then cx.cut k else H.length
def kN (m:Nat):Out->Bool
 | .ret a=>A.under m a
 | .pan a=>A.under m a
def mO (m:Nat) (f:ay->Option R) (args:List A) (H:ay):Option R:=
 bif bh m args&&(H.take m).all (aO.under m) then (f (H.take m)).bind fun r=>bif Nat.ble m r.2.length&&(r.2.take m).all (aO.under m)&&kN m r.1 then some (r.1,r.2.take m++H.drop m) else none else none
noncomputable def bF (cx:Cx):Nat->bj->bj
 | 0,base,k,args,H,lo=>bif Nat.ble cx.P.funcs.size k then base k args H lo else none
 | n+1,base,k,args,H,lo=>bif Nat.ble cx.P.funcs.size k then base k args H lo else bif fS cx k H then mO (cutAt cx k H) (fun H=>aF cx (bF cx n Dj) (bF cx n) n k args H lo) args H else bif gA cx k H then l0 cx k args H else aF cx (bF cx n base) (bF cx n) n k args H lo
noncomputable def dI (cx:Cx) (n:Nat):bj:=bF cx n Dj
section
open Go.RowKit
structure Gh where
 mu:Nat->Option Nat
 ga:Nat->List (List Value)
 S:Nat->Nat->Prop
 lr:Nat->Loop
def Fj:Loop:={ state:=.ready,pending:=none,fn:=0,tmps:=#[],params:=#[],assign:=.skip,body:=.skip,defers:=0 }
def Mx.code:Mx->Code
 | .exit id=>.exit id
 | .goto l=>.goto l
 | .ret=>.ret
def iG (r:Loop):CK->Loop
 | .ready=>{ r with state:=.ready,pending:=none }
 | .busy=>{ r with state:=.busy,pending:=none }
 | .done j=>{ r with state:=.done,pending:=some j.code }
def eE (H:ay) (g:Gh) (k o:Nat):Prop:=g.S k o/\∀ b,g.mu b=some k->∃ es els,H[b]? = some (.row false es els)/\o<es*els.length
def bD (H:ay) (g:Gh) (w:World) (k off:Nat) (ds:List Value):Prop:=∀ j v,ds[j]? = some v->w.cell? ⟨k,off+j,none⟩=some v/\eE H g k (off+j)
mutual
def VR (H:ay) (g:Gh) (w:World):A->Value->Prop
 | .any,_=>True
 | .v x,c=>c=x
 | .ptr b o,c=>match H[b]? with
  | some (.box _)=>∃ k,g.mu b=some k/\c=.pointer (some ⟨k,o,none⟩)
  | some .hole=>False
  | some _=>c.oneCell'=true
  | none=>False
 | .ep b i o,c=>match H[b]? with
  | some (.row true es els)=>i<els.length/\∃ k,g.mu b=some k/\c=.pointer (some ⟨k,i*es+o,none⟩)
  | some .hole=>False
  | some _=>c.oneCell'=true
  | none=>False
 | .ip cs,c=>∃ k off ds,c=.pointer (some ⟨k,off,none⟩)/\bD H g w k off ds/\bt H g w cs ds
 | .imm els clip,c=>∃ a cap ds es,c=.slice a els.length cap/\els.length<=cap/\(clip=true->cap=els.length)/\(∀ d∈ds,d.length=es)/\(0<els.length->∃ k off,a=some ⟨k,off,none⟩/\bD H g w k off ds.flatten)/\bp H g w els ds
 | .sl b o n clip,c=>match H[b]? with
  | some (.row true es els)=>o+n<=els.length/\∃ a cap,c=.slice a n cap/\n<=cap/\(clip=true->cap=n)/\(0<n->∃ k,g.mu b=some k/\a=some ⟨k,o*es,none⟩)
  | some (.row false es els)=>o+n<=els.length/\∃ a cap,c=.slice a n cap/\n<=cap/\(clip=true->cap=n)/\(0<n->∃ k off,a=some ⟨k,off,none⟩/\bD H g w k off (((g.ga b).drop o).take n).flatten) ∧
    (clip=false->o=0->n=els.length->n<cap->∃ k arr ty,g.mu b=some k/\a=some ⟨k,0,none⟩/\w.heap[k]? = some (.cells arr ty (0,0))/\cap*es<=arr.size)
  | some .hole=>False
  | some _=>c.oneCell'=true
  | none=>False
 | .agg cs,c=>∃ ds,c=.agg ds/\bt H g w cs ds.toList
 | .tup cs,c=>∃ ds,c=.tuple ds/\bt H g w cs ds.toList
 | .fn f a b,c=>∃ ds es,c=.func f ds es/\bt H g w a ds.toList/\bt H g w b es.toList
 | .ifc t x,c=>∃ d,c=.iface t d/\VR H g w x d
 | .yld b,c=>match H[b]? with
  | some (.rng _)=>∃ k,g.mu b=some k/\c=.func (.yield k) #[] #[]
  | some .hole=>False
  | some _=>c.oneCell'=true
  | none=>False
 | .nq els,c=>∃ b,c=.bool b/\(b=true->els=[])
 | .mr b,c=>match H[b]? with
  | some (.mp ..)=>∃ k,g.mu b=some k/\c=.map (some k)
  | some .hole=>False
  | some _=>c.oneCell'=true
  | none=>False
 | .mv k ks vs,c=>∃ r arr cl,c=.map (some r)/\eE H g r 0/\w.heap[r]? = some (.map arr cl)/\arr.toList.map (·.key)=ks.map (.int k)/\bt H g w vs (arr.toList.map (·.val))
def bt (H:ay) (g:Gh) (w:World):List A->List Value->Prop
 | [],ds=>ds=[]
 | a :: as,ds=>∃ d ds',ds=d :: ds'/\VR H g w a d/\bt H g w as ds'
def bp (H:ay) (g:Gh) (w:World):List (List A)->List (List Value)->Prop
 | [],ds=>ds=[]
 | a :: as,ds=>∃ d ds',ds=d :: ds'/\bt H g w a d/\bp H g w as ds'
end
def kT (H:ay) (g:Gh) (w:World) (b:Nat):aO->Prop
 | .box cs=>∃ k arr ty,g.mu b=some k/\w.heap[k]? = some (.cells arr ty (0,0))/\bt H g w cs arr.toList
 | .row true es els=>∃ ds,bp H g w els ds/\(∀ d∈ds,d.length=es)/\(0<els.length->∃ (k:Nat) (arr:Array Value) (ty:TypeId),g.mu b=some k/\w.heap[k]? = some (.cells arr ty (0,0))/\∀ (j:Nat) (v:Value),ds.flatten[j]? = some v->arr[j]? = some v)
 | .row false es els=>bp H g w els (g.ga b)/\(∀ d∈g.ga b,d.length=es)
 | .rng st=>∃ k,g.mu b=some k/\w.heap[k]? = some (.loop (iG (g.lr b) st))
 | .dead=>g.mu b=none
 | .hole=>g.mu b=none
 | .mp k ks vs=>∃ r arr cl,g.mu b=some r/\w.heap[r]? = some (.map arr cl)/\arr.toList.map (·.key)=ks.map (.int k)/\bt H g w vs (arr.toList.map (·.val))
structure Rel (H:ay) (g:Gh) (w0 w:World):Prop where
 below:Below w0.heap.size w0 w
 dom:∀ b k,g.mu b=some k->b<H.length/\w0.heap.size<=k/\k<w.heap.size
 inj:∀ b c k,g.mu b=some k->g.mu c=some k->b=c
 out:∀ k o,w.heap.size<=k->g.S k o
 own:∀ b k o,g.mu b=some k->g.S k o
 blk:∀ b B,H[b]? = some B->kT H g w b B
def BT (g:Gh) (w:World) (g':Gh) (w':World) (b:Nat):aO->aO->Prop
 | .box _,.box _=>g'.mu b=g.mu b
 | .row true es els,.row true es' els'=>es'=es/\els'.length=els.length/\g'.mu b=g.mu b
 | .row false es els,.row false es' els'=>es'=es/\(∃ r,g'.ga b=g.ga b++r)/\(g.ga b).length=els.length/\els.length<=els'.length/\(els'.length=els.length->g'.mu b=g.mu b/\∀ k arr ty,g.mu b=some k->w.heap[k]? = some (.cells arr ty (0,0))->∃ arr',w'.heap[k]? = some (.cells arr' ty (0,0))/\arr.size<=arr'.size)
 | .rng _,.rng _=>g'.mu b=g.mu b/\g'.lr b=g.lr b
 | .mp ..,.mp ..=>g'.mu b=g.mu b
 | .hole,_=>True
 | _,.dead=>True
 | _,_=>False
structure uF (H:ay) (g:Gh) (w:World) (H':ay) (g':Gh) (w':World):Prop where
 cell:∀ k o v,eE H g k o->w.cell? ⟨k,o,none⟩=some v->w'.cell? ⟨k,o,none⟩=some v/\eE H' g' k o
 blk:∀ (b:Nat) (B:aO),H[b]? = some B->∃ B',H'[b]? = some B'/\BT g w g' w' b B B'
 map:∀ k arr cl,eE H g k 0->w.heap[k]? = some (.map arr cl)->w'.heap[k]? = some (.map arr cl)/\eE H' g' k 0
structure Ext (H:ay) (g:Gh) (w:World) (H':ay) (g':Gh) (w':World):Prop where
 cell:∀ k o v,eE H g k o->w.cell? ⟨k,o,none⟩=some v->w'.cell? ⟨k,o,none⟩=some v/\eE H' g' k o
 blk:∀ (b:Nat) (B:aO),H[b]? = some B->∃ B',H'[b]? = some B'/\BT g w g' w' b B B'
 kept:∀ (k:Nat) (x:Option (List Deferred)),w.heap[k]? = some (.deferred x)->w'.heap[k]? = some (.deferred x)
 size:w.heap.size<=w'.heap.size
 map:∀ k arr cl,eE H g k 0->w.heap[k]? = some (.map arr cl)->w'.heap[k]? = some (.map arr cl)/\eE H' g' k 0
 obj:∀ k,k<w.heap.size->(∀ b,g.mu b≠some k)->w'.heap[k]? = w.heap[k]?
 fresh:∀ b k,g'.mu b=some k->(∃ c,g.mu c=some k)∨w.heap.size<=k
variable {H H':ay} {g g':Gh} {w0 w w':World}
theorem bt.length:∀ {cs:List A} {ds:List Value},bt H g w cs ds->ds.length=cs.length
 | [],_,h=>by rw[bt] at h; subst h; rfl
 | a :: as,_,h=>by rw[bt] at h; obtain ⟨d,ds',rfl,_,h2⟩:=h; simp[bt.length h2]
theorem bp.length:∀ {cs:List (List A)} {ds:List (List Value)},bp H g w cs ds->ds.length=cs.length
 | [],_,h=>by rw[bp] at h; subst h; rfl
 | a :: as,_,h=>by rw[bp] at h; obtain ⟨d,ds',rfl,_,h2⟩:=h; simp[bp.length h2]
theorem bD.eJ (he:uF H g w H' g' w') {k off:Nat} {ds:List Value} (h:bD H g w k off ds):bD H' g' w' k off ds:=fun j v hj=>let ⟨h1,h2⟩:=h j v hj; he.cell _ _ _ h2 h1
mutual
theorem VR.eJ (he:uF H g w H' g' w'):∀ (a:A) (c:Value),VR H g w a c->VR H' g' w' a c
 | .any,_,_=>H6
 | .v x,c,h=>by rw[VR] at h ⊢; exact h
 | .ptr b o,c,h=>by
  rw[VR] at h ⊢
  cases hb:H[b]? with
  | none=>rw[hb] at h; exact h.elim
  | some B=>
   obtain ⟨B',hB',ht⟩:=he.blk b B hb
   rw[hb] at h; rw[hB']
   cases B with
   | box _=>cases B' with
    | box _=>obtain ⟨k,h1,h2⟩:=h; exact⟨k,(show g'.mu b=g.mu b from ht).trans h1,h2⟩
    | row wr _ _=>exact False.elim ht
    | rng _=>exact False.elim ht
    | mp _ _ _=>exact False.elim ht
    | dead=>obtain ⟨k,h1,h2⟩:=h; subst h2; rfl
    | hole=>exact False.elim ht
   | row wr _ _=>cases B' with
    | box _=>cases wr<;>exact False.elim ht
    | row _ _ _=>exact h
    | rng _=>cases wr<;>exact False.elim ht
    | mp _ _ _=>cases wr<;>exact False.elim ht
    | dead=>exact h
    | hole=>cases wr<;>exact False.elim ht
   | rng _=>cases B'<;>first | exact h | (exact False.elim ht)
   | mp _ _ _=>cases B'<;>first | exact h | (exact False.elim ht)
   | dead=>cases B'<;>first | exact h | (exact False.elim ht)
   | hole=>exact False.elim h
 | .ep b i o,c,h=>by
  rw[VR] at h ⊢
  cases hb:H[b]? with
  | none=>rw[hb] at h; exact h.elim
  | some B=>
   obtain ⟨B',hB',ht⟩:=he.blk b B hb
   rw[hb] at h; rw[hB']
   cases B with
   | box _=>cases B' with
    | box _=>exact h
    | row wr _ _=>exact False.elim ht
    | rng _=>exact False.elim ht
    | mp _ _ _=>exact False.elim ht
    | dead=>exact h
    | hole=>exact False.elim ht
   | row wr es els=>cases wr with
    | true=>cases B' with
     | box _=>exact False.elim ht
     | row wr' es' els'=>cases wr' with
      | true=>
       obtain ⟨e1,e2,e3⟩:=ht
       obtain ⟨h0,k,h1,h2⟩:=h
       subst e1
       exact⟨r7,k,e3.trans h1,h2⟩
      | false=>exact False.elim ht
     | rng _=>exact False.elim ht
     | mp _ _ _=>exact False.elim ht
     | dead=>obtain ⟨_,k,h1,h2⟩:=h; subst h2; rfl
     | hole=>exact False.elim ht
    | false=>cases B' with
     | box _=>exact False.elim ht
     | row wr' es' els'=>cases wr' with
      | true=>exact False.elim ht
      | false=>exact h
     | rng _=>exact False.elim ht
     | mp _ _ _=>exact False.elim ht
     | dead=>exact h
     | hole=>exact False.elim ht
   | rng _=>cases B'<;>first | exact h | (exact False.elim ht)
   | mp _ _ _=>cases B'<;>first | exact h | (exact False.elim ht)
   | dead=>cases B'<;>first | exact h | (exact False.elim ht)
   | hole=>exact False.elim h
 | .ip cs,c,h=>by
  rw[VR] at h ⊢
  obtain ⟨k,off,ds,h1,h2,h3⟩:=h
  exact⟨k,off,ds,h1,h2.eJ he,bt.eJ he cs ds h3⟩
 | .imm els clip,c,h=>by
  rw[VR] at h ⊢
  obtain ⟨a,cap,ds,es,h1,h2,h3,h4,h5,h6⟩:=h
  exact⟨a,cap,ds,es,h1,h2,h3,h4,fun hp=>let ⟨k,off,e1,e2⟩:=h5 hp; ⟨k,off,e1,e2.eJ he⟩,bp.eJ he els ds h6⟩
 | .sl b o n clip,c,h=>by
  rw[VR] at h ⊢
  cases hb:H[b]? with
  | none=>rw[hb] at h; exact h.elim
  | some B=>
   obtain ⟨B',hB',ht⟩:=he.blk b B hb
   rw[hb] at h; rw[hB']
   cases B with
   | box _=>cases B' with
    | box _=>exact h
    | row wr _ _=>exact False.elim ht
    | rng _=>exact False.elim ht
    | mp _ _ _=>exact False.elim ht
    | dead=>exact h
    | hole=>exact False.elim ht
   | row wr es els=>cases wr with
    | true=>cases B' with
     | box _=>exact False.elim ht
     | row wr' es' els'=>cases wr' with
      | true=>
       obtain ⟨e1,e2,e3⟩:=ht
       obtain ⟨h0,a,cap,h1,h2,h3,h4⟩:=h
       subst e1
       exact⟨r7,a,cap,h1,h2,h3,fun hp=>let ⟨k,g1,g2⟩:=h4 hp; ⟨k,e3.trans g1,g2⟩⟩
      | false=>exact False.elim ht
     | rng _=>exact False.elim ht
     | mp _ _ _=>exact False.elim ht
     | dead=>obtain ⟨_,a,cap,h1,_⟩:=h; subst h1; rfl
     | hole=>exact False.elim ht
    | false=>cases B' with
     | box _=>exact False.elim ht
     | row wr' es' els'=>cases wr' with
      | true=>exact False.elim ht
      | false=>
       obtain ⟨e1,⟨r,e2⟩,e3,e4,e5⟩:=ht
       obtain ⟨h0,a,cap,h1,h2,h3,h4,h5⟩:=h
       subst e1
       refine⟨r7,a,cap,h1,h2,h3,fun hp=>?_,fun hc ho hn hlt=>?_⟩
       ·obtain ⟨k,off,g1,g2⟩:=h4 hp
        refine⟨k,off,g1,?_⟩
        have:((g'.ga b).drop o).take n=((g.ga b).drop o).take n:=by
         rw[e2,Wc r7,Wd so]
        rw[this]
        exact g2.eJ he
       ·have hel:els'.length=els.length:=by omega
        obtain ⟨k,arr,ty,g1,g2,g3,g4⟩:=h5 hc ho r7 hlt
        obtain ⟨m1,m2⟩:=e5 hel
        obtain ⟨arr',m3,m4⟩:=m2 k arr ty g1 g3
        exact⟨k,arr',ty,m1.trans g1,g2,m3,r7⟩
     | rng _=>exact False.elim ht
     | mp _ _ _=>exact False.elim ht
     | dead=>obtain ⟨_,a,cap,h1,_⟩:=h; subst h1; rfl
     | hole=>exact False.elim ht
   | rng _=>cases B'<;>first | exact h | (exact False.elim ht)
   | mp _ _ _=>cases B'<;>first | exact h | (exact False.elim ht)
   | dead=>cases B'<;>first | exact h | (exact False.elim ht)
   | hole=>exact False.elim h
 | .agg cs,c,h=>by
  rw[VR] at h ⊢
  obtain ⟨ds,h1,h2⟩:=h
  exact⟨ds,h1,bt.eJ he cs _ h2⟩
 | .tup cs,c,h=>by
  rw[VR] at h ⊢
  obtain ⟨ds,h1,h2⟩:=h
  exact⟨ds,h1,bt.eJ he cs _ h2⟩
 | .fn f a b,c,h=>by
  rw[VR] at h ⊢
  obtain ⟨ds,es,h1,h2,h3⟩:=h
  exact⟨ds,es,h1,bt.eJ he a _ h2,bt.eJ he b _ h3⟩
 | .ifc t x,c,h=>by
  rw[VR] at h ⊢
  obtain ⟨d,h1,h2⟩:=h
  exact⟨d,h1,VR.eJ he x d h2⟩
 | .yld b,c,h=>by
  rw[VR] at h ⊢
  cases hb:H[b]? with
  | none=>rw[hb] at h; exact h.elim
  | some B=>
   obtain ⟨B',hB',ht⟩:=he.blk b B hb
   rw[hb] at h; rw[hB']
   cases B with
   | rng st=>cases B' with
    | rng st'=>obtain ⟨k,h1,h2⟩:=h; exact⟨k,(show g'.mu b=g.mu b from ht.1).trans h1,h2⟩
    | dead=>obtain ⟨k,h1,h2⟩:=h; subst h2; rfl
    | hole=>exact False.elim ht
    | box _=>exact False.elim ht
    | row _ _ _=>exact False.elim ht
    | mp _ _ _=>exact False.elim ht
   | row wr _ _=>cases wr<;>cases B'<;>first | exact h | (exact False.elim ht)
   | dead=>cases B'<;>first | exact h | (exact False.elim ht)
   | box _=>cases B'<;>first | exact h | (exact False.elim ht)
   | mp _ _ _=>cases B'<;>first | exact h | (exact False.elim ht)
   | hole=>exact False.elim h
 | .nq els,c,h=>by rw[VR] at h ⊢; exact h
 | .mr b,c,h=>by
  rw[VR] at h ⊢
  cases hb:H[b]? with
  | none=>rw[hb] at h; exact h.elim
  | some B=>
   obtain ⟨B',hB',ht⟩:=he.blk b B hb
   rw[hb] at h; rw[hB']
   cases B with
   | mp _ _ _=>cases B' with
    | mp _ _ _=>obtain ⟨k,h1,h2⟩:=h; exact⟨k,(show g'.mu b=g.mu b from ht).trans h1,h2⟩
    | dead=>obtain ⟨k,h1,h2⟩:=h; subst h2; rfl
    | hole=>exact False.elim ht
    | box _=>exact False.elim ht
    | row _ _ _=>exact False.elim ht
    | rng _=>exact False.elim ht
   | row wr _ _=>cases wr<;>cases B'<;>first | exact h | (exact False.elim ht)
   | dead=>cases B'<;>first | exact h | (exact False.elim ht)
   | box _=>cases B'<;>first | exact h | (exact False.elim ht)
   | rng _=>cases B'<;>first | exact h | (exact False.elim ht)
   | hole=>exact False.elim h
 | .mv k ks vs,c,h=>by
  rw[VR] at h ⊢
  obtain ⟨r,arr,cl,h1,h2,h3,h4,h5⟩:=h
  obtain ⟨e1,e2⟩:=he.map r arr cl h2 h3
  exact⟨r,arr,cl,h1,e2,e1,h4,bt.eJ he vs _ h5⟩
theorem bt.eJ (he:uF H g w H' g' w'):∀ (cs:List A) (ds:List Value),bt H g w cs ds->bt H' g' w' cs ds
 | [],_,h=>by rw[bt] at h ⊢; exact h
 | a :: as,_,h=>by
  rw[bt] at h ⊢
  obtain ⟨d,ds',h1,h2,h3⟩:=h
  exact⟨d,ds',h1,VR.eJ he a d h2,bt.eJ he as ds' h3⟩
theorem bp.eJ (he:uF H g w H' g' w'):∀ (cs:List (List A)) (ds:List (List Value)),bp H g w cs ds->bp H' g' w' cs ds
 | [],_,h=>by rw[bp] at h ⊢; exact h
 | a :: as,_,h=>by
  rw[bp] at h ⊢
  obtain ⟨d,ds',h1,h2,h3⟩:=h
  exact⟨d,ds',h1,bt.eJ he a d h2,bp.eJ he as ds' h3⟩
end
theorem Ext.Lt (he:Ext H g w H' g' w'):uF H g w H' g' w':=⟨he.cell,he.blk,he.map⟩
theorem bD.ext (he:Ext H g w H' g' w') {k off:Nat} {ds:List Value} (h:bD H g w k off ds):bD H' g' w' k off ds:=h.eJ he.Lt
theorem VR.ext (he:Ext H g w H' g' w') (a:A) (c:Value) (h:VR H g w a c):VR H' g' w' a c:=VR.eJ he.Lt a c h
theorem bt.ext (he:Ext H g w H' g' w') (cs:List A) (ds:List Value) (h:bt H g w cs ds):bt H' g' w' cs ds:=bt.eJ he.Lt cs ds h
theorem bp.ext (he:Ext H g w H' g' w') (cs:List (List A)) (ds:List (List Value)) (h:bp H g w cs ds):bp H' g' w' cs ds:=bp.eJ he.Lt cs ds h
theorem kT.len {b es:Nat} {els:List (List A)} (h:kT H g w b (.row false es els)):(g.ga b).length=els.length:=h.1.length
theorem Rel.xw (hr:Rel H g w0 w) (he:Ext H g w H' g' w') (hS:g'.S=g.S:=by rfl):∀ k o,w'.heap.size<=k->g'.S k o:=fun k o hk=>by rw[hS]; exact hr.out k o (TI he.size hk)
theorem Rel.vZ (hr:Rel H g w0 w) (he:Ext H g w H' g' w') (hS:g'.S=g.S:=by rfl):∀ b k o,g'.mu b=some k->g'.S k o:=fun b k o h=>by
 rw[hS]
 rcases he.fresh b k h with ⟨c,hc⟩ | hl
 ·exact hr.own c k o hc
 ·exact hr.out k o hl
theorem Ext.below (hr:Rel H g w0 w) (hb:Below w.heap.size w w'):Ext H g w H g w':=by
 refine⟨fun k o v hs hc=>⟨(hb.cell (p:=⟨k,o,none⟩) (Ve w _ hc)).trans hc,hs⟩,fun b B hB=>⟨B,hB,?_⟩,fun k o ho=>(hb.block k (Tt.1 ho).1).trans ho,hb.size,fun k arr cl hs hm=>⟨(hb.block k (Tt.1 hm).1).trans hm,hs⟩,fun k hk _=>hb.block k hk,fun b k h=>.inl ⟨b,h⟩⟩
 cases B with
 | box _=>rfl
 | mp _ _ _=>rfl
 | row wr es els=>cases wr with
  | true=>exact⟨rfl,rfl,rfl⟩
  | false=>exact⟨rfl,⟨[],r9⟩,(hr.blk b _ hB).len,Tm _,fun _=>⟨rfl,fun k arr ty hk ha=>⟨arr,(hb.block k (hr.dom b k hk).2.2).trans ha,Tm _⟩⟩⟩
 | rng _=>exact⟨rfl,rfl⟩
 | dead=>trivial
 | hole=>trivial
theorem kT.below {b:Nat} {B:aO} (hr:Rel H g w0 w) (hb:Below w.heap.size w w') (h:kT H g w b B):kT H g w' b B:=by
 have he:=Ext.below hr hb
 cases B with
 | box cs=>obtain ⟨k,arr,ty,h1,h2,h3⟩:=h; exact⟨k,arr,ty,h1,(hb.block k (hr.dom b k h1).2.2).trans h2,bt.ext he _ _ h3⟩
 | row wr es els=>cases wr with
  | true=>
   obtain ⟨ds,h1,h2,h3⟩:=h
   exact⟨ds,bp.ext he _ _ h1,h2,fun hp=>let ⟨k,arr,ty,e1,e2,e3⟩:=h3 hp; ⟨k,arr,ty,e1,(hb.block k (hr.dom b k e1).2.2).trans e2,e3⟩⟩
  | false=>exact⟨bp.ext he _ _ h.1,h.2⟩
 | rng st=>obtain ⟨k,h1,h2⟩:=h; exact⟨k,h1,(hb.block k (hr.dom b k h1).2.2).trans h2⟩
 | mp _ _ _=>obtain ⟨k,arr,cl,h1,h2,h3,h4⟩:=h; exact⟨k,arr,cl,h1,(hb.block k (hr.dom b k h1).2.2).trans h2,h3,bt.ext he _ _ h4⟩
 | dead=>exact h
 | hole=>exact h
theorem Rel.ek (hr:Rel H g w0 w) (hb:Below w.heap.size w w'):Rel H g w0 w':=
 ⟨hr.below.trans (hb.mono hr.below.size),fun b k hk=>⟨(hr.dom b k hk).1,(hr.dom b k hk).2.1,TE (hr.dom b k hk).2.2 hb.size⟩,hr.inj,fun k o hk=>hr.out k o (TI hb.size hk),hr.own,fun b B hB=>(hr.blk b B hB).below hr hb⟩
theorem Rel.va (hr:Rel H g w0 w) {B:Nat} (hc:bX B w w'):uF H g w H g w':=by
 refine⟨fun k o v hs h=>⟨Calm.cell (B:=B) ⟨k,o,none⟩ v w w' h hc,hs⟩,fun b Bk hB=>⟨Bk,hB,?_⟩,fun k arr cl hs hm=>⟨hc.data _ _ hm rfl,hs⟩⟩
 cases Bk with
 | box _=>rfl
 | mp _ _ _=>rfl
 | row wr es els=>cases wr with
  | true=>exact⟨rfl,rfl,rfl⟩
  | false=>exact⟨rfl,⟨[],r9⟩,(hr.blk b _ hB).len,Tm _,fun _=>⟨rfl,fun k arr ty hk ha=>⟨arr,hc.data _ _ ha rfl,Tm _⟩⟩⟩
 | rng _=>exact⟨rfl,rfl⟩
 | dead=>trivial
 | hole=>trivial
theorem Rel.calm (hr:Rel H g w0 w) {B:Nat} (hB:w0.heap.size<=B) (hc:bX B w w') (hl:∀ (k:Nat) (o:Loop),w.heap[k]? = some (.loop o)->w'.heap[k]? = some (.loop o)):Rel H g w0 w':=by
 have he:=hr.va hc
 refine⟨Calm.below (Tm _) hB w w' hr.below hc,fun b k hk=>⟨(hr.dom b k hk).1,(hr.dom b k hk).2.1,TE (hr.dom b k hk).2.2 hc.size⟩,hr.inj,fun k o hk=>hr.out k o (TI hc.size hk),hr.own,fun b Bk hBk=>?_⟩
 have h:=hr.blk b Bk hBk
 cases Bk with
 | box cs=>obtain ⟨k,arr,ty,h1,h2,h3⟩:=h; exact⟨k,arr,ty,h1,hc.data _ _ h2 rfl,bt.eJ he _ _ h3⟩
 | row wr es els=>cases wr with
  | true=>
   obtain ⟨ds,h1,h2,h3⟩:=h
   exact⟨ds,bp.eJ he _ _ h1,h2,fun hp=>let ⟨k,arr,ty,e1,e2,e3⟩:=h3 hp; ⟨k,arr,ty,e1,hc.data _ _ e2 rfl,e3⟩⟩
  | false=>exact⟨bp.eJ he _ _ h.1,h.2⟩
 | rng st=>obtain ⟨k,h1,h2⟩:=h; exact⟨k,h1,hl k _ h2⟩
 | mp _ _ _=>obtain ⟨k,arr,cl,h1,h2,h3,h4⟩:=h; exact⟨k,arr,cl,h1,hc.data _ _ h2 rfl,h3,bt.eJ he _ _ h4⟩
 | dead=>exact h
 | hole=>exact h
theorem Ext.calm {H0:ay} {g0:Gh} {ws:World} (he:Ext H0 g0 ws H g w) (hr:Rel H g w0 w) {B:Nat} (hB:ws.heap.size<=B) (hc:bX B w w'):Ext H0 g0 ws H g w':=by
 have h0:=hr.va hc
 refine⟨fun k o v hs h=>?_,fun b Bk hBk=>?_,fun k o ho=>?_,TI he.size hc.size,fun k arr cl hs hm=>let ⟨c1,s1⟩:=he.map k arr cl hs hm; h0.map k arr cl s1 c1,fun k hk hn=>(hc.low k r7 (TE hk he.size)).trans (he.obj k hk hn),he.fresh⟩
 ·obtain ⟨c1,s1⟩:=he.cell k o v hs h
  exact h0.cell k o v s1 c1
 ·obtain ⟨B',hB',ht⟩:=he.blk b Bk hBk
  refine⟨B',hB',?_⟩
  cases Bk with
  | row wr es els=>cases wr with
   | false=>cases B' with
    | row wr' es' els'=>cases wr' with
     | false=>
      obtain ⟨e1,e2,e3,e4,e5⟩:=ht
      refine⟨e1,e2,e3,e4,fun hl=>⟨(e5 hl).1,fun k arr ty hk ha=>?_⟩⟩
      obtain ⟨arr',q1,q2⟩:=(e5 hl).2 k arr ty hk ha
      exact⟨arr',hc.data _ _ q1 rfl,q2⟩
     | true=>exact ht
    | _=>exact ht
   | true=>cases B' with
    | row wr' es' els'=>cases wr'<;>exact ht
    | _=>exact ht
  | _=>cases B'<;>exact ht
 ·have hk:=he.kept k o ho
  have hlt:=(Tt.1 ho).1
  exact(hc.low k r7 (Tt.1 hk).1).trans hk
end
section
open Go.RowKit
variable {P:Program} {H:ay} {g:Gh} {w0 w:World}
theorem dB {α:Type} {P:Program}:∀ {s:Sem α} {a:α},cA P s=some a->∀ w,s.run P w=.ok a w
 | .pure a,_,h,w=>by simp only[cA,Uf] at h; subst h; rfl
 | .program k,a,h,w=>by simp only[cA] at h; exact dB (s:=k P) h w
 | .mark _ k,a,h,w=>by simp only[cA] at h; exact dB (s:=k) h w
 | .load ..,_,h,_ | .store ..,_,h,_ | .new ..,_,h,_ | .shape ..,_,h,_ | .freeze ..,_,h,_ | .frozen ..,_,h,_ | .getObj ..,_,h,_ | .setObj ..,_,h,_ | .choose ..,_,h,_ | .sys ..,_,h,_ | .halt _,_,h,_=>by cases h
theorem dj:∀ {cs:List A} {ds:List Value},bt H g w cs ds↔ds.length=cs.length/\∀ (i:Nat) a d,cs[i]? = some a->ds[i]? = some d->VR H g w a d
 | [],ds=>by
  rw[bt]
  exact⟨fun h=>by subst h; simp,fun h=>by simpa using h.1⟩
 | a :: as,ds=>by
  rw[bt]
  constructor
  ·rintro ⟨d,ds',rfl,h1,h2⟩
   obtain ⟨h3,h4⟩:=dj.1 h2
   refine⟨by simp[h3],fun i x y hx hy=>?_⟩
   cases i with
   | zero=>simp at hx hy; subst hx; subst hy; exact h1
   | succ i=>exact h4 i x y (by simpa using hx) (by simpa using hy)
  ·rintro ⟨h1,h2⟩
   cases ds with
   | nil=>simp at h1
   | cons d ds'=>exact⟨d,ds',rfl,h2 0 a d rfl rfl,dj.2 ⟨by simpa using h1,fun i x y hx hy=>h2 (i+1) x y (by simpa using hx) (by simpa using hy)⟩⟩
theorem cE:∀ {cs:List (List A)} {ds:List (List Value)},bp H g w cs ds↔ds.length=cs.length/\∀ (i:Nat) a d,cs[i]? = some a->ds[i]? = some d->bt H g w a d
 | [],ds=>by
  rw[bp]
  exact⟨fun h=>by subst h; simp,fun h=>by simpa using h.1⟩
 | a :: as,ds=>by
  rw[bp]
  constructor
  ·rintro ⟨d,ds',rfl,h1,h2⟩
   obtain ⟨h3,h4⟩:=cE.1 h2
   refine⟨by simp[h3],fun i x y hx hy=>?_⟩
   cases i with
   | zero=>simp at hx hy; subst hx; subst hy; exact h1
   | succ i=>exact h4 i x y (by simpa using hx) (by simpa using hy)
  ·rintro ⟨h1,h2⟩
   cases ds with
   | nil=>simp at h1
   | cons d ds'=>exact⟨d,ds',rfl,h2 0 a d rfl rfl,cE.2 ⟨by simpa using h1,fun i x y hx hy=>h2 (i+1) x y (by simpa using hx) (by simpa using hy)⟩⟩
theorem bt.get {cs:List A} {ds:List Value} (h:bt H g w cs ds) {i:Nat} {a:A} (ha:cs[i]? = some a):∃ d,ds[i]? = some d/\VR H g w a d:=by
 obtain ⟨h1,h2⟩:=dj.1 h
 have hi:i<ds.length:=by rw[h1]; exact(Tp.1 ha).1
 exact⟨ds[i],Tj hi,h2 i a _ ha (Tj hi)⟩
theorem bp.get {cs:List (List A)} {ds:List (List Value)} (h:bp H g w cs ds) {i:Nat} {a:List A} (ha:cs[i]? = some a):∃ d,ds[i]? = some d/\bt H g w a d:=by
 obtain ⟨h1,h2⟩:=cE.1 h
 have hi:i<ds.length:=by rw[h1]; exact(Tp.1 ha).1
 exact⟨ds[i],Tj hi,h2 i a _ ha (Tj hi)⟩
theorem bt.drop {cs:List A} {ds:List Value} (h:bt H g w cs ds) (n:Nat):bt H g w (cs.drop n) (ds.drop n):=by
 obtain ⟨h1,h2⟩:=dj.1 h
 exact dj.2 ⟨by simp[h1],fun i a d ha hd=>h2 (n+i) a d (by simpa using ha) (by simpa using hd)⟩
theorem bt.take {cs:List A} {ds:List Value} (h:bt H g w cs ds) (n:Nat):bt H g w (cs.take n) (ds.take n):=by
 obtain ⟨h1,h2⟩:=dj.1 h
 refine dj.2 ⟨by simp[h1],fun i a d ha hd=>?_⟩
 rw[TN] at ha hd
 split at ha
 ·rename_i hlt; rw[Ty hlt] at hd; exact h2 _ _ _ ha hd
 ·cases ha
theorem bt.append {cs cs':List A} {ds ds':List Value} (h:bt H g w cs ds) (h':bt H g w cs' ds'):bt H g w (cs++cs') (ds++ds'):=by
 obtain ⟨h1,h2⟩:=dj.1 h
 obtain ⟨h3,h4⟩:=dj.1 h'
 refine dj.2 ⟨by simp[h1,h3],fun i a d ha hd=>?_⟩
 rw[U9] at ha hd
 rw[h1] at hd
 split at ha
 ·rename_i hlt; rw[Ty hlt] at hd; exact h2 _ _ _ ha hd
 ·rename_i hlt; rw[Tw hlt] at hd; exact h4 _ _ _ ha hd
theorem bp.drop {cs:List (List A)} {ds:List (List Value)} (h:bp H g w cs ds) (n:Nat):bp H g w (cs.drop n) (ds.drop n):=by
 obtain ⟨h1,h2⟩:=cE.1 h
 exact cE.2 ⟨by simp[h1],fun i a d ha hd=>h2 (n+i) a d (by simpa using ha) (by simpa using hd)⟩
theorem bp.take {cs:List (List A)} {ds:List (List Value)} (h:bp H g w cs ds) (n:Nat):bp H g w (cs.take n) (ds.take n):=by
 obtain ⟨h1,h2⟩:=cE.1 h
 refine cE.2 ⟨by simp[h1],fun i a d ha hd=>?_⟩
 rw[TN] at ha hd
 split at ha
 ·rename_i hlt; rw[Ty hlt] at hd; exact h2 _ _ _ ha hd
 ·cases ha
theorem bp.append {cs cs':List (List A)} {ds ds':List (List Value)} (h:bp H g w cs ds) (h':bp H g w cs' ds'):bp H g w (cs++cs') (ds++ds'):=by
 obtain ⟨h1,h2⟩:=cE.1 h
 obtain ⟨h3,h4⟩:=cE.1 h'
 refine cE.2 ⟨by simp[h1,h3],fun i a d ha hd=>?_⟩
 rw[U9] at ha hd
 rw[h1] at hd
 split at ha
 ·rename_i hlt; rw[Ty hlt] at hd; exact h2 _ _ _ ha hd
 ·rename_i hlt; rw[Tw hlt] at hd; exact h4 _ _ _ ha hd
theorem bt.br {cs xs:List A} {ds ys:List Value} (h:bt H g w cs ds) (h':bt H g w xs ys) (o:Nat):bt H g w (br cs o xs) (br ds o ys):=by
 unfold Go.Proofs.Ytebkhfhcipnfgaa.br
 rw[h'.length]
 exact((h.take o).append h').append (h.drop _)
theorem bp.br {cs xs:List (List A)} {ds ys:List (List Value)} (h:bp H g w cs ds) (h':bp H g w xs ys) (o:Nat):bp H g w (br cs o xs) (br ds o ys):=by
 unfold Go.Proofs.Ytebkhfhcipnfgaa.br
 rw[h'.length]
 exact((h.take o).append h').append (h.drop _)
theorem gz {α:Type} (es:Nat):∀ (q:Nat) (xs:List α),(chunk es q xs).length=q
 | 0,_=>rfl
 | q+1,xs=>by rw[chunk,TM,gz es q]
theorem jn {α:Type} {es:Nat}:∀ {q:Nat} {xs:List α},xs.length=q*es->∀ d∈chunk es q xs,d.length=es
 | 0,_,_,d,hd=>by cases hd
 | q+1,xs,h,d,hd=>by
  rw[Ul,Wy] at h
  rcases Ud.1 hd with rfl | hd
  ·simp; omega
  ·exact jn so d hd
theorem kZ {α:Type} {es:Nat}:∀ {q:Nat} {xs:List α},xs.length=q*es->(chunk es q xs).flatten=xs
 | 0,xs,h=>by
  have:xs=[]:=TK (by simpa using h)
  subst this; rfl
 | q+1,xs,h=>by
  rw[Ul,Wy] at h
  rw[chunk,UI,kZ so]
  exact UP _ _
theorem bt.chunk {es:Nat}:∀ (q:Nat) {cs:List A} {ds:List Value},bt H g w cs ds->bp H g w (chunk es q cs) (chunk es q ds)
 | 0,_,_,_=>by rw[Go.Proofs.Ytebkhfhcipnfgaa.chunk,Go.Proofs.Ytebkhfhcipnfgaa.chunk,bp]
 | q+1,cs,ds,h=>by
  rw[Go.Proofs.Ytebkhfhcipnfgaa.chunk,Go.Proofs.Ytebkhfhcipnfgaa.chunk,bp]
  exact⟨_,_,rfl,h.take es,bt.chunk q (h.drop es)⟩
theorem bp.flat:∀ {els:List (List A)} {ds:List (List Value)},bp H g w els ds->bt H g w els.flatten ds.flatten
 | [],_,h=>by rw[bp] at h; subst h; rw[List.flatten_nil,bt]; rfl
 | a :: els,_,h=>by
  rw[bp] at h
  obtain ⟨d,ds',rfl,h1,h2⟩:=h
  rw[UI,UI]
  exact h1.append (bp.flat h2)
theorem B5 (x:Value):VR H g w (xu x) x:=by
 unfold xu
 split
 ·rw[VR]; exact⟨none,0,[],0,rfl,Tm _,fun _=>rfl,r9,r9,by rw[bp]⟩
 ·rw[VR]
theorem jc (l:List Value):bt H g w (l.map xu) l:=
 dj.2 ⟨r9,fun i a d ha hd=>by rw[T0,hd] at ha; cases ha; exact B5 d⟩
theorem nJ (x:Value):VR H g w (vU x) x:=by
 unfold vU
 split
 ·rename_i cs; rw[VR]; exact⟨cs,rfl,jc _⟩
 ·exact B5 _
mutual
theorem mI:∀ (a:A) {v c:Value},a.pj=some v->VR H g w a c->c=v
 | .any,_,_,h,_=>by simp[A.pj] at h
 | .v x,_,_,h,hr=>by simp[A.pj] at h; rw[VR] at hr; rw[hr,h]
 | .ptr ..,_,_,h,_=>by simp[A.pj] at h
 | .ep ..,_,_,h,_=>by simp[A.pj] at h
 | .ip _,_,_,h,_=>by simp[A.pj] at h
 | .imm ..,_,_,h,_=>by simp[A.pj] at h
 | .sl ..,_,_,h,_=>by simp[A.pj] at h
 | .agg cs,_,_,h,hr=>by
  simp[A.pj] at h
  obtain ⟨l,hl,rfl⟩:=h
  rw[VR] at hr
  obtain ⟨ds,rfl,h2⟩:=hr
  have:=yV cs hl h2
  rw[<-this]
 | .tup _,_,_,h,_=>by simp[A.pj] at h
 | .fn (.func f) [] [],_,_,h,hr=>by
  simp[A.pj] at h
  subst h
  rw[VR] at hr
  obtain ⟨ds,es,rfl,h1,h2⟩:=hr
  rw[bt] at h1 h2
  have e1:ds=#[]:=by cases ds; simp_all
  have e2:es=#[]:=by cases es; simp_all
  rw[e1,e2]
 | .fn (.func _) (_ :: _) _,_,_,h,_=>by simp[A.pj] at h
 | .fn (.func _) [] (_ :: _),_,_,h,_=>by simp[A.pj] at h
 | .fn (.method _) _ _,_,_,h,_=>by simp[A.pj] at h
 | .fn (.methodOf ..) _ _,_,_,h,_=>by simp[A.pj] at h
 | .fn (.via ..) _ _,_,_,h,_=>by simp[A.pj] at h
 | .fn (.yield _) _ _,_,_,h,_=>by simp[A.pj] at h
 | .ifc t x,_,_,h,hr=>by
  simp[A.pj] at h
  obtain ⟨v,hv,rfl⟩:=h
  rw[VR] at hr
  obtain ⟨d,rfl,h2⟩:=hr
  rw[mI x hv h2]
theorem yV:∀ (cs:List A) {l ds:List Value},zQ cs=some l->bt H g w cs ds->ds=l
 | [],_,_,h,hr=>by simp[zQ] at h; rw[bt] at hr; rw[hr,<-h]
 | a :: as,_,_,h,hr=>by
  rw[zQ] at h
  cases hx:a.pj with
  | none=>rw[hx] at h; cases h
  | some x=>
   rw[hx] at h
   cases hl:zQ as with
   | none=>rw[hl] at h; cases h
   | some l=>
    rw[hl] at h
    cases h
    rw[bt] at hr
    obtain ⟨d,ds',rfl,h1,h2⟩:=hr
    rw[mI a hx h1,yV as hl h2]
end
theorem qm {a:A} {c:Value} (hc:a.cell=true) (h:VR H g w a c):c.oneCell'=true:=by
 cases a with
 | any=>simp[A.cell] at hc
 | v x=>rw[VR] at h; rw[h]; simpa [A.cell] using hc
 | ptr b o=>
  rw[VR] at h
  split at h
  ·obtain ⟨k,_,rfl⟩:=h; rfl
  ·exact h.elim
  ·exact h
  ·exact h.elim
 | ep b i o=>
  rw[VR] at h
  split at h
  ·obtain ⟨_,k,_,rfl⟩:=h; rfl
  ·exact h.elim
  ·exact h
  ·exact h.elim
 | ip cs=>rw[VR] at h; obtain ⟨_,_,_,rfl,_⟩:=h; rfl
 | imm els clip=>rw[VR] at h; obtain ⟨_,_,_,_,rfl,_⟩:=h; rfl
 | sl b o n clip=>
  rw[VR] at h
  split at h
  ·obtain ⟨_,_,_,rfl,_⟩:=h; rfl
  ·obtain ⟨_,_,_,rfl,_⟩:=h; rfl
  ·exact h.elim
  ·exact h
  ·exact h.elim
 | agg _=>simp[A.cell] at hc
 | tup _=>simp[A.cell] at hc
 | fn f a b=>rw[VR] at h; obtain ⟨_,_,rfl,_⟩:=h; rfl
 | ifc t x=>rw[VR] at h; obtain ⟨_,rfl,_⟩:=h; rfl
 | nq _=>simp[A.cell] at hc
 | yld b=>
  rw[VR] at h
  split at h
  ·obtain ⟨_,_,rfl⟩:=h; rfl
  ·exact h.elim
  ·exact h
  ·exact h.elim
 | mr b=>
  rw[VR] at h
  split at h
  ·obtain ⟨_,_,rfl⟩:=h; rfl
  ·exact h.elim
  ·exact h
  ·exact h.elim
 | mv k ks vs=>rw[VR] at h; obtain ⟨_,_,_,rfl,_⟩:=h; rfl
theorem tE {c:Value} (h:c.oneCell'=true):c.cells=#[c]:=by cases c<;>first | rfl | simp[Value.oneCell'] at h
theorem lZ {a:A} {c:Value} {cs:List A} (ha:a.cells? = some cs) (h:VR H g w a c):bt H g w cs c.cells.toList/\(∀ x∈c.cells.toList,x.oneCell'=true)/\∀ x∈cs,x.cell=true:=by
 have one:∀ {x:A} {d:Value},x.cell=true->VR H g w x d->bt H g w [x] d.cells.toList/\(∀ y∈d.cells.toList,y.oneCell'=true)/\∀ y∈[x],y.cell=true:=fun {x d} hx hv=>by
  have h1:=qm hx hv
  rw[tE h1]
  refine⟨?_,by simp[h1],by simp[hx]⟩
  rw[bt]; exact⟨d,[],rfl,hv,x5⟩
 cases a with
 | any=>simp[A.cells?] at ha
 | tup _=>simp[A.cells?] at ha
 | agg as=>
  simp only[A.cells?,cond_eq_ite] at ha
  split at ha
  ·rename_i hall
   cases ha
   rw[VR] at h
   obtain ⟨ds,rfl,h2⟩:=h
   refine⟨h2,fun x hx=>?_,TA.1 hall⟩
   obtain ⟨i,hi,rfl⟩:=Ui hx
   have hl:=h2.length
   obtain ⟨d,hd,hv⟩:=h2.get (i:=i) (Tj (by simp only[Value.cells] at hi; omega))
   have hd':(Value.agg ds).cells.toList[i]? = some d:=hd
   rw[Tj hi] at hd'
   cases hd'
   exact qm (TA.1 hall _ (Ub _)) hv
  ·cases ha
 | v x=>
  simp only[A.cells?,cond_eq_ite] at ha
  split at ha
  ·rename_i hx; cases ha; exact one hx h
  ·cases ha
 | nq _=>simp[A.cells?] at ha
 | _=>simp only[A.cells?,Uf] at ha; subst ha; exact one rfl h
theorem ui {t:TypeId} {cs:List A} {ds:List Value} {a:A} (hj:join P t cs=some a) (h:bt H g w cs ds):∃ c,VR H g w a c/\(if lj P t=true then c=.agg ds.toArray else ds=[c]):=by
 unfold Go.Proofs.Ytebkhfhcipnfgaa.join at hj
 cases hA:lj P t
 ·rw[hA] at hj
  simp only[Tk] at hj
  split at hj
  ·cases hj
   rw[bt] at h
   obtain ⟨d,ds',rfl,h1,h2⟩:=h
   rw[bt] at h2
   subst h2
   exact⟨d,h1,r9⟩
  ·cases hj
 ·rw[hA] at hj
  simp only[Tn,Uf] at hj
  subst hj
  exact⟨.agg ds.toArray,by rw[VR]; exact⟨_,rfl,by simpa using h⟩,r9⟩
theorem sG (t:TypeId) {d:TypeDesc} (hu:P.underlying t=some d) (w:World):(isAgg t).run P w=.ok (lj P t) w:=by
 unfold isAgg lj
 rw[TZ,Tz hu w,hu]
 cases d<;>rfl
theorem k9 {t:TypeId} {n:Nat} (h:cR P t=some n):∃ d,P.underlying t=some d:=by
 unfold cR at h
 cases hu:P.underlying t with
 | none=>rw[hu] at h; cases h
 | some d=>exact⟨d,rfl⟩
theorem fR {t:TypeId} {n:Nat} (h:cR P t=some n):∃ i,P.info? t=some i/\i.size=n:=by
 obtain ⟨d,hu⟩:=k9 h
 unfold cR at h
 rw[hu] at h
 cases hi:P.info? t with
 | none=>rw[hi] at h; cases h
 | some i=>rw[hi] at h; exact⟨i,rfl,by simpa using h⟩
theorem dP {t:TypeId} {n:Nat} (h:cR P t=some n) (w:World):(sizeOf t).run P w=.ok n w:=by
 obtain ⟨i,hi,rfl⟩:=fR h
 simp[sizeOf,typeInfo,hi]
theorem vQ {t:TypeId} {n:Nat} (hs:cR P t=some n) {d:TypeDesc} (hu:P.underlying t=some d) {k off:Nat} {ds:List Value} (hl:ds.length=n) (hc:w.rangeAt k off ds) {c:Value} (h:if lj P t=true then c=.agg ds.toArray else ds=[c]) :
  (loadVar t ⟨k,off,none⟩).run P w=.ok c w:=by
 have hc':(loadCells ⟨k,off,none⟩ ds.length).run P w=.ok ds.toArray w:=
  run_loadCells_list (P:=P) w ⟨k,off,none⟩ ds (fun j v hv=>by rw[UF]; exact hc j v hv)
 unfold loadVar
 rw[TZ,sG t hu w]
 cases hA:lj P t
 ·rw[hA] at h
  simp at h
  subst h
  have:=hc 0 c rfl
  simp only[UT] at this
  simp[load,Sem.run,this]
 ·rw[hA] at h
  simp at h
  subst h
  simp[dP hs,<-hl,hc']
end
section
open Go.RowKit
variable {P:Program} {H:ay} {g:Gh} {w0 w:World}
theorem bq {α β:Type} {x:Option α} {f:α->Option β} {y:β} (h:x.bind f=some y):∃ a,x=some a/\f a=some y:=by
 cases x with
 | none=>cases h
 | some a=>exact⟨a,rfl,h⟩
theorem bu {α:Type} {b:Bool} {x y:α}:(bif b then x else y)=if b=true then x else y:=by cases b<;>rfl
theorem dW {α:Type} {b:Bool} {x:Option α} {y:α} (h:(bif b then none else x)=some y):b=false/\x=some y:=by cases b<;>simp_all
theorem bl {α:Type} {b:Bool} {x:Option α} {y:α} (h:(bif b then x else none)=some y):b=true/\x=some y:=by cases b<;>simp_all
theorem bD.drop {k off:Nat} {ds:List Value} (h:bD H g w k off ds) (n:Nat):bD H g w k (off+n) (ds.drop n):=fun j v hj=>by
 rw[UJ] at hj
 rw[U5]
 exact h (n+j) v hj
theorem bD.take {k off:Nat} {ds:List Value} (h:bD H g w k off ds) (n:Nat):bD H g w k off (ds.take n):=fun j v hj=>by
 rw[TN] at hj
 split at hj
 ·exact h j v hj
 ·cases hj
theorem bD.range {k off:Nat} {ds:List Value} (h:bD H g w k off ds):w.rangeAt k off ds:=fun j v hj=>(h j v hj).1
theorem jq {es:Nat}:∀ {ds:List (List Value)},(∀ d∈ds,d.length=es)->∀ {j:Nat} {d:List Value},ds[j]? = some d->∀ i,i<es->ds.flatten[j*es+i]? = d[i]?
 | [],_,j,d,h,i,_=>by simp at h
 | x :: xs,hl,j,d,h,i,hi=>by
  have hx:=hl x r9
  cases j with
  | zero=>simp at h; subst h; simp[U9,hx,hi]
  | succ j=>
   have:=jq (ds:=xs) (fun d hd=>hl d (by simp[hd])) (j:=j) (d:=d) (by simpa using h) i hi
   rw[UI,T4 (by rw[hx,Ul]; omega),hx,<-this]
   congr 1
   rw[Ul]; omega
theorem bV {es:Nat}:∀ {ds:List (List Value)},(∀ d∈ds,d.length=es)->ds.flatten.length=ds.length*es
 | [],_=>r9
 | x :: xs,hl=>by
  rw[UI,TH,hl x r9,bV (fun d hd=>hl d (by simp[hd])),TM,Ul]; omega
theorem bD.elem {k off es:Nat} {ds:List (List Value)} (h:bD H g w k off ds.flatten) (hl:∀ d∈ds,d.length=es) {j:Nat} {d:List Value} (hd:ds[j]? = some d):bD H g w k (off+j*es) d:=fun i v hi=>by
 have hdl:d.length=es:=hl d (TT hd)
 have hi':i<es:=by rw[<-hdl]; exact(Tp.1 hi).1
 rw[U5]
 exact h (j*es+i) v (by rw[jq hl hd i hi']; exact hi)
theorem bD.sub {k off es:Nat} {ds:List (List Value)} (h:bD H g w k off ds.flatten) (hl:∀ d∈ds,d.length=es) (l m:Nat):bD H g w k (off+l*es) ((ds.drop l).take m).flatten:=fun i v hi=>by
 have hl2:∀ d∈(ds.drop l).take m,d.length=es:=fun d hd=>hl d (T2 (TX hd))
 have hlen:=(Tp.1 hi).1
 rw[bV hl2] at hlen
 have hes:0<es:=by rcases VA es with h0 | h0; (rw[h0] at hlen; simp at hlen); exact h0
 have hq:i / es<((ds.drop l).take m).length:=V5 (by rw[Ux]; exact hlen)
 have hdm:=V6 i es
 have hr:=VJ i hes
 obtain ⟨d,hd⟩:∃ d,((ds.drop l).take m)[i / es]? = some d:=⟨_,Tj hq⟩
 have e1:=jq hl2 hd (i % es) hr
 have e2:i / es*es+i % es=i:=by rw[Ux]; exact hdm
 rw[e2,hi] at e1
 have hd2:ds[l+i / es]? = some d:=by
  rw[TN] at hd
  split at hd
  ·rwa [UJ] at hd
  ·cases hd
 have e3:=jq hl hd2 (i % es) hr
 have:=h ((l+i / es)*es+i % es) v (by rw[e3,<-e1])
 rwa [show off+((l+i / es)*es+i % es)=off+l*es+i by rw[Ul]; omega] at this
theorem nC {a:A} {c:Value} {j:Nat} (h:idx a=some j) (hv:VR H g w a c):∃ k n,c=.int k n/\0<=n/\n.toNat=j:=by
 unfold idx at h
 split at h
 ·rename_i k n
  replace h:=bl h
  obtain ⟨h1,h2⟩:=h
  rw[VR] at hv
  exact⟨k,n,hv,by simpa using h1,by simpa using h2⟩
 ·cases h
theorem py (hr:Rel H g w0 w) {t:TypeId} {x y:A} {c:Value} (h:lY P t x H=some y) (hx:VR H g w x c):∃ d,(Instr.loadAt t c).run P w=.ok d w/\VR H g w y d:=by
 unfold lY at h
 replace h:=bq h
 obtain ⟨n,hn,h⟩:=h
 replace h:=dW h
 obtain ⟨_,h⟩:=h
 obtain ⟨dd,hu⟩:=k9 hn
 have fin:∀ {k off:Nat} {cs:List A} {ds:List Value},c=.pointer (some ⟨k,off,none⟩)->bt H g w cs ds->cs.length=n->w.rangeAt k off ds->join P t cs=some y->∃ d,(Instr.loadAt t c).run P w=.ok d w/\VR H g w y d:=by
  intro k off cs ds hc hv hl hcells hj
  obtain ⟨d,h1,h2⟩:=ui hj hv
  refine⟨d,?_,h1⟩
  subst hc
  simp only[Instr.loadAt,Instr.sureAddr,TZ,Vv,TW]
  exact vQ hn hu (hv.length.trans hl) hcells h2
 have seg:∀ {k:Nat} {arr:Array Value} {ty:TypeId} (o:Nat) (ds:List Value),w.heap[k]? = some (.cells arr ty (0,0))->(∀ (j:Nat) v,ds[j]? = some v->arr[o+j]? = some v)->w.rangeAt k o ds:=fun {k arr ty} o ds hk hd j v hj=>by
  rw[UU w k (o+j) arr ty (0,0) hk]; exact hd j v hj
 split at h
 ·rename_i b o
  split at h
  ·rename_i cs hb
   replace h:=bl h
   obtain ⟨h1,h2⟩:=h
   have h1:=Tv h1
   rw[VR,hb] at hx
   obtain ⟨k,hk,rfl⟩:=hx
   obtain ⟨k',arr,ty,hk',ha,hv⟩:=hr.blk b _ hb
   rw[hk] at hk'; cases hk'
   refine fin rfl ((hv.drop o).take n) so (seg o _ ha fun j v hj=>?_) h2
   rw[TN] at hj
   split at hj
   ·rw[UJ] at hj; simpa using hj
   ·cases hj
  ·cases h
 ·rename_i b i o
  split at h
  ·rename_i es els hb
   split at h
   ·rename_i cs hi
    rw[VR,hb] at hx
    obtain ⟨hlt,k,hk,rfl⟩:=hx
    obtain ⟨ds,hv,hl,hrow⟩:=hr.blk b _ hb
    obtain ⟨k',arr,ty,hk',ha,hcell⟩:=hrow r7
    rw[hk] at hk'; cases hk'
    obtain ⟨d,hd,hvd⟩:=hv.get hi
    rw[bu] at h
    split at h
    rotate_left
    ·replace h:=bl h
     obtain ⟨h1,h2⟩:=h
     simp only[Tl,VK] at h1
     obtain ⟨rfl,h1⟩:=h1
     have hcs:cs.length=es:=by rw[<-hvd.length]; exact hl d (TT hd)
     refine fin rfl ((hv.drop i).take (n / cs.length)).flat h1 (seg _ _ ha fun j v hj=>?_) h2
     refine hcell _ v ?_
     have e1:ds.flatten=(ds.take i).flatten++(ds.drop i).flatten:=Ta
     have e2:(ds.take i).flatten.length=i*es:=by
      have h3:=hv.length
      rw[bV (es:=es) (fun d hd=>hl d (TX hd)),Uz,UY r7]
     have e3:(ds.drop i).flatten=((ds.drop i).take (n / cs.length)).flatten++((ds.drop i).drop (n / cs.length)).flatten:=Ta
     rw[e1,T4 r7,e2,e3]
     rw[TG (by
      have:=(Tp.1 hj).1
      omega)]
     rw[<-hj]; congr 1; omega
    rename_i h1
    have h2:=h
    have h1:=Tv h1
    refine fin rfl ((hvd.drop o).take n) so (seg _ _ ha fun j v hj=>?_) h2
    rw[TN] at hj
    split at hj
    ·rw[UJ] at hj
     have hdl:d.length=es:=hl d (TT hd)
     have hoj:o+j<es:=by rw[<-hdl]; exact(Tp.1 hj).1
     have:=hcell (i*es+(o+j)) v (by rw[jq hl hd _ hoj]; exact hj)
     rwa [<-U5] at this
    ·cases hj
   ·cases h
  ·cases h
 ·rename_i cs
  replace h:=bl h
  obtain ⟨h1,h2⟩:=h
  have h1:=Tv h1
  rw[VR] at hx
  obtain ⟨k,off,ds,rfl,hc,hv⟩:=hx
  exact fin rfl (hv.take n) so (hc.take n).range h2
 ·cases h
theorem qa {x y:A} {i:Nat} {c:Value} (h:lX x i=some y) (hx:VR H g w x c):∃ d,(Instr.extract c i).run P w=.ok d w/\VR H g w y d:=by
 unfold lX at h
 split at h
 ·rw[VR] at hx
  obtain ⟨ds,rfl,hv⟩:=hx
  obtain ⟨d,hd,hvd⟩:=hv.get h
  have hd':ds[i]? = some d:=by simpa using hd
  exact⟨d,by simp[Instr.extract,hd'],hvd⟩
 ·cases h
theorem v3 {t:TypeId} {n off:Nat} (hs:cR P t=some n) {ds:Array Value} {c:Value} (h:if lj P t=true then c=.agg ((ds.toList.drop off).take n).toArray else (ds.toList.drop off).take n=[c]) :
  (part t ds off).run P w=.ok c w:=by
 obtain ⟨d,hu⟩:=k9 hs
 unfold part
 rw[TZ,sG t hu w]
 cases hA:lj P t
 ·rw[hA] at h
  simp at h
  have:ds[off]? = some c:=by
   have h0:((ds.toList.drop off).take n)[0]? = some c:=by rw[h]; rfl
   rw[TN] at h0
   split at h0
   ·simpa using h0
   ·cases h0
  simp[this]
 ·rw[hA] at h
  simp at h
  subst h
  simp[dP hs]
  apply Va
  simp[List.take_drop,Wm]
theorem tu {t:TypeId} {x y:A} {i:Nat} {c:Value} (h:wN P t x i=some y) (hx:VR H g w x c):∃ d,(Instr.field t c i).run P w=.ok d w/\VR H g w y d:=by
 unfold wN at h
 split at h
 ·rename_i fs cs hu
  replace h:=bq h
  obtain ⟨f,hf,h⟩:=h
  replace h:=bq h
  obtain ⟨n,hn,h⟩:=h
  replace h:=bl h
  obtain ⟨h1,h2⟩:=h
  have h1:=Tv h1
  rw[VR] at hx
  obtain ⟨ds,rfl,hv⟩:=hx
  obtain ⟨d,h3,h4⟩:=ui h2 ((hv.drop f.offset).take n)
  refine⟨d,?_,h3⟩
  unfold Instr.field
  rw[TZ,Tz hu w]
  simp[hf,asAgg]
  exact v3 hn h4
 ·cases h
theorem tv {t:TypeId} {x i y:A} {c e:Value} (h:wP P t x i=some y) (hx:VR H g w x c) (hi:VR H g w i e):∃ d,(Instr.index t c e).run P w=.ok d w/\VR H g w y d:=by
 unfold wP at h
 replace h:=bq h
 obtain ⟨j,hj,h⟩:=h
 obtain ⟨ik,n,rfl,hn0,rfl⟩:=nC hj hi
 split at h
 ·rename_i len el cs hu
  replace h:=bq h
  obtain ⟨m,hm,h⟩:=h
  replace h:=bl h
  obtain ⟨h1,h2⟩:=h
  simp only[Tl,Tu] at h1
  rw[VR] at hx
  obtain ⟨ds,rfl,hv⟩:=hx
  obtain ⟨d,h3,h4⟩:=ui h2 ((hv.drop (n.toNat*m)).take m)
  refine⟨d,?_,h3⟩
  have hlt:n<(len:Int):=r7
  unfold Instr.index
  simp[asIntOf,Tz hu,hn0,hlt,dP hm]
  exact v3 hm h4
 ·rename_i s hu
  cases hb:s[n.toNat]? with
  | none=>rw[hb] at h; cases h
  | some b=>
   rw[hb] at h
   cases h
   rw[VR] at hx
   subst hx
   refine⟨.int .u8 b.toNat,?_,u2⟩
   unfold Instr.index
   simp[asIntOf,Tz hu,hn0,hb]
 ·cases h
theorem sO {b o:Nat} (h:gn H (.ptr b o)=true):∃ cs,H[b]? = some (.box cs):=by
 unfold gn at h; cases hb:H[b]? with
 | none=>simp[hb] at h
 | some B=>cases B<;>simp[hb] at h ⊢
theorem wh {b i o:Nat} (h:gn H (.ep b i o)=true):∃ es els,H[b]? = some (.row true es els):=by
 unfold gn at h; cases hb:H[b]? with
 | none=>simp[hb] at h
 | some B=>cases B with
  | row wr _ _=>cases wr<;>simp[hb] at h ⊢
  | _=>simp[hb] at h
theorem Cc {b o n:Nat} {cl:Bool} (h:gn H (.sl b o n cl)=true):∃ wr es els,H[b]? = some (.row wr es els):=by
 unfold gn at h; cases hb:H[b]? with
 | none=>simp[hb] at h
 | some B=>cases B<;>simp[hb] at h ⊢
theorem oM {t:TypeId} {x y:A} {i:Nat} {c:Value} (h:fg P t x i H=some y) (hx:VR H g w x c) :
  ∃ d,(Instr.fieldAt t c i).run P w=.ok d w/\VR H g w y d:=by
 unfold fg at h
 replace h:=bl h
 obtain ⟨hok,h⟩:=h
 split at h
 ·rename_i fs hu
  replace h:=bq h
  obtain ⟨f,hf,h⟩:=h
  replace h:=bq h
  obtain ⟨n,hn,h⟩:=h
  replace h:=dW h
  obtain ⟨hn0,h⟩:=h
  have hn0:n≠0:=by simpa using hn0
  have fin:∀ {k off:Nat},c=.pointer (some ⟨k,off,none⟩)->(Instr.fieldAt t c i).run P w=.ok (.pointer (some ⟨k,off+f.offset,none⟩)) w:=fun {k off} hc=>by
   subst hc
   unfold Instr.fieldAt
   rw[TZ,Tz hu w]
   simp[hf,Instr.sureAddr,fieldPlace,dP hn,hn0,UF]
  split at h
  ·rename_i b o
   cases h
   obtain ⟨cs,hb⟩:=sO hok
   rw[VR,hb] at hx
   obtain ⟨k,hk,rfl⟩:=hx
   exact⟨_,fin rfl,by rw[VR,hb]; exact⟨k,hk,rfl⟩⟩
  ·rename_i b j o
   cases h
   obtain ⟨es,els,hb⟩:=wh hok
   rw[VR,hb] at hx
   obtain ⟨hlt,k,hk,rfl⟩:=hx
   exact⟨_,fin rfl,by rw[VR,hb]; exact⟨hlt,k,hk,by rw[U5]⟩⟩
  ·cases h
   rw[VR] at hx
   obtain ⟨k,off,ds,rfl,hc,hv⟩:=hx
   exact⟨_,fin rfl,by rw[VR]; exact⟨k,_,_,rfl,hc.drop _,hv.drop _⟩⟩
  ·cases h
 ·cases h
theorem wQ {x y:A} {c:Value} {t ty:TypeId} (h:qb P t x H=some y) (hx:VR H g w x c):∃ d,(Builtin.len_ #[t] ty #[c]).run P w=.ok d w/\VR H g w y d:=by
 unfold qb at h
 replace h:=bl h
 obtain ⟨hok,h⟩:=h
 split at h
 ·rename_i s hu
  cases h
  rw[VR] at hx
  subst hx
  exact⟨_,by simp[Builtin.len_,Tz hu,goInt]; rfl,u2⟩
 ·rename_i e els cl hu
  cases h
  rw[VR] at hx
  obtain ⟨a,cap,ds,es,rfl,_⟩:=hx
  exact⟨_,by simp[Builtin.len_,Tz hu,goInt]; rfl,u2⟩
 ·rename_i e b o n cl hu
  cases h
  obtain ⟨wr,es,els,hb⟩:=Cc hok
  rw[VR,hb] at hx
  cases wr
  ·obtain ⟨_,a,cap,rfl,_⟩:=hx
   exact⟨_,by simp[Builtin.len_,Tz hu,goInt]; rfl,u2⟩
  ·obtain ⟨_,a,cap,rfl,_⟩:=hx
   exact⟨_,by simp[Builtin.len_,Tz hu,goInt]; rfl,u2⟩
 ·cases h
theorem bp.lens {els:List (List A)} {ds:List (List Value)} (h:bp H g w els ds) {es j n:Nat} (hl:∀ d∈ds,d.length=es) {cs:List A} (hj:els[j]? = some cs) (hn:cs.length=n):es=n:=by
 obtain ⟨d,hd,hv⟩:=h.get hj
 rw[<-hl d (TT hd),hv.length,hn]
theorem oN (hr:Rel H g w0 w) {t:TypeId} {x i y:A} {c e:Value} (h:dF P t x i H=some y) (hx:VR H g w x c) (hi:VR H g w i e):∃ d,(Instr.indexAt t c e).run P w=.ok d w/\VR H g w y d:=by
 unfold dF at h
 replace h:=bq h
 obtain ⟨j,hj,h⟩:=h
 obtain ⟨ik,n,rfl,hn0,rfl⟩:=nC hj hi
 replace h:=bl h
 obtain ⟨hok,h⟩:=h
 split at h
 ·rename_i el hu
  replace h:=bq h
  obtain ⟨m,hm,h⟩:=h
  have fin:∀ {k off len cap:Nat},c=.slice (some ⟨k,off,none⟩) len cap->n.toNat<len->(Instr.indexAt t c (.int ik n)).run P w=.ok (.pointer (some ⟨k,off+n.toNat*m,none⟩)) w:=fun {k off len cap} hc hlt=>by
   subst hc
   have:n<(len:Int):=r7
   unfold Instr.indexAt
   simp[asIntOf,Tz hu,hn0,this,dP hm,UF]
  split at h
  ·rename_i els cl
   replace h:=bq h
   obtain ⟨cs,hcs,h⟩:=h
   replace h:=bl h
   obtain ⟨h1,h⟩:=h
   cases h
   have h1:cs.length=m:=by simpa using h1
   rw[VR] at hx
   obtain ⟨a,cap,ds,es,rfl,h2,h3,h4,h5,h6⟩:=hx
   have hlt:n.toNat<els.length:=(Tp.1 hcs).1
   obtain ⟨k,off,rfl,hc⟩:=h5 r7
   obtain rfl:=h6.lens h4 hcs h1
   obtain ⟨d,hd,hv⟩:=h6.get hcs
   exact⟨_,fin rfl hlt,by rw[VR]; exact⟨k,_,d,rfl,hc.elem h4 hd,hv⟩⟩
  ·rename_i b o len cl
   replace h:=bl h
   obtain ⟨hlt,h⟩:=h
   have hlt:=Tv hlt
   rw[VR] at hx
   split at h
   ·rename_i es els hb
    replace h:=bl h
    obtain ⟨h1,h⟩:=h
    cases h
    obtain rfl:es=m:=by simpa using h1
    rw[hb] at hx
    obtain ⟨h2,a,cap,rfl,h3,h4,h5⟩:=hx
    obtain ⟨k,hk,rfl⟩:=h5 r7
    refine⟨_,fin rfl hlt,?_⟩
    rw[VR,hb]
    exact⟨r7,k,hk,by rw[Ul]; rfl⟩
   ·rename_i es els hb
    replace h:=bl h
    obtain ⟨h1,h⟩:=h
    obtain rfl:es=m:=by simpa using h1
    rw[hb] at hx
    obtain ⟨h2,a,cap,rfl,h3,h4,h5,_⟩:=hx
    obtain ⟨k,off,rfl,hc⟩:=h5 r7
    cases hcs:els[o+n.toNat]? with
    | none=>rw[hcs] at h; cases h
    | some cs=>
     rw[hcs] at h
     cases h
     obtain ⟨hga,hgl⟩:=hr.blk b _ hb
     obtain ⟨d,hd,hv⟩:=hga.get hcs
     refine⟨_,fin rfl hlt,?_⟩
     rw[VR]
     refine⟨k,_,d,rfl,hc.elem (fun d hd=>hgl d (T2 (TX hd))) ?_,hv⟩
     rw[TN,Ty hlt,UJ]; exact hd
   ·cases h
  ·cases h
 ·rename_i len el hu
  replace h:=bq h
  obtain ⟨m,hm,h⟩:=h
  replace h:=dW h
  obtain ⟨hlt,h⟩:=h
  have hlt:n.toNat<len:=by simpa using hlt
  have fin:∀ {k off:Nat},c=.pointer (some ⟨k,off,none⟩)->(Instr.indexAt t c (.int ik n)).run P w=.ok (.pointer (some ⟨k,off+n.toNat*m,none⟩)) w:=fun {k off} hc=>by
   subst hc
   have:n<(len:Int):=r7
   unfold Instr.indexAt
   simp[asIntOf,Tz hu,hn0,this,dP hm,UF,Instr.sureAddr]
  split at h
  ·rename_i b o
   cases h
   obtain ⟨cs,hb⟩:=sO hok
   rw[VR,hb] at hx
   obtain ⟨k,hk,rfl⟩:=hx
   exact⟨_,fin rfl,by rw[VR,hb]; exact⟨k,hk,rfl⟩⟩
  ·rename_i b q o
   obtain ⟨es,els,hb⟩:=wh hok
   simp only[hb] at h
   rw[VR,hb] at hx
   obtain ⟨hq,k,hk,rfl⟩:=hx
   rw[bu] at h
   split at h
   ·rename_i hc
    simp only[Tl,VK,Tu] at hc
    obtain ⟨⟨rfl,rfl⟩,hlt2⟩:=hc
    cases h
    exact⟨_,fin rfl,by rw[VR,hb]; exact⟨hlt2,k,hk,by rw[Ul]; simp⟩⟩
   ·cases h
    exact⟨_,fin rfl,by rw[VR,hb]; exact⟨hq,k,hk,by rw[U5]⟩⟩
  ·cases h
   rw[VR] at hx
   obtain ⟨k,off,ds,rfl,hc,hv⟩:=hx
   exact⟨_,fin rfl,by rw[VR]; exact⟨k,_,_,rfl,hc.drop _,hv.drop _⟩⟩
  ·cases h
 ·cases h
theorem wO {t:TypeId} {x y:A} {c:Value} (h:CM P t x=some y) (hx:VR H g w x c):∃ d,(Instr.makeInterface t c).run P w=.ok d w/\VR H g w y d:=by
 unfold CM at h
 split at h
 ·cases h
 ·cases h
 ·rename_i d hn hu
  cases h
  refine⟨.iface t c,?_,by rw[VR]; exact⟨c,rfl,hx⟩⟩
  unfold Instr.makeInterface
  rw[TZ,Tz hu w]
  cases d<;>first | rfl | exact absurd rfl (hn _)
theorem vh (op:BinOp) (t:TypeId) (x y:Operand) (a b:Value):eqGuard op t x y a b=eqGuard op t (rep (HD x)) (rep (HD y)) a b:=by
 unfold eqGuard
 cases x<;>cases y<;>rfl
theorem oW {q:TypeId->Value->Value->Option Bool} {d:Nat} (hq:∀ t x y r,q t x y=some r->∀ w,(Op.equalIn d t x y).run P w=.ok r w) (xs ys:Array Value):∀ (fs:List Field) (r:Bool),qq P q xs ys fs=some r->∀ w,(Op.eqFields d xs ys fs).run P w=.ok r w
 | [],r,h,w=>by cases h; simp[Op.eqFields]
 | [f],r,h,w=>by
  unfold qq at h
  rw[bu] at h
  unfold Op.eqFields
  split at h
  ·rename_i hn
   cases h
   have hn:f.name = "_" := by simpa using hn
   simp[hn,Op.eqFields]
  ·rename_i hn
   have hn:f.name ≠ "_" := by simpa using hn
   obtain ⟨a,ha,h⟩:=bq h
   obtain ⟨b,hb,h⟩:=bq h
   rw[Ty hn]
   simp only[TZ,dB ha w,dB hb w,hq _ _ _ _ h w,TW]
   cases r<;>simp[Op.eqFields]
 | f :: g :: fs,r,h,w=>by
  unfold qq at h
  rw[bu] at h
  unfold Op.eqFields
  split at h
  ·rename_i hn
   have hn:f.name = "_" := by simpa using hn
   rw[Tw (by simp[hn])]
   exact oW hq xs ys (g :: fs) r h w
  ·rename_i hn
   have hn:f.name ≠ "_" := by simpa using hn
   obtain ⟨a,ha,h⟩:=bq h
   obtain ⟨b,hb,h⟩:=bq h
   obtain ⟨r1,h1,h⟩:=bq h
   rw[Ty hn]
   simp only[TZ,dB ha w,dB hb w,hq _ _ _ _ h1 w,TW]
   cases hf:qq P q xs ys (g :: fs) with
   | none=>rw[hf] at h; cases h
   | some r2=>
    rw[hf] at h; cases h
    have:=oW hq xs ys (g :: fs) r2 hf w
    cases r1<;>simp[this]
theorem sv {q:TypeId->Value->Value->Option Bool} {d:Nat} (hq:∀ t x y r,q t x y=some r->∀ w,(Op.equalIn d t x y).run P w=.ok r w) (e:TypeId) (c:Nat) (xs ys:Array Value):∀ (is:List Nat) (r:Bool),su P q e c xs ys is=some r->∀ w,(Op.eqItems d e c xs ys is).run P w=.ok r w
 | [],r,h,w=>by cases h; simp[Op.eqItems]
 | [i],r,h,w=>by
  unfold su at h
  unfold Op.eqItems
  obtain ⟨a,ha,h⟩:=bq h
  obtain ⟨b,hb,h⟩:=bq h
  simp only[TZ,dB ha w,dB hb w,hq _ _ _ _ h w,TW]
  cases r<;>simp[Op.eqItems]
 | i :: j :: is,r,h,w=>by
  unfold su at h
  unfold Op.eqItems
  obtain ⟨a,ha,h⟩:=bq h
  obtain ⟨b,hb,h⟩:=bq h
  obtain ⟨r1,h1,h⟩:=bq h
  simp only[TZ,dB ha w,dB hb w,hq _ _ _ _ h1 w,TW]
  cases hf:su P q e c xs ys (j :: is) with
  | none=>rw[hf] at h; cases h
  | some r2=>
   rw[hf] at h; cases h
   have:=sv hq e c xs ys (j :: is) r2 hf w
   cases r1<;>simp[this]
theorem yn (D:Nat):∀ (d:Nat) (t:TypeId) (x y:Value) (r:Bool),I7 P d t x y=some r->∀ w,(Op.equalIn (D+d) t x y).run P w=.ok r w
 | 0,_,_,_,_,h,_=>by cases h
 | d+1,t,x,y,r,h,w=>by
  have ih:=yn D d
  unfold I7 at h
  split at h
  ·rename_i k0 k a k' b hu
   obtain ⟨hk,h⟩:=bl h
   cases h
   have hk:k=k':=by simpa using hk
   subst hk
   simp[Op.equalIn,Tz hu]
  ·rename_i a b hu
   cases h
   simp[Op.equalIn,Tz hu]
  ·rename_i a b hu
   cases h
   simp[Op.equalIn,Tz hu]
  ·rename_i fs xs ys hu
   obtain ⟨hs,h⟩:=dW h
   have hfs:P.fieldsOf t=fs:=by simp[Program.fieldsOf,hu]
   exact(run_equalIn_struct w (D+d) t xs ys (by rw[hfs]; exact hu) hs).trans (oW ih xs ys _ r h w)
  ·rename_i n e xs ys hu
   obtain ⟨i,hi,h⟩:=bq h
   exact(run_equalIn_array w (D+d) xs ys hu hi).trans (sv ih e (P.cellsOf e) xs ys _ r h w)
  ·cases h
theorem wJ {op:BinOp} {t:TypeId} {x y z:A} {c d:Value} {p q:Operand} (h:jx P op t (HD p) (HD q) x y=some z) (hx:VR H g w x c) (hy:VR H g w y d) :
  ∃ e,(do eqGuard op t p q c d; binOp op t c d:Sem Value).run P w=.ok e w/\VR H g w z e:=by
 unfold jx at h
 have eqs:∀ {r:Bool} {xs ys:List A} (op:BinOp),sw P t (.agg xs) (.agg ys)=some r->VR H g w (.agg xs) c->VR H g w (.agg ys) d->∃ cs ds,c=.agg cs/\d=.agg ds/\(eqGuard op t p q c d).run P w=.ok () w/\(Op.equalIn 10000 t c d).run P w=.ok r w:=by
  intro r xs ys op h hx hy
  unfold sw at h
  obtain ⟨hg,h⟩:=dW h
  obtain ⟨a,ha,h⟩:=bq h
  obtain ⟨b,hb,h⟩:=bq h
  obtain rfl:=mI _ ha hx
  obtain rfl:=mI _ hb hy
  rw[VR] at hx hy
  obtain ⟨cs,rfl,_⟩:=hx
  obtain ⟨ds,rfl,_⟩:=hy
  exact⟨cs,ds,rfl,rfl,run_eqGuard_agg w op t p q cs ds hg,yn 9980 20 t _ _ r h w⟩
 split at h
 ·cases hr:sw P t (.agg _) (.agg _) with
  | none=>rw[hr] at h; cases h
  | some r=>
   rw[hr] at h; cases h
   obtain ⟨cs,ds,rfl,rfl,h1,h2⟩:=eqs .eql hr hx hy
   exact⟨.bool r,by simp only[TZ,h1,TW,run_eql_struct,h2],u2⟩
 ·cases hr:sw P t (.agg _) (.agg _) with
  | none=>rw[hr] at h; cases h
  | some r=>
   rw[hr] at h; cases h
   obtain ⟨cs,ds,rfl,rfl,h1,h2⟩:=eqs .neq hr hx hy
   exact⟨.bool (!r),by simp only[TZ,h1,TW,run_neq_struct,h2],u2⟩
 replace h:=bq h
 obtain ⟨a,ha,h⟩:=h
 replace h:=bq h
 obtain ⟨b,hb,h⟩:=h
 obtain rfl:=mI x ha hx
 obtain rfl:=mI y hb hy
 rw[<-vh] at h
 cases he:cA P (do eqGuard op t p q c d; binOp op t c d:Sem Value) with
 | none=>rw[he] at h; cases h
 | some e=>rw[he] at h; cases h; exact⟨e,dB he w,nJ e⟩
theorem zj {op:UnOp} {x z:A} {c:Value} (h:iL P op x=some z) (hx:VR H g w x c):∃ e,(Op.unary op c).run P w=.ok e w/\VR H g w z e:=by
 unfold iL at h
 replace h:=bq h
 obtain ⟨a,ha,h⟩:=h
 obtain rfl:=mI x ha hx
 cases he:cA P (Op.unary op c) with
 | none=>rw[he] at h; cases h
 | some e=>rw[he] at h; cases h; exact⟨e,dB he w,nJ e⟩
theorem ss (hr:Rel H g w0 w) {x:A} {els:List (List A)} {c:Value} (h:els? H x=some els) (hx:VR H g w x c):(∃ s,c=.string s/\x=.v (.string s))∨∃ a cap ds es,c=.slice a els.length cap/\els.length<=cap/\(∀ d∈ds,d.length=es)/\bp H g w els ds/\(0<els.length->∃ k off,a=some ⟨k,off,none⟩/\w.rangeAt k off ds.flatten):=by
 unfold els? at h
 split at h
 ·cases h
  rw[VR] at hx
  obtain ⟨a,cap,ds,es,rfl,h2,h3,h4,h5,h6⟩:=hx
  exact .inr ⟨a,cap,ds,es,rfl,h2,h4,h6,fun hp=>let ⟨k,off,e1,e2⟩:=h5 hp; ⟨k,off,e1,e2.range⟩⟩
 ·rename_i b o n cl
  split at h
  ·rename_i wr es els' hb
   cases h
   rw[VR,hb] at hx
   cases wr
   ·obtain ⟨h2,a,cap,rfl,h3,h4,h5,_⟩:=hx
    obtain ⟨hga,hgl⟩:=hr.blk b _ hb
    have hlen:((els'.drop o).take n).length=n:=so
    refine .inr ⟨a,cap,((g.ga b).drop o).take n,es,by rw[hlen],r7,fun d hd=>hgl d (T2 (TX hd)),(hga.drop o).take n,fun hp=>?_⟩
    obtain ⟨k,off,e1,e2⟩:=h5 r7
    exact⟨k,off,e1,e2.range⟩
   ·obtain ⟨h2,a,cap,rfl,h3,h4,h5⟩:=hx
    obtain ⟨ds,hv,hl,hrow⟩:=hr.blk b _ hb
    have hlen:((els'.drop o).take n).length=n:=so
    refine .inr ⟨a,cap,(ds.drop o).take n,es,by rw[hlen],r7,fun d hd=>hl d (T2 (TX hd)),(hv.drop o).take n,fun hp=>?_⟩
    obtain ⟨k,hk,rfl⟩:=h5 r7
    obtain ⟨k',arr,ty,hk',ha,hcell⟩:=hrow r7
    rw[hk] at hk'; cases hk'
    have hall:w.rangeAt k 0 ds.flatten:=fun j v hj=>by
     rw[UU w k (0+j) arr ty (0,0) ha,Uh]; exact hcell j v hj
    refine⟨k,_,rfl,fun j v hj=>?_⟩
    have hw:bD [] ⟨fun _=>none,fun _=>[],fun _ _=>True,fun _=>Fj⟩ w k 0 ds.flatten:=fun j v hj=>⟨hall j v hj,trivial,fun b hb=>by cases hb⟩
    have:=(hw.sub hl o n j v hj).1
    rwa [Uh] at this
  ·cases h
 ·exact .inl ⟨_,by rw[VR] at hx; exact hx,rfl⟩
 ·cases h
theorem u1:∀ {els:List (List A)} {l:List UInt8} {ds:List (List Value)},bytesOf els=some l->bp H g w els ds->∃ ns:List Int,ds=ns.map (fun n=>[.int .u8 n])/\l=ns.map (fun n=>n.toNat.toUInt8)
 | [],_,_,h,hv=>by simp only[bytesOf,Uf] at h; rw[bp] at hv; exact⟨[],by simp[hv],by simp[<-h]⟩
 | e :: r,l,ds,h,hv=>by
  unfold bytesOf at h
  split at h
  ·rename_i heq; cases heq
  ·rename_i n r' heq
   cases heq
   cases hr:bytesOf r with
   | none=>rw[hr] at h; cases h
   | some l'=>
    rw[hr] at h
    cases h
    rw[bp] at hv
    obtain ⟨d,ds',rfl,h1,h2⟩:=hv
    obtain ⟨ns,rfl,rfl⟩:=u1 hr h2
    rw[bt] at h1
    obtain ⟨x,xs,rfl,h3,h4⟩:=h1
    rw[VR] at h3
    rw[bt] at h4
    exact⟨n :: ns,by simp[h3,h4],r9⟩
  ·cases h
theorem foldl_push (ns:List Int):∀ r:ByteArray,ns.foldl (fun r n=>r.push (UInt8.ofNat n.toNat)) r=⟨r.data++(ns.map (fun n=>n.toNat.toUInt8)).toArray⟩:=by
 induction ns with
 | nil=>intro r; simp
 | cons n ns ih=>
  intro r
  rw[Wv,ih]
  simp[ByteArray.push]
end
section
open Go.RowKit
variable {P:Program} {H:ay} {g:Gh} {w0 w:World}
theorem mM {a:A} {c:Value} {j y:Nat} (h:idx a=some j) (hv:VR H g w a c) (hy:j<=y) (code:BoundsCode):(Instr.sliceBound c y code).run P w=.ok j w:=by
 obtain ⟨k,n,rfl,h0,rfl⟩:=nC h hv
 have:0<=n/\n<=(y:Int):=⟨h0,r7⟩
 simp[Instr.sliceBound,asIntOf,this]
def FZ (H:ay) (g:Gh) (w:World):Option A->Option Value->Prop
 | none,none=>True
 | some a,some c=>VR H g w a c
 | _,_=>False
def N0 (cap h:Nat):Option A->Prop
 | none=>h<=cap
 | some m=>idx m=some h/\h<=cap
def qY (cap h:Nat):Option A->Nat
 | none=>cap
 | some _=>h
theorem fX {lo hi:Option A} {clo chi cmx:Option Value} {mx:Option A} {len cap h l:Nat} (isS:Bool) (hlo:FZ H g w lo clo) (hhi:FZ H g w hi chi) (hmx:FZ H g w mx cmx)
  (e1:jT len hi=some h) (e2:jT 0 lo=some l) (hl:l<=h) (hm:N0 cap h mx) (hhm:mx=none∨hi.isSome=true) :
  (Instr.sliceBounds isS len cap clo chi cmx).run P w=.ok (l,h,qY cap h mx) w:=by
 have hlo':(clo=none/\l=0)∨∃ v,clo=some v/\∀ code,(Instr.sliceBound v h code).run P w=.ok l w:=by
  cases lo with
  | none=>cases clo with
   | none=>simp only[jT,Uf] at e2; exact .inl ⟨rfl,e2.symm⟩
   | some _=>exact hlo.elim
  | some a=>cases clo with
   | none=>exact hlo.elim
   | some v=>exact .inr ⟨v,rfl,fun code=>mM e2 hlo hl code⟩
 clear hlo e2
 unfold Instr.sliceBounds
 cases mx with
 | none=>cases cmx with
  | some _=>exact hmx.elim
  | none=>
   cases hi with
   | none=>cases chi with
    | some _=>exact hhi.elim
    | none=>
     simp only[jT,Uf] at e1
     subst e1
     rcases hlo' with ⟨rfl,rfl⟩ | ⟨v,rfl,hv⟩
     ·simp[qY]
     ·simp[Result.andThen,hv,qY]
   | some a=>cases chi with
    | none=>exact hhi.elim
    | some v=>
     have hb:=fun code=>mM (P:=P) e1 hhi (show h<=cap from hm) code
     rcases hlo' with ⟨rfl,rfl⟩ | ⟨v,rfl,hv⟩
     ·simp[Result.andThen,hb,qY]
     ·simp[Result.andThen,hb,hv,qY]
 | some m=>cases cmx with
  | none=>exact hmx.elim
  | some mv=>
   have hb1:=fun code=>mM (P:=P) hm.1 hmx hm.2 code
   cases hi with
   | none=>simp at hhm
   | some a=>cases chi with
    | none=>exact hhi.elim
    | some v=>
     have hb:=fun code=>mM (P:=P) e1 hhi (Tm h) code
     rcases hlo' with ⟨rfl,rfl⟩ | ⟨v,rfl,hv⟩
     ·simp[Result.andThen,hb,hb1,qY]
     ·simp[Result.andThen,hb,hb1,hv,qY]
theorem ia {t e:TypeId} (hu:P.underlying t=some (.slice e)) {a:Option Addr} {len cap l h m z:Nat} {clo chi cmx:Option Value} (hb:(Instr.sliceBounds true len cap clo chi cmx).run P w=.ok (l,h,m) w) (hz:cR P e=some z) :
  (Instr.sliceAt t (.slice a len cap) clo chi cmx).run P w=.ok (.slice (if m=l then a else a.map (·.add (l*z))) (h - l) (m - l)) w:=by
 unfold Instr.sliceAt
 rw[TZ,Tz hu w]
 unfold Instr.slice
 simp[Tz hu,hb,dP hz,Result.andThen]
theorem pI {t e:TypeId} {n:Nat} (hu:P.underlying t=some (.array n e)) {a:Addr} {l h m z:Nat} {clo chi cmx:Option Value} (hb:(Instr.sliceBounds false n n clo chi cmx).run P w=.ok (l,h,m) w) (hz:cR P e=some z) :
  (Instr.sliceAt t (.pointer (some a)) clo chi cmx).run P w=.ok (.slice (some (if m=l then a else a.add (l*z))) (h - l) (m - l)) w:=by
 unfold Instr.sliceAt
 rw[TZ,Tz hu w]
 simp[Instr.sureAddr,hb,dP hz,Result.andThen]
theorem tx (hr:Rel H g w0 w) {t:TypeId} {x y:A} {lo hi mx:Option A} {c:Value} {clo chi cmx:Option Value} (h:eI P t x lo hi mx H=some y) (hx:VR H g w x c) (hlo:FZ H g w lo clo) (hhi:FZ H g w hi chi) (hmx:FZ H g w mx cmx) (hhm:mx=none∨hi.isSome=true) :
  ∃ d,(Instr.sliceAt t c clo chi cmx).run P w=.ok d w/\VR H g w y d:=by
 unfold eI at h
 split at h
 ·rename_i s hu
  replace h:=dW h
  obtain ⟨hm,h⟩:=h
  obtain rfl:mx=none:=by cases mx<;>simp at hm ⊢
  replace h:=bq h
  obtain ⟨hh,e1,h⟩:=h
  replace h:=bq h
  obtain ⟨l,e2,h⟩:=h
  replace h:=bl h
  obtain ⟨h1,h⟩:=h
  simp only[Tl,Tu] at h1
  cases h
  rw[VR] at hx
  subst hx
  have hb:=fX (P:=P) (cap:=s.size) false hlo hhi hmx e1 e2 h1.1 h1.2 (.inl rfl)
  cases cmx with
  | some _=>exact hmx.elim
  | none=>
   refine⟨.string (s.extract l hh),?_,u2⟩
   unfold Instr.sliceAt
   rw[TZ,Tz hu w]
   unfold Instr.slice
   simp[Tz hu,hb,Result.andThen]
 ·rename_i e els cl hu
  replace h:=bq h
  obtain ⟨z,hz,h⟩:=h
  replace h:=bq h
  obtain ⟨hh,e1,h⟩:=h
  replace h:=bq h
  obtain ⟨l,e2,h⟩:=h
  replace h:=bl h
  obtain ⟨h1,h⟩:=h
  simp only[Tl,Tu,Up,UD] at h1
  obtain ⟨⟨h1,h2⟩,h3⟩:=h1
  rw[VR] at hx
  obtain ⟨a,cap,ds,es,rfl,g1,g2,g3,g4,g5⟩:=hx
  have hlenn:((els.drop l).take (hh - l)).length=hh - l:=so
  have fin:∀ (m:Nat) (b:Bool),hh<=m->m<=cap->(b=true->m=hh)->VR H g w (.imm ((els.drop l).take (hh - l)) b) (.slice (if m=l then a else a.map (·.add (l*z))) (hh - l) (m - l)):=fun m b hm1 hm2 hb=>by
   rw[VR]
   refine⟨_,m - l,(ds.drop l).take (hh - l),es,by rw[hlenn],r7,fun hb'=>by rw[hlenn,hb hb'],fun d hd=>g3 d (T2 (TX hd)),fun hp=>?_,(g5.drop l).take _⟩
   have hll:l<hh:=r7
   obtain ⟨k,off,rfl,hc⟩:=g4 r7
   rw[Tw r7]
   refine⟨k,off+l*es,?_,hc.sub g3 l (hh - l)⟩
   rcases h3 with rfl | h3
   ·simp[UF]
   ·have hlt:l<els.length:=by omega
    rw[Tj hlt] at h3
    simp only[UD] at h3
    obtain rfl:=g5.lens g3 (Tj hlt) h3
    simp[UF]
  split at h
  ·cases h
   have hb:=fX (P:=P) (cap:=cap) true hlo hhi hmx e1 e2 h1 (show hh<=cap by omega) (.inl rfl)
   refine⟨_,ia hu hb hz,fin cap _ r7 (Tm _) (fun hc=>?_)⟩
   simp only[Tl,UD] at hc
   have:=g2 hc.1; omega
  ·rename_i m
   replace h:=bq h
   obtain ⟨m',hm',h⟩:=h
   replace h:=bl h
   obtain ⟨hmh,h⟩:=h
   obtain rfl:m'=hh:=by simpa using hmh
   cases h
   have hb:=fX (P:=P) (cap:=cap) true hlo hhi hmx e1 e2 h1 ⟨hm',r7⟩ hhm
   exact⟨_,ia hu hb hz,fin m' _ (Tm _) r7 (fun _=>rfl)⟩
 ·rename_i e b o n cl hu
  replace h:=bq h
  obtain ⟨z,hz,h⟩:=h
  replace h:=bq h
  obtain ⟨hh,e1,h⟩:=h
  replace h:=bq h
  obtain ⟨l,e2,h⟩:=h
  replace h:=bl h
  obtain ⟨h1,h⟩:=h
  simp only[Tl,Tu] at h1
  obtain ⟨⟨h1,h2⟩,h3⟩:=h1
  obtain ⟨wr,els,hb⟩:∃ wr els,H[b]? = some (.row wr z els):=by
   cases hb:H[b]? with
   | none=>simp[hb] at h3
   | some B=>cases B with
    | row wr es els=>simp[hb] at h3; subst h3; exact⟨wr,els,rfl⟩
    | _=>simp[hb] at h3
  rw[VR,hb] at hx
  have main:∀ (a:Option Addr) (cap:Nat),c=.slice a n cap->n<=cap->(cl=true->cap=n)->(∀ (m:Nat) (q:Bool),hh<=m->m<=cap->(q=true->m=hh)->(q=false->m=cap)->VR H g w (.sl b (o+l) (hh - l) q) (.slice (if m=l then a else a.map (·.add (l*z))) (hh - l) (m - l)))->∃ d,(Instr.sliceAt t c clo chi cmx).run P w=.ok d w/\VR H g w y d:=by
   intro a cap hc hn hcl fin
   subst hc
   split at h
   ·cases h
    have hb:=fX (P:=P) (cap:=cap) true hlo hhi hmx e1 e2 h1 (show hh<=cap by omega) (.inl rfl)
    refine⟨_,ia hu hb hz,fin cap _ r7 (Tm _) (fun hc=>?_) (fun _=>rfl)⟩
    simp only[Tl,UD] at hc
    have:=hcl hc.1; omega
   ·rename_i m
    replace h:=bq h
    obtain ⟨m',hm',h⟩:=h
    replace h:=bl h
    obtain ⟨hmh,h⟩:=h
    obtain rfl:m'=hh:=by simpa using hmh
    cases h
    have hb:=fX (P:=P) (cap:=cap) true hlo hhi hmx e1 e2 h1 ⟨hm',r7⟩ hhm
    exact⟨_,ia hu hb hz,fin m' _ (Tm _) r7 (fun _=>rfl) (fun h=>by cases h)⟩
  cases wr
  ·obtain ⟨g0,a,cap,rfl,g1,g2,g3,g4⟩:=hx
   refine main a cap rfl g1 g2 fun m q hm1 hm2 hq hq2=>?_
   rw[VR,hb]
   refine⟨r7,_,m - l,rfl,r7,fun hc=>by rw[hq hc],fun hp=>?_,fun hc ho hn hlt=>?_⟩
   ·obtain ⟨k,off,rfl,hcell⟩:=g3 r7
    rw[Tw r7]
    refine⟨k,off+l*z,by simp[UF],?_⟩
    have hga:=(hr.blk b _ hb).2
    have:=hcell.sub (fun d hd=>hga d (T2 (TX hd))) l (hh - l)
    have e3:((((g.ga b).drop o).take n).drop l).take (hh - l)=((g.ga b).drop (o+l)).take (hh - l):=by
     rw[List.drop_take,We,List.take_take]; congr 1; omega
    rwa [e3] at this
   ·obtain rfl:l=0:=by omega
    obtain rfl:o=0:=r7
    have hmc:=hq2 hc
    subst hmc
    by_cases hcl:cl=true
    ·have:=g2 hcl; omega
    ·obtain ⟨k,arr,ty,k1,k2,k3,k4⟩:=g4 (by simpa using hcl) rfl r7 r7
     refine⟨k,arr,ty,k1,?_,k3,by simpa using k4⟩
     rw[k2]; split<;>simp[UF]
  ·obtain ⟨g0,a,cap,rfl,g1,g2,g3⟩:=hx
   refine main a cap rfl g1 g2 fun m q hm1 hm2 hq hq2=>?_
   rw[VR,hb]
   refine⟨r7,_,m - l,rfl,r7,fun hc=>by rw[hq hc],fun hp=>?_⟩
   obtain ⟨k,hk,rfl⟩:=g3 r7
   rw[Tw r7]
   exact⟨k,hk,by simp[UF,Ul]⟩
 ·rename_i n e cs hu
  replace h:=bq h
  obtain ⟨z,hz,h⟩:=h
  replace h:=bq h
  obtain ⟨hh,e1,h⟩:=h
  replace h:=bq h
  obtain ⟨l,e2,h⟩:=h
  replace h:=bl h
  obtain ⟨h1,h⟩:=h
  simp only[Tl,Tu,Uv] at h1
  obtain ⟨⟨⟨⟨h1,h2⟩,h3⟩,h4⟩,h5⟩:=h1
  obtain rfl:mx=none:=by cases mx<;>simp at h4 ⊢
  cases h
  rw[VR] at hx
  obtain ⟨k,off,ds,rfl,hc,hv⟩:=hx
  have hb:(Instr.sliceBounds false n n clo chi cmx).run P w=.ok (l,hh,n) w:=fX (P:=P) (cap:=n) false hlo hhi hmx e1 e2 h1 h2 (.inl rfl)
  cases cmx with
  | some _=>exact hmx.elim
  | none=>
   refine⟨_,pI hu hb hz,?_⟩
   have hdl:=hv.length
   have htl:(ds.take (n*z)).length=n*z:=x6
   have htc:(cs.take (n*z)).length=n*z:=x6
   have hck:∀ {α:Type} (q:Nat) (xs:List α),q*z<=xs.length->chunk z q xs=chunk z q (xs.take (q*z)):=by
    intro α q
    induction q with
    | zero=>intro xs _; rfl
    | succ q ih=>
     intro xs hq
     rw[Ul,Wy] at hq
     rw[chunk,chunk,ih (xs.drop z) so,List.take_take,List.drop_take,UY (by rw[Ul]; omega)]
     congr 3
     rw[Ul]; omega
   have hlenn:(((chunk z n cs).drop l).take (hh - l)).length=hh - l:=by simp[gz]; omega
   rw[VR]
   refine⟨_,n - l,((chunk z n (ds.take (n*z))).drop l).take (hh - l),z,by rw[hlenn],r7,fun hb'=>by rw[hlenn]; have:=(VK ▸ hb':hh=n); omega,fun d hd=>jn htl d (T2 (TX hd)),fun hp=>?_,?_⟩
   ·rw[hlenn] at hp
    rw[Tw r7]
    refine⟨k,off+l*z,by simp[UF],?_⟩
    refine bD.sub (es:=z) ?_ (jn htl) l (hh - l)
    rw[kZ htl]
    exact hc.take _
   ·rw[hck n cs h3]
    exact(((hv.take (n*z)).chunk n).drop l).take _
 ·rename_i n e b q o hu
  replace h:=bq h
  obtain ⟨z,hz,h⟩:=h
  replace h:=bq h
  obtain ⟨hh,e1,h⟩:=h
  replace h:=bq h
  obtain ⟨l,e2,h⟩:=h
  replace h:=bl h
  obtain ⟨h1,h⟩:=h
  simp only[Tl,Tu,Uv] at h1
  obtain ⟨⟨⟨⟨h1,h2⟩,h4⟩,h5⟩,h6⟩:=h1
  obtain rfl:o=0:=by simpa [VK] using h5
  obtain rfl:mx=none:=by cases mx<;>simp at h4 ⊢
  cases h
  obtain ⟨els,hbk,hq⟩:∃ els,H[b]? = some (.row true z els)/\q+n<=els.length:=by
   split at h6
   ·rename_i es els hbk
    simp only[Tl,Tu,VK] at h6
    obtain ⟨rfl,h6⟩:=h6
    exact⟨els,hbk,h6⟩
   ·cases h6
  rw[VR,hbk] at hx
  obtain ⟨hqe,k,hk,rfl⟩:=hx
  have hb:(Instr.sliceBounds false n n clo chi cmx).run P w=.ok (l,hh,n) w:=fX (P:=P) (cap:=n) false hlo hhi hmx e1 e2 h1 h2 (.inl rfl)
  cases cmx with
  | some _=>exact hmx.elim
  | none=>
   refine⟨_,pI hu hb hz,?_⟩
   rw[VR,hbk]
   refine⟨r7,_,n - l,rfl,r7,fun hb'=>by have:=(VK ▸ hb':hh=n); omega,fun hp=>⟨k,hk,?_⟩⟩
   rw[Tw r7]
   simp[UF,Ul]
 ·cases h
theorem mm (hr:Rel H g w0 w) {w':World} {arr:Array Value} {ty:TypeId} {fr:Nat×Nat} (ha:w'.heap[w.heap.size]? = some (.cells arr ty fr)) {ds:List Value} (hd:∀ (j:Nat) v,ds[j]? = some v->arr[j]? = some v):bD H g w' w.heap.size 0 ds:=fun j v hj=>by
 refine⟨?_,hr.out _ _ (Tm _),fun b hb=>absurd (hr.dom b _ hb).2.2 (Vq _)⟩
 rw[Uh,UU w' _ j arr ty fr ha]
 exact hd j v hj
theorem zr {x:A} {els:List (List A)} (h:vf H x=some els):els? H x=some els/\∀ s,x≠.v (.string s):=by
 cases x<;>simp only[vf] at h<;>first | exact⟨h,r9⟩ | cases h
theorem mj {α β:Type} (f:α->β) (l:List α):(l.map fun n=>[f n]).flatten=l.map f:=by
 induction l with
 | nil=>rfl
 | cons n l ih=>simp[ih]
theorem p9 (hr:Rel H g w0 w) {s t:TypeId} {x y:A} {c:Value} (h:bn P s t x H=some y) (hx:VR H g w x c):∃ d w',(convert s t c).run P w=.ok d w'/\Below w.heap.size w w'/\VR H g w' y d:=by
 unfold bn at h
 split at h
 ·rename_i e hs hd
  split at h
  ·rename_i he hz
   replace h:=bq h
   obtain ⟨els,h1,h⟩:=h
   cases hb:bytesOf els with
   | none=>rw[hb] at h; cases h
   | some l=>
    rw[hb] at h
    cases h
    refine⟨.string ⟨l.toArray⟩,w,?_,Below.refl _ _,u2⟩
    have h1':=zr h1
    rcases ss hr h1'.1 hx with ⟨s',rfl,rfl⟩ | ⟨a,cap,ds,es,rfl,h2,h3,h4,h5⟩
    ·exact absurd rfl (h1'.2 s')
    ·obtain ⟨ns,rfl,rfl⟩:=u1 hb h4
     have hl:els.length=ns.length:=by have:=h4.length; simpa using this.symm
     simp only[convert,TZ,Tz hs,Tz hd,Tz he,TW]
     cases a with
     | none=>
      have hn:ns=[]:=by
       by_cases hp:0<els.length
       ·obtain ⟨k,off,e1,_⟩:=h5 hp; cases e1
       ·exact TK r7
      subst hn
      simp[Conv.bytesToString]
      rfl
     | some a=>
      have hl2:(loadCells a els.length).run P w=.ok (ns.map (Value.int .u8)).toArray w:=by
       by_cases hp:0<els.length
       ·obtain ⟨k,off,e1,hc⟩:=h5 hp
        cases e1
        rw[mj] at hc
        have:=run_loadCells_list (P:=P) w ⟨k,off,none⟩ (ns.map (Value.int .u8)) (fun j v hv=>by rw[UF]; exact hc j v hv)
        rwa [Vb,<-hl] at this
       ·have hn:ns=[]:=TK r7
        subst hn
        rw[hl]
        rfl
      rw[run_bytesToString w a _ cap ns hl2,foldl_push]
      simp
  ·cases h
 ·rename_i e s' hs hd
  split at h
  ·rename_i he
   cases h
   rw[VR] at hx
   subst hx
   have hr':=run_bytes_of_string (P:=P) w s t e s' hs hd he
   have hb:Below w.heap.size w (w.drew.alloc (.cells (bytesRow s' (grownCap w s'.size 0 e)) e ((bytesRow s' (grownCap w s'.size 0 e)).size,(bytesRow s' (grownCap w s'.size 0 e)).size+1))):=((Below.refl _ w).drew).alloc (Tm _) _
   refine⟨_,_,hr',hb,?_⟩
   rw[VR]
   have hlen:(s'.data.toList.map fun c=>[A.v (.int .u8 c.toNat)]).length=s'.size:=by rw[Vb,Vw]; rfl
   refine⟨_,_,s'.data.toList.map fun c=>[.int .u8 c.toNat],1,by rw[hlen],by rw[hlen]; exact WV w _ _ _,fun h=>(by cases h),r9,fun _=>⟨w.heap.size,0,rfl,?_⟩,?_⟩
   ·refine mm hr (UW w.drew _) fun j v hj=>?_
    rw[mj] at hj
    unfold bytesRow
    rw[VN]
    ·simpa using hj
    ·have:=(Tp.1 hj).1
     simpa using this
   ·refine cE.2 ⟨r9,fun i a d ha hd=>?_⟩
    simp only[T0,T6] at ha hd
    obtain ⟨b,hb,rfl⟩:=ha
    obtain ⟨b',hb',rfl⟩:=hd
    rw[hb] at hb'; cases hb'
    rw[bt]; exact⟨_,[],rfl,u2,x5⟩
  ·cases h
 ·replace h:=bq h
  obtain ⟨v,hv,h⟩:=h
  obtain rfl:=mI _ hv hx
  cases he:cA P (convert s t c) with
  | none=>rw[he] at h; cases h
  | some e=>rw[he] at h; cases h; exact⟨e,w,dB he w,Below.refl _ _,nJ e⟩
theorem rm (vs:List Value):∀ (off:Nat) (cs:Array Value),off+vs.length<=cs.size->((vs.zipIdx 0).foldl (fun cs p=>cs.setIfInBounds (off+p.2) p.1) cs).toList=br cs.toList off vs:=by
 have gen:∀ (vs:List Value) (n off:Nat) (cs:Array Value),off+n+vs.length<=cs.size->((vs.zipIdx n).foldl (fun cs p=>cs.setIfInBounds (off+p.2) p.1) cs).toList=br cs.toList (off+n) vs:=by
  intro vs
  induction vs with
  | nil=>intro n off cs _; simp[br]
  | cons v vs ih=>
   intro n off cs h
   rw[List.zipIdx_cons,Wv,ih (n+1) off _ (by simp at h ⊢; omega)]
   simp only[br,Array.toList_setIfInBounds,TM]
   have hlt:off+n<cs.toList.length:=by simp at h ⊢; omega
   rw[show off+(n+1)=off+n+1 by omega,List.take_succ_eq_append_getElem (by simp; simp at hlt; omega)]
   simp only[List.getElem_set_self]
   rw[List.take_set_of_le (Tm _),Ug,Ug]
   rw[List.drop_set_of_lt r7]
   have e:off+n+1+vs.length=off+n+(vs.length+1):=r7
   rw[e]
   simp
 intro off cs h
 exact gen vs 0 off cs (by simpa using h)
theorem yr {place:Nat->Option (Nat×Nat)}:∀ {parts:List (Nat×A)} {vparts:List (Nat×Value)} {cs ds:List A} {arr:Array Value},sB place cs parts=some ds->bt H g w cs arr.toList ->
  (∀ i:Nat,(∀ p,parts[i]? = some p->∃ q,vparts[i]? = some q/\q.1=p.1/\VR H g w p.2 q.2))->vparts.length=parts.length->∃ arr',Instr.fill place arr vparts=some arr'/\bt H g w ds arr'.toList
 | [],vparts,cs,ds,arr,h,hv,hp,hl=>by
  simp only[sB,Uf] at h
  subst h
  have:vparts=[]:=TK (by simpa using hl)
  subst this
  exact⟨arr,rfl,hv⟩
 | (i,x) :: r,vparts,cs,ds,arr,h,hv,hp,hl=>by
  cases vparts with
  | nil=>simp at hl
  | cons q vr=>
   obtain ⟨q',hq,e1,hx⟩:=hp 0 (i,x) rfl
   simp at hq
   subst hq
   simp only[sB] at h
   replace h:=bq h
   obtain ⟨p,hpl,h⟩:=h
   replace h:=bq h
   obtain ⟨xs,hxs,h⟩:=h
   replace h:=bl h
   obtain ⟨hc,h⟩:=h
   simp only[Tl,UD,Tu] at hc
   obtain ⟨hvs,_,_⟩:=lZ hxs hx
   have hvl:=hvs.length
   have hal:=hv.length
   obtain ⟨qi,qv⟩:=q
   simp only at e1
   subst e1
   have hsz:qv.cells.size=p.2:=by simpa [hc.1] using hvl
   have hfit:p.1+qv.cells.size<=arr.size:=by simp at hal; omega
   have hset:(qv.cells.zipIdx.foldl (fun cs (c,j)=>cs.setIfInBounds (p.1+j) c) arr).toList=br arr.toList p.1 qv.cells.toList:=by
    have:=rm qv.cells.toList p.1 arr (by simpa using hfit)
    rw[<-this,<-Vy]
    simp
   obtain ⟨arr',h1,h2⟩:=yr (place:=place) (arr:=qv.cells.zipIdx.foldl (fun cs (c,j)=>cs.setIfInBounds (p.1+j) c) arr) (vparts:=vr) h (by rw[hset]; exact hv.br hvs p.1) (fun j p' hj=>by have:=hp (j+1) p' (by simpa using hj); simpa using this) (by simpa using hl)
   refine⟨arr',?_,h2⟩
   unfold Instr.fill
   rw[hpl]
   obtain ⟨p1,p2⟩:=p
   simp only at hsz hfit ⊢
   rw[Tw (by simp[hsz]; omega)]
   exact h1
theorem fp {t:TypeId} {z:List A} (h:gI P t=some z):∃ i v,P.info? t=some i/\i.zero=some v/\z=v.cells.toList.map xu:=by
 unfold gI at h
 cases hi:P.info? t with
 | none=>rw[hi] at h; cases h
 | some i=>
  rw[hi] at h
  simp only[Ti] at h
  cases hz:i.zero with
  | none=>rw[hz] at h; cases h
  | some v=>rw[hz] at h; cases h; exact⟨i,v,rfl,hz,rfl⟩
def lU (H:ay) (g:Gh) (w:World) (parts:List (Nat×A)) (vparts:List (Nat×Value)):Prop:=vparts.length=parts.length/\∀ (i:Nat) p,parts[i]? = some p->∃ q,vparts[i]? = some q/\q.1=p.1/\VR H g w p.2 q.2
theorem tt {t:TypeId} {parts:List (Nat×A)} {vparts:Array (Nat×Value)} {y:A} (h:tr P t parts=some y) (hp:lU H g w parts vparts.toList):∃ d,(Instr.build t vparts).run P w=.ok d w/\VR H g w y d:=by
 unfold tr at h
 replace h:=bq h
 obtain ⟨z,hz,h⟩:=h
 replace h:=bq h
 obtain ⟨place,hpl,h⟩:=h
 obtain ⟨it,v,hi,hv,rfl⟩:=fp hz
 cases hf:sB place (v.cells.toList.map xu) parts with
 | none=>rw[hf] at h; cases h
 | some ds=>
  rw[hf] at h
  cases h
  obtain ⟨arr,h1,h2⟩:=yr (arr:=v.cells) hf (jc _) (fun i p hi=>hp.2 i p hi) hp.1
  refine⟨.agg arr,run_build w t vparts arr ?_,by rw[VR]; exact⟨arr,rfl,h2⟩⟩
  unfold yJ at hpl
  unfold Program.built
  rw[hi]
  split at hpl
  ·rename_i fs hu
   rw[hu]
   cases hm:(fs.toList.mapM fun f=>(P.info? f.type).map fun i=>(f.offset,i.size)) with
   | none=>rw[hm] at hpl; cases hpl
   | some places=>
    rw[hm] at hpl
    cases hpl
    simp only[hv,hm]
    exact h1
  ·rename_i n e hu
   rw[hu]
   cases hie:P.info? e with
   | none=>rw[hie] at hpl; cases hpl
   | some ie=>
    rw[hie] at hpl
    cases hpl
    simp only[hv,hie]
    exact h1
  ·cases hpl
end
section
open Go.RowKit
variable {P:Program} {H:ay} {g:Gh} {w0 w:World}
def Gh.put (g:Gh) (b:Nat) (k:Option Nat) (γ:List (List Value)):Gh:={ g with mu:=fun c=>if c=b then k else g.mu c,ga:=fun c=>if c=b then γ else g.ga c }
theorem Gh.bB (g:Gh) (b:Nat) (k:Option Nat) (γ:List (List Value)):(g.put b k γ).mu b=k:=by simp[Gh.put]
theorem Gh.gF (g:Gh) (b:Nat) (k:Option Nat) (γ:List (List Value)):(g.put b k γ).ga b=γ:=by simp[Gh.put]
theorem Gh.aJ (g:Gh) {b c:Nat} (k:Option Nat) (γ:List (List Value)) (h:c≠b):(g.put b k γ).mu c=g.mu c:=by simp[Gh.put,h]
theorem Gh.eK (g:Gh) {b c:Nat} (k:Option Nat) (γ:List (List Value)) (h:c≠b):(g.put b k γ).ga c=g.ga c:=by simp[Gh.put,h]
def Step (H:ay) (g:Gh) (w0 w:World) (lo:Nat) (r:Result Value) (y:A) (H':ay):Prop:=
 ∃ d w' g',r=.ok d w'/\Rel H' g' w0 w'/\Ext H g w H' g' w'/\VR H' g' w' y d/\H.length<=H'.length/\(∀ b,b<lo->b<H.length->H'[b]? = H[b]?)/\g'.S=g.S
theorem er {k:Nat} {o:Obj} {w w':World} (hb:Below w.heap.size w w') (h:w.heap[k]? = some o):w'.heap[k]? = some o:=(hb.block k (Tt.1 h).1).trans h
theorem Rel.push (hr:Rel H g w0 w) {w':World} (hb:Below w.heap.size w w') (B:aO) (ko:Option Nat) (γ:List (List Value)) (hk:∀ k,ko=some k->k=w.heap.size/\w.heap.size<w'.heap.size)
  (hB:Ext H g w (H++[B]) (g.put H.length ko γ) w'->kT (H++[B]) (g.put H.length ko γ) w' H.length B):Rel (H++[B]) (g.put H.length ko γ) w0 w'/\Ext H g w (H++[B]) (g.put H.length ko γ) w':=by
 have old:∀ {b k},(g.put H.length ko γ).mu b=some k->k<w.heap.size->b≠H.length/\g.mu b=some k:=fun {b k} h hlt=>by
  by_cases e:b=H.length
  ·subst e; rw[Gh.bB] at h; have:=(hk k h).1; omega
  ·exact⟨e,by rwa [Gh.aJ _ _ _ e] at h⟩
 have he:Ext H g w (H++[B]) (g.put H.length ko γ) w':=by
  refine⟨fun k o v hs hc=>?_,fun b B' hB'=>⟨B',?_,?_⟩,fun k o ho=>(hb.block k (Tt.1 ho).1).trans ho,hb.size,fun k arr cl hs hm=>?_,fun k hk' _=>hb.block k hk',fun b k h=>?_⟩
  rotate_right 1
  ·by_cases e:b=H.length
   ·subst e; rw[Gh.bB] at h; exact .inr (VU (hk k h).1.symm)
   ·exact .inl ⟨b,by rwa [Gh.aJ _ _ _ e] at h⟩
  ·have hlt:=Ve w ⟨k,o,none⟩ hc
   refine⟨(hb.cell (p:=⟨k,o,none⟩) hlt).trans hc,hs.1,fun b hbk=>?_⟩
   obtain ⟨_,h2⟩:=old hbk hlt
   obtain ⟨es,els,h3,h4⟩:=hs.2 b h2
   exact⟨es,els,by rw[TG (Tp.1 h3).1]; exact h3,h4⟩
  ·rw[TG (Tp.1 hB').1]; exact hB'
  ·have hne:b≠H.length:=by have:=(Tp.1 hB').1; omega
   cases B' with
   | box _=>exact Gh.aJ _ _ _ hne
   | row wr es els=>cases wr with
    | true=>exact⟨rfl,rfl,Gh.aJ _ _ _ hne⟩
    | false=>exact⟨rfl,⟨[],by rw[Gh.eK _ _ _ hne]; simp⟩,(hr.blk b _ hB').len,Tm _,fun _=>⟨Gh.aJ _ _ _ hne,fun k arr ty hk' ha=>⟨arr,er hb ha,Tm _⟩⟩⟩
   | rng _=>exact⟨Gh.aJ _ _ _ hne,rfl⟩
   | mp _ _ _=>exact Gh.aJ _ _ _ hne
   | dead=>trivial
   | hole=>trivial
  ·have hlt:=(Tt.1 hm).1
   refine⟨(hb.block k hlt).trans hm,hs.1,fun b hbk=>?_⟩
   obtain ⟨_,h2⟩:=old hbk hlt
   obtain ⟨es,els,h3,h4⟩:=hs.2 b h2
   exact⟨es,els,by rw[TG (Tp.1 h3).1]; exact h3,h4⟩
 refine⟨⟨hr.below.trans (hb.mono hr.below.size),fun b k hbk=>?_,fun b c k h1 h2=>?_,hr.xw he,hr.vZ he,fun b B' hB'=>?_⟩,he⟩
 ·by_cases e:b=H.length
  ·subst e; rw[Gh.bB] at hbk
   obtain ⟨rfl,h2⟩:=hk k hbk
   exact⟨r9,hr.below.size,h2⟩
  ·rw[Gh.aJ _ _ _ e] at hbk
   obtain ⟨h1,h2,h3⟩:=hr.dom b k hbk
   exact⟨so,h2,TE h3 hb.size⟩
 ·by_cases e:b=H.length
  ·by_cases e':c=H.length
   ·rw[e,e']
   ·subst e
    rw[Gh.bB] at h1
    rw[Gh.aJ _ _ _ e'] at h2
    have:=(hk k h1).1; have:=(hr.dom c k h2).2.2; omega
  ·by_cases e':c=H.length
   ·subst e'
    rw[Gh.bB] at h2
    rw[Gh.aJ _ _ _ e] at h1
    have:=(hk k h2).1; have:=(hr.dom b k h1).2.2; omega
   ·rw[Gh.aJ _ _ _ e] at h1
    rw[Gh.aJ _ _ _ e'] at h2
    exact hr.inj b c k h1 h2
 ·by_cases e:b=H.length
  ·subst e
   rw[T4 (Tm _)] at hB'
   simp at hB'
   subst hB'
   exact hB he
  ·have hlt:b<H.length:=by have:=(Tp.1 hB').1; simp at this; omega
   rw[TG hlt] at hB'
   have h:=hr.blk b B' hB'
   cases B' with
   | box cs=>obtain ⟨k,arr,ty,h1,h2,h3⟩:=h; exact⟨k,arr,ty,(Gh.aJ _ _ _ e).trans h1,er hb h2,bt.ext he _ _ h3⟩
   | row wr es els=>cases wr with
    | true=>
     obtain ⟨ds,h1,h2,h3⟩:=h
     exact⟨ds,bp.ext he _ _ h1,h2,fun hp=>let ⟨k,arr,ty,e1,e2,e3⟩:=h3 hp; ⟨k,arr,ty,(Gh.aJ _ _ _ e).trans e1,er hb e2,e3⟩⟩
    | false=>
     obtain ⟨h1,h2⟩:=h
     refine⟨?_,?_⟩
     ·rw[Gh.eK _ _ _ e]; exact bp.ext he _ _ h1
     ·rw[Gh.eK _ _ _ e]; exact h2
   | rng st=>obtain ⟨k,h1,h2⟩:=h; exact⟨k,(Gh.aJ _ _ _ e).trans h1,er hb h2⟩
   | mp _ _ _=>obtain ⟨k,arr,cl,h1,h2,h3,h4⟩:=h; exact⟨k,arr,cl,(Gh.aJ _ _ _ e).trans h1,er hb h2,h3,bt.ext he _ _ h4⟩
   | dead=>exact(Gh.aJ _ _ _ e).trans h
   | hole=>exact(Gh.aJ _ _ _ e).trans h
theorem dL (H:ay) (B:aO):(H++[B])[H.length]? = some B:=r9
theorem hX (H:ay) (B:aO) (lo:Nat):∀ b,b<lo->b<H.length->(H++[B])[b]? = H[b]?:=fun _ _ h=>TG h
theorem wL (hr:Rel H g w0 w) {t:TypeId} {x y:A} {H':ay} {c:Value} (lo:Nat) (h:wK x H=some (y,H')) (hx:VR H g w x c):Step H g w0 w lo ((Instr.box t c).run P w) y H':=by
 unfold wK at h
 cases hc:x.cells? with
 | none=>rw[hc] at h; cases h
 | some cs=>
  rw[hc] at h
  cases h
  obtain ⟨hv,_,_⟩:=lZ hc hx
  have hb:Below w.heap.size w (w.alloc (.cells c.cells t)):=(Below.refl _ w).alloc (Tm _) _
  obtain ⟨h1,h2⟩:=hr.push hb (.box cs) (some w.heap.size) [] (fun k hk=>by cases hk; exact⟨rfl,r9⟩) (fun he=>⟨w.heap.size,c.cells,t,Gh.bB _ _ _ _,UW w _,bt.ext he _ _ hv⟩)
  refine⟨.pointer (some ⟨w.heap.size,0,none⟩),_,_,by simp[Instr.box,newVar,newRow,newObj]; rfl,h1,h2,?_,r9,hX _ _ _,rfl⟩
  rw[VR,dL]; exact⟨w.heap.size,Gh.bB _ _ _ _,rfl⟩
theorem tn (hr:Rel H g w0 w) {t:TypeId} {y:A} {H':ay} (lo:Nat) (h:kU P t H=some (y,H')):Step H g w0 w lo ((Instr.alloc t true (.tuple #[])).run P w) y H':=by
 unfold kU at h
 cases hz:gI P t with
 | none=>rw[hz] at h; cases h
 | some cs=>
  rw[hz] at h
  cases h
  obtain ⟨i,z,hi,hzz,rfl⟩:=fp hz
  have hb:Below w.heap.size w (w.alloc (.cells z.cells t)):=(Below.refl _ w).alloc (Tm _) _
  obtain ⟨h1,h2⟩:=hr.push hb (.box (z.cells.toList.map xu)) (some w.heap.size) [] (fun k hk=>by cases hk; exact⟨rfl,r9⟩) (fun he=>⟨w.heap.size,z.cells,t,Gh.bB _ _ _ _,UW w _,jc _⟩)
  refine⟨.pointer (some ⟨w.heap.size,0,none⟩),_,_,by simp[Instr.alloc,zeroValue,typeInfo,hi,hzz,newVar,newRow,newObj]; rfl,h1,h2,?_,r9,hX _ _ _,rfl⟩
  rw[VR,dL]; exact⟨w.heap.size,Gh.bB _ _ _ _,rfl⟩
theorem ri (hr:Rel H g w0 w) {t:TypeId} {cs:List A} {y:A} {H':ay} {arr:Array Value} {ty:TypeId} (h:rowOf P t cs H=some (y,H')) (hv:bt H g w cs arr.toList) :
  Rel H' (g.put H.length (some w.heap.size) []) w0 (w.alloc (.cells arr ty))/\Ext H g w H' (g.put H.length (some w.heap.size) []) (w.alloc (.cells arr ty))/\VR H' (g.put H.length (some w.heap.size) []) (w.alloc (.cells arr ty)) y (.pointer (some ⟨w.heap.size,0,none⟩))/\H.length<=H'.length/\∀ lo b,b<lo->b<H.length->H'[b]? = H[b]?:=by
 unfold rowOf at h
 split at h
 ·rename_i n e hu
  replace h:=bq h
  obtain ⟨es,hes,h⟩:=h
  replace h:=dW h
  obtain ⟨h0,h⟩:=h
  cases h
  simp only[Uk,U0,VK] at h0
  obtain ⟨⟨h1,h2⟩,h3⟩:=h0
  have h2:n≠0:=fun e=>by rw[e] at h2; cases h2
  have hb:Below w.heap.size w (w.alloc (.cells arr ty)):=(Below.refl _ w).alloc (Tm _) _
  have hal:arr.toList.length=n*es:=by rw[hv.length,h3]
  obtain ⟨r1,r2⟩:=hr.push hb (.row true es (chunk es n cs)) (some w.heap.size) [] (fun k hk=>by cases hk; exact⟨rfl,r9⟩) (fun he=>⟨chunk es n arr.toList,(bt.ext he _ _ hv).chunk n,jn hal,fun _=>⟨w.heap.size,arr,ty,Gh.bB _ _ _ _,UW w _,fun j v hj=>by
   rw[kZ hal] at hj; simpa using hj⟩⟩)
  refine⟨r1,r2,?_,r9,fun lo=>hX _ _ _⟩
  rw[VR,dL]
  exact⟨by rw[gz]; omega,w.heap.size,Gh.bB _ _ _ _,r9⟩
 ·cases h
theorem uR (hr:Rel H g w0 w) {t:TypeId} {x y:A} {H':ay} {c:Value} (lo:Nat) (h:sd P t x H=some (y,H')) (hx:VR H g w x c):Step H g w0 w lo ((Instr.box t c).run P w) y H':=by
 unfold sd at h
 cases hc:x.cells? with
 | none=>rw[hc] at h; cases h
 | some cs=>
  rw[hc] at h
  obtain ⟨hv,_,_⟩:=lZ hc hx
  obtain ⟨r1,r2,r3,r4,r5⟩:=ri (P:=P) hr (ty:=t) h hv
  exact⟨.pointer (some ⟨w.heap.size,0,none⟩),_,_,by simp[Instr.box,newVar,newRow,newObj]; rfl,r1,r2,r3,r4,r5 lo,rfl⟩
theorem rG (hr:Rel H g w0 w) {t:TypeId} {y:A} {H':ay} (lo:Nat) (h:jC P t H=some (y,H')):Step H g w0 w lo ((Instr.alloc t true (.tuple #[])).run P w) y H':=by
 unfold jC at h
 cases hz:gI P t with
 | none=>rw[hz] at h; cases h
 | some cs=>
  rw[hz] at h
  obtain ⟨i,z,hi,hzz,rfl⟩:=fp hz
  obtain ⟨r1,r2,r3,r4,r5⟩:=ri (P:=P) hr (arr:=z.cells) (ty:=t) h (jc _)
  exact⟨.pointer (some ⟨w.heap.size,0,none⟩),_,_,by simp[Instr.alloc,zeroValue,typeInfo,hi,hzz,newVar,newRow,newObj]; rfl,r1,r2,r3,r4,r5 lo,rfl⟩
theorem Rel.write (hr:Rel H g w0 w) {b k:Nat} {arr arr':Array Value} {ty:TypeId} (hk:g.mu b=some k) (ha:w.heap[k]? = some (.cells arr ty (0,0))) {B B':aO} (hB:H[b]? = some B)
  (hkind:(∃ cs cs',B=.box cs/\B'=.box cs')∨∃ es els els',B=.row true es els/\B'=.row true es els'/\els'.length=els.length)
  (hB':Ext H g w (H.set b B') g (w.setRow k arr')->(w.setRow k arr').heap[k]? = some (.cells arr' ty (0,0))->kT (H.set b B') g (w.setRow k arr') b B'):Rel (H.set b B') g w0 (w.setRow k arr')/\Ext H g w (H.set b B') g (w.setRow k arr'):=by
 have hlt:b<H.length:=(Tp.1 hB).1
 have hnew:(w.setRow k arr').heap[k]? = some (.cells arr' ty (0,0)):=setRow_heap w k arr arr' ty (0,0) ha
 have hoth:∀ j,j≠k->(w.setRow k arr').heap[j]? = w.heap[j]?:=fun j hj=>setRow_other w k j arr' hj
 have hnot:∀ {o:Nat},¬ eE H g k o:=fun {o} hs=>by
  obtain ⟨es,els,h1,_⟩:=hs.2 b hk
  rw[hB] at h1
  rcases hkind with ⟨cs,cs',rfl,_⟩ | ⟨es',els1,els',rfl,_⟩<;>cases h1
 have he:Ext H g w (H.set b B') g (w.setRow k arr'):=by
  refine⟨fun k' o v hs hc=>?_,fun c C hC=>?_,fun k' o ho=>(hoth k' (fun e=>by subst e; rw[ha] at ho; cases ho)).trans ho,by simp[World.setRow],fun k' marr cl hs hm=>?_,fun k' _ hn=>hoth k' (fun e=>hn b (e ▸ hk)),fun c k' h=>.inl ⟨c,h⟩⟩
  ·have hne:k'≠k:=fun e=>hnot (e ▸ hs)
   refine⟨(U1 (a:=⟨k',o,none⟩) (hoth k' hne)).trans hc,hs.1,fun c hck=>?_⟩
   obtain ⟨es,els,h1,h2⟩:=hs.2 c hck
   have hcb:c≠b:=fun e=>by subst e; rw[hk] at hck; exact hne (by cases hck; rfl)
   exact⟨es,els,by rw[TD (Us hcb)]; exact h1,h2⟩
  ·by_cases e:c=b
   ·subst e
    rw[hB] at hC; cases hC
    refine⟨B',by rw[TP hlt],?_⟩
    rcases hkind with ⟨cs,cs',rfl,rfl⟩ | ⟨es,els,els',rfl,rfl,hl⟩
    ·rfl
    ·exact⟨rfl,hl,rfl⟩
   ·refine⟨C,by rw[TD (Us e)]; exact hC,?_⟩
    cases C with
    | box _=>rfl
    | row wr es els=>cases wr with
     | true=>exact⟨rfl,rfl,rfl⟩
     | false=>exact⟨rfl,⟨[],r9⟩,(hr.blk c _ hC).len,Tm _,fun _=>⟨rfl,fun k' arr1 ty1 hk1 ha1=>⟨arr1,(hoth k' (fun e2=>e (hr.inj c b k (e2 ▸ hk1) hk))).trans ha1,Tm _⟩⟩⟩
    | rng _=>exact⟨rfl,rfl⟩
    | mp _ _ _=>rfl
    | dead=>trivial
    | hole=>trivial
  ·have hne:k'≠k:=fun e=>by subst e; rw[ha] at hm; cases hm
   refine⟨(hoth k' hne).trans hm,hs.1,fun c hck=>?_⟩
   obtain ⟨es,els,h1,h2⟩:=hs.2 c hck
   have hcb:c≠b:=fun e=>by subst e; rw[hk] at hck; exact hne (by cases hck; rfl)
   exact⟨es,els,by rw[TD (Us hcb)]; exact h1,h2⟩
 have hsz:(w.setRow k arr').heap.size=w.heap.size:=by simp[World.setRow]
 have hkb:=(hr.dom b k hk).2.1
 refine⟨⟨hr.below.trans ⟨rfl,rfl,rfl,by rw[hsz]; exact Tm _,fun j hj=>hoth j r7⟩,fun c j hcj=>⟨by simpa using (hr.dom c j hcj).1,(hr.dom c j hcj).2.1,by rw[hsz]; exact(hr.dom c j hcj).2.2⟩,hr.inj,hr.xw he,hr.vZ he,fun c C hC=>?_⟩,he⟩
 by_cases e:c=b
 ·subst e
  rw[TP hlt] at hC; cases hC
  exact hB' he hnew
 ·rw[TD (Us e)] at hC
  have h:=hr.blk c C hC
  have hmu:∀ {j},g.mu c=some j->j≠k:=fun {j} hj e2=>e (hr.inj c b k (e2 ▸ hj) hk)
  cases C with
  | box cs=>obtain ⟨j,arr1,ty1,h1,h2,h3⟩:=h; exact⟨j,arr1,ty1,h1,(hoth j (hmu h1)).trans h2,bt.ext he _ _ h3⟩
  | row wr es els=>cases wr with
   | true=>
    obtain ⟨ds,h1,h2,h3⟩:=h
    exact⟨ds,bp.ext he _ _ h1,h2,fun hp=>let ⟨j,arr1,ty1,e1,e2,e3⟩:=h3 hp; ⟨j,arr1,ty1,e1,(hoth j (hmu e1)).trans e2,e3⟩⟩
   | false=>exact⟨bp.ext he _ _ h.1,h.2⟩
  | rng st=>obtain ⟨j,h1,h2⟩:=h; exact⟨j,h1,(hoth j (hmu h1)).trans h2⟩
  | mp _ _ _=>obtain ⟨j,arr1,cl,h1,h2,h3,h4⟩:=h; exact⟨j,arr1,cl,h1,(hoth j (hmu h1)).trans h2,h3,bt.ext he _ _ h4⟩
  | dead=>exact h
  | hole=>exact h
theorem mC (H:ay) (B:aO) {lo b:Nat} (hb:lo<=b):∀ c,c<lo->c<H.length->(H.set b B)[c]? = H[c]?:=fun _ hc _=>TD r7
theorem lC {t:TypeId} {n k o:Nat} {c:Value} {arr:Array Value} {ty:TypeId} (hs:cR P t=some n) (hn:c.cells.size=n) (ha:w.heap[k]? = some (.cells arr ty (0,0))) (hfit:o+n<=arr.size) (h1:∀ x∈c.cells.toList,x.oneCell'=true) :
  (Instr.storeAt t (.pointer (some ⟨k,o,none⟩)) c).run P w=.ok () (w.setRow k (br arr.toList o c.cells.toList).toArray):=by
 have:=Wi P k o ty c.cells.toList 0 arr w ha (by simpa [hn] using hfit) h1
 simp only[UT] at this
 simp only[Instr.storeAt,Instr.sureAddr,TZ,Vv,TW,storeVar,dP hs]
 rw[Tw (by simp[hn])]
 rw[this]
 simp[br]
theorem ib {α:Type} (cs xs:List α) (o:Nat) (h:o+xs.length<=cs.length):(br cs o xs).length=cs.length:=by
 simp[br]; omega
theorem gg {α:Type} (cs xs:List α) (o j:Nat) (h:o+xs.length<=cs.length):(br cs o xs)[j]? = if o<=j/\j<o+xs.length then xs[j - o]? else cs[j]?:=by
 unfold br
 rw[Ug,U9,Uz,UY r7]
 by_cases h1:j<o
 ·rw[Ty h1,Tw r7,TN,Ty h1]
 ·rw[Tw h1,U9]
  by_cases h2:j<o+xs.length
  ·rw[Ty r7,Ty r7]
  ·rw[Tw r7,Tw r7,UJ]
   congr 1; omega
theorem rr {α:Type} (x l xs:List α) (n:Nat):br (x++l) (x.length+n) xs=x++br l n xs:=by
 unfold br
 rw[U5,List.take_length_add_append,List.drop_length_add_append]
 simp
theorem qE {es:Nat}:∀ {ds:List (List Value)} {i:Nat} {d d':List Value},(∀ d∈ds,d.length=es)->ds[i]? = some d->∀ o xs,o+xs.length<=es->d'=br d o xs->(ds.set i d').flatten=br ds.flatten (i*es+o) xs
 | [],i,d,d',_,h,_,_,_,_=>by simp at h
 | x :: r,i,d,d',hl,h,o,xs,hf,hd=>by
  have hx:=hl x r9
  cases i with
  | zero=>
   simp at h; subst h; subst hd
   simp only[List.set_cons_zero,UI,Nat.zero_mul,Uh,br]
   rw[Wd r7,Wc r7]
   simp
  | succ i=>
   have ih:=qE (ds:=r) (i:=i) (d:=d) (d':=d') (fun d hd=>hl d (by simp[hd])) (by simpa using h) o xs hf hd
   have e:(i+1)*es+o=x.length+(i*es+o):=by rw[hx,Ul]; omega
   rw[List.set_cons_succ,UI,UI,ih,e,rr]
theorem g8 {es:Nat} {ds:List (List Value)} (hl:∀ d∈ds,d.length=es) {m:Nat} (hm:m<=ds.length):(ds.take m).flatten.length=m*es:=by
 rw[bV (fun d hd=>hl d (TX hd)),Uz,UY hm]
theorem ml {es:Nat}:∀ {ds:List (List Value)} (o:Nat) {xs:List (List Value)},(∀ d∈ds,d.length=es)->(∀ d∈xs,d.length=es)->o+xs.length<=ds.length->(br ds o xs).flatten=br ds.flatten (o*es) xs.flatten
 | ds,0,xs,hl,hx,h=>by
  have:ds=ds.take xs.length++ds.drop xs.length:=(UP _ _).symm
  have h1:(ds.take xs.length).flatten.length=xs.length*es:=g8 hl r7
  simp only[br,WC,UK,Uh,Nat.zero_mul,Vg]
  congr 1
  have e:ds.flatten=(ds.take xs.length).flatten++(ds.drop xs.length).flatten:=Ta
  rw[e,List.drop_append,h1,bV hx]
  simp[h1]
 | [],o+1,xs,hl,hx,h=>by simp at h
 | d :: r,o+1,xs,hl,hx,h=>by
  have ih:=ml (ds:=r) o (xs:=xs) (fun d hd=>hl d (by simp[hd])) hx (by simp at h; omega)
  have e1:br (d :: r) (o+1) xs=d :: br r o xs:=by
   simp only[br,List.take_succ_cons,Uc]
   rw[show o+1+xs.length=o+xs.length+1 by omega,List.drop_succ_cons]
  rw[e1,UI,ih,UI]
  have e2:(o+1)*es=d.length+o*es:=by rw[hl d r9,Ul]; omega
  rw[e2,rr]
theorem tz (hr:Rel H g w0 w) {t:TypeId} {a x:A} {H':ay} {lo:Nat} {ca cx:Value} (h:jL P t a x H lo=some H') (ha:VR H g w a ca) (hx:VR H g w x cx) :
  ∃ w',(Instr.storeAt t ca cx).run P w=.ok () w'/\Rel H' g w0 w'/\Ext H g w H' g w'/\H.length<=H'.length/\∀ b,b<lo->b<H.length->H'[b]? = H[b]?:=by
 unfold jL at h
 replace h:=bq h
 obtain ⟨n,hn,h⟩:=h
 replace h:=bq h
 obtain ⟨xs,hxs,h⟩:=h
 replace h:=dW h
 obtain ⟨h0,h⟩:=h
 simp only[Uk,U0,UD] at h0
 obtain ⟨hvs,h1,_⟩:=lZ hxs hx
 have hsz:cx.cells.size=n:=by have:=hvs.length; simp at this; omega
 split at h
 ·rename_i b o
  split at h
  ·rename_i cs hb
   replace h:=bl h
   obtain ⟨hc,h⟩:=h
   simp only[Tl,Tu] at hc
   cases h
   rw[VR,hb] at ha
   obtain ⟨k,hk,rfl⟩:=ha
   obtain ⟨k',arr,ty,hk',har,hv⟩:=hr.blk b _ hb
   rw[hk] at hk'; cases hk'
   have hal:arr.size=cs.length:=by simpa using hv.length
   have hrun:=lC (P:=P) hn hsz har (o:=o) r7 h1
   obtain ⟨r1,r2⟩:=hr.write hk har (arr':=(br arr.toList o cx.cells.toList).toArray) (B':=.box (br cs o xs)) hb (.inl ⟨_,_,rfl,rfl⟩) (fun he hnew=>⟨k,_,ty,hk,hnew,bt.ext he _ _ (by simpa using hv.br hvs o)⟩)
   exact⟨_,hrun,r1,r2,r9,mC _ _ hc.1⟩
  ·cases h
 ·rename_i b i o
  split at h
  ·rename_i es els hb
   split at h
   ·rename_i cs hi
    rw[VR,hb] at ha
    obtain ⟨hlt,k,hk,rfl⟩:=ha
    obtain ⟨ds,hv,hl,hrow⟩:=hr.blk b _ hb
    obtain ⟨k',arr,ty,hk',har,hcell⟩:=hrow r7
    rw[hk] at hk'; cases hk'
    obtain ⟨d,hd,hvd⟩:=hv.get hi
    have hdl:d.length=es:=hl d (TT hd)
    have hcl:cs.length=es:=by rw[<-hvd.length]; exact hdl
    have hfl:=bV hl
    have hvl:=hv.length
    have hbound:i*es+es<=ds.length*es:=by
     have:=U2 es (show i+1<=ds.length by omega)
     rw[Ul] at this; omega
    have hal:ds.flatten.length<=arr.size:=by
     by_cases hz:ds.flatten.length=0
     ·omega
     ·have:=hcell (ds.flatten.length - 1) _ (Tj r7)
      have:=(Tt.1 this).1
      omega
    have hxl:cx.cells.toList.length=n:=by simpa using hsz
    rw[bu] at h
    split at h
    rotate_left
    ·replace h:=bl h
     obtain ⟨hc,h⟩:=h
     simp only[Tl,Tu,VK] at hc
     obtain ⟨⟨⟨hlo,rfl⟩,hq⟩,hfit⟩:=hc
     cases h
     have hxq:cx.cells.toList.length=n / es*es:=r7
     have hq2:i*es+n / es*es<=ds.length*es:=by
      have:=U2 es (show i+n / es<=ds.length by omega)
      rwa [Ul] at this
     have hrun:=lC (P:=P) hn hsz har (o:=i*es+0) r7 h1
     have hcl2:=jn (es:=es) hxq
     obtain ⟨r1,r2⟩:=hr.write hk har (arr':=(br arr.toList (i*es+0) cx.cells.toList).toArray) (B':=.row true es (br els i (chunk es (n / es) xs))) hb (.inr ⟨es,els,_,rfl,rfl,by rw[ib _ _ _ (by rw[gz]; omega)]⟩) (fun he hnew=>by
      refine⟨br ds i (chunk es (n / es) cx.cells.toList),?_,?_,fun _=>⟨k,_,ty,hk,hnew,fun j v hj=>?_⟩⟩
      ·have hv2:=bp.ext he _ _ hv
       have hx2:=bp.ext he _ _ (hvs.chunk (es:=es) (n / es))
       exact hv2.br hx2 i
      ·intro d' hd'
       unfold br at hd'
       rcases UL.1 hd' with hd' | hd'
       ·rcases UL.1 hd' with hd' | hd'
        ·exact hl d' (TX hd')
        ·exact hcl2 d' hd'
       ·exact hl d' (T2 hd')
      ·rw[ml i hl hcl2 (by rw[gz]; omega),kZ hxq] at hj
       rw[gg _ _ _ _ r7] at hj
       have:(br arr.toList (i*es+0) cx.cells.toList).toArray[j]? = (br arr.toList (i*es+0) cx.cells.toList)[j]?:=r9
       rw[this,gg _ _ _ _ so]
       simp only[UT]
       split
       ·rename_i hin; rw[Ty hin] at hj; exact hj
       ·rename_i hin; rw[Tw hin] at hj
        have:=hcell j v hj
        simpa using this)
     exact⟨_,hrun,r1,r2,r9,mC _ _ hlo⟩
    rename_i hc
    simp only[Tl,Tu] at hc
    cases h
    have hrun:=lC (P:=P) hn hsz har (o:=i*es+o) r7 h1
    obtain ⟨r1,r2⟩:=hr.write hk har (arr':=(br arr.toList (i*es+o) cx.cells.toList).toArray) (B':=.row true es (els.set i (br cs o xs))) hb (.inr ⟨es,els,_,rfl,rfl,r9⟩) (fun he hnew=>by
     refine⟨ds.set i (br d o cx.cells.toList),?_,?_,fun _=>⟨k,_,ty,hk,hnew,fun j v hj=>?_⟩⟩
     ·have hv2:=bp.ext he _ _ hv
      have hvd2:=bt.ext he _ _ (hvd.br hvs o)
      obtain ⟨g1,g2⟩:=cE.1 hv2
      refine cE.2 ⟨by simp[g1],fun j a' d' ha' hd'=>?_⟩
      by_cases e:j=i
      ·subst e
       rw[TP r7] at ha'
       rw[TP r7] at hd'
       cases ha'; cases hd'; exact hvd2
      ·rw[TD (Us e)] at ha' hd'
       exact g2 j a' d' ha' hd'
     ·intro d' hd'
      rcases Wk hd' with h' | rfl
      ·exact hl d' h'
      ·rw[ib _ _ _ r7]; exact hdl
     ·rw[qE hl hd o cx.cells.toList r7 rfl] at hj
      rw[gg _ _ _ _ r7] at hj
      have:(br arr.toList (i*es+o) cx.cells.toList).toArray[j]? = (br arr.toList (i*es+o) cx.cells.toList)[j]?:=r9
      rw[this,gg _ _ _ _ so]
      split
      ·rename_i hin; rw[Ty hin] at hj; exact hj
      ·rename_i hin; rw[Tw hin] at hj
       have:=hcell j v hj
       simpa using this)
    exact⟨_,hrun,r1,r2,r9,mC _ _ hc.1⟩
   ·cases h
  ·cases h
 ·cases h
end
section
open Go.RowKit
variable {P:Program} {H:ay} {g:Gh} {w0 w:World}
theorem jo {t e:TypeId} (h:kC P t=some e):P.underlying t=some (.slice e):=by
 unfold kC at h
 split at h
 ·rename_i hu; cases h; exact hu
 ·cases h
theorem mS (z:Array Value) (len:Nat) (hz:0<z.size):(madeCells z (len*z.size)).toList=(List.replicate len z.toList).flatten:=by
 have hl:∀ d∈List.replicate len z.toList,d.length=z.size:=fun d hd=>by rw[(Vn.1 hd).2]; simp
 apply UX
 intro j
 by_cases hj:j<len*z.size
 ·have hq:j / z.size<len:=V5 (by rw[Ux]; exact hj)
  have e:=jq hl (j:=j / z.size) (d:=z.toList) (by rw[U4,Ty hq]) (j % z.size) (VJ _ hz)
  rw[show j / z.size*z.size+j % z.size=j by rw[Ux]; exact V6 _ _] at e
  rw[e]
  have hm:=VJ j hz
  have:(madeCells z (len*z.size))[j]? = some (z[j % z.size]!):=by simp[madeCells,hj]
  rw[TY,this]
  simp[hm]
 ·rw[UH (by simp[madeCells]; omega),UH (by rw[bV hl]; simp; omega)]
theorem vp {es:Nat}:∀ {parts:List (Nat×A)} {vparts:List (Nat×Value)} {els els':List (List A)} {ds:List (List Value)} {arr:Array Value},lA els parts=some els'->arr.toList=ds.flatten->bp H g w els ds->(∀ d∈ds,d.length=es) ->
  (∀ p∈parts,p.1<els.length/\∃ xs,p.2.cells? = some xs/\xs.length=es)->lU H g w parts vparts->∃ arr' ds',Instr.fill (fun i=>some (i*es,es)) arr vparts=some arr'/\arr'.toList=ds'.flatten/\bp H g w els' ds'/\(∀ d∈ds',d.length=es)
 | [],vparts,els,els',ds,arr,h,ha,hv,hl,_,hp=>by
  simp only[lA,Uf] at h
  subst h
  have:vparts=[]:=TK (by simpa using hp.1)
  subst this
  exact⟨arr,ds,rfl,ha,hv,hl⟩
 | (i,x) :: r,vparts,els,els',ds,arr,h,ha,hv,hl,hc,hp=>by
  cases vparts with
  | nil=>simp[lU] at hp
  | cons q vr=>
   obtain ⟨q',hq,e1,hx⟩:=hp.2 0 (i,x) rfl
   simp at hq
   subst hq
   obtain ⟨hi,xs,hxs,hxl⟩:=hc (i,x) r9
   simp only[lA,hxs,Ti] at h
   obtain ⟨hvs,_,_⟩:=lZ hxs hx
   have hvl:=hvs.length
   have hel:=hv.length
   obtain ⟨qi,qv⟩:=q
   simp only at e1 hi
   subst e1
   have hsz:qv.cells.size=es:=by simpa [hxl] using hvl
   obtain ⟨d,hd,_⟩:=hv.get (i:=qi) (Tj hi)
   have hdl:d.length=es:=hl d (TT hd)
   have hfl:=bV hl
   have hfit:qi*es+qv.cells.size<=arr.size:=by
    have e2:arr.size=ds.length*es:=by rw[<-hfl,<-ha]; simp
    have:=U2 es (show qi+1<=ds.length by omega)
    rw[Ul] at this; omega
   have hsp:qv.cells.toList=br d 0 qv.cells.toList:=by
    unfold br
    rw[WC,UK,Wx so,Uy]
   have hset:(qv.cells.zipIdx.foldl (fun cs (c,j)=>cs.setIfInBounds (qi*es+j) c) arr).toList=(ds.set qi qv.cells.toList).flatten:=by
    have:=rm qv.cells.toList (qi*es) arr (by simpa using hfit)
    rw[qE hl hd 0 qv.cells.toList so hsp,<-ha,UT,<-this,<-Vy]
    simp
   obtain ⟨arr',ds',h1,h2,h3,h4⟩:=vp (els:=els.set qi xs) (ds:=ds.set qi qv.cells.toList) (arr:=qv.cells.zipIdx.foldl (fun cs (c,j)=>cs.setIfInBounds (qi*es+j) c) arr) (vparts:=vr) h hset
    (by
     obtain ⟨g1,g2⟩:=cE.1 hv
     refine cE.2 ⟨by simp[g1],fun j a' d' ha' hd'=>?_⟩
     by_cases e:j=qi
     ·subst e
      rw[TP r7] at ha'
      rw[TP r7] at hd'
      cases ha'; cases hd'; exact hvs
     ·rw[TD (Us e)] at ha' hd'
      exact g2 j a' d' ha' hd')
    (fun d' hd'=>by
     rcases Wk hd' with h' | rfl
     ·exact hl d' h'
     ·simpa using hsz)
    (fun p hpm=>by have:=hc p (by simp[hpm]); simpa using this) ⟨by simpa using hp.1,fun j p' hj=>by have:=hp.2 (j+1) p' (by simpa using hj); simpa using this⟩
   refine⟨arr',ds',?_,h2,h3,h4⟩
   unfold Instr.fill
   simp only
   rw[Tw (by simp[hsz]; omega)]
   exact h1
theorem lF {t:TypeId} {len:Nat} {parts:List (Nat×A)} {vparts:Array (Nat×Value)} {y:A} (h:aN P t len parts=some y) (hp:lU H g w parts vparts.toList) :
  ∃ e es els arr' ds,y=.imm els true/\kC P t=some e/\cR P e=some es/\es≠0/\(Instr.buildSlice t len vparts).run P w=.ok (.slice (some ⟨w.heap.size,0,none⟩) len len) (w.alloc (.cells arr' e))/\els.length=len/\arr'.toList=ds.flatten/\bp H g w els ds/\∀ d∈ds,d.length=es:=by
 unfold aN at h
 replace h:=bq h
 obtain ⟨e,he,h⟩:=h
 have hu:=jo he
 replace h:=bq h
 obtain ⟨es,hes,h⟩:=h
 replace h:=bq h
 obtain ⟨z,hz,h⟩:=h
 replace h:=dW h
 obtain ⟨h0,h⟩:=h
 replace h:=bl h
 obtain ⟨hc,h⟩:=h
 simp only[Uk,U0,UD,Tu,Vh] at h0
 obtain ⟨⟨h0,h1⟩,h2⟩:=h0
 obtain ⟨it,v,hi,hv,rfl⟩:=fp hz
 obtain ⟨it',hi',hsz⟩:=fR hes
 rw[hi] at hi'; cases hi'
 have hvs:v.cells.size=es:=by simpa using h1
 cases hse:lA (List.replicate len (v.cells.toList.map xu)) parts with
 | none=>rw[hse] at h; cases h
 | some els=>
  rw[hse] at h
  cases h
  have hz0:0<v.cells.size:=r7
  have hall:∀ p∈parts,p.1<(List.replicate len (v.cells.toList.map xu)).length/\∃ xs,p.2.cells? = some xs/\xs.length=es:=fun p hpm=>by
   have:=TA.1 hc p hpm
   simp only[Tl,Tu] at this
   refine⟨by simpa using this.1,?_⟩
   have h3:=this.2
   split at h3
   ·rename_i xs hx; exact⟨xs,hx,by simpa using h3⟩
   ·cases h3
  have hrep:bp H g w (List.replicate len (v.cells.toList.map xu)) (List.replicate len v.cells.toList):=cE.2 ⟨r9,fun i a d ha hd=>by
   rw[U4] at ha hd
   split at ha
   ·rename_i hlt; rw[Ty hlt] at hd; cases ha; cases hd; exact jc _
   ·cases ha⟩
  obtain ⟨arr',ds',f1,f2,f3,f4⟩:=vp (es:=es) (arr:=madeCells v.cells (len*es)) hse (by rw[<-hvs]; exact mS _ _ hz0) hrep (fun d hd=>by rw[(Vn.1 hd).2]; simpa using hvs) hall hp
  have hb:Below w.heap.size w (w.alloc (.cells arr' e)):=(Below.refl _ w).alloc (Tm _) _
  have hlen:els.length=len:=by
   have gen:∀ (parts:List (Nat×A)) (els els':List (List A)),lA els parts=some els'->els'.length=els.length:=by
    intro parts
    induction parts with
    | nil=>intro els els' h; simp only[lA,Uf] at h; rw[h]
    | cons p r ih=>
     intro els els' h
     obtain ⟨i,x⟩:=p
     simp only[lA] at h
     obtain ⟨xs,_,h⟩:=bq h
     rw[ih _ _ h]; simp
   rw[gen _ _ _ hse]; simp
  refine⟨e,es,els,arr',ds',rfl,he,hes,h0,?_,hlen,f2,f3,f4⟩
  unfold Instr.buildSlice
  have hsz':(sizeOf e).run P w=.ok es w:=dP hes w
  have hbig:¬ (16777216<len*es):=r7
  by_cases hle:len*es=0
  ·rw[hle] at f1
   rw[show madeCells v.cells 0=#[] by simp[madeCells]] at f1
   simp[Tz hu,hsz',hle,show Array.range 0=#[] from rfl,f1,newRow,newObj]
   rfl
  ·unfold madeCells at f1
   simp[Tz hu,hsz',hle,hbig,zeroValue,typeInfo,hi,hv,f1,newRow,newObj]
   rfl
theorem nU (hr:Rel H g w0 w) {t:TypeId} {len:Nat} {parts:List (Nat×A)} {vparts:Array (Nat×Value)} {y:A} (h:aN P t len parts=some y) (hp:lU H g w parts vparts.toList) :
  ∃ d w',(Instr.buildSlice t len vparts).run P w=.ok d w'/\Below w.heap.size w w'/\VR H g w' y d:=by
 obtain ⟨e,es,els,arr',ds',rfl,_,_,_,hrun,hlen,f2,f3,f4⟩:=lF h hp
 have hb:Below w.heap.size w (w.alloc (.cells arr' e)):=(Below.refl _ w).alloc (Tm _) _
 refine⟨_,_,hrun,hb,?_⟩
 rw[VR]
 have he:=Ext.below hr hb
 refine⟨_,len,ds',es,by rw[hlen],r7,fun _=>hlen.symm,f4,fun _=>⟨w.heap.size,0,rfl,?_⟩,bp.ext he _ _ f3⟩
 exact mm hr (UW w _) fun j v hj=>by rw[<-f2] at hj; simpa using hj
theorem pL (hr:Rel H g w0 w) {t:TypeId} {len:Nat} {parts:List (Nat×A)} {vparts:Array (Nat×Value)} {y:A} {H':ay} (lo:Nat) (h:oK P t len parts H=some (y,H')) (hp:lU H g w parts vparts.toList) :
  Step H g w0 w lo ((Instr.buildSlice t len vparts).run P w) y H':=by
 unfold oK at h
 obtain ⟨e0,h1,h⟩:=bq h
 obtain ⟨es0,h2,h⟩:=bq h
 obtain ⟨y0,h3,h⟩:=bq h
 obtain ⟨e,es,els,arr',ds',rfl,g1,g2,g3,hrun,hlen,f2,f3,f4⟩:=lF h3 hp
 rw[h1] at g1; cases g1
 rw[h2] at g2; cases g2
 simp only[Uf,Prod.mk.injEq] at h
 obtain ⟨rfl,rfl⟩:=h
 have hb:Below w.heap.size w (w.alloc (.cells arr' e0)):=(Below.refl _ w).alloc (Tm _) _
 obtain ⟨k1,k2⟩:=hr.push hb (.row true es0 els) (some w.heap.size) [] (fun k hk=>by cases hk; exact⟨rfl,by show w.heap.size<(w.heap.push _).size; rw[Array.size_push]; exact Nat.lt_succ_self _⟩) (fun he=>⟨ds',bp.ext he _ _ f3,f4,fun _=>⟨w.heap.size,arr',e0,Gh.bB _ _ _ _,UW w _,fun j v hj=>by rw[<-f2] at hj; simpa using hj⟩⟩)
 refine⟨_,_,_,hrun,k1,k2,?_,r9,fun b _ hb=>TG hb,rfl⟩
 rw[VR,dL]
 exact⟨r9,_,len,by rw[hlen],r7,fun _=>hlen.symm,fun _=>⟨w.heap.size,Gh.bB _ _ _ _,r9⟩⟩
theorem Ei {x:A} {c:Value} (h:VR H g w x c):VR H g w (uC x) c:=by
 cases x with
 | imm els cl=>
  simp only[uC]
  rw[VR] at h ⊢
  obtain ⟨a,cap,ds,es,h1,h2,_,h4,h5,h6⟩:=h
  exact⟨a,cap,ds,es,h1,h2,fun h=>(by cases h),h4,h5,h6⟩
 | _=>exact h
theorem oE:∀ {cs:List A} {ds:List Value},bt H g w cs ds->bt H g w (cs.map uC) ds
 | [],_,h=>h
 | a :: as,_,h=>by
  rw[bt] at h
  obtain ⟨d,ds',rfl,h1,h2⟩:=h
  rw[Um,bt]
  exact⟨d,ds',rfl,Ei h1,oE h2⟩
theorem qc (hr:Rel H g w0 w) {t:TypeId} {n c y:A} {cn cc:Value} {H':ay} (h:fI P t n c H=some (y,H')) (hn:VR H g w n cn) (hc:VR H g w c cc):H'=H/\∃ d w',(Instr.makeSlice t cn cc).run P w=.ok d w'/\Below w.heap.size w w'/\VR H g w' y d:=by
 unfold fI at h
 obtain ⟨e,he,h⟩:=bq h
 have hu:=jo he
 obtain ⟨es,hes,h⟩:=bq h
 obtain ⟨by_,hby,h⟩:=bq h
 obtain ⟨z,hz,h⟩:=bq h
 obtain ⟨ni,hni,h⟩:=bq h
 obtain ⟨ci,hci,h⟩:=bq h
 obtain ⟨h0,h⟩:=dW h
 simp only[Uk,U0,UD,Tu,Vh] at h0
 obtain ⟨⟨⟨⟨h0,h1⟩,h2⟩,h3⟩,h4⟩:=h0
 cases h
 obtain ⟨it,v,hi,hv,rfl⟩:=fp hz
 obtain ⟨it',hi',hsz⟩:=fR hes
 rw[hi] at hi'; cases hi'
 have hvs:v.cells.size=es:=by simpa using h1
 have hbv:it.bytes=by_:=by unfold jM at hby; rw[hi] at hby; simpa using hby
 obtain ⟨kn,zn,rfl,hn0,rfl⟩:=nC hni hn
 obtain ⟨kc,zc,rfl,hc0,rfl⟩:=nC hci hc
 unfold dm at h2 h3
 have hbz:(it.bytes:Int)*zc<=281474976710656:=by
  have:((zc.toNat*by_:Nat):Int)<=140737488355328:=r7
  rw[VB,VS hc0,WT,<-hbv] at this
  omega
 have hrun:=run_make (P:=P) w t e it v hu hi hv kn kc zn zc hn0 r7 hbz r7
 have hb:Below w.heap.size w (w.alloc (.cells (madeCells v.cells (zc.toNat*it.size)) e)):=(Below.refl _ w).alloc (Tm _) _
 rw[hsz] at hrun hb
 have hz0:0<v.cells.size:=r7
 refine⟨rfl,_,_,hrun,hb,?_⟩
 rw[VR]
 refine⟨_,zc.toNat,List.replicate zn.toNat v.cells.toList,es,r9,so,fun h=>(by cases h),fun d hd=>by rw[(Vn.1 hd).2]; simpa using hvs,fun _=>⟨w.heap.size,0,rfl,?_⟩,cE.2 ⟨r9,fun i a d ha hd=>?_⟩⟩
 ·exact mm hr (UW w _) fun j x hj=>by rw[<-TY,<-hvs,mS _ _ hz0,<-h4]; exact hj
 ·rw[U4] at ha hd
  split at ha
  ·rename_i hlt; rw[Ty hlt] at hd; cases ha; cases hd; exact oE (jc _)
  ·cases ha
theorem jD {ck:Bool} (hr:Rel H g w0 w) {t:TypeId} {n c y:A} {cn cc:Value} {H':ay} (lo:Nat) (h:fh ck P t n c H=some (y,H')) (hn:VR H g w n cn) (hc:VR H g w c cc):Step H g w0 w lo ((Instr.makeSlice t cn cc).run P w) y H':=by
 unfold fh at h
 replace h:=bq h
 obtain ⟨e,he,h⟩:=h
 have hu:=jo he
 replace h:=bq h
 obtain ⟨es,hes,h⟩:=h
 replace h:=bq h
 obtain ⟨by_,hby,h⟩:=h
 replace h:=bq h
 obtain ⟨z,hz,h⟩:=h
 replace h:=bq h
 obtain ⟨ni,hni,h⟩:=h
 replace h:=bq h
 obtain ⟨ci,hci,h⟩:=h
 replace h:=dW h
 obtain ⟨h0,h⟩:=h
 simp only[Uk,U0,UD,Tu,Vh] at h0
 obtain ⟨⟨⟨⟨h0,h1⟩,h2⟩,h3⟩,h4⟩:=h0
 obtain ⟨it,v,hi,hv,rfl⟩:=fp hz
 obtain ⟨it',hi',hsz⟩:=fR hes
 rw[hi] at hi'; cases hi'
 have hvs:v.cells.size=es:=by simpa using h1
 have hbv:it.bytes=by_:=by unfold jM at hby; rw[hi] at hby; simpa using hby
 obtain ⟨kn,zn,rfl,hn0,rfl⟩:=nC hni hn
 obtain ⟨kc,zc,rfl,hc0,rfl⟩:=nC hci hc
 unfold dm at h2 h3
 have hbz:(it.bytes:Int)*zc<=281474976710656:=by
  have:((zc.toNat*by_:Nat):Int)<=140737488355328:=r7
  rw[VB,VS hc0,WT,<-hbv] at this
  omega
 have hrun:=run_make (P:=P) w t e it v hu hi hv kn kc zn zc hn0 r7 hbz r7
 have hb:Below w.heap.size w (w.alloc (.cells (madeCells v.cells (zc.toNat*it.size)) e)):=(Below.refl _ w).alloc (Tm _) _
 rw[hsz] at hrun hb
 have hz0:0<v.cells.size:=r7
 rw[bu] at h
 split at h
 ·rename_i hnc
  have hnc:zn.toNat=zc.toNat:=by simpa using hnc
  cases h
  obtain ⟨r1,r2⟩:=hr.push hb (.row true es (List.replicate zn.toNat ((v.cells.toList.map xu).map uC))) (some w.heap.size) [] (fun k hk=>by cases hk; exact⟨rfl,r9⟩) (fun he'=>by
   refine⟨List.replicate zn.toNat v.cells.toList,cE.2 ⟨r9,fun i a d ha hd=>?_⟩,fun d hd=>by rw[(Vn.1 hd).2]; simpa using hvs,fun _=>⟨w.heap.size,_,e,Gh.bB _ _ _ _,UW w _,fun j x hj=>?_⟩⟩
   ·rw[U4] at ha hd
    split at ha
    ·rename_i hlt; rw[Ty hlt] at hd; cases ha; cases hd; exact oE (jc _)
    ·cases ha
   ·rw[<-TY,<-hvs,mS _ _ hz0,<-hnc]; exact hj)
  refine⟨_,_,_,hrun,r1,r2,?_,r9,hX _ _ _,rfl⟩
  rw[VR,dL]
  refine⟨r9,_,zc.toNat,rfl,r7,fun _=>r7,fun _=>⟨w.heap.size,Gh.bB _ _ _ _,r9⟩⟩
 ·rw[bu] at h
  split at h
  ·rename_i hn00
   have hn00:zn.toNat=0:=by simpa using hn00
   cases h
   obtain ⟨r1,r2⟩:=hr.push hb (.row false es []) (some w.heap.size) [] (fun k hk=>by cases hk; exact⟨rfl,r9⟩) (fun he'=>by
    refine⟨?_,?_⟩
    ·rw[Gh.gF,bp]
    ·rw[Gh.gF]; simp)
   refine⟨_,_,_,hrun,r1,r2,?_,r9,hX _ _ _,rfl⟩
   rw[VR,dL]
   refine⟨r9,_,zc.toNat,by rw[hn00],r7,fun h=>(by cases h),fun h=>absurd h r9,fun _ _ _ _=>⟨w.heap.size,_,e,Gh.bB _ _ _ _,rfl,UW w _,by rw[size_madeCells]; exact Tm _⟩⟩
  ·cases h
theorem oP (hr:Rel H g w0 w) {t:TypeId} {n c y:A} {cn cc:Value} {H':ay} (lo:Nat) (h:fW P t n c H=some (y,H')) (hn:VR H g w n cn) (hc:VR H g w c cc):Step H g w0 w lo ((Instr.makeSlice t cn cc).run P w) y H':=jD hr lo h hn hc
end
end Go.Proofs.Ytebkhfhcipnfgaa
