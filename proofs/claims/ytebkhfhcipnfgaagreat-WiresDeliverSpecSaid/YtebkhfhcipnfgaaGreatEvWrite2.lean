/-
 Slices made, appended to, copied into: as the model's.
-/
import Derived.Below
import Derived.ChangeArms
import Derived.Deep.Slices
import Derived.RangeFuncNested
import Derived.RangeFuncCalls
import Derived.RangeFuncLeaves
import Derived.OrdersIn
import Derived.TacticsIn
import Derived.Maps.AppendAt
import Derived.OwnWalkIn
import Derived.OwnWalk
import Derived.Deep.MidRow
import Derived.DeepKeys
import Derived.Laws.StructEq
import Derived.Laws.Tables
import Derived.Laws.IdiomStrings
import Derived.Laws.BytesString
import Derived.Laws.Slices
import Derived.Laws.MakeOwn
import Derived.KernelRfl
namespace Go.Proofs.YtebkhfhcipnfgaaGreat
set_option linter.unusedVariables false
set_option linter.unusedSimpArgs false
set_option linter.defProp false
theorem o3 {p:Prop} (h:p:=by omega):p:=h
theorem r8 {p:Prop} (h:p:=by simp):p:=h
theorem r9 {p:Prop} (h:p:=by simp; omega):p:=h
theorem s6 {p:Prop} (h:p:=by rw[VR]):p:=h
theorem u3 {p:Prop} (h:p:=by rw[bB]):p:=h
theorem y6 {p:Prop} (h:p:=by rw[List.length_take]; omega):p:=h
theorem H7 {p:Prop} (h:p:=by rw[VR]; trivial):p:=h
theorem XF {p:Prop} (h:p:=by rw[<-List.flatten_append,List.take_append_drop]):p:=h
def XM:=@Option.bind_some
def XN:=@List.getElem?_eq_getElem
def XO:=@cond_false
def XP:=@Nat.le_refl
def XQ:=@Bool.and_eq_true
def XR:=@cond_true
def XS:=@List.getElem?_eq_some_iff
def XU:=@Array.getElem?_eq_some_iff
def XV:=@decide_eq_true_eq
def XW:=@if_neg
def XX:=@if_pos
def XY:=@of_decide_eq_true
def X0:=@List.all_eq_true
def X1:=@List.drop_eq_getElem_cons
def X2:=@run_underlying
def X3:=@Nat.eq_of_beq_eq_true
def X4:=@List.getElem?_set_ne
def X5:=@Nat.lt_of_lt_of_le
def X6:=@List.getElem?_append_left
def X8:=@List.length_cons
def X9:=@List.length_append
def Yb:=@Nat.le_trans
def Yc:=@List.getElem?_take
def Ye:=@List.eq_nil_of_length_eq_zero
def Yf:=@List.getElem?_set_self
def Yg:=@Bool.false_eq_true
def Yh:=@List.mem_of_getElem?
def Yi:=@Bool.true_and
def Yj:=@List.mem_range
def Yk:=@List.mem_of_mem_take
def Ym:=@Result.andThen_ok
def Yo:=@List.mem_of_mem_drop
def Yq:=@List.getElem?_map
def Yr:=@List.getElem?_append_right
def Ys:=@List.getElem_mem
def Yt:=@Array.getElem?_toList
def Yu:=@Option.map_eq_some_iff
def Yv:=@Sem.run_bind
def Yw:=@Option.bind_assoc
def Yx:=@List.append_assoc
def Yz:=@List.cons_append
def YB:=@Nat.zero_add
def YC:=@List.mem_cons
def YD:=@Array.getElem?_eq_getElem
def YE:=@Option.some.injEq
def YF:=@congrArg
def YG:=@List.length_take
def YH:=@Option.map_some
def YI:=@List.getElem_of_mem
def YK:=@Bool.or_eq_false_iff
def YL:=@Nat.add_mul
def YM:=@Array.getD_eq_getD_getElem?
def YN:=@List.append_nil
def YP:=@Bool.or_eq_true
def YQ:=@Bool.not_eq_true'
def YR:=@List.nil_append
def YS:=@Ne.symm
def YT:=@List.getElem?_eq_none
def YV:=@beq_iff_eq
def YW:=@List.map_cons
def YX:=@List.flatten_cons
def YZ:=@Nat.mul_comm
def Y0:=@List.getElem?_drop
def Y1:=@Nat.lt_of_not_le
def Y2:=@World.putObj_heap_other
def Y3:=@Addr.add_mid
def Y4:=@List.mem_append
def Y8:=@beq_eq_false_iff_ne
def Za:=@List.countP_eq_length_filter
def Zb:=@List.take_append_drop
def Zf:=@Nat.add_zero
def Zg:=@Array.getElem?_append_left
def Zh:=@cell_of_row
def Zi:=@heap_alloc_new
def Zk:=@List.ext_getElem?
def Zm:=@Nat.min_eq_left
def Zo:=@Bool.not_eq_false'
def Zr:=@World.cell?_of_block
def Zs:=@Nat.mul_le_mul_right
def Zu:=@World.block_lt_of_cell?
def Zv:=@List.getElem?_replicate
def Zx:=@List.length_map
def Zy:=@List.flatten_append
def Zz:=@Nat.add_assoc
def ZA:=@Nat.le_of_not_lt
def ZD:=@Array.getElem?_setIfInBounds_ne
def ZE:=@List.getElem?_append
def ZF:=@Array.ext'
def ZI:=@Nat.lt_irrefl
def ZL:=@List.length_pos_of_mem
def ZO:=@List.all_cons
def ZR:=@getD_set_ne
def ZS:=@if_true
def ZT:=@Array.all_eq_true_iff_forall_mem
def ZU:=@Sem.run_pure
def ZW:=@Array.length_toList
def ZY:=@Array.foldl_toList
def ZZ:=@mem_ready
def Z0:=@Nat.eq_zero_or_pos
def Z1:=@List.mem_replicate
def Z2:=@Int.natCast_mul
def Z6:=@List.drop_of_length_le
def qac:=@Nat.mod_lt
def qad:=@Nat.beq_eq
def qak:=@Int.toNat_of_nonneg
def qal:=@List.mem_or_eq_of_mem_set
def qam:=@Nat.le_of_eq
def qax:=@List.length_filter_le
def qay:=@List.mem_filter
def qaz:=@Nat.le_antisymm
def qaA:=@Nat.div_lt_of_lt_mul
def qaB:=@Nat.div_add_mod
def qaC:=@Nat.beq_refl
def qaI:=@List.drop_append_of_le_length
def qaJ:=@List.take_append_of_le_length
def qaK:=@List.drop_drop
def qaL:=@grownCap_ge
def qaN:=@run_loadCells_list
def qaP:=@Prod.mk.injEq
def qaR:=@run_storeCells_at
def qaW:=@List.mem_map
def qaX:=@Nat.add_comm
def qaY:=@Nat.zero_mul
def qa4:=@List.nodup_cons
def qa5:=@List.foldl_cons
def qa7:=@Nat.one_mul
def qbc:=@List.countP_mono_left
def qbi:=@Classical.not_forall
def qbm:=@Oper.semAt_eq
def qbp:=@Array.getElem?_push
def qbq:=@List.take_succ_cons
def qbr:=@List.drop_succ_cons
def qbx:=@Bool.true_or
def qby:=@Int.mul_comm
section
open Go.RowKit
def kz:Obj->Bool
 | .cells ..=>true
 | .map ..=>true
 | _=>false
def fE (B:Nat) (w w':World):Prop:=∀ (k:Nat) (o:Obj),k<B->w.heap[k]? = some o->kz o=true->w'.heap[k]? = some o
theorem fE.eK {B n:Nat} {w w':World} (h:Below B w w') (hn:n<=B):fE n w w':=fun k _ hk ho _=>(h.block k (X5 hk hn)).trans ho
theorem fE.mono {B n:Nat} {w w':World} (h:fE B w w') (hn:n<=B):fE n w w':=fun k o hk=>h k o (X5 hk hn)
theorem fE.refl (B:Nat) (w:World):fE B w w:=fun _ _ _ h _=>h
theorem fE.trans {B:Nat} {a b c:World} (h:fE B a b) (k:fE B b c):fE B a c:=fun i o hi ho hd=>k i o hi (h i o hi ho hd) hd
def dY (T:Nat->Prop) (w w':World):Prop:=∀ (k:Nat) (o:Obj),T k->w.heap[k]? = some o->kz o=true->w'.heap[k]? = some o
theorem dY.refl (T:Nat->Prop) (w:World):dY T w w:=fun _ _ _ h _=>h
theorem dY.trans {T:Nat->Prop} {a b c:World} (h:dY T a b) (k:dY T b c):dY T a c:=fun i o hi ho hd=>k i o hi (h i o hi ho hd) hd
theorem dY.sub {T T':Nat->Prop} {a b:World} (h:dY T a b) (hs:∀ k,T' k->T k):dY T' a b:=fun i o hi ho hd=>h i o (hs i hi) ho hd
theorem dY.keeps {T:Nat->Prop} {B:Nat} {a b:World} (h:dY T a b) (hs:∀ k,k<B->T k):fE B a b:=fun i o hi ho hd=>h i o (hs i hi) ho hd
theorem dY.alloc (T:Nat->Prop) (w:World) (o:Obj):dY T w (w.alloc o):=fun k _ _ h _=>(Below.heap_alloc w o k (XU.1 h).1).trans h
theorem dY.eK {T:Nat->Prop} {w w':World} (h:Below w.heap.size w w'):dY T w w':=fun k _ _ ho _=>(h.block k (XU.1 ho).1).trans ho
theorem dY.setCell {T:Nat->Prop} {w:World} {a:Addr} (v:Value) (h:¬ T a.block):dY T w (w.setCell a v):=fun k _ hk ho _=>(Below.heap_setCell w a v k (fun e=>h (e ▸ hk))).trans ho
theorem fE.alloc (B:Nat) (w:World) (o:Obj):fE B w (w.alloc o):=fun k _ _ h _=>(Below.heap_alloc w o k (XU.1 h).1).trans h
theorem yO {B:Nat} {w w':World} (h:fE B w w') {a:Addr} {v:Value} (hb:a.block<B) (hc:w.cell? a=some v):w'.cell? a=some v:=by
 have hx:∃ o,w.heap[a.block]? = some o/\kz o=true:=by
  unfold World.cell? at hc
  cases ho:w.heap[a.block]? with
  | none=>simp[ho] at hc
  | some o=>cases o<;>simp[ho] at hc<;>exact⟨_,rfl,rfl⟩
 obtain ⟨o,ho,hd⟩:=hx
 rw[<-hc]
 exact Zr ((h _ o hb ho hd).trans ho.symm)
structure zV (α:Type) where
 k:Nat
 rd:Nat->World->List Value->α->Prop
 len:∀ {B:Nat} {w:World} {cs:List Value} {a:α},rd B w cs a->cs.length=k
 mono:∀ {B B':Nat} {w:World} {cs:List Value} {a:α},B<=B'->rd B w cs a->rd B' w cs a
 stab:∀ {B:Nat} {w w':World} {cs:List Value} {a:α},fE B w w'->rd B w cs a->rd B w' cs a
def RU:zV Int:={ k:=1,rd:=fun _ _ cs n=>cs=[.int .i64 n]/\-9223372036854775808<=n/\n<=9223372036854775807,len:=fun h=>by rw[h.1]; rfl,mono:=fun _ h=>h,stab:=fun _ h=>h }
def jG {α:Type} (L:zV α) (B:Nat) (w:World) (b off i:Nat) (x:α):Prop:=
 ∃ vs:List Value,L.rd B w vs x/\∀ j,j<L.k->w.cell? ⟨b,off+i*L.k+j,none⟩=vs[j]?
def fQ {α:Type} (L:zV α) (B:Nat) (w:World) (v:Value) (l:List α):Prop:=
 ∃ a cap,v=.slice a l.length cap/\l.length<=cap/\cap<=maxLen/\(0<l.length->∃ b off,a=some ⟨b,off,none⟩/\b<B/\∀ i (h:i<l.length),jG L B w b off i l[i])
theorem jG.mono {α:Type} {L:zV α} {B B':Nat} {w:World} {b off i:Nat} {x:α} (hB:B<=B') (h:jG L B w b off i x):jG L B' w b off i x:=by
 obtain ⟨vs,h1,h2⟩:=h
 exact⟨vs,L.mono hB h1,h2⟩
theorem jG.stab {α:Type} {L:zV α} {B:Nat} {w w':World} {b off i:Nat} {x:α} (hb:b<B) (hw:fE B w w') (h:jG L B w b off i x):jG L B w' b off i x:=by
 obtain ⟨vs,h1,h2⟩:=h
 exact⟨vs,L.stab hw h1,fun j hj=>by
  have hlt:j<vs.length:=by rw[L.len h1]; exact hj
  have h3:=h2 j hj
  rw[XN hlt] at h3 ⊢
  exact yO hw hb h3⟩
theorem fQ.mono {α:Type} {L:zV α} {B B':Nat} {w:World} {v:Value} {l:List α} (hB:B<=B') (h:fQ L B w v l):fQ L B' w v l:=by
 obtain ⟨a,cap,e,h1,h2,h3⟩:=h
 exact⟨a,cap,e,h1,h2,fun hp=>let ⟨b,off,e',hb,h4⟩:=h3 hp; ⟨b,off,e',X5 hb hB,fun i hi=>(h4 i hi).mono hB⟩⟩
theorem fQ.stab {α:Type} {L:zV α} {B:Nat} {w w':World} {v:Value} {l:List α} (hw:fE B w w') (h:fQ L B w v l):fQ L B w' v l:=by
 obtain ⟨a,cap,e,h1,h2,h3⟩:=h
 exact⟨a,cap,e,h1,h2,fun hp=>let ⟨b,off,e',hb,h4⟩:=h3 hp; ⟨b,off,e',hb,fun i hi=>(h4 i hi).stab hb hw⟩⟩
theorem fQ.nil {α:Type} (L:zV α) (B:Nat) (w:World):fQ L B w (.slice none 0 0) []:=⟨none,0,rfl,XP _,by simp[maxLen],fun h=>by simp at h⟩
theorem jG.one {α:Type} {L:zV α} {B:Nat} {w:World} {b off i:Nat} {x:α} {v:Value} (h:jG L B w b off i x) (hk:L.k=1) (hv:∀ vs,L.rd B w vs x->vs=[v]):w.cell? ⟨b,off+i,none⟩=some v:=by
 obtain ⟨vs,h1,h2⟩:=h
 have:=h2 0 o3
 rw[hv vs h1,hk] at this
 simpa using this
theorem jG.int {B:Nat} {w:World} {b off i:Nat} {x:Int} (h:jG RU B w b off i x):w.cell? ⟨b,off+i,none⟩=some (.int .i64 x)/\-9223372036854775808<=x/\x<=9223372036854775807:=by
 refine⟨h.one rfl (fun vs hv=>hv.1),?_⟩
 obtain ⟨vs,h1,_⟩:=h
 exact h1.2
end
section
open Go.RowKit
structure cp (B:Nat) (W W':World):Prop where
 os:W'.os=W.os
 tape:W'.tape=W.tape
 output:W'.output=W.output
 size:W.heap.size<=W'.heap.size
 low:∀ (k:Nat),k<B->k<W.heap.size->W'.heap[k]? = W.heap[k]?
 data:∀ (k:Nat) (o:Obj),W.heap[k]? = some o->kz o=true->W'.heap[k]? = some o
theorem cp.refl (B:Nat) (W:World):cp B W W:=⟨rfl,rfl,rfl,XP _,fun _ _ _=>rfl,fun _ _ h _=>h⟩
theorem cp.trans {B:Nat} {X Y Z:World} (h:cp B X Y) (k:cp B Y Z):cp B X Z:=
 ⟨k.os.trans h.os,k.tape.trans h.tape,k.output.trans h.output,Yb h.size k.size,fun i hi hs=>(k.low i hi (X5 hs h.size)).trans (h.low i hi hs),fun i o hi ho=>k.data i o (h.data i o hi ho) ho⟩
theorem cp.mono {B B':Nat} {W W':World} (h:cp B W W') (hB:B'<=B):cp B' W W':=⟨h.os,h.tape,h.output,h.size,fun k hk=>h.low k (X5 hk hB),h.data⟩
theorem cp.alloc (B:Nat) (W:World) (o:Obj):cp B W (W.alloc o):=
 ⟨rfl,rfl,rfl,r8,fun k _ hs=>Below.heap_alloc W o k hs,fun k _ hk _=>(Below.heap_alloc W o k (XU.1 hk).1).trans hk⟩
theorem cp.putObj {B:Nat} {W:World} {l:Nat} {o:Obj} (o':Obj) (hB:B<=l) (hl:W.heap[l]? = some o) (ho:kz o=false):cp B W (W.putObj l o'):=
 ⟨rfl,rfl,rfl,r8,fun k hk _=>Y2 o3,fun k _ hk hd=>by
  by_cases e:k=l
  ·subst e; rw[hl] at hk; cases hk; rw[ho] at hd; cases hd
  ·exact(Y2 e).trans hk⟩
theorem cp.eK {B:Nat} {W W':World} (h:Below W.heap.size W W'):cp B W W':=
 ⟨h.os,h.tape,h.output,h.size,fun k _ hs=>h.block k hs,fun k _ hk _=>(h.block k (XU.1 hk).1).trans hk⟩
theorem cp.drew (B:Nat) (W:World):cp B W W.drew:=⟨rfl,rfl,rfl,XP _,fun _ _ _=>rfl,fun _ _ h _=>h⟩
def Calm (B:Nat) (I:World->Prop):Prop:=∀ W W',I W->cp B W W'->I W'
theorem Calm.and {B:Nat} {I J:World->Prop} (h:Calm B I) (k:Calm B J):Calm B fun W=>I W/\J W:=fun W W' hs hc=>⟨h W W' hs.1 hc,k W W' hs.2 hc⟩
theorem Calm.pure (B:Nat) (p:Prop):Calm B fun _=>p:=fun _ _ h _=>h
theorem Calm.ex {α:Type} {B:Nat} {I:α->World->Prop} (h:∀ x,Calm B (I x)):Calm B fun W=>∃ x,I x W:=fun W W' ⟨x,hx⟩ hc=>⟨x,h x W W' hx hc⟩
theorem Calm.block {B:Nat} (b:Nat) (o:Obj) (hd:kz o=true):Calm B fun W=>W.heap[b]? = some o:=fun _ _ h hc=>hc.data b o h hd
theorem Calm.cell {B:Nat} (a:Addr) (v:Value):Calm B fun W=>W.cell? a=some v:=fun W W' h hc=>by
 have h1:W.cell? a=some v:=h
 obtain ⟨o,ho,hc1⟩:=cells_of_cell h1
 have h2:=hc.data _ _ ho (by cases o<;>first | rfl | (cases hc1))
 show W'.cell? a=some v
 rw[<-h1]
 exact Zr (h2.trans ho.symm)
theorem Calm.below {B n₀:Nat} {w:World} (hn:n₀<=w.heap.size) (hB:n₀<=B):Calm B fun W=>Below n₀ w W:=fun W W' h hc=>
 h.trans ⟨hc.os,hc.tape,hc.output,hc.size,fun k hk=>hc.low k o3 (by have:=h.size; omega)⟩
theorem cp.keeps {B n:Nat} {W W':World} (h:cp B W W'):fE n W W':=fun k o _ hk ho=>h.data k o hk ho
theorem Calm.slice {α:Type} (L:zV α) {B:Nat} (n:Nat) (v:Value) (l:List α):Calm B fun W=>fQ L n W v l:=fun _ _ h hc=>h.stab hc.keeps
structure dN (B:Nat) (W W':World):Prop where
 size:W.heap.size<=W'.heap.size
 same:∀ (k:Nat) (o:Obj),B<=k->W.heap[k]? = some o->kz o=false->W'.heap[k]? = some o
theorem dN.refl (B:Nat) (W:World):dN B W W:=⟨XP _,fun _ _ _ h _=>h⟩
theorem dN.trans {B:Nat} {X Y Z:World} (h:dN B X Y) (k:dN B Y Z):dN B X Z:=⟨Yb h.size k.size,fun i o hB hi ho=>k.same i o hB (h.same i o hB hi ho) ho⟩
theorem dN.mono {B B':Nat} {W W':World} (h:dN B W W') (hB:B<=B'):dN B' W W':=⟨h.size,fun k o hk=>h.same k o (Yb hB hk)⟩
theorem dN.eK {B:Nat} {W W':World} (h:Below W.heap.size W W'):dN B W W':=⟨h.size,fun k _ _ hk _=>(h.block k (XU.1 hk).1).trans hk⟩
theorem dN.alloc (B:Nat) (W:World) (o:Obj):dN B W (W.alloc o):=⟨r8,fun k _ _ hk _=>(Below.heap_alloc W o k (XU.1 hk).1).trans hk⟩
theorem dN.drew (B:Nat) (W:World):dN B W W.drew:=⟨XP _,fun _ _ _ h _=>h⟩
theorem dN.setCell (B:Nat) (W:World) (a:Addr) (v:Value):dN B W (W.setCell a v):=
 ⟨by simp[World.setCell],fun k o _ hk ho=>by
  by_cases e:k=a.block
  ·subst e
   obtain ⟨hlt,hk'⟩:=XU.1 hk
   show (W.heap.modify a.block _)[a.block]? = some o
   rw[YD (by rw[Array.size_modify]; exact hlt),Array.getElem_modify_self,hk']
   cases o<;>first | rfl | (cases ho)
  ·exact(Below.heap_setCell W a v k e).trans hk⟩
theorem dN.grown {B:Nat} {W W':World} {row:Option Nat} (hg:W.grownBy W' row) (hrow:∀ j,row=some j->j<B∨∃ o,W.heap[j]? = some o/\kz o=true):dN B W W':=
 ⟨hg.size,fun k o hB hk ho=>(hg.block k (XU.1 hk).1 (fun e=>by
  rcases hrow k e.symm with h | ⟨o',h1,h2⟩
  ·omega
  ·rw[hk] at h1; cases h1; rw[ho] at h2; cases h2)).trans hk⟩
def rb (F:Fence):Prop:=F.depth=none/\∀ f,F.fn f
theorem rb.inRound {F:Fence} (h:rb F) (l:Nat):rb (F.inRound l):=h
theorem fE.putObj (B:Nat) {X:World} {l:Nat} {o:Obj} (o':Obj) (hl:X.heap[l]? = some o) (ho:kz o=false):fE B X (X.putObj l o'):=fun k o'' _ hk hd=>by
 by_cases e:k=l
 ·subst e; rw[hl] at hk; cases hk; rw[ho] at hd; cases hd
 ·exact(Y2 e).trans hk
theorem dY.putObj (T:Nat->Prop) {X:World} {l:Nat} {o:Obj} (o':Obj) (hl:X.heap[l]? = some o) (ho:kz o=false):dY T X (X.putObj l o'):=fun k o'' _ hk hd=>by
 by_cases e:k=l
 ·subst e; rw[hl] at hk; cases hk; rw[ho] at hd; cases hd
 ·exact(Y2 e).trans hk
variable {F:Fence} {n:Nat} {P:Program}
def Marks (B:Nat) (W:World) (ds:List Deferred):Prop:=∃ rs:List Nat,ds=rs.map (fun r=>{ target:=.collected r,args:=#[] })/\rs.Nodup/\∀ r∈rs,B<=r/\W.heap[r]? = some (.deferred (some []))
theorem Marks.nil (B:Nat) (W:World):Marks B W []:=⟨[],rfl,List.nodup_nil,fun _ h=>by cases h⟩
theorem Marks.cons {B D:Nat} {W:World} {ds:List Deferred} (h:Marks B W ds) (hD:B<=D) (hW:W.heap[D]? = some (.deferred (some []))) (hn:∀ r,(⟨.collected r,#[]⟩:Deferred)∈ds->r≠D):Marks B W ({ target:=.collected D,args:=#[] } :: ds):=by
 obtain ⟨rs,rfl,h2,h3⟩:=h
 refine⟨D :: rs,rfl,qa4.2 ⟨fun hm=>hn D (qaW.2 ⟨D,hm,rfl⟩) rfl,h2⟩,fun r hr=>?_⟩
 rcases YC.1 hr with rfl | hr
 ·exact⟨hD,hW⟩
 ·exact h3 r hr
theorem Marks.lt {B:Nat} {W:World} {ds:List Deferred} (h:Marks B W ds) {r:Nat} (hr:(⟨.collected r,#[]⟩:Deferred)∈ds):r<W.heap.size:=by
 obtain ⟨rs,rfl,h2,h3⟩:=h
 obtain ⟨q,hq,e⟩:=qaW.1 hr
 cases e
 exact(XU.1 (h3 _ hq).2).1
theorem Marks.kept {B C:Nat} {W W':World} {ds:List Deferred} (h:Marks B W ds) (hk:dN C W W') (hC:C<=B):Marks B W' ds:=by
 obtain ⟨rs,e,h2,h3⟩:=h
 exact⟨rs,e,h2,fun r hr=>⟨(h3 r hr).1,hk.same r _ (Yb hC (h3 r hr).1) (h3 r hr).2 rfl⟩⟩
theorem Marks.below {B C:Nat} {W W':World} {ds:List Deferred} (h:Marks B W ds) (hk:Below C W W') (hC:W.heap.size<=C):Marks B W' ds:=by
 obtain ⟨rs,e,h2,h3⟩:=h
 refine⟨rs,e,h2,fun r hr=>⟨(h3 r hr).1,(hk.block r ?_).trans (h3 r hr).2⟩⟩
 have:=(XU.1 (h3 r hr).2).1
 omega
end
section
def yq (F:Fence) (n:Nat) (P:Program) (o:Oper) (ev:Operand->Value) (w:World) (R:Value->World->Prop):Prop:=
 match (execOp ev o).run P w with
 | .ok (.value v) w'=>R v w'
 | .ok .skip w'=>R undef w'
 | .ok (.enter f args) w'=>CallsIn F (n - 1) P f args w' fun
   | .returned v,w''=>R v w''
   | _,_=>False
 | .ok (.row row args) w'=>RowsIn F (n - 1) P row args w' R
 | .ok (.round l f tmps assign body) w'=>RoundIn F (n - 1) P l f tmps assign body w' fun
   | .returned v,w''=>R v w''
   | _,_=>False
 | _=>False
theorem yq.mono {F:Fence} {n:Nat} {P:Program} {o:Oper} {ev:Operand->Value} {w:World} {R R':Value->World->Prop} (h:yq F n P o ev w R) (hr:∀ v w',R v w'->R' v w'):yq F n P o ev w R':=by
 unfold yq at *
 generalize (execOp ev o).run P w=r at *
 cases r with
 | ok x w'=>
  cases x<;>simp only at h ⊢<;>first
   | exact hr _ _ h
   | exact h.mono fun e w'' he=>by cases e<;>first | exact hr _ _ he | exact he
   | exact h.mono fun v w'' he=>hr _ _ he
 | halt x w'=>exact h
def slot (a:Act) (t:Nat):Value:=a.tmps.getD t undef
def cw (ops:Array Oper) (i:Nat):Option Nat:=(ops[i]?).bind (·.dst)
def fB (ops:Array Oper) (i j:Nat):Bool:=((Region.before ops).getD i 0).testBit j
def mg (o:Oper):Bool:=match o.op with | .select ..=>false | .defer _=>false | _=>true
def tI (ops:Array Oper) (N:Nat):Bool:=
 (List.range ops.size).all fun i=>match ops[i]? with
  | none=>true
  | some o=>mg o&&(match o.dst with | some d=>decide (d<N) | none=>true) &&
   (o.after.all fun e=>!Region.binds .any e || decide (e.on<i)) &&
   ((List.range ops.size).all fun j=>i==j || o.dst.isNone || cw ops j != o.dst) &&
   ((List.range ops.size).all fun j=>match cw ops j with
    | none=>true
    | some t=>!(o.looksAt ops).contains t || i==j || fB ops i j || fB ops j i) &&
   !fB ops i i
def eL (_ops:Array Oper) (listed:Array Bool) (i:Nat):Prop:=listed.getD i false=true
variable {F:Fence} {n:Nat} {P:Program} {ops:Array Oper} {Q:Exit->Act->World->Prop}
inductive nL (ops:Array Oper):Nat->Nat->Prop
 | edge {i:Nat} {o:Oper} {e:Edge} (ho:ops[i]? = some o) (he:e∈o.after) (hb:Region.binds .any e=true):nL ops i e.on
 | thru {i j:Nat} {o:Oper} {e:Edge} (ho:ops[i]? = some o) (he:e∈o.after) (hb:Region.binds .any e=true) (h:nL ops e.on j):nL ops i j
theorem rv (acc:Array Nat) (hacc:∀ i j,(acc.getD i 0).testBit j=true->nL ops i j) {i:Nat} {o:Oper} (ho:ops[i]? = some o) :
  ∀ (l:List Edge) (s:Nat),(∀ e∈l,e∈o.after)->(∀ j,s.testBit j=true->nL ops i j)->∀ j,(l.foldl (fun s e=>if Region.binds .any e then s ||| 2 ^ e.on ||| acc.getD e.on 0 else s) s).testBit j=true->nL ops i j
 | [],s,_,hs,j,h=>hs j h
 | e :: l,s,hl,hs,j,h=>by
  rw[qa5] at h
  refine rv acc hacc ho l _ (fun e he=>hl e (by simp[he])) (fun j hj=>?_) j h
  split at hj
  ·rename_i hb
   rw[Nat.testBit_or,Nat.testBit_or,YP,YP] at hj
   rcases hj with (hj | hj) | hj
   ·exact hs j hj
   ·rw[Nat.testBit_two_pow] at hj
    obtain rfl:e.on=j:=by simpa using hj
    exact .edge ho (hl e r8) hb
   ·exact .thru ho (hl e r8) hb (hacc _ _ hj)
  ·exact hs j hj
theorem fR (i j:Nat) (h:fB ops i j=true):nL ops i j:=by
 unfold fB Region.before at h
 rw[<-ZY] at h
 have key:∀ (l:List Oper) (k:Nat) (acc:Array Nat),(∀ m,l[m]? = ops[k+m]?)->acc.size=k->(∀ i j,(acc.getD i 0).testBit j=true->nL ops i j) ->
   ∀ i j,((l.foldl (fun acc o=>acc.push (o.after.foldl (fun s e=>if Region.binds .any e then s ||| 2 ^ e.on ||| acc.getD e.on 0 else s) 0)) acc).getD i 0).testBit j=true->nL ops i j:=by
  intro l
  induction l with
  | nil=>intro k acc _ _ hacc i j h; exact hacc i j h
  | cons o l ih=>
   intro k acc hl hk hacc i j h
   refine ih (k+1) _ (fun m=>by have:=hl (m+1); simpa [Zz,qaX 1 m] using this) (by simp[hk]) (fun i j hij=>?_) i j h
   have ho:ops[k]? = some o:=by simpa using (hl 0).symm
   by_cases e:i=acc.size
   ·subst e
    rw[hk]
    have e2:∀ X:Nat,(acc.push X).getD acc.size 0=X:=fun X=>r8
    rw[e2,<-ZY] at hij
    exact rv acc hacc ho _ 0 (fun e he=>Array.mem_toList_iff.1 he) (fun j hj=>by simp at hj) j hij
   ·refine hacc i j ?_
    have:(acc.push (o.after.foldl (fun s e=>if Region.binds .any e then s ||| 2 ^ e.on ||| acc.getD e.on 0 else s) 0)).getD i 0=acc.getD i 0:=by
     simp only[YM,qbp,XW e]
    rw[this] at hij; exact hij
 exact key ops.toList 0 #[] r8 rfl (fun i j h=>by simp at h) i j h
theorem ll {listed:Array Bool} (hcl:∀ i o,ops[i]? = some o->eL ops listed i->∀ e∈o.after,Region.binds .any e=true->eL ops listed e.on)
  (i j:Nat) (hi:∃ o,ops[i]? = some o/\∀ e∈o.after,Region.binds .any e=true->eL ops listed e.on) (h:fB ops i j=true):eL ops listed j:=by
 have hw:=fR i j h
 clear h
 induction hw with
 | edge ho he hb=>
  obtain ⟨o',ho',hall⟩:=hi
  rw[ho] at ho'; cases ho'
  exact hall _ he hb
 | thru ho he hb hw ih=>
  obtain ⟨o',ho',hall⟩:=hi
  rw[ho] at ho'; cases ho'
  refine ih ?_
  have hc:=hall _ he hb
  cases hw with
  | edge ho2 _ _=>exact⟨_,ho2,hcl _ _ ho2 hc⟩
  | thru ho2 _ _ _=>exact⟨_,ho2,hcl _ _ ho2 hc⟩
theorem filter_lt {α:Type} (p q:α->Bool):∀ l:List α,(∀ x∈l,q x=true->p x=true)->(∃ x∈l,p x=true/\q x=false)->(l.filter q).length<(l.filter p).length
 | [],_,⟨x,hx,_⟩=>by cases hx
 | y :: l,h,⟨x,hx,hp,hq⟩=>by
  have hle:(l.filter q).length<=(l.filter p).length:=by
   clear hx hp hq
   induction l with
   | nil=>simp
   | cons z l ih=>
    have hz:=h z r8
    have:=ih (fun x hx=>h x (by rcases YC.1 hx with rfl | hx; simp; simp[hx]))
    simp only[List.filter_cons]
    cases hqz:q z<;>cases hpz:p z<;>simp<;>first | omega | skip
    rw[hz hqz] at hpz; cases hpz
  have hy:=h y r8
  simp only[List.filter_cons]
  rcases YC.1 hx with rfl | hx
  ·rw[hp,hq]; simp; omega
  ·have:=filter_lt p q l (fun x hx=>h x (by simp[hx])) ⟨x,hx,hp,hq⟩
   cases hqy:q y<;>cases hpy:p y<;>simp<;>first | omega | skip
   rw[hy hqy] at hpy; cases hpy
def A2 (ops:Array Oper) (listed:Array Bool):Nat:=((List.range ops.size).filter fun i=>!listed.getD i true).length
theorem fq {a:Act} {d:Nat} {v:Value} (h:d<a.tmps.size):slot (a.put (some d) v) d=v:=by
 simp[slot,Act.put,h]
theorem dK {a:Act} {dst:Option Nat} {t:Nat} {v:Value} (h:dst≠some t):slot (a.put dst v) t=slot a t:=by
 cases dst with
 | none=>rfl
 | some d=>
  have hne:d≠t:=fun e=>h (by rw[e])
  simp[slot,Act.put,ZD hne]
theorem kF (hWF:rb F) {i:Nat} {o:Oper} (ho:ops[i]? = some o) (hp:mg o=true) {a:Act} {w:World} {K:Act->World->Prop} {R:Value->World->Prop}
  (h:if Region.wanted o (yielded ops a.tmps)=true then yq F n P o a.eval w R else R undef w) (hK:∀ v w',R v w'->K (a.put o.dst v) w'):wpOpIn F n P ops Q i K a w:=by
 unfold wpOpIn
 simp only[ho]
 split
 ·rename_i hw
  rw[XX hw] at h
  refine⟨fun f _=>hWF.2 f,?_⟩
  rw[qbm _ _ _ (fun c hc=>by unfold mg at hp; rw[hc] at hp; cases hp)]
  unfold yq at h
  generalize (execOp a.eval o).run P w=r at *
  have hd:F.depth.isSome=true->1<=n:=fun hs=>by rw[hWF.1] at hs; cases hs
  cases r with
  | ok x w'=>
   cases x<;>simp only[Oper.uponIn] at h ⊢<;>first
    | exact hK _ _ h
    | exact⟨hd,h.mono fun e w'' he=>by cases e<;>first | exact hK _ _ he | exact he.elim⟩
    | exact⟨hd,h.mono fun v w'' he=>hK _ _ he⟩
    | exact h.elim
  | halt x w'=>exact h.elim
 ·rename_i hw
  rw[XW hw] at h
  exact⟨fun f _=>hWF.2 f,hK _ _ h⟩
def rP (ops:Array Oper) (k:Nat):Array Bool:=((List.range ops.size).map fun i=>decide (i<k)).toArray
def ft (ops:Array Oper) (m:Nat):Bool:=decide (m<=ops.size)&&((List.range ops.size).all fun i=>decide (i<m) || (List.range m).all fun j=>fB ops i j)&&(List.range (ops.size+1)).all fun k=>decide (k<m) || (Region.ready .any ops (rP ops k)==if k<ops.size then [k] else [])
theorem ur {listed:Array Bool} {k:Nat} (hls:listed.size=ops.size) (hc:∀ i,i<ops.size->(eL ops listed i↔i<k)):listed=rP ops k:=by
 refine Array.ext (by simp[rP,hls]) fun i h1 h2=>?_
 have:=hc i o3
 unfold eL at this
 simp only[rP,List.getElem_toArray,List.getElem_map,List.getElem_range]
 have e:listed.getD i false=listed[i]:=by simp[h1]
 rw[e] at this
 cases h:listed[i] with
 | true=>rw[h] at this; simpa using this.1 rfl
 | false=>rw[h] at this; simp at this; simp; exact this
theorem pI {m:Nat} (ht:ft ops m=true) :
  ∀ (r k:Nat),k+r=ops.size->m<=k->∀ (fuel:Nat) (listed:Array Bool) (a:Act) (w:World),r<=fuel->listed.size=ops.size->(∀ i,i<ops.size->(eL ops listed i↔i<k)) ->
   wpListIn F n P ops Q (ops.toList.drop k) a w->wpAnyIn F n P .any ops Q fuel listed a w:=by
 have hready:∀ k,k<=ops.size->m<=k->Region.ready .any ops (rP ops k)=if k<ops.size then [k] else []:=fun k hk hm=>by
  simp only[ft,XQ] at ht
  have:=X0.1 ht.2 k (Yj.2 o3)
  simp only[YP,XV,YV] at this
  exact this.resolve_left o3
 intro r
 induction r with
 | zero=>
  intro k hk hm fuel listed a w _ hls hc h
  have e:=ur hls hc
  have hr:Region.ready .any ops listed=[]:=by rw[e,hready k o3 hm,XW o3]
  rw[Z6 r9] at h
  exact wpAnyIn_done hr h fuel
 | succ r ih=>
  intro k hk hm fuel listed a w hf hls hc h
  have e:=ur hls hc
  have hr:Region.ready .any ops listed=[k]:=by rw[e,hready k o3 hm,XX o3]
  obtain ⟨fuel,rfl⟩:∃ f,fuel=f+1:=⟨fuel - 1,o3⟩
  have hlt:k<ops.toList.length:=r9
  rw[X1 hlt] at h
  have ho:ops[k]? = some ops.toList[k]:=by rw[Array.getElem_toList]; exact YD _
  refine wpAnyIn_all hr r8 fun i hi=>?_
  obtain rfl:i=k:=by simpa using hi
  unfold wpOpIn
  simp only[ho]
  have next:∀ a w,wpListIn F n P ops Q (ops.toList.drop (i+1)) a w->wpAnyIn F n P .any ops Q fuel (listed.setIfInBounds i true) a w:=fun a w h'=>by
   refine ih (i+1) o3 o3 fuel _ a w o3 (by simpa using hls) (fun j hj=>?_) h'
   by_cases e:j=i
   ·subst e; unfold eL; simp[hls,hj]
   ·have:=hc j hj
    unfold eL at this ⊢
    rw[ZR false (YS e),this]; omega
  unfold wpListIn at h
  split
  ·rename_i hw; rw[XX hw] at h; exact Oper.wpIn_mono next h
  ·rename_i hw; rw[XW hw] at h; exact⟨h.1,next _ _ h.2⟩
def LW (F:Fence) (n:Nat) (P:Program) (ops:Array Oper) (Q:Exit->Act->World->Prop) (a:Act) (w:World):Prop:=∀ t,wpOpsIn F n P ops Q (Region.schedule (P.follows .mixedOrders) ops t) a { w with drawn:=w.drawn+1 }
theorem LW.wpIn {id:Nat} {a:Act} {w:World} (h:LW F n P ops Q a w):(Code.region id ops true).wpIn F n P Q a w:=wpIn_region_draw h
theorem Cc {a:Act} {w:World} (hm:P.follows .mixedOrders=true) (h:wpAnyIn F n P .any ops Q ops.size (Array.replicate ops.size false) a { w with drawn:=w.drawn+1 }):LW F n P ops Q a w:=fun t=>by
 simp only[Region.schedule,hm,qbx,ZS]
 exact wpAnyIn_sound ops.size t _ a _ h
theorem BJ {a0:Act} {w0:World} (hWF:rb F) (hm:P.follows .mixedOrders=true) (N m:Nat) (hN:a0.tmps.size=N) (lU:tI ops N=true) (chkt:ft ops m=true)
  (S:World->Prop) (Ext:World->World->Prop) (V:Nat->Value->World->Prop) (hV:∀ i v w w',V i v w->Ext w w'->V i v w') (hS:S w0.drew)
  (hstep:∀ i o,i<m->ops[i]? = some o->∀ (a:Act) (w:World),S w ->
   (∀ t∈o.looksAt ops,∀ j,cw ops j=some t->fB ops i j=true->V j (slot a t) w) ->
   (∀ t∈o.looksAt ops,(∀ j,cw ops j=some t->fB ops i j=false)->slot a t=slot a0 t)->a.tmps.size=N ->
   if Region.wanted o (yielded ops a.tmps)=true then yq F n P o a.eval w (fun v w'=>V i v w'/\S w'/\Ext w w') else V i undef w/\S w/\Ext w w)
  (hend:∀ (a:Act) (w:World),S w->a.defers=a0.defers->a.tmps.size=N->(∀ i t,i<m->cw ops i=some t->V i (slot a t) w)->(∀ t,(∀ i,i<m->cw ops i≠some t)->slot a t=slot a0 t) ->
   (∀ i o,i<m->ops[i]? = some o->o.dst=none->∃ v,V i v w)->wpListIn F n P ops Q (ops.toList.drop m) a w) :
  LW F n P ops Q a0 w0:=by
 have chk1:∀ i o,ops[i]? = some o->mg o=true/\(∀ d,o.dst=some d->d<N)/\(∀ e∈o.after,Region.binds .any e=true->e.on<i)/\(∀ j d,i≠j->o.dst=some d->cw ops j≠some d) ∧
   (∀ j t,cw ops j=some t->t∈o.looksAt ops->i=j∨fB ops i j=true∨fB ops j i=true)/\fB ops i i=false:=by
  intro i o ho
  have hi:i<ops.size:=(XU.1 ho).1
  have h:=X0.1 lU i (Yj.2 hi)
  simp only[ho,XQ] at h
  obtain ⟨⟨⟨⟨⟨h1,h2⟩,h3⟩,h4⟩,h5⟩,h6⟩:=h
  refine⟨h1,fun d hd=>by rw[hd] at h2; simpa using h2,fun e he hb=>?_,fun j d hij hd hj=>?_,fun j t hj ht=>?_,by simpa using h6⟩
  ·have:=ZT.1 h3 e he
   rw[hb] at this; simpa using this
  ·have hjs:j<ops.size:=by
    unfold cw at hj
    cases hx:ops[j]? with
    | none=>rw[hx] at hj; cases hj
    | some _=>exact(XU.1 hx).1
   have:=X0.1 h4 j (Yj.2 hjs)
   rw[hd,hj] at this
   simp at this
   exact hij this
  ·have hjs:j<ops.size:=by
    unfold cw at hj
    cases hx:ops[j]? with
    | none=>rw[hx] at hj; cases hj
    | some _=>exact(XU.1 hx).1
   have:=X0.1 h5 j (Yj.2 hjs)
   rw[hj] at this
   simp[ht] at this
   rcases this with (h | h) | h
   ·exact .inl h
   ·exact .inr (.inl h)
   ·exact .inr (.inr h)
 have hm2:m<=ops.size:=by simp only[ft,XQ,XV] at chkt; exact chkt.1.1
 have main:∀ (fuel:Nat) (listed:Array Bool) (a:Act) (w:World),A2 ops listed<=fuel->listed.size=ops.size->S w->a.defers=a0.defers->a.tmps.size=N ->
   (∀ i o,ops[i]? = some o->eL ops listed i->∀ e∈o.after,Region.binds .any e=true->eL ops listed e.on)->(∀ i,m<=i->i<ops.size->¬ eL ops listed i) ->
   (∀ i t,i<m->cw ops i=some t->eL ops listed i->V i (slot a t) w)->(∀ t,(∀ i,i<m->cw ops i=some t->¬ eL ops listed i)->slot a t=slot a0 t) ->
   (∀ i o,i<m->ops[i]? = some o->o.dst=none->eL ops listed i->∃ v,V i v w)->wpAnyIn F n P .any ops Q fuel listed a w:=by
  have getD_eq:∀ (listed:Array Bool) (i:Nat),i<listed.size->listed.getD i true=listed.getD i false:=fun listed i hi=>by simp[hi]
  intro fuel
  induction fuel with
  | zero=>
   intro listed a w hu hls hSw hdf hsz hcl hnt hv hno hns
   have all:∀ i,i<ops.size->eL ops listed i:=fun i hi=>by
    cases hc:listed.getD i false with
    | true=>exact hc
    | false=>
     have hmem:i∈(List.range ops.size).filter (fun i=>!listed.getD i true):=qay.2 ⟨Yj.2 hi,by rw[getD_eq _ _ o3,hc]; rfl⟩
     have:=ZL hmem
     unfold A2 at hu; omega
   have hmm:m=ops.size:=qaz hm2 (ZA fun h=>hnt m (XP _) h (all m h))
   exact pI chkt 0 ops.size o3 hm2 0 listed a w (XP _) hls (fun i hi=>⟨fun _=>hi,fun _=>all i hi⟩)
    (by rw[<-hmm]; exact hend a w hSw hdf hsz (fun i t hi h=>hv i t hi h (all i o3)) (fun t h=>hno t (fun i hi hi2=>absurd hi2 (h i hi))) (fun i o hi ho hd=>hns i o hi ho hd (all i o3)))
  | succ fuel ih=>
   intro listed a w hu hls hSw hdf hsz hcl hnt hv hno hns
   by_cases hall:∀ i,i<m->eL ops listed i
   ·refine pI chkt (ops.size - m) m o3 (XP _) (fuel+1) listed a w ?_ hls (fun i hi=>⟨fun h=>Y1 fun hle=>hnt i hle hi h,fun h=>hall i h⟩)
     (hend a w hSw hdf hsz (fun i t hi h=>hv i t hi h (hall i hi)) (fun t h=>hno t (fun i hi hi2=>absurd hi2 (h i hi))) (fun i o hi ho hd=>hns i o hi ho hd (hall i hi)))
    refine Yb ?_ hu
    unfold A2
    have:((List.range ops.size).filter fun i=>decide (m<=i)).length=ops.size - m:=by
     rw[<-Za]
     have:∀ s,(List.range s).countP (fun i=>decide (m<=i))=s - m:=by
      intro s
      induction s with
      | zero=>simp
      | succ s ih=>rw[List.range_succ,List.countP_append,ih]; simp[List.countP_cons]; split<;>omega
     exact this _
    rw[<-this]
    rw[<-Za,<-Za]
    refine qbc fun i hi h=>?_
    have hi:=Yj.1 hi
    have hn:=hnt i (by simpa using h) hi
    unfold eL at hn
    rw[getD_eq _ _ o3]
    simpa using hn
   ·simp only[qbi] at hall
    obtain ⟨i0,hi0,hni0⟩:=hall
    refine⟨fun hrd=>?_,fun i hi=>?_⟩
    ·exfalso
     have:∀ i,i<m->eL ops listed i:=by
      intro i
      induction i using Nat.strongRecOn with
      | _ i ih2=>
       intro hi
       cases hc:listed.getD i false with
       | true=>exact hc
       | false=>
        have:i∈Region.ready .any ops listed:=by
         refine ZZ.2 ⟨by rw[getD_eq _ _ o3]; exact hc,_,YD o3,fun e he hb=>?_⟩
         have hlt:=(chk1 i _ (YD o3)).2.2.1 e he hb
         exact ih2 e.on hlt o3
        rw[hrd] at this; cases this
     exact hni0 (this i0 hi0)
    obtain ⟨hun,o,ho,hall⟩:=ZZ.1 hi
    have his:i<ops.size:=(XU.1 ho).1
    have him:i<m:=Y1 fun hle=>by
     simp only[ft,XQ] at chkt
     have h1:=X0.1 chkt.1.2 i (Yj.2 his)
     simp only[YP,XV] at h1
     have h2:=X0.1 (h1.resolve_left o3) i0 (Yj.2 hi0)
     exact hni0 (ll hcl i i0 ⟨o,ho,hall⟩ h2)
    obtain ⟨c1,c2,c3,c4,c5,c6⟩:=chk1 i o ho
    have hnot:¬ eL ops listed i:=by unfold eL; rw[<-getD_eq _ _ o3,hun]; simp
    have hdst:∀ t,o.dst=some t->cw ops i=some t:=fun t h=>by unfold cw; rw[ho]; exact h
    refine kF hWF ho c1 (hstep i o him ho a w hSw (fun t ht j hj hb=>?_) (fun t ht hj=>hno t fun j hjm hjt hcj=>?_) hsz) ?_
    ·have hcj:=ll hcl i j ⟨o,ho,hall⟩ hb
     have hjs:j<ops.size:=by
      unfold cw at hj
      cases hx:ops[j]? with
      | none=>rw[hx] at hj; cases hj
      | some _=>exact(XU.1 hx).1
     exact hv j t (Y1 fun hle=>hnt j hle hjs hcj) hj hcj
    ·rcases c5 j t hjt ht with rfl | h | h
     ·exact hnot hcj
     ·rw[hj j hjt] at h; cases h
     ·cases hoj:ops[j]? with
      | none=>unfold cw at hjt; rw[hoj] at hjt; cases hjt
      | some oj=>exact hnot (ll hcl j i ⟨oj,hoj,hcl j oj hoj hcj⟩ h)
    ·rintro v w' ⟨hv1,hS1,hE1⟩
     have come_set:∀ k,eL ops (listed.setIfInBounds i true) k↔k=i∨eL ops listed k:=fun k=>by
      unfold eL
      by_cases e:k=i
      ·subst e; simp[hls,his]
      ·rw[ZR false (YS e)]; simp[e]
     refine ih _ _ _ ?_ (by simpa using hls) hS1 ?_ ?_ ?_ ?_ ?_ ?_ ?_
     ·have:=filter_lt (fun k=>!listed.getD k true) (fun k=>!(listed.setIfInBounds i true).getD k true) (List.range ops.size) (fun x hx hq=>by
       by_cases e:i=x
       ·subst e; rw[hun]; rfl
       ·rw[ZR true e] at hq; exact hq) ⟨i,Yj.2 his,by rw[hun]; rfl,by simp[hls,his]⟩
      unfold A2 at *; omega
     ·cases hd:o.dst<;>simp[Act.put,hdf]
     ·cases hd:o.dst<;>simp[Act.put,hsz]
     ·intro k ok hok hk e he hb
      rw[come_set]
      rcases (come_set k).1 hk with rfl | hk
      ·rw[ho] at hok; cases hok
       exact .inr (hall e he hb)
      ·exact .inr (hcl k ok hok hk e he hb)
     ·intro k hk hks hc
      rcases (come_set k).1 hc with rfl | hc
      ·omega
      ·exact hnt k hk hks hc
     ·intro k t hkm hkt hk
      rcases (come_set k).1 hk with rfl | hk
      ·have hd:o.dst=some t:=by unfold cw at hkt; rw[ho] at hkt; exact hkt
       rw[hd,fq (by rw[hsz]; exact c2 t hd)]
       exact hv1
      ·have hne:k≠i:=fun e=>hnot (e ▸ hk)
       rw[dK (fun hd=>c4 k t (YS hne) hd hkt)]
       exact hV k _ _ _ (hv k t hkm hkt hk) hE1
     ·intro t ht
      rw[dK (fun hd=>ht i him (hdst t hd) ((come_set i).2 (.inl rfl)))]
      exact hno t fun k hkm hk hck=>ht k hkm hk ((come_set k).2 (.inr hck))
     ·intro k ok hkm hok hd hk
      rcases (come_set k).1 hk with rfl | hk
      ·exact⟨v,hv1⟩
      ·obtain ⟨u,hu⟩:=hns k ok hkm hok hd hk
       exact⟨u,hV k _ _ _ hu hE1⟩
 have h0:∀ i,¬ eL ops (Array.replicate ops.size false) i:=fun i hc=>by
  unfold eL at hc
  by_cases h:i<ops.size<;>simp[Array.getD,h] at hc
 refine Cc hm (main _ _ _ _ ?_ r8 hS rfl hN ?_ ?_ ?_ ?_ ?_)
 ·unfold A2
  exact Yb (qax _ _) r8
 ·intro i o _ hc; exact absurd hc (h0 i)
 ·intro i _ _ hc; exact h0 i hc
 ·intro i t _ _ hc; exact absurd hc (h0 i)
 ·intro t _; rfl
 ·intro i o _ _ _ hc; exact absurd hc (h0 i)
end
section
open Go.RowKit
def gM {α:Type} (L:zV α) (e:TypeId) (base B:Nat) (w:World) (v:Value) (l:List α):Prop:=
 ∃ xs,w.ownsRow base e L.k v l.length xs/\∀ i (h:i<l.length),∃ vs,L.rd B w vs l[i]/\∀ j,j<L.k->xs[i*L.k+j]? = vs[j]?
variable {α:Type} {L:zV α} {e:TypeId} {base B:Nat} {w:World} {v:Value} {l:List α}
theorem gM.nil (L:zV α) (e:TypeId) (base B:Nat) (w:World):gM L e base B w (.slice none 0 0) []:=
 ⟨[],World.ownsRow_nil w base e L.k,fun i h=>by simp at h⟩
theorem gM.made (L:zV α) (e:TypeId) (base B:Nat) (w:World) (cur:Array Value) (cap:Nat) (hb:base<=w.heap.size) (hm:cap<=maxLen) (hs:cur.size=cap*L.k) :
  gM L e base B (w.alloc (.cells cur e)) (.slice (some ⟨w.heap.size,0,none⟩) 0 cap) []:=
 ⟨[],World.ownsRow_made w cur cap hb hm hs,fun i h=>by simp at h⟩
theorem gM.kept {w':World} (h:gM L e base B w v l) (hb:Below w.heap.size w w') (hB:B<=w.heap.size):gM L e base B w' v l:=by
 obtain ⟨xs,h1,h2⟩:=h
 refine⟨xs,h1.kept (row:=none) ⟨hb.os,hb.tape,hb.output,hb.size,fun k hk _=>hb.block k hk⟩ (by cases v.ownBlock<;>simp),fun i hi=>?_⟩
 obtain ⟨vs,h3,h4⟩:=h2 i hi
 exact⟨vs,L.stab (fE.eK hb hB) h3,h4⟩
theorem gM.other {w':World} {row:Option Nat} (h:gM L e base B w v l) (hg:w.grownBy w' row) (hB:B<=w.heap.size) (hr:∀ k,row=some k->B<=k) (hne:v.ownBlock=none∨v.ownBlock≠row):gM L e base B w' v l:=by
 obtain ⟨xs,h1,h2⟩:=h
 refine⟨xs,h1.kept hg hne,fun i hi=>?_⟩
 obtain ⟨vs,h3,h4⟩:=h2 i hi
 exact⟨vs,L.stab (fE.eK ((Below.refl _ _).grown hg hB hr) (XP _)) h3,h4⟩
theorem gM.alloc (h:gM L e base B w v l) (hB:B<=w.heap.size) (o:Obj):gM L e base B (w.alloc o) v l:=
 h.kept ((Below.refl _ _).alloc (XP _) _) hB
theorem gM.drew (h:gM L e base B w v l) (hB:B<=w.heap.size):gM L e base B w.drew v l:=
 h.kept (Below.refl _ _).drew hB
theorem gM.lt (h:gM L e base B w v l):∀ k,v.ownBlock=some k->base<=k/\k<w.heap.size:=let ⟨_,h1,_⟩:=h; h1.lt
theorem wU (b off j:Nat):(⟨b,off,none⟩:Addr).add j=⟨b,off+j,none⟩:=by unfold Addr.add; split<;>simp_all
theorem gM.slice (h:gM L e base B w v l) {B':Nat} (hB:B<=B') (hw:w.heap.size<=B'):fQ L B' w v l:=by
 obtain ⟨xs,h1,h2⟩:=h
 have hlt:=h1.lt
 have hcs:=fun g hg=>h1.cells (g:=g) hg
 obtain ⟨hl,h3⟩:=h1
 rcases h3 with ⟨rfl,hn⟩ | ⟨g,cap,cur,rfl,hb,hg,hc,hm,hs,ht⟩
 ·obtain rfl:l=[]:=Ye hn
  exact fQ.nil _ _ _
 ·refine⟨_,cap,rfl,hc,hm,fun _=>⟨g,0,rfl,X5 (hlt g rfl).2 hw,fun i hi=>?_⟩⟩
  obtain ⟨vs,h4,h5⟩:=h2 i hi
  refine⟨vs,L.mono hB h4,fun j hj=>?_⟩
  have hlv:j<vs.length:=by rw[L.len h4]; exact hj
  rw[<-h5 j hj]
  have h6:=h5 j hj
  rw[XN hlv] at h6
  have:=hcs g rfl _ _ h6
  rw[wU,YB] at this
  rw[YB,this,h6]
theorem fQ.cells {B':Nat} {x:Value} {ys:List α} (hone:∀ vs y,L.rd B' w vs y->∀ u∈vs,u.oneCell'=true) (hk:0<L.k) (hx:fQ L B' w x ys) (hp:0<ys.length) :
  ∃ (ad:Addr) (c:Nat) (news:List Value),x=.slice (some ad) ys.length c/\news.length=ys.length*L.k/\(∀ j u,news[j]? = some u->w.cell? (ad.add j)=some u)/\(∀ u∈news,u.oneCell'=true) ∧
   ∀ i (h:i<ys.length),∃ vs,L.rd B' w vs ys[i]/\∀ j,j<L.k->news[i*L.k+j]? = vs[j]?:=by
 obtain ⟨a,cap,rfl,hc,hm,h3⟩:=hx
 obtain ⟨b,off,rfl,hb,h4⟩:=h3 hp
 have key:∀ t,t<ys.length*L.k->∃ u,w.cell? ⟨b,off+t,none⟩=some u/\u.oneCell'=true:=fun t ht=>by
  have hi:t / L.k<ys.length:=qaA (by rw[YZ]; exact ht)
  have hj:=qac t hk
  obtain ⟨vs,h5,h6⟩:=h4 _ hi
  have hlv:t % L.k<vs.length:=by rw[L.len h5]; exact hj
  have h7:=h6 _ hj
  rw[XN hlv] at h7
  have e1:off+t / L.k*L.k+t % L.k=off+t:=by have:=qaB t L.k; rw[YZ] at this; omega
  rw[e1] at h7
  exact⟨_,h7,hone _ _ h5 _ (Ys _)⟩
 have at_:∀ j,j<ys.length*L.k->((List.range (ys.length*L.k)).map fun t=>(w.cell? ⟨b,off+t,none⟩).getD undef)[j]? = w.cell? ⟨b,off+j,none⟩:=fun j hj=>by
  obtain ⟨u,h5,_⟩:=key j hj
  rw[Yq,List.getElem?_range hj,YH,h5]
  rfl
 refine⟨_,cap,(List.range (ys.length*L.k)).map fun t=>(w.cell? ⟨b,off+t,none⟩).getD undef,rfl,r8,fun j u hu=>?_,fun u hu=>?_,fun i hi=>?_⟩
 ·have hj:j<ys.length*L.k:=by have:=(XS.1 hu).1; simpa using this
  rw[at_ j hj] at hu
  rw[wU]; exact hu
 ·obtain ⟨t,ht,rfl⟩:=qaW.1 hu
  obtain ⟨u,h5,h6⟩:=key t (Yj.1 ht)
  rw[h5]; exact h6
 ·obtain ⟨vs,h5,h6⟩:=h4 i hi
  refine⟨vs,h5,fun j hj=>?_⟩
  have:i*L.k+j<ys.length*L.k:=by
   have:=Zs L.k (show i+1<=ys.length from hi)
   rw[YL] at this; omega
  rw[at_ _ this,<-h6 j hj,Zz]
end
inductive A where
 | any
 | v (x:Value)
 | ptr (b o:Nat)
 | ep (b i o:Nat)
 | ip (cs:List A)
 | imm (els:List (List A)) (clip:Bool)
 | sl (b o n:Nat) (clip:Bool)
 | agg (cs:List A)
 | tup (cs:List A)
 | fn (f:Fn) (first cap:List A)
 | ifc (t:TypeId) (x:A)
 | yld (b:Nat)
 | nq (els:List (List A))
 | mr (b:Nat)
 | mv (k:IntKind) (ks:List Int) (vs:List A)
 deriving Inhabited
inductive Qd where
 | exit (id:Nat)
 | goto (l:Nat)
 | ret
inductive E9 where
 | ready
 | busy
 | done (j:Qd)
inductive aO where
 | box (cs:List A)
 | row (wr:Bool) (es:Nat) (els:List (List A))
 | rng (st:E9)
 | dead
 | hole
 | mp (k:IntKind) (ks:List Int) (vs:List A)
 deriving Inhabited
abbrev aC:=List aO
inductive E where
 | normal
 | exit (id:Nat)
 | goto (l:Nat)
 | ret
 | pan (v:A)
inductive Out where
 | ret (a:A)
 | pan (a:A)
abbrev R:=Out×aC
structure St where
 fr:List (Nat×A)
 H:aC
def q7 (P:Program) (k es:Nat):Prop:=∀ (w:World) (base:Option Addr) (n cap i vb vo vc:Nat) (cs vs:List Value),i<=n->n<=cap->n+1<=4294967296->cs.length=n*es->vs.length=es->(∀ v∈cs,v.oneCell'=true)->(∀ v∈vs,v.oneCell'=true) ->
 (∀ (j:Nat) (v:Value),vs[j]? = some v->w.cell? ⟨vb,vo+j,none⟩=some v) ->
 (0<cap->∃ (b:Nat) (arr:Array Value) (ty:TypeId),base=some ⟨b,0,none⟩/\vb≠b/\w.heap[b]? = some (.cells arr ty (0,0))/\cap*es<=arr.size/\∀ (j:Nat) (v:Value),cs[j]? = some v->arr[j]? = some v) ->
 Calls P k #[.slice base n cap,.int .i64 i,.slice (some ⟨vb,vo,none⟩) 1 vc] w fun e w'=>∃ b cap',e=.returned (.slice (some ⟨b,0,none⟩) (n+1) cap')/\n+1<=cap'/\RowKit.Below 0 w w'/\(∀ j,j<w.heap.size->w'.heap[j]? = w.heap[j]?∨(0<cap/\base=some ⟨j,0,none⟩))/\((0<cap/\base=some ⟨b,0,none⟩)∨w.heap.size<=b) ∧
  ∀ (j:Nat) (v:Value),(cs.take (i*es)++vs++cs.drop (i*es))[j]? = some v->w'.cell? ⟨b,j,none⟩=some v
structure Cx where
 P:Program
 glob:Nat->Option (List Value)
 isOrc:Nat->Bool
 isOrcV:Nat->Bool
 C:Nat->List A->Option A
 keep:Nat->Nat->List Nat
 wrAt:Nat->Nat->Bool
 acts:Nat->Nat->List (Nat×Nat×Nat)
 loud:Nat->Nat->Bool
 arr:Nat->Nat->Bool
 join:Nat->Nat->List Nat:=fun _ _=>[]
 cut:Nat->Nat:=fun _=>0
 fre:Nat->Bool:=fun _=>false
 deep:Nat->Bool:=fun _=>false
 ins:Nat->Nat:=fun _=>0
 insOK:∀ k,Nat.beq (ins k) 0=false->q7 P k (ins k):=by intro k h; exact Bool.noConfusion h
def vU (f r:Nat):List ((Nat×Nat)×List Nat)->List Nat
 | []=>[]
 | p :: l=>bif Nat.beq p.1.1 f then bif Nat.beq p.1.2 r then p.2 else vU f r l else vU f r l
def De (f r:Nat):List ((Nat×Nat)×List (Nat×Nat×Nat))->List (Nat×Nat×Nat)
 | []=>[]
 | p :: l=>bif Nat.beq p.1.1 f then bif Nat.beq p.1.2 r then p.2 else De f r l else De f r l
def uf (k:Nat):List (Nat×Nat)->Nat
 | []=>0
 | p :: l=>bif Nat.beq p.1 k then p.2 else uf k l
theorem Jq {P:Program} {q es:Nat} (h:q7 P q es):∀ k,Nat.beq (uf k [(q,es)]) 0=false->q7 P k (uf k [(q,es)]):=fun k hk=>by
 unfold uf at hk ⊢
 cases hb:Nat.beq q k with
 | true=>
  have:=X3 hb
  subst this
  exact h
 | false=>
  rw[hb] at hk
  exact absurd (show Nat.beq 0 0=false from hk) (by decide)
def xE (f r:Nat):List (Nat×Nat)->Bool
 | []=>false
 | p :: l=>bif Nat.beq p.1 f&&Nat.beq p.2 r then true else xE f r l
def D8 (k:Nat):List Nat->Bool
 | []=>true
 | x :: l=>bif Nat.beq x k then false else D8 k l
def look:List (Nat×A)->Nat->A
 | [],_=>.any
 | (s,a) :: r,t=>bif Nat.beq s t then a else look r t
def St.put (s:St) (dst:Option Nat) (a:A):St:=match dst with | some d=>{ s with fr:=(d,a) :: s.fr } | none=>s
def cJ {α:Type} (P:Program):Sem α->Option α
 | .pure a=>some a
 | .program k=>cJ P (k P)
 | .mark _ k=>cJ P k
 | _=>none
mutual
def A.qj:A->Option Value
 | .v x=>some x
 | .agg cs=>(BN cs).map fun l=>.agg l.toArray
 | .ifc t x=>(A.qj x).map (.iface t)
 | .fn (.func f) [] []=>some (.func (.func f) #[] #[])
 | _=>none
def BN:List A->Option (List Value)
 | []=>some []
 | a :: as=>(A.qj a).bind fun x=>(BN as).map (x :: ·)
end
def zx:Value->A
 | .slice none 0 0=>.imm [] true
 | x=>.v x
def xP:Value->A
 | .agg cs=>.agg (cs.toList.map zx)
 | x=>zx x
def ma (P:Program) (t:TypeId):Bool:=match P.underlying t with | some (.struct _) | some (.array _ _)=>true | _=>false
def cQ (P:Program) (t:TypeId):Option Nat:=(P.underlying t).bind fun _=>(P.info? t).map (·.size)
def jN (P:Program) (t:TypeId):Option Nat:=(P.info? t).map (·.bytes)
def gR (P:Program) (t:TypeId):Option (List A):=(P.info? t).bind fun i=>i.zero.map fun z=>z.cells.toList.map zx
def kb (P:Program) (t:TypeId):Option TypeId:=match P.underlying t with | some (.slice e)=>some e | _=>none
def A.cell:A->Bool
 | .any | .agg _ | .tup _ | .nq _=>false
 | .v x=>x.oneCell'
 | _=>true
def A.cells?:A->Option (List A)
 | .agg cs=>bif cs.all A.cell then some cs else none
 | .v x=>bif x.oneCell' then some [.v x] else none
 | .any | .tup _ | .nq _=>none
 | a=>some [a]
def join (P:Program) (t:TypeId) (cs:List A):Option A:=bif ma P t then some (.agg cs) else match cs with | [c]=>some c | _=>none
def chunk {α:Type} (es:Nat):Nat->List α->List (List α)
 | 0,_=>[]
 | q+1,xs=>xs.take es :: chunk es q (xs.drop es)
def lh (P:Program) (t:TypeId) (a:A) (H:aC):Option A:=
 (cQ P t).bind fun n=>bif n==0 then none else
 match a with
 | .ptr b o=>match H[b]? with
  | some (.box cs)=>bif decide (o+n<=cs.length) then join P t ((cs.drop o).take n) else none
  | _=>none
 | .ep b i o=>match H[b]? with
  | some (.row true _ els)=>match els[i]? with
   | some cs=>bif decide (o+n<=cs.length) then join P t ((cs.drop o).take n) else
    bif Nat.beq o 0&&Nat.beq ((els.drop i).take (n / cs.length)).flatten.length n then join P t ((els.drop i).take (n / cs.length)).flatten else none
   | none=>none
  | _=>none
 | .ip cs=>bif decide (n<=cs.length) then join P t (cs.take n) else none
 | _=>none
def bz {α:Type} (cs:List α) (o:Nat) (xs:List α):List α:=cs.take o++xs++cs.drop (o+xs.length)
def ji (P:Program) (t:TypeId) (a x:A) (H:aC) (lo:Nat):Option aC:=
 (cQ P t).bind fun n=>x.cells?.bind fun xs=>bif n==0 || !(xs.length==n) then none else
 match a with
 | .ptr b o=>match H[b]? with
  | some (.box cs)=>bif decide (lo<=b)&&decide (o+n<=cs.length) then some (H.set b (.box (bz cs o xs))) else none
  | _=>none
 | .ep b i o=>match H[b]? with
  | some (.row true es els)=>match els[i]? with
   | some cs=>bif decide (lo<=b)&&decide (o+n<=cs.length) then some (H.set b (.row true es (els.set i (bz cs o xs)))) else
    bif decide (lo<=b)&&Nat.beq o 0&&Nat.beq (n / es*es) n&&decide (i+n / es<=els.length) then some (H.set b (.row true es (bz els i (chunk es (n / es) xs)))) else none
   | none=>none
  | _=>none
 | _=>none
def lQ (P:Program) (t:TypeId) (H:aC):Option (A×aC):=(gR P t).map fun cs=>(.ptr H.length 0,H++[.box cs])
def yC (x:A) (H:aC):Option (A×aC):=x.cells?.map fun cs=>(.ptr H.length 0,H++[.box cs])
def rowOf (P:Program) (t:TypeId) (cs:List A) (H:aC):Option (A×aC):=match P.underlying t with
 | some (.array n e)=>(cQ P e).bind fun es=>bif Nat.beq es 0 || Nat.beq n 0 || !Nat.beq cs.length (n*es) then none else some (.ep H.length 0 0,H++[.row true es (chunk es n cs)])
 | _=>none
def jZ (P:Program) (t:TypeId) (H:aC):Option (A×aC):=(gR P t).bind fun cs=>rowOf P t cs H
def ua (P:Program) (t:TypeId) (x:A) (H:aC):Option (A×aC):=x.cells?.bind fun cs=>rowOf P t cs H
def n0 (b:Bool) (P:Program) (t:TypeId) (H:aC):Option (A×aC):=bif b then jZ P t H else lQ P t H
def yK (b:Bool) (P:Program) (t:TypeId) (x:A) (H:aC):Option (A×aC):=bif b then ua P t x H else yC x H
def rep (c:Bool):Operand:=if c then .const .nilIface else .tmp 0
def Ky:Operand->Bool | .const _=>true | _=>false
def rG (P:Program) (q:TypeId->Value->Value->Option Bool) (xs ys:Array Value):List Field->Option Bool
 | []=>some true
 | [f]=>bif f.name == "_" then some true else (cJ P (part f.type xs f.offset)).bind fun a=>(cJ P (part f.type ys f.offset)).bind fun b=>q f.type a b
 | f :: fs=>bif f.name == "_" then rG P q xs ys fs else (cJ P (part f.type xs f.offset)).bind fun a=>(cJ P (part f.type ys f.offset)).bind fun b=>(q f.type a b).bind fun r=>(rG P q xs ys fs).map fun r'=>r&&r'
def uh (P:Program) (q:TypeId->Value->Value->Option Bool) (e:TypeId) (c:Nat) (xs ys:Array Value):List Nat->Option Bool
 | []=>some true
 | [i]=>(cJ P (part e xs (i*c))).bind fun a=>(cJ P (part e ys (i*c))).bind fun b=>q e a b
 | i :: is=>(cJ P (part e xs (i*c))).bind fun a=>(cJ P (part e ys (i*c))).bind fun b=>(q e a b).bind fun r=>(uh P q e c xs ys is).map fun r'=>r&&r'
def LP (P:Program):Nat->TypeId->Value->Value->Option Bool
 | 0,_,_,_=>none
 | d+1,t,x,y=>match P.underlying t,x,y with
  | some (.int _),.int k a,.int k' b=>bif decide (k=k') then some (a==b) else none
  | some .bool,.bool a,.bool b=>some (a==b)
  | some .string,.string a,.string b=>some (a==b)
  | some (.struct _),.agg xs,.agg ys=>bif P.stoodInHeld t then none else rG P (LP P d) xs ys (P.fieldsOf t).toList
  | some (.array n e),.agg xs,.agg ys=>(P.info? e).bind fun _=>uh P (LP P d) e (P.cellsOf e) xs ys (List.range n)
  | _,_,_=>none
def uj (P:Program) (t:TypeId) (x y:A):Option Bool:=bif P.eqGuardType P.depth t then none else x.qj.bind fun a=>y.qj.bind fun b=>LP P 20 t a b
def jX (P:Program) (op:BinOp) (t:TypeId) (c d:Bool) (x y:A):Option A:=
 match op,x,y with
 | .eql,.agg _,.agg _=>(uj P t x y).map fun r=>.v (.bool r)
 | .neq,.agg _,.agg _=>(uj P t x y).map fun r=>.v (.bool (!r))
 | _,_,_=>x.qj.bind fun a=>y.qj.bind fun b=>(cJ P (do eqGuard op t (rep c) (rep d) a b; binOp op t a b)).map xP
def jj (P:Program) (op:UnOp) (x:A):Option A:=x.qj.bind fun a=>(cJ P (Op.unary op a)).map xP
def Ah (mn:Bool) (x y:A):Option A:=match x,y with
 | .v (.int k a),.v (.int l b)=>bif k==l then some (.v (.int k (if mn then (if b<a then b else a) else (if a<b then b else a)))) else none
 | _,_=>none
def BV (mn:Bool):A->List A->Option A
 | x,[]=>some x
 | x,y :: r=>(Ah mn x y).bind fun z=>BV mn z r
def BC (P:Program) (t:TypeId):Option (IntKind×TypeId):=match P.underlying t with
 | some (.map kt vt)=>match P.underlying kt with | some (.int k)=>some (k,vt) | _=>none
 | _=>none
def keyOf (k:IntKind):A->Option Int
 | .v (.int j n)=>bif decide (j=k) then some n else none
 | _=>none
def n4 (a:Int):List Int->List A->Option A
 | x :: ks,v :: vs=>bif decide (a=x) then some v else n4 a ks vs
 | _,_=>none
def BG (a:Int) (y:A):List Int->List A->List Int×List A
 | x :: ks,v :: vs=>bif decide (a=x) then (x :: ks,y :: vs) else (x :: (BG a y ks vs).1,v :: (BG a y ks vs).2)
 | _,_=>([a],[y])
def rm (P:Program) (t:TypeId) (H:aC):Option (A×aC):=(BC P t).map fun p=>(.mr H.length,H++[.mp p.1 [] []])
def qP (P:Program) (t:TypeId) (m i x:A) (H:aC) (lo:Nat):Option aC:=(BC P t).bind fun p=>(keyOf p.1 i).bind fun a=>match m with
 | .mr b=>match H[b]? with
  | some (.mp k ks vs)=>bif decide (lo<=b)&&decide (k=p.1) then some (H.set b (.mp k (BG a x ks vs).1 (BG a x ks vs).2)) else none
  | _=>none
 | _=>none
def Kz (P:Program) (vt:TypeId) (c:Bool) (r:Option A):Option A:=match r with
 | some y=>some (bif c then .tup [y,.v (.bool true)] else y)
 | none=>(P.info? vt).bind fun i=>i.zero.map fun z=>bif c then .tup [xP z,.v (.bool false)] else xP z
def lR (P:Program) (t:TypeId) (m i:A) (c:Bool) (H:aC):Option A:=(BC P t).bind fun p=>(keyOf p.1 i).bind fun a=>match m with
 | .mv k ks vs=>bif decide (k=p.1) then Kz P p.2 c (n4 a ks vs) else none
 | .mr b=>match H[b]? with
  | some (.mp k ks vs)=>bif decide (k=p.1) then Kz P p.2 c (n4 a ks vs) else none
  | _=>none
 | _=>none
def mO (x:A) (i:Nat):Option A:=match x with | .tup cs=>cs[i]? | _=>none
def yF (P:Program) (t:TypeId) (x:A) (i:Nat):Option A:=
 match P.underlying t,x with
 | some (.struct fs),.agg cs=>fs[i]?.bind fun f=>(cQ P f.type).bind fun n=>bif decide (f.offset+n<=cs.length) then join P f.type ((cs.drop f.offset).take n) else none
 | _,_=>none
def idx:A->Option Nat
 | .v (.int _ n)=>bif decide (0<=n) then some n.toNat else none
 | _=>none
def yH (P:Program) (t:TypeId) (x i:A):Option A:=
 (idx i).bind fun j=>
 match P.underlying t,x with
 | some (.array len e),.agg cs=>(cQ P e).bind fun n=>bif decide (j<len)&&decide (j*n+n<=cs.length) then join P e ((cs.drop (j*n)).take n) else none
 | some .string,.v (.string s)=>s[j]?.map fun b=>.v (.int .u8 b.toNat)
 | _,_=>none
def gw (H:aC):A->Bool
 | .ptr b _=>match H[b]? with | some (.box _)=>true | _=>false
 | .ep b _ _=>match H[b]? with | some (.row true _ _)=>true | _=>false
 | .sl b _ _ _=>match H[b]? with | some (.row ..)=>true | _=>false
 | .mr b=>match H[b]? with | some (.mp ..)=>true | _=>false
 | _=>true
def fG (P:Program) (t:TypeId) (x:A) (i:Nat) (H:aC):Option A:=
 bif gw H x then
 match P.underlying t with
 | some (.struct fs)=>fs[i]?.bind fun f=>(cQ P f.type).bind fun n=>bif n==0 then none else
  match x with
  | .ptr b o=>some (.ptr b (o+f.offset))
  | .ep b j o=>some (.ep b j (o+f.offset))
  | .ip cs=>some (.ip (cs.drop f.offset))
  | _=>none
 | _=>none
 else none
def dj (P:Program) (t:TypeId) (x i:A) (H:aC):Option A:=
 (idx i).bind fun j=>bif gw H x then
 match P.underlying t with
 | some (.slice e)=>(cQ P e).bind fun n=>match x with
  | .imm els _=>els[j]?.bind fun cs=>bif cs.length==n then some (.ip cs) else none
  | .sl b o m _=>bif decide (j<m) then match H[b]? with
   | some (.row true es _)=>bif es==n then some (.ep b (o+j) 0) else none
   | some (.row false es els)=>bif es==n then els[o+j]?.map .ip else none
   | _=>none else none
  | _=>none
 | some (.array len e)=>(cQ P e).bind fun n=>bif !decide (j<len) then none else match x with
  | .ptr b o=>some (.ptr b (o+j*n))
  | .ep b k o=>match H[b]? with
   | some (.row _ es els)=>bif Nat.beq es n&&Nat.beq o 0&&decide (k+j<els.length) then some (.ep b (k+j) 0) else some (.ep b k (o+j*n))
   | _=>none
  | .ip cs=>some (.ip (cs.drop (j*n)))
  | _=>none
 | _=>none
 else none
def rk (P:Program) (t:TypeId) (x:A) (H:aC):Option A:=
 bif gw H x then
 match P.underlying t,x with
 | some .string,.v (.string s)=>some (.v (.int .i64 s.size))
 | some (.slice _),.imm els _=>some (.v (.int .i64 els.length))
 | some (.slice _),.sl _ _ n _=>some (.v (.int .i64 n))
 | _,_=>none
 else none
def qb (H:aC):A->Bool
 | .ptr b o=>gw H (.ptr b o)
 | .ep b i o=>gw H (.ep b i o)
 | .ip _=>true
 | .fn (.func _) _ _=>true
 | _=>false
def Ba (a:A) (H:aC):Option A:=bif qb H a then some a else none
def kD (d:Nat):Option A->Option Nat
 | none=>some d
 | some a=>idx a
def dA (P:Program) (t:TypeId) (x:A) (lo hi mx:Option A) (H:aC):Option A:=
 match P.underlying t,x with
 | some .string,.v (.string s)=>bif mx.isSome then none else
  (kD s.size hi).bind fun h=>(kD 0 lo).bind fun l=>bif decide (l<=h)&&decide (h<=s.size) then some (.v (.string (s.extract l h))) else none
 | some (.slice e),.imm els c=>(cQ P e).bind fun n=>(kD els.length hi).bind fun h=>(kD 0 lo).bind fun l=>
  bif decide (l<=h)&&decide (h<=els.length)&&(l==0 || match els[l]? with | some cs=>cs.length==n | none=>true) then match mx with
   | none=>some (.imm ((els.drop l).take (h - l)) (c&&h==els.length))
   | some m=>(idx m).bind fun m=>bif m==h then some (.imm ((els.drop l).take (h - l)) true) else none
  else none
 | some (.slice e),.sl b o n c=>(cQ P e).bind fun z=>(kD n hi).bind fun h=>(kD 0 lo).bind fun l=>
  bif decide (l<=h)&&decide (h<=n)&&(match H[b]? with | some (.row _ es _)=>es==z | _=>false) then match mx with
   | none=>some (.sl b (o+l) (h - l) (c&&h==n))
   | some m=>(idx m).bind fun m=>bif m==h then some (.sl b (o+l) (h - l) true) else none
  else none
 | some (.array n e),.ip cs=>(cQ P e).bind fun z=>(kD n hi).bind fun h=>(kD 0 lo).bind fun l=>
  bif decide (l<=h)&&decide (h<=n)&&decide (n*z<=cs.length)&&mx.isNone&&!Nat.beq z 0 then some (.imm (((chunk z n cs).drop l).take (h - l)) (Nat.beq h n)) else none
 | some (.array n e),.ep b k o=>(cQ P e).bind fun z=>(kD n hi).bind fun h=>(kD 0 lo).bind fun l=>
  bif decide (l<=h)&&decide (h<=n)&&mx.isNone&&Nat.beq o 0&&(match H[b]? with | some (.row true es els)=>Nat.beq es z&&decide (k+n<=els.length) | _=>false) then some (.sl b (k+l) (h - l) (Nat.beq h n)) else none
 | _,_=>none
def els? (H:aC):A->Option (List (List A))
 | .imm els _=>some els
 | .sl b o n _=>match H[b]? with
  | some (.row _ _ els)=>some ((els.drop o).take n)
  | _=>none
 | .v (.string s)=>some (s.data.toList.map fun c=>[.v (.int .u8 c.toNat)])
 | _=>none
def xc (H:aC):A->Option (List (List A))
 | .v _=>none
 | x=>els? H x
def dF:Nat:=140737488355328
def kC (P:Program) (t:TypeId):Bool:=match P.underlying t with | some (.slice _) | some .string=>true | _=>false
def vR (P:Program) (t:TypeId):Bool:=match P.underlying t with | some (.int _)=>true | _=>false
def wk:A->A
 | .imm els _=>.imm els false
 | a=>a
def yV (P:Program) (H:aC) (t2:TypeId) (by_:Nat) (z:List A) (y:A):Option (List (List A)):=bif kC P t2 then els? H y else match y with
 | .v (.int .i64 n)=>bif vR P t2&&decide (0<=n)&&decide (n*by_<=dF)&&decide (n<=dF) then some (List.replicate n.toNat (z.map wk)) else none
 | _=>none
def bK (P:Program) (t t2:TypeId) (wr:Bool) (x y:A) (H:aC) (lo:Nat):Option (A×aC):=
 (kb P t).bind fun e=>(cQ P e).bind fun es=>(jN P e).bind fun by_=>(gR P e).bind fun z=>(yV P H t2 by_ z y).bind fun ys=>
 bif es==0 || by_==0 || !(z.length==es) || !(ys.all fun cs=>cs.length==es&&cs.all A.cell) then none else
 match x with
 | .imm xs true=>
  bif !decide ((xs.length+ys.length)*by_<=dF) then none else
  bif wr&&xs.isEmpty then some (.sl H.length 0 ys.length false,H++[.row true es ys]) else
  bif xs.all (fun cs=>cs.length==es&&cs.all A.cell) then some (.sl H.length 0 (xs.length+ys.length) false,H++[.row false es (xs++ys)]) else none
 | .sl b o n c=>match H[b]? with
  | some (.row false es' els)=>
   bif !decide ((n+ys.length)*by_<=dF) || !(es'==es) || !decide (o+n<=els.length) then none else
   bif c then some (.sl H.length 0 (n+ys.length) false,H++[.row false es ((els.drop o).take n++ys)]) else
   bif decide (lo<=b)&&o==0&&n==els.length then some (.sl b 0 (n+ys.length) false,H.set b (.row false es (els++ys))) else none
  | _=>none
 | _=>none
def fH (ck:Bool) (P:Program) (t:TypeId) (n c:A) (H:aC):Option (A×aC):=
 (kb P t).bind fun e=>(cQ P e).bind fun es=>(jN P e).bind fun by_=>(gR P e).bind fun z=>(idx n).bind fun n=>(idx c).bind fun c=>
 bif es==0 || !(z.length==es) || !decide (c*by_<=dF) || !decide (c<=dF) || !decide (n<=c) then none else
 bif n==c then some (.sl H.length 0 n ck,H++[.row true es (List.replicate n (z.map wk))]) else
 bif n==0 then some (.sl H.length 0 0 false,H++[.row false es []]) else none
def gE (P:Program) (t:TypeId) (n c:A) (H:aC):Option (A×aC):=fH false P t n c H
def gW (P:Program) (t:TypeId) (n c:A) (H:aC):Option (A×aC):=
 (kb P t).bind fun e=>(cQ P e).bind fun es=>(jN P e).bind fun by_=>(gR P e).bind fun z=>(idx n).bind fun n=>(idx c).bind fun c=>
 bif es==0 || !(z.length==es) || !decide (c*by_<=dF) || !decide (c<=dF) || !(n==c) then none else some (.imm (List.replicate n (z.map wk)) false,H)
def sx (b:Bool) (P:Program) (t:TypeId) (n c:A) (H:aC):Option (A×aC):=bif b then gW P t n c H else gE P t n c H
def uq (place:Nat->Option (Nat×Nat)) (cs:List A):List (Nat×A)->Option (List A)
 | []=>some cs
 | (i,x) :: r=>(place i).bind fun p=>x.cells?.bind fun xs=>bif xs.length==p.2&&decide (p.1+p.2<=cs.length) then uq place (bz cs p.1 xs) r else none
def AP (P:Program) (t:TypeId):Option (Nat->Option (Nat×Nat)):=match P.underlying t with
 | some (.struct fs)=>(fs.toList.mapM fun f=>(P.info? f.type).map fun i=>(f.offset,i.size)).map fun places=>(places.toArray[·]?)
 | some (.array _ e)=>(P.info? e).map fun i=>fun j=>some (j*i.size,i.size)
 | _=>none
def vf (P:Program) (t:TypeId) (parts:List (Nat×A)):Option A:=
 (gR P t).bind fun z=>(AP P t).bind fun place=>(uq place z parts).map .agg
def ml (els:List (List A)):List (Nat×A)->Option (List (List A))
 | []=>some els
 | (i,x) :: r=>x.cells?.bind fun xs=>ml (els.set i xs) r
def aP (P:Program) (t:TypeId) (len:Nat) (parts:List (Nat×A)):Option A:=
 (kb P t).bind fun e=>(cQ P e).bind fun es=>(gR P e).bind fun z=>bif es==0 || !(z.length==es) || !decide (len*es<=16777216) then none else
 bif parts.all (fun p=>decide (p.1<len)&&(match p.2.cells? with | some xs=>xs.length==es | none=>false)) then (ml (List.replicate len z) parts).map fun els=>.imm els true else none
def pQ (P:Program) (t:TypeId) (len:Nat) (parts:List (Nat×A)) (H:aC):Option (A×aC):=
 (kb P t).bind fun e=>(cQ P e).bind fun es=>(aP P t len parts).bind fun a=>match a with
  | .imm els true=>some (.sl H.length 0 els.length true,H++[.row true es els])
  | _=>none
def qn (P:Program) (t:TypeId) (x y:A) (H:aC) (lo:Nat):Option (A×aC):=
 (kb P t).bind fun e=>(cQ P e).bind fun es=>(els? H y).bind fun ys=>bif es==0 || !(ys.all fun cs=>cs.length==es&&cs.all A.cell) then none else
 match x with
 | .sl b o n _=>match H[b]? with
  | some (.row true es' els)=>bif decide (lo<=b)&&es'==es then some (.v (.int .i64 (min ys.length n:Nat)),H.set b (.row true es (bz els o (ys.take n)))) else none
  | _=>none
 | _=>none
def bytesOf:List (List A)->Option (List UInt8)
 | []=>some []
 | [.v (.int .u8 n)] :: r=>(bytesOf r).map (n.toNat.toUInt8 :: ·)
 | _=>none
def bt (P:Program) (s d:TypeId) (x:A) (H:aC):Option A:=
 match P.underlying s,P.underlying d,x with
 | some (.slice e),some .string,x=>match P.underlying e,cQ P e with
  | some (.int .u8),some 1=>(xc H x).bind fun els=>(bytesOf els).map fun l=>.v (.string ⟨l.toArray⟩)
  | _,_=>none
 | some .string,some (.slice e),.v (.string s)=>match P.underlying e with
  | some (.int .u8)=>some (.imm (s.data.toList.map fun c=>[.v (.int .u8 c.toNat)]) false)
  | _=>none
 | _,_,x=>x.qj.bind fun a=>(cJ P (convert s d a)).map xP
def Fb (P:Program) (t:TypeId) (x:A):Option A:=match P.underlying t with | some (.interface _)=>none | none=>none | some _=>some (.ifc t x)
def vX (P:Program) (t:TypeId) (c:Bool):Option A:=bif c then (P.info? t).bind fun i=>i.zero.map fun z=>.tup [xP z,.v (.bool false)] else none
def nr (P:Program) (x:A) (t:TypeId) (c:Bool):Option A:=match P.underlying t with
 | none=>none
 | some (.interface _)=>none
 | some _=>match x with
  | .ifc t' y=>bif Nat.beq t' t then some (bif c then .tup [y,.v (.bool true)] else y) else vX P t c
  | .v .nilIface=>vX P t c
  | _=>none
mutual
def cD (g:Nat->Nat->Nat->A):A->A
 | .sl b o m _=>g b o m
 | .imm els _=>.imm (dh g els) false
 | .agg cs=>.agg (bp g cs)
 | .tup cs=>.tup (bp g cs)
 | .ifc t x=>.ifc t (cD g x)
 | .mv k ks vs=>.mv k ks (bp g vs)
 | .v x=>.v x
 | .fn f [] []=>.fn f [] []
 | _=>.any
def bp (g:Nat->Nat->Nat->A):List A->List A
 | []=>[]
 | a :: as=>cD g a :: bp g as
def dh (g:Nat->Nat->Nat->A):List (List A)->List (List A)
 | []=>[]
 | a :: as=>bp g a :: dh g as
end
def iv:Nat->aC->Nat->Nat->Nat->A
 | 0,_,_,_,_=>.any
 | n+1,H,b,o,m=>match H[b]? with
  | some (.row false _ els)=>.imm (dh (iv n H) ((els.drop o).take m)) false
  | _=>.any
def snap (H:aC) (a:A):A:=cD (iv 4 H) a
def iE:Nat->aC->Nat->Nat->Nat->A
 | 0,_,_,_,_=>.any
 | n+1,H,b,o,m=>match H[b]? with
  | some (.row _ _ els)=>.imm (dh (iE n H) ((els.drop o).take m)) false
  | _=>.any
def kl:Nat->aC->A->A
 | 0,_,_=>.any
 | n+1,H,.ptr b o=>match H[b]? with | some (.box cs)=>.ip ((cs.drop o).map (kl n H)) | _=>.any
 | n+1,H,.fn f p q=>.fn f (p.map (kl n H)) (q.map (kl n H))
 | n+1,H,.agg cs=>.agg (cs.map (kl n H))
 | _+1,H,a=>cD (iE 4 H) a
def aS (H:aC) (a:A):A:=match a with
 | .mr b=>match H[b]? with
  | some (.mp k ks vs)=>.mv k ks (bp (iE 4 H) vs)
  | _=>.any
 | .fn f p q=>kl 6 H (.fn f p q)
 | a=>cD (iE 4 H) a
def mP (lo:Nat) (a:A) (H:aC):Option (A×aC):=match a with
 | .sl b o n _=>match H[b]? with
  | some (.row true _ els)=>bif decide (lo<=b) then some (.imm (dh (iv 4 H) ((els.drop o).take n)) false,H.set b .dead) else none
  | some (.row false _ els)=>some (.imm (dh (iv 4 H) ((els.drop o).take n)) false,H)
  | _=>none
 | .ptr b o=>match H[b]? with
  | some (.box cs)=>bif decide (lo<=b)&&Nat.beq o 0 then some (.ip cs,H.set b .dead) else none
  | _=>none
 | .imm els c=>some (.imm els c,H)
 | _=>none
def Db (P:Program) (s t:TypeId) (x:A) (H:aC) (lo:Nat):Option (A×aC):=
 match P.underlying s with
 | some (.slice e)=>match P.underlying e with
  | some (.int .u8)=>match x with
   | .sl b _ n _=>match H[b]? with
    | some (.row true _ _)=>bif Nat.beq s t&&decide (0<n) then mP lo x H else none
    | _=>none
   | _=>none
  | _=>none
 | _=>none
def Br (H:aC) (a:A):A:=match a with | .sl b o n c=>snap H (.sl b o n c) | .imm els _=>.imm els false | a=>a
def di (H:aC) (a:A):A:=match a with | .sl b o n c=>snap H (.sl b o n c) | .agg cs=>.agg (cs.map (Br H)) | a=>a
def bN (a:A) (H:aC) (x:A):A:=match a with | .ep ..=>di H x | _=>x
mutual
def A.under (L:Nat):A->Bool
 | .any | .v _ | .nq _=>true
 | .ptr b _ | .ep b _ _ | .sl b _ _ _ | .yld b | .mr b=>decide (b<L)
 | .mv _ _ vs=>bq L vs
 | .ip cs | .agg cs | .tup cs=>bq L cs
 | .imm els _=>bk L els
 | .fn _ a b=>bq L a&&bq L b
 | .ifc _ x=>A.under L x
def bq (L:Nat):List A->Bool
 | []=>true
 | a :: as=>A.under L a&&bq L as
def bk (L:Nat):List (List A)->Bool
 | []=>true
 | a :: as=>bq L a&&bk L as
end
def aO.under (L:Nat):aO->Bool
 | .box cs=>bq L cs
 | .row _ _ els=>bk L els
 | .rng _=>true
 | .dead=>true
 | .hole=>true
 | .mp _ _ vs=>bq L vs
def trim (L:Nat) (H:aC):Option aC:=bif H.length==L then some H else bif (H.take L).all (aO.under L) then some (H.take L) else none
def cg (cx:Cx) (s:St):Operand->A
 | .tmp t=>look s.fr t
 | .const x=>xP x
 | .global g=>match cx.glob g with | some vs=>.ip (vs.map .v) | none=>.any
 | .func f=>.fn (.func f) [] []
def cC {β:Type} (a:A) (x y:Option β):Option β:=match a with | .v (.bool b)=>bif b then x else y | _=>none
def EB:Value->Value->Bool
 | .int k a,.int k' b=>decide (k=k')&&decide (a=b)
 | .bool a,.bool b=>a==b
 | .string a,.string b=>decide (a.data.toList=b.data.toList)
 | .nilIface,.nilIface=>true
 | .nilFunc,.nilFunc=>true
 | _,_=>false
theorem EC:∀ (x y:Value),EB x y=true->x=y:=fun x y h=>by
 unfold EB at h
 split at h
 ·simp only[XQ,XV] at h; rw[h.1,h.2]
 ·rw[eq_of_beq h]
 ·rename_i a b
  obtain ⟨⟨a⟩⟩:=a; obtain ⟨⟨b⟩⟩:=b
  exact YF (fun l=>Value.string ⟨⟨l⟩⟩) (XY h)
 ·rfl
 ·rfl
 ·cases h
mutual
def ia:A->A->Bool
 | .any,y=>match y with | .any=>true | _=>false
 | .v x,y=>match y with | .v z=>EB x z | _=>false
 | .ptr b o,y=>match y with | .ptr b' o'=>Nat.beq b b'&&Nat.beq o o' | _=>false
 | .ep b i o,y=>match y with | .ep b' i' o'=>Nat.beq b b'&&Nat.beq i i'&&Nat.beq o o' | _=>false
 | .ip cs,y=>match y with | .ip ds=>sameAs cs ds | _=>false
 | .imm els c,y=>match y with | .imm ds d=>nF els ds&&(c==d) | _=>false
 | .sl b o n c,y=>match y with | .sl b' o' n' c'=>Nat.beq b b'&&Nat.beq o o'&&Nat.beq n n'&&(c==c') | _=>false
 | .agg cs,y=>match y with | .agg ds=>sameAs cs ds | _=>false
 | .tup cs,y=>match y with | .tup ds=>sameAs cs ds | _=>false
 | .mv k ks vs,y=>match y with | .mv k' ks' vs'=>decide (k=k')&&decide (ks=ks')&&sameAs vs vs' | _=>false
 | .mr b,y=>match y with | .mr b'=>Nat.beq b b' | _=>false
 | .fn _ _ _,_=>false
 | .ifc _ _,_=>false
 | .yld _,_=>false
 | .nq _,_=>false
def sameAs:List A->List A->Bool
 | [],y=>match y with | []=>true | _=>false
 | a :: l,y=>match y with | b :: m=>ia a b&&sameAs l m | []=>false
def nF:List (List A)->List (List A)->Bool
 | [],y=>match y with | []=>true | _=>false
 | a :: l,y=>match y with | b :: m=>sameAs a b&&nF l m | []=>false
end
mutual
theorem sQ:∀ (x y:A),ia x y=true->x=y
 | .any,y,h=>by cases y<;>simp only[ia,Yg] at h; rfl
 | .v x,y,h=>by
  cases y<;>simp only[ia,Yg,XQ,XV] at h
  rw[EC _ _ h]
 | .ptr b o,y,h=>by
  cases y<;>simp only[ia,Yg,XQ,XV] at h
  rw[X3 h.1,X3 h.2]
 | .ep b i o,y,h=>by
  cases y<;>simp only[ia,Yg,XQ,XV] at h
  rw[X3 h.1.1,X3 h.1.2,X3 h.2]
 | .ip cs,y,h=>by
  cases y<;>simp only[ia,Yg,XQ,XV] at h
  rw[gP _ _ h]
 | .imm els c,y,h=>by
  cases y<;>simp only[ia,Yg,XQ,XV] at h
  rw[oI _ _ h.1,eq_of_beq h.2]
 | .sl b o n c,y,h=>by
  cases y<;>simp only[ia,Yg,XQ,XV] at h
  rw[X3 h.1.1.1,X3 h.1.1.2,X3 h.1.2,eq_of_beq h.2]
 | .agg cs,y,h=>by
  cases y<;>simp only[ia,Yg,XQ,XV] at h
  rw[gP _ _ h]
 | .tup cs,y,h=>by
  cases y<;>simp only[ia,Yg,XQ,XV] at h
  rw[gP _ _ h]
 | .mv k ks vs,y,h=>by
  cases y<;>simp only[ia,Yg,XQ,XV] at h
  rw[h.1.1,h.1.2,gP _ _ h.2]
 | .mr b,y,h=>by
  cases y<;>simp only[ia,Yg,XQ,XV] at h
  rw[X3 h]
 | .fn ..,y,h=>by cases y<;>simp only[ia,Yg] at h
 | .ifc ..,y,h=>by cases y<;>simp only[ia,Yg] at h
 | .yld ..,y,h=>by cases y<;>simp only[ia,Yg] at h
 | .nq ..,y,h=>by cases y<;>simp only[ia,Yg] at h
theorem gP:∀ (x y:List A),sameAs x y=true->x=y
 | [],y,h=>by cases y<;>simp only[sameAs,Yg] at h; rfl
 | a :: l,y,h=>by
  cases y<;>simp only[sameAs,Yg,XQ] at h
  rw[sQ _ _ h.1,gP _ _ h.2]
theorem oI:∀ (x y:List (List A)),nF x y=true->x=y
 | [],y,h=>by cases y<;>simp only[nF,Yg] at h; rfl
 | a :: l,y,h=>by
  cases y<;>simp only[nF,Yg,XQ] at h
  rw[gP _ _ h.1,oI _ _ h.2]
end
def Ey:aO->aO->Bool
 | .box a,.box b=>sameAs a b
 | .row w e a,.row w' e' b=>(w==w')&&Nat.beq e e'&&nF a b
 | .dead,.dead=>true
 | .hole,.hole=>true
 | .mp k ks vs,.mp k' ks' vs'=>decide (k=k')&&decide (ks=ks')&&sameAs vs vs'
 | _,_=>false
theorem Ez:∀ (x y:aO),Ey x y=true->x=y:=fun x y h=>by
 unfold Ey at h
 split at h
 ·rw[gP _ _ h]
 ·rw[XQ,XQ] at h; rw[eq_of_beq h.1.1,X3 h.1.2,oI _ _ h.2]
 ·rfl
 ·rfl
 ·simp only[XQ,XV] at h; rw[h.1.1,h.1.2,gP _ _ h.2]
 ·cases h
def yh:aC->aC->Bool
 | [],[]=>true
 | a :: l,b :: m=>Ey a b&&yh l m
 | _,_=>false
theorem sR:∀ (x y:aC),yh x y=true->x=y
 | [],[],_=>rfl
 | [],_ :: _,h=>by cases h
 | _ :: _,[],h=>by cases h
 | a :: l,b :: m,h=>by
  rw[yh,XQ] at h; rw[Ez _ _ h.1,sR _ _ h.2]
def yi:Option R->Option R->Bool
 | some (.ret a,H),some (.ret b,H')=>ia a b&&yh H H'
 | some (.pan a,H),some (.pan b,H')=>ia a b&&yh H H'
 | none,none=>true
 | _,_=>false
theorem EA (x y:Option R) (h:yi x y=true):x=y:=by
 unfold yi at h
 split at h
 ·rw[XQ] at h; rw[sQ _ _ h.1,sR _ _ h.2]
 ·rw[XQ] at h; rw[sQ _ _ h.1,sR _ _ h.2]
 ·rfl
 ·cases h
noncomputable def both (x y:Option R):Option R:=bif yi x y then y else open Classical in if x=y then y else none
noncomputable def Lf (els:List (List A)) (x y:Option R):Option R:=match els with | []=>both x y | _ :: _=>y
noncomputable def aW (a:A) (x y:Option R):Option R:=match a with | .nq els=>Lf els x y | a=>cC a x y
theorem Dh {x y:Option R} (h:x=y):both x y=y:=by
 unfold both
 cases yi x y
 ·exact XX h
 ·rfl
theorem Be {x y:Option R} {r:R} (h:both x y=some r):x=y/\y=some r:=by
 unfold both at h
 cases e:yi x y
 ·rw[e] at h
  by_cases hxy:x=y
  ·rw[show (bif false then y else open Classical in if x=y then y else none)=y from XX hxy] at h; exact⟨hxy,h⟩
  ·rw[show (bif false then y else open Classical in if x=y then y else none)=none from XW hxy] at h; cases h
 ·rw[e] at h; exact⟨EA _ _ e,h⟩
def I1 (P:Program) (t:TypeId) (x:A):Option A:=match P.underlying t,x with | some (.slice _),.imm els _=>some (.nq els) | _,_=>none
def JE (op:BinOp) (y:Operand):Bool:=match op,y with | .eql,.const (.slice none 0 0)=>true | _,_=>false
def Lg (b:Bool) (P:Program) (op:BinOp) (t:TypeId) (c d:Bool) (x y:A):Option A:=bif b then I1 P t x else jX P op t c d x y
abbrev bo:=Nat->List A->aC->Nat->Option R
def pn {β:Type} (cx:Cx) (f lo:Nat) (dst:Option Nat) (c:Call) (s:St) (k:A->aC->Option β):Option β:=
 match c.callee,c.args.toList,c.argTypes.toList with
 | .builtin .len,[x],[t]=>(rk cx.P t (cg cx s x) s.H).bind fun a=>k a s.H
 | .builtin .append,[x,y],[t,t2]=>(bK cx.P t t2 (cx.wrAt f (dst.getD 0)) (cg cx s x) (cg cx s y) s.H lo).bind fun r=>k r.1 r.2
 | .builtin .copy,[x,y],[t,_]=>(qn cx.P t (cg cx s x) (cg cx s y) s.H lo).bind fun r=>k r.1 r.2
 | .builtin .min,x :: r,_=>(BV true (cg cx s x) (r.map (cg cx s))).bind fun a=>k a s.H
 | .builtin .max,x :: r,_=>(BV false (cg cx s x) (r.map (cg cx s))).bind fun a=>k a s.H
 | _,_,_=>none
def bQ {β:Type} (cx:Cx) (f:Nat) (lo:Nat) (o:Oper) (s:St) (k:A->aC->Option β):Option β:=
 match o.op with
 | .move x | .assign x=>k (cg cx s x) s.H
 | .alloc t=>(n0 (cx.arr f t) cx.P t s.H).bind fun r=>k r.1 r.2
 | .box t x=>(yK (cx.arr f t) cx.P t (cg cx s x) s.H).bind fun r=>k r.1 r.2
 | .build t parts=>(vf cx.P t (parts.toList.map fun p=>(p.1,cg cx s p.2))).bind fun a=>k a s.H
 | .buildSlice t n parts=>(aP cx.P t n (parts.toList.map fun p=>(p.1,di s.H (cg cx s p.2)))).bind fun a=>k a s.H
 | .load t a=>(lh cx.P t (cg cx s a) s.H).bind fun a=>k a s.H
 | .store t a x=>(ji cx.P t (cg cx s a) (bN (cg cx s a) s.H (cg cx s x)) s.H lo).bind fun H=>k .any H
 | .binOp op t x y _=>(Lg (JE op y) cx.P op t (Ky x) (Ky y) (cg cx s x) (cg cx s y)).bind fun a=>k a s.H
 | .unOp op _ x=>(jj cx.P op (cg cx s x)).bind fun a=>k a s.H
 | .convert a b x=>(bt cx.P a b (cg cx s x) s.H).bind fun a=>k a s.H
 | .makeInterface t x=>(Fb cx.P t (cg cx s x)).bind fun a=>k a s.H
 | .makeFunc fn a b=>k (.fn fn (a.toList.map (cg cx s)) (b.toList.map (cg cx s))) s.H
 | .makeSlice t n c=>(sx (cx.loud f (o.dst.getD 0)) cx.P t (cg cx s n) (cg cx s c) s.H).bind fun r=>k r.1 r.2
 | .slice t x lo hi mx=>(bif mx.isNone || hi.isSome then dA cx.P t (cg cx s x) (lo.map (cg cx s)) (hi.map (cg cx s)) (mx.map (cg cx s)) s.H else none).bind fun a=>k a s.H
 | .fieldAddr t x i=>(fG cx.P t (cg cx s x) i s.H).bind fun a=>k a s.H
 | .field t x i=>(yF cx.P t (cg cx s x) i).bind fun a=>k a s.H
 | .indexAddr t x i=>(dj cx.P t (cg cx s x) (cg cx s i) s.H).bind fun a=>k a s.H
 | .index t x i=>(yH cx.P t (cg cx s x) (cg cx s i)).bind fun a=>k a s.H
 | .extract x i=>(mO (cg cx s x) i).bind fun a=>k a s.H
 | .nilCheck x=>(Ba (cg cx s x) s.H).bind fun a=>k a s.H
 | .makeMap t none=>(rm cx.P t s.H).bind fun r=>k r.1 r.2
 | .insert t m i x=>(qP cx.P t (cg cx s m) (cg cx s i) (cg cx s x) s.H lo).bind fun H=>k .any H
 | .mapUpdate t m i x=>(qP cx.P t (cg cx s m) (cg cx s i) (cg cx s x) s.H lo).bind fun H=>k .any H
 | .lookup t m i c=>(lR cx.P t (cg cx s m) (cg cx s i) c s.H).bind fun a=>k a s.H
 | .typeAssert x _ t c=>(nr cx.P (cg cx s x) t c).bind fun a=>k a s.H
 | .call c=>pn cx f lo o.dst c s k
 | _=>none
def cK (P:Program) (k:Nat):Bool:=match P.funcs[k]? with | some fn=>fn.body.isSome&&!(fn.name == "runtime.NumGoroutine") | none=>false
def callee? (cx:Cx) (s:St):Op->Option (Nat×List A)
 | .call c=>match c.callee with
  | .value g=>match cg cx s g with
   | .fn (.func k) first cap=>bif cK cx.P k then some (k,first++c.args.toList.map (cg cx s)++cap) else none
   | _=>none
  | _=>none
 | _=>none
def yldOf? (cx:Cx) (s:St):Op->Option (Nat×List A)
 | .call c=>match c.callee with
  | .value g=>match cg cx s g with
   | .yld b=>some (b,c.args.toList.map (cg cx s))
   | _=>none
  | _=>none
 | _=>none
def AD (H:aC) (b:Nat):Bool:=match H[b]? with | some (.rng _)=>true | _=>false
def IB {α β:Type} (x:Option α) (k:α->Option β) (e:Option β):Option β:=match x with | some a=>k a | none=>e
def iD:Op->Bool
 | .call c=>match c.callee with | .value _=>true | _=>false
 | _=>false
def dL (x:Out) (k:A->Option R) (pan:A->Option R):Option R:=match x with | .ret a=>k a | .pan a=>pan a
def JY (L:Nat) (r:R):Option A:=match r.1 with
 | .ret a=>bif A.under L a then some a else none
 | .pan _=>none
def iZ (cx:Cx) (s:St):Op->A
 | .call c=>match c.callee with | .value g=>cg cx s g | _=>.any
 | _=>.any
def eT (cx:Cx) (s:St):Op->List A
 | .call c=>c.args.toList.map (cg cx s)
 | _=>[]
def dP (cx:Cx) (call:bo) (fv:A) (args:List A) (H:aC) (lo:Nat) (k:A->aC->Option R) (pan:A->aC->Option R):Option R:=
 match fv with
 | .yld b=>bif AD H b then (call (cx.P.funcs.size+b) args H lo).bind fun r=>dL r.1 (fun a=>k a r.2) (fun _=>none) else none
 | .fn (.func q) first cap=>bif cK cx.P q then
   bif cx.isOrc q then (cx.C q ((first++args++cap).map (snap H))).bind fun a=>k a H
   else (call q (first++args++cap) H lo).bind fun r=>dL r.1 (fun a=>k a r.2) (fun a=>pan a r.2)
  else none
 | _=>none
theorem rE {cx:Cx} {call:bo} {s:St} {op:Op} {lo:Nat} {k:A->aC->Option R} {pan:A->aC->Option R}:dP cx call (iZ cx s op) (eT cx s op) s.H lo k pan =
   IB (yldOf? cx s op) (fun p=>bif AD s.H p.1 then (call (cx.P.funcs.size+p.1) p.2 s.H lo).bind fun r=>dL r.1 (fun a=>k a r.2) (fun _=>none) else none)
   ((callee? cx s op).bind fun p=>bif cx.isOrc p.1 then (cx.C p.1 (p.2.map (snap s.H))).bind fun a=>k a s.H
    else (call p.1 p.2 s.H lo).bind fun r=>dL r.1 (fun a=>k a r.2) (fun a=>pan a r.2)):=by
 cases op with
 | call c=>
  cases hc:c.callee with
  | value g=>
   cases hf:cg cx s g with
   | fn f first cap=>cases f with
    | func q=>
     simp only[dP,iZ,eT,yldOf?,callee?,IB,hc,hf]
     cases cK cx.P q<;>rfl
    | _=>simp only[dP,iZ,eT,yldOf?,callee?,IB,hc,hf]; rfl
   | yld b=>simp only[dP,iZ,eT,yldOf?,callee?,IB,hc,hf]
   | _=>simp only[dP,iZ,eT,yldOf?,callee?,IB,hc,hf]; rfl
  | _=>simp only[dP,iZ,eT,yldOf?,callee?,IB,hc]; rfl
 | _=>rfl
def qK {β:Type} (cx:Cx) (call:bo) (fv:A) (args:List A) (H:aC) (k:A->Option β):Option β:=
 match fv with
 | .fn (.func q) first cap=>bif cK cx.P q then
   bif cx.isOrcV q then (cx.C q ((first++args++cap).map (snap H))).bind k
   else ((call q (first++args++cap) H H.length).bind fun r=>JY H.length r).bind k
  else none
 | _=>none
def GS {β:Type} (x:A) (k:A->Option β):Option β:=match x with | .ifc t y=>k (.ifc t y) | _=>none
def rH (cx:Cx) (call:bo) (f lo:Nat) (o:Oper) (s:St) (k:St->Option R) (pan:A->St->Option R):Option R:=
 match o.op with
 | .pick c a b=>(cC (cg cx s c) (some (cg cx s a)) (some (cg cx s b))).bind fun x=>k (s.put o.dst x)
 | .panic x=>GS (cg cx s x) fun a=>pan a s
 | .buildSlice t n parts=>bif cx.wrAt f (o.dst.getD 0) then (pQ cx.P t n (parts.toList.map fun p=>(p.1,di s.H (cg cx s p.2))) s.H).bind fun r=>k ({ s with H:=r.2 }.put o.dst r.1) else bQ cx f lo o s fun a H=>k ({ s with H:=H }.put o.dst a)
 | .makeSlice t n c=>bif cx.wrAt f (o.dst.getD 0) then (fH true cx.P t (cg cx s n) (cg cx s c) s.H).bind fun r=>k ({ s with H:=r.2 }.put o.dst r.1) else bQ cx f lo o s fun a H=>k ({ s with H:=H }.put o.dst a)
 | .convert t t' x=>bif Nat.beq t t' then (Db cx.P t t' (cg cx s x) s.H lo).bind fun r=>k ({ s with H:=r.2 }.put o.dst r.1) else bQ cx f lo o s fun a H=>k ({ s with H:=H }.put o.dst a)
 | .call _=>bif iD o.op then
   dP cx call (iZ cx s o.op) (eT cx s o.op) s.H lo (fun a H=>k ({ s with H:=H }.put o.dst a)) (fun a H=>pan a { s with H:=H })
  else bQ cx f lo o s fun a H=>k ({ s with H:=H }.put o.dst a)
 | _=>bQ cx f lo o s fun a H=>k ({ s with H:=H }.put o.dst a)
def cd (ops:Array Oper) (o:Oper):Option (Nat×Bool):=match o.guard with
 | some (j,want)=>match ops[j]? with
  | some q=>match q.dst with
   | some t=>some (t,want)
   | none=>none
  | none=>none
 | none=>none
theorem jw (ops:Array Oper) (o:Oper):cd ops o=match o.guard with | some (j,want)=>((ops[j]?).bind (·.dst)).map (·,want) | none=>none:=by
 unfold cd
 split
 ·rename_i j want h
  cases ops[j]? with
  | none=>rfl
  | some q=>show _=(Option.bind (some q) (·.dst)).map _; cases h:q.dst<;>simp[h]
 ·rfl
def pA {β:Type} (g:A) (want:Bool) (run skip:Option β):Option β:=match g with
 | .v (.bool b)=>bif b then bif want then run else skip else bif want then skip else run
 | .v (.tuple _)=>skip
 | _=>none
theorem vw {β:Type} {cx:Cx} {call:bo} {s:St} {op:Op} {k:A->Option β}:qK cx call (iZ cx s op) (eT cx s op) s.H k =
   ((callee? cx s op).bind fun p=>bif cx.isOrcV p.1 then cx.C p.1 (p.2.map (snap s.H))
    else (call p.1 p.2 s.H s.H.length).bind fun r=>JY s.H.length r).bind k:=by
 cases op with
 | call c=>
  cases hc:c.callee with
  | value g=>
   cases hf:cg cx s g with
   | fn f first cap=>cases f with
    | func q=>
     simp only[qK,iZ,eT,callee?,hc,hf]
     cases cK cx.P q with
     | false=>rfl
     | true=>
      simp only[XR,XM]
      cases cx.isOrcV q<;>rfl
    | _=>simp only[qK,iZ,eT,callee?,hc,hf]; rfl
   | _=>simp only[qK,iZ,eT,callee?,hc,hf]; rfl
  | _=>simp only[qK,iZ,eT,callee?,hc]; rfl
 | _=>rfl
def gS (cx:Cx) (call:bo) (f:Nat) (o:Oper) (s:St):Option A:=
 match o.op with
 | .pick c a b=>cC (cg cx s c) (some (cg cx s a)) (some (cg cx s b))
 | .alloc _ | .box .. | .store .. | .makeSlice .. | .panic _ | .makeMap .. | .insert .. | .mapUpdate ..=>none
 | .call c=>bif iD o.op then
   qK cx call (iZ cx s o.op) (eT cx s o.op) s.H some
  else match c.callee with
   | .builtin .len=>bQ cx f 0 o s fun a _=>some a
   | _=>none
 | _=>bQ cx f 0 o s fun a _=>some a
def rO {β:Type} (cx:Cx) (call:bo) (f:Nat) (o:Oper) (s:St) (k:A->Option β):Option β:=
 match o.op with
 | .pick c a b=>(cC (cg cx s c) (some (cg cx s a)) (some (cg cx s b))).bind k
 | .alloc _ | .box .. | .store .. | .makeSlice .. | .panic _ | .makeMap .. | .insert .. | .mapUpdate ..=>none
 | .call c=>bif iD o.op then
   qK cx call (iZ cx s o.op) (eT cx s o.op) s.H k
  else match c.callee with
   | .builtin .len=>bQ cx f 0 o s fun a _=>k a
   | _=>none
 | _=>bQ cx f 0 o s fun a _=>k a
def quiet (cx:Cx) (f:Nat) (o:Oper):Bool:=
 match o.op with
 | .alloc _ | .box .. | .store .. | .makeSlice .. | .panic _ | .makeMap .. | .insert .. | .mapUpdate ..=>false
 | .call c=>match c.callee with
  | .value (.func k)=>cx.isOrc k
  | .value _=>match o.dst with | some d=>!cx.loud f d | none=>true
  | .builtin .len=>true
  | _=>false
 | _=>true
def bl {β:Type} (l:List A) (k:A->List A->Option β):Option β:=match l with | a :: r=>k a r | []=>none
def G3 {β:Type}:List Nat->List A->(List (Nat×A)->Option β)->Option β
 | [],_,k=>k []
 | d :: ds,l,k=>bl l fun a r=>G3 ds r fun fr=>k ((d,a) :: fr)
def jq (t:Nat):List Nat->Bool
 | []=>false
 | x :: l=>bif Nat.beq x t then true else jq t l
def kq (o:Oper):List Nat:=match o.dst with | some d=>[d] | none=>[]
def sf (ops:Array Oper) (g:Nat) (w:Bool) (ds:List Nat) (o:Oper):Bool:=
 match o.guard with
 | none=>false
 | some _=>match cd ops o with
  | none=>false
  | some (t,w')=>bif jq g (kq o) then false else bif Nat.beq t g then (bif w then w' else !w') else jq t ds
def b8 (ops:Array Oper) (g:Nat) (w:Bool):List Nat->List Oper->List Oper×List Oper
 | _,[]=>([],[])
 | ds,o :: os=>bif sf ops g w ds o then (o :: (b8 ops g w (kq o++ds) os).1,(b8 ops g w (kq o++ds) os).2) else ([],o :: os)
def il:List Oper->List Nat
 | []=>[]
 | o :: os=>il os++kq o
def oV (cx:Cx) (f:Nat):List Oper->Bool
 | []=>true
 | o :: os=>bif quiet cx f o then oV cx f os else false
def sH (ops:Array Oper) (asm:Option (Nat×Bool)) (o:Oper):Bool:=
 match o.guard with
 | none=>true
 | some _=>match asm,cd ops o with
  | some (g,w),some (t,w')=>bif Nat.beq t g then (bif w then w' else !w') else false
  | _,_=>false
def vz (ops:Array Oper) (asm:Option (Nat×Bool)) (g:Nat):List Oper->Option (Nat×Operand×Operand)
 | o :: _=>bif sH ops asm o then (match o.op,o.dst with
  | .pick (.tmp t) a b,some d=>bif Nat.beq t g then some (d,a,b) else none
  | _,_=>none) else none
 | []=>none
def yU (d:Option Nat) (x:A) (dl:List (Nat×A)):List (Nat×A):=match d with | some d=>(d,x) :: dl | none=>dl
def eD (dl:List (Nat×A)) (s:St):St:=⟨dl++s.fr,s.H⟩
def qk (ds:List Nat):List (Nat×A):=ds.map fun d=>(d,.v undef)
def xn (cx:Cx) (fin:Option (Nat×Operand)) (dl:List (Nat×A)) (s:St):List (Nat×A):=match fin with | some (d,x)=>(d,cg cx (eD dl s) x) :: dl | none=>dl
def LV {β:Type} (ops:Array Oper) (asm:Option (Nat×Bool)) (g:Nat) (w:Bool) (os:List Oper) (s:St) (vals:Option (Nat×Operand)->List Oper->Option (List A)) (ud:Option (Nat×Operand)->List Oper->Option (List A)) (k:List Oper->List (Nat×A)->Option β):Option β:=
 match vz ops asm g (b8 ops g w [] os).2 with
 | some (d,a,b)=>(cC (look s.fr g) (bif w then vals (some (d,a)) (b8 ops g w [] os).1 else ud (some (d,a)) (b8 ops g w [] os).1) (bif w then ud (some (d,b)) (b8 ops g w [] os).1 else vals (some (d,b)) (b8 ops g w [] os).1)).bind fun l=>
   G3 (d :: il (b8 ops g w [] os).1) l fun fr=>k (b8 ops g w [] os).2.tail fr
 | none=>(pA (look s.fr g) w (vals none (b8 ops g w [] os).1) (ud none (b8 ops g w [] os).1)).bind fun l=>
   G3 (il (b8 ops g w [] os).1) l fun fr=>k (b8 ops g w [] os).2 fr
def OV (cx:Cx) (s:St) (fin:Option (Nat×Operand)) (run:List Oper):Option (List A):=some ((xn cx fin (qk (il run)) s).map (·.2))
def n9 (cx:Cx) (call:bo) (f:Nat) (ops:Array Oper):Nat->Option (Nat×Bool)->Option (Nat×Operand)->List Oper->List (Nat×A)->St->Option (List A)
 | 0,_,_,_,_,_=>none
 | _+1,_,fin,[],dl,s=>some ((xn cx fin dl s).map (·.2))
 | q+1,asm,fin,o :: os,dl,s=>bif sH ops asm o then rO cx call f o (eD dl s) fun x=>n9 cx call f ops q asm fin os (yU o.dst x dl) s
  else match cd ops o with
   | none=>none
   | some (t,w)=>bif sf ops t w [] o then LV ops asm t w (o :: os) (eD dl s) (fun fin' run=>n9 cx call f ops q (some (t,w)) fin' run [] (eD dl s)) (OV cx (eD dl s)) (fun rest fr=>n9 cx call f ops q asm fin rest (fr++dl) s) else none
def fI (cx:Cx) (call:bo) (f lo:Nat) (ops:Array Oper):List Oper->St->(E->St->Option R)->Option R
 | [],s,k=>k .normal s
 | o :: os,s,k=>match o.guard with
  | none=>rH cx call f lo o s (fun s=>fI cx call f lo ops os s k) (fun a s=>k (.pan a) s)
  | some _=>match cd ops o with
   | none=>none
   | some (g,want)=>bif quiet cx f o then (pA (look s.fr g) want (gS cx call f o s) (some (.v undef))).bind fun x=>fI cx call f lo ops os (s.put o.dst x) k
    else pA (look s.fr g) want (rH cx call f lo o s (fun s=>fI cx call f lo ops os s k) (fun a s=>k (.pan a) s)) (fI cx call f lo ops os (s.put o.dst (.v undef)) k)
def gG (cx:Cx) (call:bo) (f lo:Nat) (ops:Array Oper):Nat->List Oper->St->(E->St->Option R)->Option R
 | 0,_,_,_=>none
 | _+1,[],s,k=>k .normal s
 | q+1,o :: os,s,k=>match o.guard with
  | none=>rH cx call f lo o s (fun s=>gG cx call f lo ops q os s k) (fun a s=>k (.pan a) s)
  | some _=>match cd ops o with
   | none=>none
   | some (t,w)=>bif sf ops t w [] o&&oV cx f (b8 ops t w [] (o :: os)).1 then
     LV ops none t w (o :: os) s (fun fin run=>n9 cx call f ops q (some (t,w)) fin run [] s) (OV cx s) (fun rest fr=>gG cx call f lo ops q rest (eD fr s) k)
    else bif quiet cx f o then (pA (look s.fr t) w (gS cx call f o s) (some (.v undef))).bind fun x=>gG cx call f lo ops q os (s.put o.dst x) k
    else pA (look s.fr t) w (rH cx call f lo o s (fun s=>gG cx call f lo ops q os s k) (fun a s=>k (.pan a) s)) (gG cx call f lo ops q os (s.put o.dst (.v undef)) k)
def jr (cx:Cx) (call:bo) (f:Nat) (ops:Array Oper):List Oper->St->(St->Option R)->Option R
 | [],s,k=>k s
 | o :: os,s,k=>match o.guard with
  | none=>(gS cx call f o s).bind fun x=>jr cx call f ops os (s.put o.dst x) k
  | some _=>match cd ops o with
   | none=>none
   | some (g,want)=>(pA (look s.fr g) want (gS cx call f o s) (some (.v undef))).bind fun x=>jr cx call f ops os (s.put o.dst x) k
def p0 (cx:Cx) (call:bo) (f:Nat) (ops:Array Oper):Nat->List Oper->St->(St->Option R)->Option R
 | 0,_,_,_=>none
 | _+1,[],s,k=>k s
 | q+1,o :: os,s,k=>match o.guard with
  | none=>rO cx call f o s fun x=>p0 cx call f ops q os (s.put o.dst x) k
  | some _=>match cd ops o with
   | none=>none
   | some (t,w)=>bif sf ops t w [] o then
     LV ops none t w (o :: os) s (fun fin run=>n9 cx call f ops q (some (t,w)) fin run [] s) (OV cx s) (fun rest fr=>p0 cx call f ops q rest (eD fr s) k)
    else none
def dQ (o:Oper):Bool:=match o.op with
 | .store .. | .alloc _ | .box .. | .makeSlice ..=>true
 | .call c=>match c.callee with | .builtin .append | .builtin .copy=>true | _=>false
 | _=>false
def dq (ops:Array Oper) (i:Nat):Bool:=match ops[i]? with | some o=>dQ o | none=>false
def blk?:A->Option Nat
 | .ptr b _ | .ep b _ _ | .sl b _ _ _ | .mr b=>some b
 | _=>none
def apart (a e:A):Bool:=match blk? a with
 | none=>true
 | some b=>match blk? e with | some c=>!Nat.beq b c | none=>true
def dm (cx:Cx) (s:St):Op->A
 | .store _ a _=>cg cx s a
 | .call c=>match c.args.toList with | x :: _=>cg cx s x | []=>.any
 | _=>.any
def addrOf (cx:Cx) (s:St):Op->A
 | .load _ a=>cg cx s a
 | .fieldAddr _ x _=>cg cx s x
 | .indexAddr _ x _=>cg cx s x
 | .slice _ x _ _ _=>cg cx s x
 | .nilCheck x=>cg cx s x
 | .convert _ _ x=>cg cx s x
 | .lookup _ x _ _=>cg cx s x
 | .call c=>match c.args.toList with | x :: _=>cg cx s x | []=>.any
 | _=>.any
def bV (o:Oper):Nat:=match o.op with
 | .pick .. | .move _ | .assign _ | .extract .. | .field .. | .unOp .. | .binOp .. | .index .. | .build .. | .makeFunc .. | .makeInterface .. | .typeAssert ..=>0
 | .load .. | .fieldAddr .. | .indexAddr .. | .slice .. | .nilCheck ..=>1
 | .convert .. | .lookup ..=>1
 | .call c=>match c.callee with | .builtin .len=>1 | .value (.func _)=>4 | _=>3
 | .buildSlice ..=>2
 | _=>3
def yL (o:Oper):Bool:=match o.op with
 | .store .. | .alloc _ | .box ..=>true
 | .makeSlice _ (.tmp a) (.tmp b)=>Nat.beq a b
 | .call c=>match c.callee with | .builtin .copy=>true | _=>false
 | _=>false
def vn (ops:Array Oper) (i:Nat):Bool:=match ops[i]? with | some o=>yL o | none=>false
def uG (cx:Cx) (o:Oper):Bool:=match o.op with
 | .call c=>match c.callee with | .value (.func q)=>cK cx.P q&&cx.isOrcV q | _=>false
 | _=>false
def HW:A->Bool
 | .sl ..=>false
 | _=>true
def qt:A->Bool
 | .sl ..=>false
 | .agg cs=>cs.all HW
 | _=>true
def partsOf (cx:Cx) (s:St):Op->List A
 | .buildSlice _ _ parts=>parts.toList.map fun p=>cg cx s p.2
 | _=>[]
def py:List A->Bool
 | []=>true
 | a :: l=>bif qt a then py l else false
def lj (ops:Array Oper) (i:Nat) (a:A):List (Nat×A)->Bool
 | []=>true
 | p :: l=>bif fB ops i p.1 || fB ops p.1 i then lj ops i a l else bif apart a p.2 then lj ops i a l else false
def kj (ops:Array Oper) (i:Nat) (e:A):List (Nat×A)->Bool
 | []=>true
 | p :: l=>bif fB ops i p.1 || fB ops p.1 i then kj ops i e l else bif apart p.2 e then kj ops i e l else false
def vq (ops:Array Oper) (m:Nat):Bool:=(List.range m).all fun i=>(List.range m).all fun j=>!(dq ops i&&dq ops j&&decide (i<j)) || fB ops j i
def DE (ops:Array Oper) (m:Nat):Bool:=(List.range m).any (dq ops)
def HR (ops:Array Oper) (m i:Nat):Bool:=(List.range m).all fun e=>!dq ops e || vn ops e || e==i || fB ops i e || fB ops e i
def vI (cx:Cx) (f:Nat) (o:Oper):Option TypeId:=match o.op with
 | .alloc t=>bif cx.arr f t then none else some t
 | _=>none
def sn (cx:Cx) (f:Nat) (ops:Array Oper) (i:Nat):Bool:=match ops[i]? with | some o=>(vI cx f o).isSome | none=>false
def rB (cx:Cx) (f:Nat) (ops:Array Oper) (m:Nat):Bool:=(List.range m).all fun i=>(List.range m).all fun j=>!(dq ops i&&dq ops j&&decide (i<j)&&!sn cx f ops i&&!sn cx f ops j) || fB ops j i
def cU (i:Nat):List (Nat×A)->Option A
 | []=>none
 | p :: l=>bif Nat.beq p.1 i then some p.2 else cU i l
def ahead {β:Type} (cx:Cx) (f:Nat):Nat->List Oper->aC->(List (Nat×A)->aC->Option β)->Option β
 | _,[],H,k=>k [] H
 | i,o :: os,H,k=>match vI cx f o with
  | some t=>(lQ cx.P t H).bind fun r=>ahead cx f (i+1) os r.2 fun fl H=>k ((i,r.1) :: fl) H
  | none=>ahead cx f (i+1) os H k
def jA (fl:List (Nat×A)) (ops:Array Oper) (m i:Nat):Bool:=(List.range m).all fun e=>!dq ops e || (cU e fl).isSome || e==i || fB ops i e || fB ops e i
def oy (cx:Cx) (o:Oper):Bool:=Nat.beq (bV o) 0 || Nat.beq (bV o) 1 || Nat.beq (bV o) 2 || (Nat.beq (bV o) 4&&uG cx o)
def xo (ops:Array Oper) (i:Nat):List (Nat×A)->Bool
 | []=>true
 | p :: l=>bif fB ops i p.1 then xo ops i l else false
def FJ (cx:Cx) (s:St) (o:Oper):Bool:=match o.op with
 | .call c=>bif iD (.call c) then match iZ cx s (.call c) with | .fn (.func q) _ _=>cK cx.P q&&cx.isOrcV q | _=>false else false
 | _=>false
def rJ (cx:Cx) (call:bo) (f lo:Nat) (ops:Array Oper) (m:Nat) (fl:List (Nat×A)) (i:Nat) (o:Oper) (effs seen:List (Nat×A)) (s:St) (rec:List (Nat×A)->List (Nat×A)->St->Option R):Option R:=
 match cU i fl with
 | some a=>rec effs seen (s.put o.dst a)
 | none=>bif dQ o then bif kj ops i (dm cx s o.op) seen then bQ cx f lo o s fun a H=>rec ((i,dm cx s o.op) :: effs) seen ({ s with H:=H }.put o.dst a) else none
  else bif jA fl ops m i&&(oy cx o || xo ops i fl || FJ cx s o) then rO cx call f o s fun x=>rec effs seen (s.put o.dst x)
  else bif Nat.beq (bV o) 0 then rO cx call f o s fun x=>rec effs seen (s.put o.dst x)
  else bif Nat.beq (bV o) 1 then bif lj ops i (addrOf cx s o.op) effs then rO cx call f o s fun x=>rec effs ((i,addrOf cx s o.op) :: seen) (s.put o.dst x) else none
  else bif (Nat.beq (bV o) 2 || (Nat.beq (bV o) 4&&uG cx o))&&HR ops m i then rO cx call f o s fun x=>rec effs seen (s.put o.dst x)
  else bif Nat.beq (bV o) 2 then bif py (partsOf cx s o.op) then rO cx call f o s fun x=>rec effs seen (s.put o.dst x) else none
  else none
def vC (cx:Cx) (ops:Array Oper) (m:Nat) (fl:List (Nat×A)) (i:Nat) (o:Oper) (effs seen:List (Nat×A)) (s:St) (rec:List (Nat×A)->List (Nat×A)->St->Option R):Option R:=
 bif dQ o then bif kj ops i (dm cx s o.op) seen then rec ((i,dm cx s o.op) :: effs) seen (s.put o.dst (.v undef)) else none
 else bif Nat.beq (bV o) 1 then bif jA fl ops m i then rec effs seen (s.put o.dst (.v undef)) else bif lj ops i (addrOf cx s o.op) effs then rec effs ((i,addrOf cx s o.op) :: seen) (s.put o.dst (.v undef)) else none
 else rec effs seen (s.put o.dst (.v undef))
def fK (cx:Cx) (call:bo) (f lo:Nat) (ops:Array Oper) (m:Nat) (fl:List (Nat×A)):Nat->List Oper->List (Nat×A)->List (Nat×A)->St->(St->Option R)->Option R
 | _,[],_,_,s,k=>k s
 | i,o :: os,effs,seen,s,k=>match o.guard with
  | some _=>match cd ops o with
   | none=>none
   | some (t,w)=>bif Nat.beq (bV o) 0&&!dQ o&&(cU i fl).isNone then (pA (look s.fr t) w (gS cx call f o s) (some (.v undef))).bind fun x=>fK cx call f lo ops m fl (i+1) os effs seen (s.put o.dst x) k
    else bif (cU i fl).isNone then cC (look s.fr t)
     (bif w then rJ cx call f lo ops m fl i o effs seen (s.put (some t) (.v (.bool true))) (fun effs seen s=>fK cx call f lo ops m fl (i+1) os effs seen s k) else vC cx ops m fl i o effs seen (s.put (some t) (.v (.bool true))) (fun effs seen s=>fK cx call f lo ops m fl (i+1) os effs seen s k))
     (bif w then vC cx ops m fl i o effs seen (s.put (some t) (.v (.bool false))) (fun effs seen s=>fK cx call f lo ops m fl (i+1) os effs seen s k) else rJ cx call f lo ops m fl i o effs seen (s.put (some t) (.v (.bool false))) (fun effs seen s=>fK cx call f lo ops m fl (i+1) os effs seen s k))
    else none
  | none=>rJ cx call f lo ops m fl i o effs seen s fun effs seen s=>fK cx call f lo ops m fl (i+1) os effs seen s k
def vL:Op->Bool
 | .alloc _ | .box .. | .store .. | .makeSlice .. | .call _ | .makeMap .. | .insert .. | .mapUpdate ..=>true
 | _=>false
def qh (ops:Array Oper):Option Nat:=(List.range (ops.size+1)).find? (ft ops)
def Aq (ops:Array Oper) (N:Nat):Bool:=ops.toList.all fun o=>match o.dst with | some d=>decide (d<N) | none=>true
def vQ (cx:Cx) (o:Oper):Bool:=match o.op with
 | .call c=>match c.callee with | .value (.func q)=>cK cx.P q&&!cx.isOrc q&&(!Nat.beq (cx.cut q) 0 || cx.fre q) | _=>false
 | _=>false
def Fg (cx:Cx) (o:Oper):Nat:=match o.op with
 | .call c=>match c.callee with | .value (.func q)=>cx.cut q | _=>0
 | _=>0
def EX (cx:Cx) (o:Oper) (lo:Nat) (H:aC):Nat:=match o.op with
 | .call c=>match c.callee with | .value (.func q)=>bif cx.fre q then H.length else lo | _=>lo
 | _=>lo
def Dl (cx:Cx):Nat->List Oper->Option Nat
 | _,[]=>none
 | i,o :: os=>bif vQ cx o then some i else Dl cx (i+1) os
def MB (ops:Array Oper) (c m:Nat):List Nat:=(List.range m).filter fun i=>fB ops c i&&(dq ops i || (List.range m).any fun e=>dq ops e&&fB ops i e)
def pX (ops:Array Oper) (c m:Nat):List Nat:=MB ops c m++c :: (List.range m).filter fun i=>fB ops i c
def AV (ops:Array Oper) (c m:Nat):List Nat:=(List.range m).filter fun i=>(pX ops c m).all fun j=>!Nat.beq i j
def vu (ops:Array Oper):List Nat->List Nat->Bool
 | _,[]=>true
 | ps,i :: is=>bif ps.all (fun p=>fB ops i p) then vu ops (i :: ps) is else false
def Lj (ops:Array Oper) (L T:List Nat):Bool:=L.all fun i=>T.all fun j=>!fB ops i j
def tH (o:Oper):Bool:=match o.guard with | none=>true | some _=>false
def Ub (o:Oper):Bool:=tH o&&(Nat.beq (bV o) 0 || Nat.beq (bV o) 1 || Nat.beq (bV o) 2)
def Ud (o:Oper):Bool:=tH o&&(dQ o || !vL o.op)&&!iD o.op
def OE (cx:Cx) (call:bo) (f:Nat) (ops:Array Oper):List Nat->List (Nat×A)->St->(List (Nat×A)->St->Option R)->Option R
 | [],seen,s,k=>k seen s
 | i :: is,seen,s,k=>match ops[i]? with
  | none=>none
  | some o=>bif Ub o then bif (bif Nat.beq (bV o) 2 then py (partsOf cx s o.op) else true) then rO cx call f o s fun x=>OE cx call f ops is (bif Nat.beq (bV o) 1 then (i,addrOf cx s o.op) :: seen else seen) (s.put o.dst x) k else none else none
def iy (m:Nat) (a:A):Bool:=match blk? a with | none=>true | some b=>Nat.ble m b
def uN (ops:Array Oper) (c m:Nat):List (Nat×A)->Bool
 | []=>true
 | p :: l=>bif fB ops c p.1 then uN ops c m l else bif iy m p.2 then uN ops c m l else false
def Kv (cx:Cx) (call:bo) (f lo:Nat) (ops:Array Oper) (c:Nat) (kp:A->aC->Option R):List Nat->List (Nat×A)->St->(St->Option R)->Option R
 | [],_,s,k=>k s
 | i :: is,seen,s,k=>match ops[i]? with
  | none=>none
  | some o=>bif Nat.beq i c then bif uN ops c (Fg cx o) seen then dP cx call (iZ cx s o.op) (eT cx s o.op) s.H (EX cx o lo s.H) (fun a H=>Kv cx call f lo ops c kp is seen ({ s with H:=H }.put o.dst a) k) kp else none
   else bif Ud o then bif (bif dQ o then kj ops i (dm cx s o.op) seen else true) then bQ cx f lo o s fun a H=>Kv cx call f lo ops c kp is seen ({ s with H:=H }.put o.dst a) k else none else none
def ID (cx:Cx) (N:Nat) (ops:Array Oper) (c m:Nat) (o:Oper):Bool:=(ops.toList.take m).all tH&&vQ cx o&&tI ops N&&vu ops [] (pX ops c m)&&Lj ops (AV ops c m) (pX ops c m)&&(pX ops c m).all fun i=>Nat.blt i m
def I8 (cx:Cx) (ops:Array Oper):Option Nat:=match qh ops with | none=>none | some m=>Dl cx 0 (ops.toList.take m)
def Au (cx:Cx) (call:bo) (f lo N:Nat) (ops:Array Oper) (c:Nat) (s:St) (k:E->St->Option R):Option R:=
 match ops[c]? with
 | none=>none
 | some o=>(qh ops).bind fun m=>bif ID cx N ops c m o then OE cx call f ops (AV ops c m) [] s fun seen s1=>
   Kv cx call f lo ops c (fun a H=>k (.pan a) ⟨[],H⟩) (pX ops c m) seen s1 fun s=>gG cx call f lo ops (ops.size+1) (ops.toList.drop m) s k
  else none
def cf:Code->Nat
 | .region id _ _=>id
 | .seq a _=>cf a
 | .block _ c=>cf c
 | .scope c=>cf c
 | .loop c=>cf c
 | _=>0
def Fo (H:aC) (a:A):A:=match a with | .sl b o n c=>snap H (.sl b o n c) | .imm els _=>.imm els false | a=>a
def HX (H:aC) (a:A):A:=match a with | .sl b o n c=>snap H (.sl b o n c) | .imm els _=>.imm els false | .agg cs=>.agg (cs.map (Fo H)) | a=>a
def fj (es:Nat) (H:aC):A->A×aC
 | .imm els true=>bif els.all (fun cs=>Nat.beq cs.length es) then (.sl H.length 0 els.length false,H++[.row false es els]) else (.imm els true,H)
 | a=>(a,H)
def gx (es:Nat) (H:aC):A->A×aC
 | .imm [] true=>(.sl H.length 0 0 false,H++[.row true es []])
 | a=>(a,H)
def lJ (es:Nat) (H:aC):A->A×aC
 | .imm els true=>bif els.all (fun cs=>Nat.beq cs.length es) then (.sl H.length 0 els.length false,H++[.row false es els]) else (.imm els true,H++[.dead])
 | a=>(a,H++[.dead])
def eM (lo off m:Nat) (a:A) (H:aC):aC:=
 match a with
 | .ptr b o=>match H[b]? with
  | some (.box cs)=>match cs[o+off]? with
   | some c=>bif decide (lo<=b) then match m with
    | 0=>H.set b (.box (cs.set (o+off) (HX H c)))
    | es+1=>(fj es H c).2.set b (.box (cs.set (o+off) (fj es H c).1))
    else H
   | none=>H
  | _=>H
 | _=>H
def nY (lo:Nat) (p:Nat×Nat×Nat) (s:St):St:=
 match p.2.1 with
 | 0=>match p.2.2 with
  | 0=>⟨(p.1,HX s.H (look s.fr p.1)) :: s.fr,s.H⟩
  | es+1=>bif Nat.ble 500000 es then (bif Nat.ble 1000000 es then ⟨(p.1,(lJ (es - 1000000) s.H (look s.fr p.1)).1) :: s.fr,(lJ (es - 1000000) s.H (look s.fr p.1)).2⟩ else ⟨(p.1,(gx (es - 500000) s.H (look s.fr p.1)).1) :: s.fr,(gx (es - 500000) s.H (look s.fr p.1)).2⟩) else ⟨(p.1,(fj es s.H (look s.fr p.1)).1) :: s.fr,(fj es s.H (look s.fr p.1)).2⟩
 | off+1=>⟨s.fr,eM lo off p.2.2 (look s.fr p.1) s.H⟩
def eo (lo:Nat):List (Nat×Nat×Nat)->St->St
 | [],s=>s
 | p :: ps,s=>eo lo ps (nY lo p s)
def qU (lo:Nat):List (Nat×Nat×Nat)->St->(St->Option R)->Option R
 | [],s,k=>k s
 | p :: ps,s,k=>(mP lo (look s.fr p.1) s.H).bind fun r=>qU lo ps ⟨(p.1,r.1) :: s.fr,r.2⟩ k
def zg:List (Nat×Nat×Nat)->List (Nat×Nat×Nat)
 | []=>[]
 | p :: ps=>match p.2.2 with | 0=>p :: zg ps | _+1=>zg ps
def dJ (keep:List Nat) (s:St):St:=⟨keep.map fun t=>(t,look s.fr t),s.H⟩
def aV (L:Nat) (fr:List (Nat×A)):List Nat->Bool
 | []=>true
 | t :: ts=>bif A.under L (look fr t) then aV L fr ts else false
theorem na (L:Nat) (fr:List (Nat×A)):∀ keep:List Nat,aV L fr keep=true->keep.all (fun t=>A.under L (look fr t))=true
 | [],_=>rfl
 | t :: ts,h=>by
  rw[aV] at h
  cases hu:A.under L (look fr t) with
  | false=>rw[hu] at h; cases h
  | true=>
   rw[hu] at h
   rw[ZO,hu,Yi]
   exact na L fr ts h
def xO (keep:List Nat) (L:Nat) (s:St) (k:St->Option R):Option R:=
 (trim L s.H).bind fun H=>bif (bif Nat.beq s.H.length L then true else aV L s.fr keep) then k ⟨keep.map fun t=>(t,look s.fr t),H⟩ else none
def yg:List (Nat×Nat×Nat)->Option (Nat×Nat×Nat)
 | []=>none
 | p :: ps=>match ps with
  | []=>match p.2.1 with
   | 0=>bif Nat.ble 1000001 p.2.2 then some p else none
   | _+1=>none
  | _ :: _=>yg ps
def MC (n:Nat):Nat:=n - 1
def Jt:A->Bool | .imm _ true=>true | _=>false
def Iz (lo:Nat) (keep:List Nat) (p:Nat×Nat×Nat) (L:Nat) (s:St) (k:St->Option R):Option R:=
 bif Jt (look s.fr p.1) then xO keep (MC L) s fun s=>bif Nat.beq (nY lo p s).H.length L then k (dJ keep (nY lo p s)) else none else xO keep L s k
def D6 (lo:Nat) (keep:List Nat) (acts:List (Nat×Nat×Nat)) (L:Nat) (s:St) (k:St->Option R):Option R:=
 match yg acts with
 | none=>xO keep L (eo lo (zg acts) s) k
 | some p=>Iz lo keep p L (eo lo (zg acts) s) k
def EI (s:St) (keep:List Nat) (k:Nat->St->Option R):Option R:=k s.H.length (dJ keep s)
def iter (lo:Nat) (keep:List Nat) (acts:List (Nat×Nat×Nat)) (L:Nat) (f:St->(E->St->Option R)->Option R) (kx kg:Nat->St->Option R) (kr:St->Option R) (kp:A->St->Option R):Nat->St->Option R
 | 0,_=>none
 | n+1,s=>f s fun e s'=>match e with
  | .normal=>D6 lo keep acts L s' fun s'=>iter lo keep acts L f kx kg kr kp n s'
  | .exit i=>kx i (dJ keep s')
  | .goto l=>kg l (dJ keep s')
  | .ret=>kr (dJ keep s')
  | .pan a=>kp a (dJ keep s')
def ju:Code->Bool
 | .seq a b=>ju a&&ju b
 | .cond _ a b=>ju a&&ju b
 | .block _ c=>ju c
 | .loop c=>ju c
 | .rangeFunc .. | .scope _=>false
 | _=>true
def AQ:List Nat->List A->List (Nat×A)->List (Nat×A)
 | p :: ps,a :: as,fr=>AQ ps as ((p,a) :: fr)
 | _,_,fr=>fr
def OS {β:Type} (H:aC) (b:Nat) (x:Option β):Option β:=match H[b]? with | some (.rng .ready)=>x | _=>none
def Kt {β:Type} (H:aC) (b:Nat) (x:Option β):Option β:=match H[b]? with | some (.rng .busy)=>x | _=>none
def JZ (b:Nat) (e:E) (H:aC):Option R:=
 match e with
 | .normal=>Kt H b (some (.ret (.v (.bool true)),H.set b (.rng .ready)))
 | .exit i=>Kt H b (some (.ret (.v (.bool false)),H.set b (.rng (.done (.exit i)))))
 | .goto l=>Kt H b (some (.ret (.v (.bool false)),H.set b (.rng (.done (.goto l)))))
 | .ret=>Kt H b (some (.ret (.v (.bool false)),H.set b (.rng (.done .ret))))
 | .pan _=>none
def roundOf (F1 F2:St->(E->St->Option R)->Option R) (lo b:Nat) (ps:List Nat) (fr:List (Nat×A)) (args:List A) (H:aC) (lo':Nat):Option R:=
 bif Nat.beq args.length ps.length&&Nat.ble lo' lo then
  OS H b (F1 ⟨AQ ps args fr,H⟩ fun e s=>match e with
   | .normal=>OS s.H b (F2 ⟨s.fr,s.H.set b (.rng .busy)⟩ fun e s=>JZ b e s.H)
   | _=>none)
 else none
def Kf (q:Nat) (call:bo) (b:Nat) (rnd:List A->aC->Nat->Option R):bo:=fun k args H lo=>bif Nat.beq k (q+b) then rnd args H lo else call k args H lo
def Eu {β:Type} (b:Nat) (H:aC) (kn:aC->Option β) (kx kg:Nat->aC->Option β) (kr:aC->Option β):Option β:=
 match H[b]? with
 | some (.rng .ready)=>kn (H.set b .dead)
 | some (.rng (.done (.exit i)))=>kx i (H.set b .dead)
 | some (.rng (.done (.goto l)))=>kg l (H.set b .dead)
 | some (.rng (.done .ret))=>kr (H.set b .dead)
 | _=>none
def zE (b:Nat) (H:aC) (k:E->aC->Option R):Option R:=Eu b H (fun H=>k .normal H) (fun i H=>k (.exit i) H) (fun l H=>k (.goto l) H) (fun H=>k .ret H)
def nj (s:St) (k:St->Option R):Option R:=k s
def Jn (P:Program):A->Option (Nat×List A)
 | .fn (.func gf) [] cap=>bif cK P gf then some (gf,cap) else none
 | _=>none
def wV (N:Nat):List Nat->Bool
 | []=>true
 | p :: ps=>bif Nat.blt p N then wV N ps else false
def zD (body:Code):Nat:=1000000+cf body
def oa:Code->Nat
 | .region id _ _=>id
 | .seq a _=>oa a
 | .block _ c=>oa c
 | .scope c=>oa c
 | .loop c=>oa c
 | .cond _ a _=>oa a
 | _=>0
def Ig (keep:List Nat) (e:E) (s:St):Option R:=match e with
 | .normal=>some (.ret (.tup (keep.map (look s.fr))),s.H)
 | _=>none
def MM {β:Type} (r:R) (k:List A->aC->Option β):Option β:=match r with
 | (.ret (.tup l),H)=>k l H
 | _=>none
theorem A1 {β:Type} (fr:List (Nat×A)):∀ (keep:List Nat) (k:List (Nat×A)->Option β),G3 keep (keep.map (look fr)) k=k (keep.map fun t=>(t,look fr t))
 | [],_=>rfl
 | d :: ds,k=>by
  show G3 ds (ds.map (look fr)) (fun r=>k ((d,look fr d) :: r))=_
  rw[A1 fr ds]; rfl
def vS:Code->Nat
 | .block _ c=>oa c
 | .cond _ a _=>500000+oa a
 | .seq _ b=>vS b
 | _=>999999
def SY (js:List Nat) (X:(E->St->Option R)->Option R) (Y:St->Option R) (k:E->St->Option R):Option R:=match js with
 | []=>X fun e s'=>match e with | .normal=>Y s' | e=>k e s'
 | j :: js=>(X (Ig (j :: js))).bind fun r=>MM r fun l H=>G3 (j :: js) l fun fr=>Y ⟨fr,H⟩
noncomputable def oM (cx:Cx) (call:bo) (rg:bo->bo) (n f lo N:Nat):Code->St->(E->St->Option R)->Option R
 | .skip,s,k=>k .normal s
 | .label _,s,k=>k .normal s
 | .region id ops draw,s,k=>qU lo (cx.acts f (2000000+id)) s fun s=>bif Aq ops N then
  bif draw then match I8 cx ops with | some c=>Au cx call f lo N ops c s k | none=>bif tI ops N then (qh ops).bind fun m=>bif DE ops m then bif vq ops m then fK cx call f lo ops m [] 0 (ops.toList.take m) [] [] s fun s=>gG cx call f lo ops (ops.size+1) (ops.toList.drop m) s k else bif rB cx f ops m then ahead cx f 0 (ops.toList.take m) s.H fun fl H=>fK cx call f lo ops m fl 0 (ops.toList.take m) [] [] ⟨s.fr,H⟩ fun s=>gG cx call f lo ops (ops.size+1) (ops.toList.drop m) s k else none else p0 cx call f ops (ops.size+1) (ops.toList.take m) s fun s=>gG cx call f lo ops (ops.size+1) (ops.toList.drop m) s k else none
  else gG cx call f lo ops (ops.size+1) ops.toList s k
  else none
 | .seq a b,s,k=>SY (cx.join f (vS a)) (fun k=>oM cx call rg n f lo N a s k) (fun s=>oM cx call rg n f lo N b s k) k
 | .cond c a b,s,k=>aW (cg cx s c) (oM cx call rg n f lo N a s k) (oM cx call rg n f lo N b s k)
 | .block id c,s,k=>oM cx call rg n f lo N c s fun e s'=>match e with | .exit j=>bif Nat.beq j id then k .normal s' else k (.exit j) s' | e=>k e s'
 | .scope c,s,k=>oM cx call rg n f lo N c s fun e s'=>match e with | .goto _=>none | e=>k e s'
 | .loop c,s,k=>EI (eo lo (cx.acts f (cf c)) (dJ (cx.keep f (cf c)) s)) (cx.keep f (cf c)) fun L s=>iter lo (cx.keep f (cf c)) (cx.acts f (cf c)) L (fun s k=>oM cx call rg n f lo N c s k) (fun i s=>k (.exit i) s) (fun l s=>k (.goto l) s) (fun s=>k .ret s) (fun a s=>k (.pan a) s) n s
 | .exit id,s,k=>k (.exit id) s
 | .goto l,s,k=>k (.goto l) s
 | .ret,s,k=>k .ret s
 | .rangeFunc g ps asg body,s,k=>nj (eo lo (cx.acts f (zD body)) s) fun s=>(Jn cx.P (cg cx s g)).bind fun p=>bif wV N ps.toList&&ju asg&&ju body&&Nat.ble lo s.H.length then
   (rg (Kf cx.P.funcs.size call s.H.length (roundOf (fun s k=>oM cx call rg n f lo N asg s k) (fun s k=>oM cx call rg n f lo N body s k) lo s.H.length ps.toList (dJ (cx.keep f (zD body)) s).fr)) p.1 (.yld s.H.length :: p.2) (s.H++[.rng .ready]) lo).bind fun r=>
    dL r.1 (fun _=>zE s.H.length r.2 fun e H=>k e ⟨s.fr,H⟩) (fun _=>none)
  else none
 | _,_,_=>none
def iL:Code->List Code
 | .loop c=>c :: iL c
 | .seq a b=>iL a++iL b
 | .cond _ a b=>iL a++iL b
 | .block _ c=>iL c
 | .scope c=>iL c
 | .rangeFunc _ _ a b=>iL a++iL b
 | _=>[]
def zl (cx:Cx) (f i:Nat):Code:=match (cx.P.funcs[f]?).bind (·.body) with | some c=>(iL c).getD i .skip | none=>.skip
def Xo (cx:Cx) (f:Nat):Nat:=match cx.P.funcs[f]? with | some fn=>fn.ntmps | none=>0
def jb:Code->List (List Nat×Code×Code)
 | .loop c=>jb c
 | .seq a b=>jb a++jb b
 | .cond _ a b=>jb a++jb b
 | .block _ c=>jb c
 | .scope c=>jb c
 | .rangeFunc _ ps a b=>[(ps.toList,a,b)]
 | _=>[]
def rangeAt (cx:Cx) (f i:Nat):List Nat×Code×Code:=match (cx.P.funcs[f]?).bind (·.body) with | some c=>(jb c).getD i ([],.skip,.skip) | none=>([],.skip,.skip)
noncomputable def aN (cx:Cx) (call:bo) (rg:bo->bo) (n f lo i L:Nat) (kx kg:Nat->St->Option R) (kr:St->Option R) (kp:A->St->Option R) (m:Nat) (s:St):Option R:=
 iter lo (cx.keep f (cf (zl cx f i))) (cx.acts f (cf (zl cx f i))) L (fun s k=>oM cx call rg n f lo (Xo cx f) (zl cx f i) s k) kx kg kr kp m s
def rL (cx:Cx) (s:St):ResultVar->Option A
 | .tmp t=>some (look s.fr t)
 | .cell a t=>lh cx.P t (look s.fr a) s.H
def n8 (cx:Cx) (s:St):List ResultVar->Option (List A)
 | []=>some []
 | r :: rs=>(rL cx s r).bind fun a=>(n8 cx s rs).bind fun l=>some (a :: l)
def As (cx:Cx) (fn:Func) (s:St):Option A:=match fn.results.toList with
 | [r]=>rL cx s r
 | rs=>(n8 cx s rs).bind fun l=>some (.tup l)
def vE (cx:Cx) (s:St):List ResultVar->(List A->Option R)->Option R
 | [],k=>k []
 | r :: rs,k=>(rL cx s r).bind fun a=>vE cx s rs fun l=>k (a :: l)
def lY (cx:Cx) (fn:Func) (s:St):Option R:=match fn.results.toList with
 | [r]=>(rL cx s r).bind fun a=>some (.ret a,s.H)
 | rs=>vE cx s rs fun l=>some (.ret (.tup l),s.H)
theorem um (cx:Cx) (s:St):∀ (rs:List ResultVar) (k:List A->Option R),vE cx s rs k=(n8 cx s rs).bind k
 | [],_=>rfl
 | r :: rs,k=>by
  rw[vE,n8,Yw]
  congr 1; funext a
  rw[um cx s rs,Yw]
  rfl
theorem Bn (cx:Cx) (fn:Func) (s:St):lY cx fn s=(As cx fn s).bind fun a=>some (.ret a,s.H):=by
 unfold lY As
 split
 ·rename_i h; rfl
 ·rw[um,Yw]
  rfl
def frame (args:List A):List (Nat×A):=args.zipIdx.map fun p=>(p.2,p.1)
noncomputable def Dt (cx:Cx) (call:bo) (rg:bo->bo) (n f lo:Nat) (fn:Func) (c:Code) (args:List A) (H:aC):Option R:=
 oM cx call rg n f lo fn.ntmps c ⟨frame args,H⟩ fun e s=>match e with
  | .normal | .ret=>nj (eo lo (cx.acts f 3000000) s) fun s=>lY cx fn s
  | .pan a=>some (.pan a,s.H)
  | _=>none
def Fv (o:Oper):Bool:=match o.op with | .defer _=>true | _=>false
def xI:List Oper->Option (List Oper×Oper)
 | []=>none
 | o :: os=>match os with
  | []=>some ([],o)
  | _ :: _=>(xI os).map fun p=>(o :: p.1,p.2)
def sb:Code->Bool
 | .seq _ (.seq (.region _ ops false) _)=>ops.toList.any Fv
 | _=>false
def T9 (cx:Cx) (q:Nat) (o:Oper):Bool:=cK cx.P q&&tH o&&o.dst.isNone
def Dn (cx:Cx) (s:St) (o:Oper):Option (Nat×List A):=match o.op with
 | .defer c=>match c.callee,c.args.toList with
  | .value g,[]=>match cg cx s g with
   | .fn (.func q) [] cap=>bif T9 cx q o then some (q,cap) else none
   | _=>none
  | _,_=>none
 | _=>none
def mh (o:Oper):Option Nat:=match o.op with
 | .call c=>match c.callee,c.args.toList with
  | .builtin .recover,[]=>bif tH o then o.dst else none
  | _,_=>none
 | _=>none
def recAt:Nat->List Oper->Option (Nat×Nat)
 | _,[]=>none
 | i,o :: os=>match mh o with | some d=>some (i,d) | none=>recAt (i+1) os
def kf (ops:Array Oper) (i d:Nat):Array Oper:=match ops[i]? with | some o=>ops.setIfInBounds i { o with op:=.move (.tmp d) } | none=>ops
def jy (d:Nat) (o:Oper):Bool:=tH o&&(match o.op with | .load _ (.tmp t)=>!Nat.beq t d | _=>false)&&(match o.dst with | some e=>!Nat.beq e d | none=>false)
def xH (d:Nat) (ops:Array Oper) (j:Nat):Bool:=match ops[j]? with | some o=>jy d o | none=>true
def IC (ops:Array Oper) (i d:Nat):Bool:=(List.range ops.size).all fun j=>Nat.beq j i || match ops[j]? with | some o=>jy d o || o.after.any fun e=>Region.binds .any e&&!xH d ops e.on | none=>false
def Uc (cap:List A) (ops:Array Oper) (fn:Func) (rest:Code):Bool:=decide (cap.length<=fn.ntmps)&&Aq ops fn.ntmps&&ju rest&&fn.results.toList.isEmpty
def Ua (ops:Array Oper) (N:Nat) (a:Code):Bool:=Aq ops N&&ju a
def vD (cx:Cx) (call:bo) (f lo N:Nat) (ops:Array Oper) (s:St) (k:E->St->Option R):Option R:=
 bif Aq ops N then
  match I8 cx ops with | some c=>Au cx call f lo N ops c s k | none=>bif tI ops N then (qh ops).bind fun m=>bif DE ops m then bif vq ops m then fK cx call f lo ops m [] 0 (ops.toList.take m) [] [] s fun s=>gG cx call f lo ops (ops.size+1) (ops.toList.drop m) s k else bif rB cx f ops m then ahead cx f 0 (ops.toList.take m) s.H fun fl H=>fK cx call f lo ops m fl 0 (ops.toList.take m) [] [] ⟨s.fr,H⟩ fun s=>gG cx call f lo ops (ops.size+1) (ops.toList.drop m) s k else none else p0 cx call f ops (ops.size+1) (ops.toList.take m) s fun s=>gG cx call f lo ops (ops.size+1) (ops.toList.drop m) s k else none
 else none
def Ue (cap:List A) (ops:Array Oper) (fn:Func) (p:Nat×Nat):Bool:=decide (cap.length<=fn.ntmps)&&decide (p.2<fn.ntmps)&&IC ops p.1 p.2&&(match ops[p.1]? with | some o=>o.after.toList.isEmpty | none=>false)&&fn.results.toList.isEmpty
noncomputable def xg (cx:Cx) (call:bo) (rg:bo->bo) (n lo q:Nat) (cap:List A) (v:A) (H:aC) (k:aC->Option R):Option R:=
 (cx.P.funcs[q]?).bind fun fn=>fn.body.bind fun c=>match c with
  | .seq (.region _ ops false) rest=>match ops.toList with
   | o :: os=>(mh o).bind fun d=>bif Uc cap ops fn rest then fI cx call q lo ops os ⟨(d,v) :: frame cap,H⟩ fun e s=>match e with
     | .normal=>oM cx call rg n q lo fn.ntmps rest s fun e s=>match e with
      | .normal | .ret=>k s.H
      | _=>none
     | _=>none
    else none
   | []=>none
  | .region _ ops true=>(recAt 0 ops.toList).bind fun p=>bif Ue cap ops fn p then vD cx call q lo fn.ntmps (kf ops p.1 p.2) ⟨(p.2,v) :: frame cap,H⟩ fun e s=>match e with
    | .normal=>k s.H
    | _=>none
   else none
  | _=>none
noncomputable def qR (cx:Cx) (call:bo) (rg:bo->bo) (n f lo:Nat) (fn:Func) (c:Code) (args:List A) (H:aC):Option R:=match c with
 | .seq a (.seq (.region _ ops false) rest)=>bif Ua ops fn.ntmps a then oM cx call rg n f lo fn.ntmps a ⟨frame args,H⟩ fun e s=>match e with
  | .normal=>(xI ops.toList).bind fun p=>fI cx call f lo ops p.1 s fun e s=>match e with
   | .normal=>(Dn cx s p.2).bind fun z=>oM cx call rg n f lo fn.ntmps rest s fun e s=>match e with
    | .normal | .ret=>xg cx call rg n lo z.1 z.2 (.v .nilIface) s.H fun H=>nj (eo lo (cx.acts f 3000000) ⟨s.fr,H⟩) fun s=>lY cx fn s
    | .pan x=>xg cx call rg n lo z.1 z.2 x s.H fun H=>nj (eo lo (cx.acts f 3000000) ⟨s.fr,H⟩) fun s=>lY cx fn s
    | _=>none
   | _=>none
  | _=>none
  else none
 | _=>none
def qT (es:Nat) (args:List A) (H:aC) (lo:Nat):Option R:=match args with
 | [.sl b 0 n _,.v (.int .i64 i),.imm [v] _]=>match H[b]? with
  | some (.row true es' els)=>bif Nat.beq es' es&&!(Nat.beq es 0)&&Nat.beq n els.length&&decide (lo<=b)&&decide (0<=i)&&decide (i<=(n:Int))&&decide (n<4294967296)&&Nat.beq v.length es&&v.all A.cell&&els.all (fun cs=>cs.all A.cell) then some (.ret (.imm (els.take i.toNat++v :: els.drop i.toNat) false),H.set b .dead) else none
  | _=>none
 | _=>none
noncomputable def aF (cx:Cx) (call:bo) (rg:bo->bo) (n f:Nat) (args:List A) (H:aC) (lo:Nat):Option R:=
 (cx.P.funcs[f]?).bind fun fn=>bif !(Nat.beq (cx.ins f) 0) then qT (cx.ins f) args H lo else fn.body.bind fun c=>bif decide (args.length<=fn.ntmps) then bif sb c then qR cx call rg n f lo fn c args H else Dt cx call rg n f lo fn c args H else none
def EY:bo:=fun _ _ _ _=>none
def Xh:A->Bool | .v _=>true | _=>false
def gp (cx:Cx) (k:Nat) (H:aC):Bool:=bif cx.deep k then bif Nat.beq H.length 0 then false else true else false
def mT (cx:Cx) (k:Nat) (args:List A) (H:aC):Option R:=(cx.C k (args.map (kl 6 H))).bind fun r=>bif Xh r then some (.ret r,H) else none
def fT (cx:Cx) (k:Nat) (H:aC):Bool:=bif Nat.beq (cx.cut k) 0 then false else bif Nat.ble (cx.cut k) H.length then true else bif Nat.beq H.length 0 then false else Nat.beq (cx.cut k) 999999999
def cutAt (cx:Cx) (k:Nat) (H:aC):Nat:=bif Nat.ble (cx.cut k) H.length then cx.cut k else H.length
def lG (m:Nat):Out->Bool
 | .ret a=>A.under m a
 | .pan a=>A.under m a
def nx (m:Nat) (f:aC->Option R) (args:List A) (H:aC):Option R:=
 bif bq m args&&(H.take m).all (aO.under m) then (f (H.take m)).bind fun r=>bif Nat.ble m r.2.length&&(r.2.take m).all (aO.under m)&&lG m r.1 then some (r.1,r.2.take m++H.drop m) else none else none
noncomputable def bF (cx:Cx):Nat->bo->bo
 | 0,base,k,args,H,lo=>bif Nat.ble cx.P.funcs.size k then base k args H lo else none
 | n+1,base,k,args,H,lo=>bif Nat.ble cx.P.funcs.size k then base k args H lo else bif fT cx k H then nx (cutAt cx k H) (fun H=>aF cx (bF cx n EY) (bF cx n) n k args H lo) args H else bif gp cx k H then mT cx k args H else aF cx (bF cx n base) (bF cx n) n k args H lo
noncomputable def dZ (cx:Cx) (n:Nat):bo:=bF cx n EY
section
open Go.RowKit
structure Gh where
 mu:Nat->Option Nat
 ga:Nat->List (List Value)
 S:Nat->Nat->Prop
 lr:Nat->Loop
def Ii:Loop:={ state:=.ready,pending:=none,fn:=0,tmps:=#[],params:=#[],assign:=.skip,body:=.skip,defers:=0 }
def Qd.code:Qd->Code
 | .exit id=>.exit id
 | .goto l=>.goto l
 | .ret=>.ret
def jc (r:Loop):E9->Loop
 | .ready=>{ r with state:=.ready,pending:=none }
 | .busy=>{ r with state:=.busy,pending:=none }
 | .done j=>{ r with state:=.done,pending:=some j.code }
def eF (H:aC) (g:Gh) (k o:Nat):Prop:=g.S k o/\∀ b,g.mu b=some k->∃ es els,H[b]? = some (.row false es els)/\o<es*els.length
def bM (H:aC) (g:Gh) (w:World) (k off:Nat) (ds:List Value):Prop:=∀ j v,ds[j]? = some v->w.cell? ⟨k,off+j,none⟩=some v/\eF H g k (off+j)
mutual
def VR (H:aC) (g:Gh) (w:World):A->Value->Prop
 | .any,_=>True
 | .v x,c=>c=x
 | .ptr b o,c=>match H[b]? with
  | some (.box _)=>∃ k,g.mu b=some k/\c=.pointer (some ⟨k,o,none⟩)
  | some .hole=>False
  | some _=>c.oneCell'=true
  | none=>False
 | .ep b i o,c=>match H[b]? with
  | some (.row true es els)=>i<els.length/\∃ k,g.mu b=some k/\c=.pointer (some ⟨k,i*es+o,none⟩)
  | some .hole=>False
  | some _=>c.oneCell'=true
  | none=>False
 | .ip cs,c=>∃ k off ds,c=.pointer (some ⟨k,off,none⟩)/\bM H g w k off ds/\bB H g w cs ds
 | .imm els clip,c=>∃ a cap ds es,c=.slice a els.length cap/\els.length<=cap/\(clip=true->cap=els.length)/\(∀ d∈ds,d.length=es)/\(0<els.length->∃ k off,a=some ⟨k,off,none⟩/\bM H g w k off ds.flatten)/\bw H g w els ds
 | .sl b o n clip,c=>match H[b]? with
  | some (.row true es els)=>o+n<=els.length/\∃ a cap,c=.slice a n cap/\n<=cap/\(clip=true->cap=n)/\(0<n->∃ k,g.mu b=some k/\a=some ⟨k,o*es,none⟩) ∧
    (clip=false->o=0->n=els.length->n<cap->∃ k arr ty,g.mu b=some k/\a=some ⟨k,0,none⟩/\w.heap[k]? = some (.cells arr ty (0,0))/\cap*es<=arr.size)
  | some (.row false es els)=>o+n<=els.length/\∃ a cap,c=.slice a n cap/\n<=cap/\(clip=true->cap=n)/\(0<n->∃ k off,a=some ⟨k,off,none⟩/\bM H g w k off (((g.ga b).drop o).take n).flatten) ∧
    (clip=false->o=0->n=els.length->n<cap->∃ k arr ty,g.mu b=some k/\a=some ⟨k,0,none⟩/\w.heap[k]? = some (.cells arr ty (0,0))/\cap*es<=arr.size)
  | some .hole=>False
  | some _=>c.oneCell'=true
  | none=>False
 | .agg cs,c=>∃ ds,c=.agg ds/\bB H g w cs ds.toList
 | .tup cs,c=>∃ ds,c=.tuple ds/\bB H g w cs ds.toList
 | .fn f a b,c=>∃ ds es,c=.func f ds es/\bB H g w a ds.toList/\bB H g w b es.toList
 | .ifc t x,c=>∃ d,c=.iface t d/\VR H g w x d
 | .yld b,c=>match H[b]? with
  | some (.rng _)=>∃ k,g.mu b=some k/\c=.func (.yield k) #[] #[]
  | some .hole=>False
  | some _=>c.oneCell'=true
  | none=>False
 | .nq els,c=>∃ b,c=.bool b/\(b=true->els=[])
 | .mr b,c=>match H[b]? with
  | some (.mp ..)=>∃ k,g.mu b=some k/\c=.map (some k)
  | some .hole=>False
  | some _=>c.oneCell'=true
  | none=>False
 | .mv k ks vs,c=>∃ r arr cl,c=.map (some r)/\eF H g r 0/\w.heap[r]? = some (.map arr cl)/\arr.toList.map (·.key)=ks.map (.int k)/\bB H g w vs (arr.toList.map (·.val))
def bB (H:aC) (g:Gh) (w:World):List A->List Value->Prop
 | [],ds=>ds=[]
 | a :: as,ds=>∃ d ds',ds=d :: ds'/\VR H g w a d/\bB H g w as ds'
def bw (H:aC) (g:Gh) (w:World):List (List A)->List (List Value)->Prop
 | [],ds=>ds=[]
 | a :: as,ds=>∃ d ds',ds=d :: ds'/\bB H g w a d/\bw H g w as ds'
end
def lP (H:aC) (g:Gh) (w:World) (b:Nat):aO->Prop
 | .box cs=>∃ k arr ty,g.mu b=some k/\w.heap[k]? = some (.cells arr ty (0,0))/\bB H g w cs arr.toList
 | .row true es els=>∃ ds,bw H g w els ds/\(∀ d∈ds,d.length=es)/\(0<els.length->∃ (k:Nat) (arr:Array Value) (ty:TypeId),g.mu b=some k/\w.heap[k]? = some (.cells arr ty (0,0))/\∀ (j:Nat) (v:Value),ds.flatten[j]? = some v->arr[j]? = some v)
 | .row false es els=>bw H g w els (g.ga b)/\(∀ d∈g.ga b,d.length=es)
 | .rng st=>∃ k,g.mu b=some k/\w.heap[k]? = some (.loop (jc (g.lr b) st))
 | .dead=>g.mu b=none
 | .hole=>g.mu b=none
 | .mp k ks vs=>∃ r arr cl,g.mu b=some r/\w.heap[r]? = some (.map arr cl)/\arr.toList.map (·.key)=ks.map (.int k)/\bB H g w vs (arr.toList.map (·.val))
structure Rel (H:aC) (g:Gh) (w0 w:World):Prop where
 below:Below w0.heap.size w0 w
 dom:∀ b k,g.mu b=some k->b<H.length/\w0.heap.size<=k/\k<w.heap.size
 inj:∀ b c k,g.mu b=some k->g.mu c=some k->b=c
 out:∀ k o,w.heap.size<=k->g.S k o
 own:∀ b k o,g.mu b=some k->g.S k o
 blk:∀ b B,H[b]? = some B->lP H g w b B
def BT (g:Gh) (w:World) (g':Gh) (w':World) (b:Nat):aO->aO->Prop
 | .box _,.box _=>g'.mu b=g.mu b
 | .row true es els,.row true es' els'=>es'=es/\els'.length=els.length/\g'.mu b=g.mu b/\∀ k arr ty,g.mu b=some k->w.heap[k]? = some (.cells arr ty (0,0))->∃ arr',w'.heap[k]? = some (.cells arr' ty (0,0))/\arr.size<=arr'.size
 | .row false es els,.row false es' els'=>es'=es/\(∃ r,g'.ga b=g.ga b++r)/\(g.ga b).length=els.length/\els.length<=els'.length/\(els'.length=els.length->g'.mu b=g.mu b/\∀ k arr ty,g.mu b=some k->w.heap[k]? = some (.cells arr ty (0,0))->∃ arr',w'.heap[k]? = some (.cells arr' ty (0,0))/\arr.size<=arr'.size)
 | .rng _,.rng _=>g'.mu b=g.mu b/\g'.lr b=g.lr b
 | .mp ..,.mp ..=>g'.mu b=g.mu b
 | .hole,_=>True
 | _,.dead=>True
 | _,_=>False
structure wx (H:aC) (g:Gh) (w:World) (H':aC) (g':Gh) (w':World):Prop where
 cell:∀ k o v,eF H g k o->w.cell? ⟨k,o,none⟩=some v->w'.cell? ⟨k,o,none⟩=some v/\eF H' g' k o
 blk:∀ (b:Nat) (B:aO),H[b]? = some B->∃ B',H'[b]? = some B'/\BT g w g' w' b B B'
 map:∀ k arr cl,eF H g k 0->w.heap[k]? = some (.map arr cl)->w'.heap[k]? = some (.map arr cl)/\eF H' g' k 0
structure Ext (H:aC) (g:Gh) (w:World) (H':aC) (g':Gh) (w':World):Prop where
 cell:∀ k o v,eF H g k o->w.cell? ⟨k,o,none⟩=some v->w'.cell? ⟨k,o,none⟩=some v/\eF H' g' k o
 blk:∀ (b:Nat) (B:aO),H[b]? = some B->∃ B',H'[b]? = some B'/\BT g w g' w' b B B'
 kept:∀ (k:Nat) (x:Option (List Deferred)),w.heap[k]? = some (.deferred x)->w'.heap[k]? = some (.deferred x)
 size:w.heap.size<=w'.heap.size
 map:∀ k arr cl,eF H g k 0->w.heap[k]? = some (.map arr cl)->w'.heap[k]? = some (.map arr cl)/\eF H' g' k 0
 obj:∀ k,k<w.heap.size->(∀ b,g.mu b≠some k)->w'.heap[k]? = w.heap[k]?
 fresh:∀ b k,g'.mu b=some k->(∃ c,g.mu c=some k)∨w.heap.size<=k
variable {H H':aC} {g g':Gh} {w0 w w':World}
theorem bB.length:∀ {cs:List A} {ds:List Value},bB H g w cs ds->ds.length=cs.length
 | [],_,h=>by rw[bB] at h; subst h; rfl
 | a :: as,_,h=>by rw[bB] at h; obtain ⟨d,ds',rfl,_,h2⟩:=h; simp[bB.length h2]
theorem bw.length:∀ {cs:List (List A)} {ds:List (List Value)},bw H g w cs ds->ds.length=cs.length
 | [],_,h=>by rw[bw] at h; subst h; rfl
 | a :: as,_,h=>by rw[bw] at h; obtain ⟨d,ds',rfl,_,h2⟩:=h; simp[bw.length h2]
theorem bM.fc (he:wx H g w H' g' w') {k off:Nat} {ds:List Value} (h:bM H g w k off ds):bM H' g' w' k off ds:=fun j v hj=>let ⟨h1,h2⟩:=h j v hj; he.cell _ _ _ h2 h1
mutual
theorem VR.fc (he:wx H g w H' g' w'):∀ (a:A) (c:Value),VR H g w a c->VR H' g' w' a c
 | .any,_,_=>H7
 | .v x,c,h=>by rw[VR] at h ⊢; exact h
 | .ptr b o,c,h=>by
  rw[VR] at h ⊢
  cases hb:H[b]? with
  | none=>rw[hb] at h; exact h.elim
  | some B=>
   obtain ⟨B',hB',ht⟩:=he.blk b B hb
   rw[hb] at h; rw[hB']
   cases B with
   | box _=>cases B' with
    | box _=>obtain ⟨k,h1,h2⟩:=h; exact⟨k,(show g'.mu b=g.mu b from ht).trans h1,h2⟩
    | row wr _ _=>exact False.elim ht
    | rng _=>exact False.elim ht
    | mp _ _ _=>exact False.elim ht
    | dead=>obtain ⟨k,h1,h2⟩:=h; subst h2; rfl
    | hole=>exact False.elim ht
   | row wr _ _=>cases B' with
    | box _=>cases wr<;>exact False.elim ht
    | row _ _ _=>exact h
    | rng _=>cases wr<;>exact False.elim ht
    | mp _ _ _=>cases wr<;>exact False.elim ht
    | dead=>exact h
    | hole=>cases wr<;>exact False.elim ht
   | rng _=>cases B'<;>first | exact h | (exact False.elim ht)
   | mp _ _ _=>cases B'<;>first | exact h | (exact False.elim ht)
   | dead=>cases B'<;>first | exact h | (exact False.elim ht)
   | hole=>exact False.elim h
 | .ep b i o,c,h=>by
  rw[VR] at h ⊢
  cases hb:H[b]? with
  | none=>rw[hb] at h; exact h.elim
  | some B=>
   obtain ⟨B',hB',ht⟩:=he.blk b B hb
   rw[hb] at h; rw[hB']
   cases B with
   | box _=>cases B' with
    | box _=>exact h
    | row wr _ _=>exact False.elim ht
    | rng _=>exact False.elim ht
    | mp _ _ _=>exact False.elim ht
    | dead=>exact h
    | hole=>exact False.elim ht
   | row wr es els=>cases wr with
    | true=>cases B' with
     | box _=>exact False.elim ht
     | row wr' es' els'=>cases wr' with
      | true=>
       obtain ⟨e1,e2,e3,_⟩:=ht
       obtain ⟨h0,k,h1,h2⟩:=h
       subst e1
       exact⟨o3,k,e3.trans h1,h2⟩
      | false=>exact False.elim ht
     | rng _=>exact False.elim ht
     | mp _ _ _=>exact False.elim ht
     | dead=>obtain ⟨_,k,h1,h2⟩:=h; subst h2; rfl
     | hole=>exact False.elim ht
    | false=>cases B' with
     | box _=>exact False.elim ht
     | row wr' es' els'=>cases wr' with
      | true=>exact False.elim ht
      | false=>exact h
     | rng _=>exact False.elim ht
     | mp _ _ _=>exact False.elim ht
     | dead=>exact h
     | hole=>exact False.elim ht
   | rng _=>cases B'<;>first | exact h | (exact False.elim ht)
   | mp _ _ _=>cases B'<;>first | exact h | (exact False.elim ht)
   | dead=>cases B'<;>first | exact h | (exact False.elim ht)
   | hole=>exact False.elim h
 | .ip cs,c,h=>by
  rw[VR] at h ⊢
  obtain ⟨k,off,ds,h1,h2,h3⟩:=h
  exact⟨k,off,ds,h1,h2.fc he,bB.fc he cs ds h3⟩
 | .imm els clip,c,h=>by
  rw[VR] at h ⊢
  obtain ⟨a,cap,ds,es,h1,h2,h3,h4,h5,h6⟩:=h
  exact⟨a,cap,ds,es,h1,h2,h3,h4,fun hp=>let ⟨k,off,e1,e2⟩:=h5 hp; ⟨k,off,e1,e2.fc he⟩,bw.fc he els ds h6⟩
 | .sl b o n clip,c,h=>by
  rw[VR] at h ⊢
  cases hb:H[b]? with
  | none=>rw[hb] at h; exact h.elim
  | some B=>
   obtain ⟨B',hB',ht⟩:=he.blk b B hb
   rw[hb] at h; rw[hB']
   cases B with
   | box _=>cases B' with
    | box _=>exact h
    | row wr _ _=>exact False.elim ht
    | rng _=>exact False.elim ht
    | mp _ _ _=>exact False.elim ht
    | dead=>exact h
    | hole=>exact False.elim ht
   | row wr es els=>cases wr with
    | true=>cases B' with
     | box _=>exact False.elim ht
     | row wr' es' els'=>cases wr' with
      | true=>
       obtain ⟨e1,e2,e3,e4⟩:=ht
       obtain ⟨h0,a,cap,h1,h2,h3,h4,h5⟩:=h
       subst e1
       refine⟨o3,a,cap,h1,h2,h3,fun hp=>let ⟨k,g1,g2⟩:=h4 hp; ⟨k,e3.trans g1,g2⟩,fun hc ho hn hlt=>?_⟩
       obtain ⟨k,arr,ty,g1,g2,g3,g4⟩:=h5 hc ho o3 hlt
       obtain ⟨arr',m3,m4⟩:=e4 k arr ty g1 g3
       exact⟨k,arr',ty,e3.trans g1,g2,m3,o3⟩
      | false=>exact False.elim ht
     | rng _=>exact False.elim ht
     | mp _ _ _=>exact False.elim ht
     | dead=>obtain ⟨_,a,cap,h1,_⟩:=h; subst h1; rfl
     | hole=>exact False.elim ht
    | false=>cases B' with
     | box _=>exact False.elim ht
     | row wr' es' els'=>cases wr' with
      | true=>exact False.elim ht
      | false=>
       obtain ⟨e1,⟨r,e2⟩,e3,e4,e5⟩:=ht
       obtain ⟨h0,a,cap,h1,h2,h3,h4,h5⟩:=h
       subst e1
       refine⟨o3,a,cap,h1,h2,h3,fun hp=>?_,fun hc ho hn hlt=>?_⟩
       ·obtain ⟨k,off,g1,g2⟩:=h4 hp
        refine⟨k,off,g1,?_⟩
        have:((g'.ga b).drop o).take n=((g.ga b).drop o).take n:=by
         rw[e2,qaI o3,qaJ r9]
        rw[this]
        exact g2.fc he
       ·have hel:els'.length=els.length:=by omega
        obtain ⟨k,arr,ty,g1,g2,g3,g4⟩:=h5 hc ho o3 hlt
        obtain ⟨m1,m2⟩:=e5 hel
        obtain ⟨arr',m3,m4⟩:=m2 k arr ty g1 g3
        exact⟨k,arr',ty,m1.trans g1,g2,m3,o3⟩
     | rng _=>exact False.elim ht
     | mp _ _ _=>exact False.elim ht
     | dead=>obtain ⟨_,a,cap,h1,_⟩:=h; subst h1; rfl
     | hole=>exact False.elim ht
   | rng _=>cases B'<;>first | exact h | (exact False.elim ht)
   | mp _ _ _=>cases B'<;>first | exact h | (exact False.elim ht)
   | dead=>cases B'<;>first | exact h | (exact False.elim ht)
   | hole=>exact False.elim h
 | .agg cs,c,h=>by
  rw[VR] at h ⊢
  obtain ⟨ds,h1,h2⟩:=h
  exact⟨ds,h1,bB.fc he cs _ h2⟩
 | .tup cs,c,h=>by
  rw[VR] at h ⊢
  obtain ⟨ds,h1,h2⟩:=h
  exact⟨ds,h1,bB.fc he cs _ h2⟩
 | .fn f a b,c,h=>by
  rw[VR] at h ⊢
  obtain ⟨ds,es,h1,h2,h3⟩:=h
  exact⟨ds,es,h1,bB.fc he a _ h2,bB.fc he b _ h3⟩
 | .ifc t x,c,h=>by
  rw[VR] at h ⊢
  obtain ⟨d,h1,h2⟩:=h
  exact⟨d,h1,VR.fc he x d h2⟩
 | .yld b,c,h=>by
  rw[VR] at h ⊢
  cases hb:H[b]? with
  | none=>rw[hb] at h; exact h.elim
  | some B=>
   obtain ⟨B',hB',ht⟩:=he.blk b B hb
   rw[hb] at h; rw[hB']
   cases B with
   | rng st=>cases B' with
    | rng st'=>obtain ⟨k,h1,h2⟩:=h; exact⟨k,(show g'.mu b=g.mu b from ht.1).trans h1,h2⟩
    | dead=>obtain ⟨k,h1,h2⟩:=h; subst h2; rfl
    | hole=>exact False.elim ht
    | box _=>exact False.elim ht
    | row _ _ _=>exact False.elim ht
    | mp _ _ _=>exact False.elim ht
   | row wr _ _=>cases wr<;>cases B'<;>first | exact h | (exact False.elim ht)
   | dead=>cases B'<;>first | exact h | (exact False.elim ht)
   | box _=>cases B'<;>first | exact h | (exact False.elim ht)
   | mp _ _ _=>cases B'<;>first | exact h | (exact False.elim ht)
   | hole=>exact False.elim h
 | .nq els,c,h=>by rw[VR] at h ⊢; exact h
 | .mr b,c,h=>by
  rw[VR] at h ⊢
  cases hb:H[b]? with
  | none=>rw[hb] at h; exact h.elim
  | some B=>
   obtain ⟨B',hB',ht⟩:=he.blk b B hb
   rw[hb] at h; rw[hB']
   cases B with
   | mp _ _ _=>cases B' with
    | mp _ _ _=>obtain ⟨k,h1,h2⟩:=h; exact⟨k,(show g'.mu b=g.mu b from ht).trans h1,h2⟩
    | dead=>obtain ⟨k,h1,h2⟩:=h; subst h2; rfl
    | hole=>exact False.elim ht
    | box _=>exact False.elim ht
    | row _ _ _=>exact False.elim ht
    | rng _=>exact False.elim ht
   | row wr _ _=>cases wr<;>cases B'<;>first | exact h | (exact False.elim ht)
   | dead=>cases B'<;>first | exact h | (exact False.elim ht)
   | box _=>cases B'<;>first | exact h | (exact False.elim ht)
   | rng _=>cases B'<;>first | exact h | (exact False.elim ht)
   | hole=>exact False.elim h
 | .mv k ks vs,c,h=>by
  rw[VR] at h ⊢
  obtain ⟨r,arr,cl,h1,h2,h3,h4,h5⟩:=h
  obtain ⟨e1,e2⟩:=he.map r arr cl h2 h3
  exact⟨r,arr,cl,h1,e2,e1,h4,bB.fc he vs _ h5⟩
theorem bB.fc (he:wx H g w H' g' w'):∀ (cs:List A) (ds:List Value),bB H g w cs ds->bB H' g' w' cs ds
 | [],_,h=>by rw[bB] at h ⊢; exact h
 | a :: as,_,h=>by
  rw[bB] at h ⊢
  obtain ⟨d,ds',h1,h2,h3⟩:=h
  exact⟨d,ds',h1,VR.fc he a d h2,bB.fc he as ds' h3⟩
theorem bw.fc (he:wx H g w H' g' w'):∀ (cs:List (List A)) (ds:List (List Value)),bw H g w cs ds->bw H' g' w' cs ds
 | [],_,h=>by rw[bw] at h ⊢; exact h
 | a :: as,_,h=>by
  rw[bw] at h ⊢
  obtain ⟨d,ds',h1,h2,h3⟩:=h
  exact⟨d,ds',h1,bB.fc he a d h2,bw.fc he as ds' h3⟩
end
theorem Ext.OU (he:Ext H g w H' g' w'):wx H g w H' g' w':=⟨he.cell,he.blk,he.map⟩
theorem bM.ext (he:Ext H g w H' g' w') {k off:Nat} {ds:List Value} (h:bM H g w k off ds):bM H' g' w' k off ds:=h.fc he.OU
theorem VR.ext (he:Ext H g w H' g' w') (a:A) (c:Value) (h:VR H g w a c):VR H' g' w' a c:=VR.fc he.OU a c h
theorem bB.ext (he:Ext H g w H' g' w') (cs:List A) (ds:List Value) (h:bB H g w cs ds):bB H' g' w' cs ds:=bB.fc he.OU cs ds h
theorem bw.ext (he:Ext H g w H' g' w') (cs:List (List A)) (ds:List (List Value)) (h:bw H g w cs ds):bw H' g' w' cs ds:=bw.fc he.OU cs ds h
theorem lP.len {b es:Nat} {els:List (List A)} (h:lP H g w b (.row false es els)):(g.ga b).length=els.length:=h.1.length
theorem Rel.xW (hr:Rel H g w0 w) (he:Ext H g w H' g' w') (hS:g'.S=g.S:=by rfl):∀ k o,w'.heap.size<=k->g'.S k o:=fun k o hk=>by rw[hS]; exact hr.out k o (Yb he.size hk)
theorem Rel.wa (hr:Rel H g w0 w) (he:Ext H g w H' g' w') (hS:g'.S=g.S:=by rfl):∀ b k o,g'.mu b=some k->g'.S k o:=fun b k o h=>by
 rw[hS]
 rcases he.fresh b k h with ⟨c,hc⟩ | hl
 ·exact hr.own c k o hc
 ·exact hr.out k o hl
theorem Ext.below (hr:Rel H g w0 w) (hb:Below w.heap.size w w'):Ext H g w H g w':=by
 refine⟨fun k o v hs hc=>⟨(hb.cell (p:=⟨k,o,none⟩) (Zu w _ hc)).trans hc,hs⟩,fun b B hB=>⟨B,hB,?_⟩,fun k o ho=>(hb.block k (XU.1 ho).1).trans ho,hb.size,fun k arr cl hs hm=>⟨(hb.block k (XU.1 hm).1).trans hm,hs⟩,fun k hk _=>hb.block k hk,fun b k h=>.inl ⟨b,h⟩⟩
 cases B with
 | box _=>rfl
 | mp _ _ _=>rfl
 | row wr es els=>cases wr with
  | true=>exact⟨rfl,rfl,rfl,fun k arr ty hk ha=>⟨arr,(hb.block k (hr.dom b k hk).2.2).trans ha,XP _⟩⟩
  | false=>exact⟨rfl,⟨[],r8⟩,(hr.blk b _ hB).len,XP _,fun _=>⟨rfl,fun k arr ty hk ha=>⟨arr,(hb.block k (hr.dom b k hk).2.2).trans ha,XP _⟩⟩⟩
 | rng _=>exact⟨rfl,rfl⟩
 | dead=>trivial
 | hole=>trivial
theorem lP.below {b:Nat} {B:aO} (hr:Rel H g w0 w) (hb:Below w.heap.size w w') (h:lP H g w b B):lP H g w' b B:=by
 have he:=Ext.below hr hb
 cases B with
 | box cs=>obtain ⟨k,arr,ty,h1,h2,h3⟩:=h; exact⟨k,arr,ty,h1,(hb.block k (hr.dom b k h1).2.2).trans h2,bB.ext he _ _ h3⟩
 | row wr es els=>cases wr with
  | true=>
   obtain ⟨ds,h1,h2,h3⟩:=h
   exact⟨ds,bw.ext he _ _ h1,h2,fun hp=>let ⟨k,arr,ty,e1,e2,e3⟩:=h3 hp; ⟨k,arr,ty,e1,(hb.block k (hr.dom b k e1).2.2).trans e2,e3⟩⟩
  | false=>exact⟨bw.ext he _ _ h.1,h.2⟩
 | rng st=>obtain ⟨k,h1,h2⟩:=h; exact⟨k,h1,(hb.block k (hr.dom b k h1).2.2).trans h2⟩
 | mp _ _ _=>obtain ⟨k,arr,cl,h1,h2,h3,h4⟩:=h; exact⟨k,arr,cl,h1,(hb.block k (hr.dom b k h1).2.2).trans h2,h3,bB.ext he _ _ h4⟩
 | dead=>exact h
 | hole=>exact h
theorem Rel.eK (hr:Rel H g w0 w) (hb:Below w.heap.size w w'):Rel H g w0 w':=
 ⟨hr.below.trans (hb.mono hr.below.size),fun b k hk=>⟨(hr.dom b k hk).1,(hr.dom b k hk).2.1,X5 (hr.dom b k hk).2.2 hb.size⟩,hr.inj,fun k o hk=>hr.out k o (Yb hb.size hk),hr.own,fun b B hB=>(hr.blk b B hB).below hr hb⟩
theorem Rel.w5 (hr:Rel H g w0 w) {B:Nat} (hc:cp B w w'):wx H g w H g w':=by
 refine⟨fun k o v hs h=>⟨Calm.cell (B:=B) ⟨k,o,none⟩ v w w' h hc,hs⟩,fun b Bk hB=>⟨Bk,hB,?_⟩,fun k arr cl hs hm=>⟨hc.data _ _ hm rfl,hs⟩⟩
 cases Bk with
 | box _=>rfl
 | mp _ _ _=>rfl
 | row wr es els=>cases wr with
  | true=>exact⟨rfl,rfl,rfl,fun k arr ty hk ha=>⟨arr,hc.data _ _ ha rfl,XP _⟩⟩
  | false=>exact⟨rfl,⟨[],r8⟩,(hr.blk b _ hB).len,XP _,fun _=>⟨rfl,fun k arr ty hk ha=>⟨arr,hc.data _ _ ha rfl,XP _⟩⟩⟩
 | rng _=>exact⟨rfl,rfl⟩
 | dead=>trivial
 | hole=>trivial
theorem Rel.calm (hr:Rel H g w0 w) {B:Nat} (hB:w0.heap.size<=B) (hc:cp B w w') (hl:∀ (k:Nat) (o:Loop),w.heap[k]? = some (.loop o)->w'.heap[k]? = some (.loop o)):Rel H g w0 w':=by
 have he:=hr.w5 hc
 refine⟨Calm.below (XP _) hB w w' hr.below hc,fun b k hk=>⟨(hr.dom b k hk).1,(hr.dom b k hk).2.1,X5 (hr.dom b k hk).2.2 hc.size⟩,hr.inj,fun k o hk=>hr.out k o (Yb hc.size hk),hr.own,fun b Bk hBk=>?_⟩
 have h:=hr.blk b Bk hBk
 cases Bk with
 | box cs=>obtain ⟨k,arr,ty,h1,h2,h3⟩:=h; exact⟨k,arr,ty,h1,hc.data _ _ h2 rfl,bB.fc he _ _ h3⟩
 | row wr es els=>cases wr with
  | true=>
   obtain ⟨ds,h1,h2,h3⟩:=h
   exact⟨ds,bw.fc he _ _ h1,h2,fun hp=>let ⟨k,arr,ty,e1,e2,e3⟩:=h3 hp; ⟨k,arr,ty,e1,hc.data _ _ e2 rfl,e3⟩⟩
  | false=>exact⟨bw.fc he _ _ h.1,h.2⟩
 | rng st=>obtain ⟨k,h1,h2⟩:=h; exact⟨k,h1,hl k _ h2⟩
 | mp _ _ _=>obtain ⟨k,arr,cl,h1,h2,h3,h4⟩:=h; exact⟨k,arr,cl,h1,hc.data _ _ h2 rfl,h3,bB.fc he _ _ h4⟩
 | dead=>exact h
 | hole=>exact h
theorem Ext.calm {H0:aC} {g0:Gh} {ws:World} (he:Ext H0 g0 ws H g w) (hr:Rel H g w0 w) {B:Nat} (hB:ws.heap.size<=B) (hc:cp B w w'):Ext H0 g0 ws H g w':=by
 have h0:=hr.w5 hc
 refine⟨fun k o v hs h=>?_,fun b Bk hBk=>?_,fun k o ho=>?_,Yb he.size hc.size,fun k arr cl hs hm=>let ⟨c1,s1⟩:=he.map k arr cl hs hm; h0.map k arr cl s1 c1,fun k hk hn=>(hc.low k o3 (X5 hk he.size)).trans (he.obj k hk hn),he.fresh⟩
 ·obtain ⟨c1,s1⟩:=he.cell k o v hs h
  exact h0.cell k o v s1 c1
 ·obtain ⟨B',hB',ht⟩:=he.blk b Bk hBk
  refine⟨B',hB',?_⟩
  cases Bk with
  | row wr es els=>cases wr with
   | false=>cases B' with
    | row wr' es' els'=>cases wr' with
     | false=>
      obtain ⟨e1,e2,e3,e4,e5⟩:=ht
      refine⟨e1,e2,e3,e4,fun hl=>⟨(e5 hl).1,fun k arr ty hk ha=>?_⟩⟩
      obtain ⟨arr',q1,q2⟩:=(e5 hl).2 k arr ty hk ha
      exact⟨arr',hc.data _ _ q1 rfl,q2⟩
     | true=>exact ht
    | _=>exact ht
   | true=>cases B' with
    | row wr' es' els'=>cases wr' with
     | true=>
      obtain ⟨e1,e2,e3,e4⟩:=ht
      refine⟨e1,e2,e3,fun k arr ty hk ha=>?_⟩
      obtain ⟨arr',q1,q2⟩:=e4 k arr ty hk ha
      exact⟨arr',hc.data _ _ q1 rfl,q2⟩
     | false=>exact ht
    | _=>exact ht
  | _=>cases B'<;>exact ht
 ·have hk:=he.kept k o ho
  have hlt:=(XU.1 ho).1
  exact(hc.low k o3 (XU.1 hk).1).trans hk
end
section
open Go.RowKit
variable {P:Program} {H:aC} {g:Gh} {w0 w:World}
theorem ek {α:Type} {P:Program}:∀ {s:Sem α} {a:α},cJ P s=some a->∀ w,s.run P w=.ok a w
 | .pure a,_,h,w=>by simp only[cJ,YE] at h; subst h; rfl
 | .program k,a,h,w=>by simp only[cJ] at h; exact ek (s:=k P) h w
 | .mark _ k,a,h,w=>by simp only[cJ] at h; exact ek (s:=k) h w
 | .load ..,_,h,_ | .store ..,_,h,_ | .new ..,_,h,_ | .shape ..,_,h,_ | .freeze ..,_,h,_ | .frozen ..,_,h,_ | .getObj ..,_,h,_ | .setObj ..,_,h,_ | .choose ..,_,h,_ | .sys ..,_,h,_ | .halt _,_,h,_=>by cases h
theorem dG:∀ {cs:List A} {ds:List Value},bB H g w cs ds↔ds.length=cs.length/\∀ (i:Nat) a d,cs[i]? = some a->ds[i]? = some d->VR H g w a d
 | [],ds=>by
  rw[bB]
  exact⟨fun h=>by subst h; simp,fun h=>by simpa using h.1⟩
 | a :: as,ds=>by
  rw[bB]
  constructor
  ·rintro ⟨d,ds',rfl,h1,h2⟩
   obtain ⟨h3,h4⟩:=dG.1 h2
   refine⟨by simp[h3],fun i x y hx hy=>?_⟩
   cases i with
   | zero=>simp at hx hy; subst hx; subst hy; exact h1
   | succ i=>exact h4 i x y (by simpa using hx) (by simpa using hy)
  ·rintro ⟨h1,h2⟩
   cases ds with
   | nil=>simp at h1
   | cons d ds'=>exact⟨d,ds',rfl,h2 0 a d rfl rfl,dG.2 ⟨by simpa using h1,fun i x y hx hy=>h2 (i+1) x y (by simpa using hx) (by simpa using hy)⟩⟩
theorem cR:∀ {cs:List (List A)} {ds:List (List Value)},bw H g w cs ds↔ds.length=cs.length/\∀ (i:Nat) a d,cs[i]? = some a->ds[i]? = some d->bB H g w a d
 | [],ds=>by
  rw[bw]
  exact⟨fun h=>by subst h; simp,fun h=>by simpa using h.1⟩
 | a :: as,ds=>by
  rw[bw]
  constructor
  ·rintro ⟨d,ds',rfl,h1,h2⟩
   obtain ⟨h3,h4⟩:=cR.1 h2
   refine⟨by simp[h3],fun i x y hx hy=>?_⟩
   cases i with
   | zero=>simp at hx hy; subst hx; subst hy; exact h1
   | succ i=>exact h4 i x y (by simpa using hx) (by simpa using hy)
  ·rintro ⟨h1,h2⟩
   cases ds with
   | nil=>simp at h1
   | cons d ds'=>exact⟨d,ds',rfl,h2 0 a d rfl rfl,cR.2 ⟨by simpa using h1,fun i x y hx hy=>h2 (i+1) x y (by simpa using hx) (by simpa using hy)⟩⟩
theorem bB.get {cs:List A} {ds:List Value} (h:bB H g w cs ds) {i:Nat} {a:A} (ha:cs[i]? = some a):∃ d,ds[i]? = some d/\VR H g w a d:=by
 obtain ⟨h1,h2⟩:=dG.1 h
 have hi:i<ds.length:=by rw[h1]; exact(XS.1 ha).1
 exact⟨ds[i],XN hi,h2 i a _ ha (XN hi)⟩
theorem bw.get {cs:List (List A)} {ds:List (List Value)} (h:bw H g w cs ds) {i:Nat} {a:List A} (ha:cs[i]? = some a):∃ d,ds[i]? = some d/\bB H g w a d:=by
 obtain ⟨h1,h2⟩:=cR.1 h
 have hi:i<ds.length:=by rw[h1]; exact(XS.1 ha).1
 exact⟨ds[i],XN hi,h2 i a _ ha (XN hi)⟩
theorem bB.drop {cs:List A} {ds:List Value} (h:bB H g w cs ds) (n:Nat):bB H g w (cs.drop n) (ds.drop n):=by
 obtain ⟨h1,h2⟩:=dG.1 h
 exact dG.2 ⟨by simp[h1],fun i a d ha hd=>h2 (n+i) a d (by simpa using ha) (by simpa using hd)⟩
theorem bB.take {cs:List A} {ds:List Value} (h:bB H g w cs ds) (n:Nat):bB H g w (cs.take n) (ds.take n):=by
 obtain ⟨h1,h2⟩:=dG.1 h
 refine dG.2 ⟨by simp[h1],fun i a d ha hd=>?_⟩
 rw[Yc] at ha hd
 split at ha
 ·rename_i hlt; rw[XX hlt] at hd; exact h2 _ _ _ ha hd
 ·cases ha
theorem bB.append {cs cs':List A} {ds ds':List Value} (h:bB H g w cs ds) (h':bB H g w cs' ds'):bB H g w (cs++cs') (ds++ds'):=by
 obtain ⟨h1,h2⟩:=dG.1 h
 obtain ⟨h3,h4⟩:=dG.1 h'
 refine dG.2 ⟨by simp[h1,h3],fun i a d ha hd=>?_⟩
 rw[ZE] at ha hd
 rw[h1] at hd
 split at ha
 ·rename_i hlt; rw[XX hlt] at hd; exact h2 _ _ _ ha hd
 ·rename_i hlt; rw[XW hlt] at hd; exact h4 _ _ _ ha hd
theorem bw.drop {cs:List (List A)} {ds:List (List Value)} (h:bw H g w cs ds) (n:Nat):bw H g w (cs.drop n) (ds.drop n):=by
 obtain ⟨h1,h2⟩:=cR.1 h
 exact cR.2 ⟨by simp[h1],fun i a d ha hd=>h2 (n+i) a d (by simpa using ha) (by simpa using hd)⟩
theorem bw.take {cs:List (List A)} {ds:List (List Value)} (h:bw H g w cs ds) (n:Nat):bw H g w (cs.take n) (ds.take n):=by
 obtain ⟨h1,h2⟩:=cR.1 h
 refine cR.2 ⟨by simp[h1],fun i a d ha hd=>?_⟩
 rw[Yc] at ha hd
 split at ha
 ·rename_i hlt; rw[XX hlt] at hd; exact h2 _ _ _ ha hd
 ·cases ha
theorem bw.append {cs cs':List (List A)} {ds ds':List (List Value)} (h:bw H g w cs ds) (h':bw H g w cs' ds'):bw H g w (cs++cs') (ds++ds'):=by
 obtain ⟨h1,h2⟩:=cR.1 h
 obtain ⟨h3,h4⟩:=cR.1 h'
 refine cR.2 ⟨by simp[h1,h3],fun i a d ha hd=>?_⟩
 rw[ZE] at ha hd
 rw[h1] at hd
 split at ha
 ·rename_i hlt; rw[XX hlt] at hd; exact h2 _ _ _ ha hd
 ·rename_i hlt; rw[XW hlt] at hd; exact h4 _ _ _ ha hd
theorem bB.bz {cs xs:List A} {ds ys:List Value} (h:bB H g w cs ds) (h':bB H g w xs ys) (o:Nat):bB H g w (bz cs o xs) (bz ds o ys):=by
 unfold Go.Proofs.YtebkhfhcipnfgaaGreat.bz
 rw[h'.length]
 exact((h.take o).append h').append (h.drop _)
theorem bw.bz {cs xs:List (List A)} {ds ys:List (List Value)} (h:bw H g w cs ds) (h':bw H g w xs ys) (o:Nat):bw H g w (bz cs o xs) (bz ds o ys):=by
 unfold Go.Proofs.YtebkhfhcipnfgaaGreat.bz
 rw[h'.length]
 exact((h.take o).append h').append (h.drop _)
theorem gX {α:Type} (es:Nat):∀ (q:Nat) (xs:List α),(chunk es q xs).length=q
 | 0,_=>rfl
 | q+1,xs=>by rw[chunk,X8,gX es q]
theorem jO {α:Type} {es:Nat}:∀ {q:Nat} {xs:List α},xs.length=q*es->∀ d∈chunk es q xs,d.length=es
 | 0,_,_,d,hd=>by cases hd
 | q+1,xs,h,d,hd=>by
  rw[YL,qa7] at h
  rcases YC.1 hd with rfl | hd
  ·simp; omega
  ·exact jO r9 d hd
theorem lV {α:Type} {es:Nat}:∀ {q:Nat} {xs:List α},xs.length=q*es->(chunk es q xs).flatten=xs
 | 0,xs,h=>by
  have:xs=[]:=Ye (by simpa using h)
  subst this; rfl
 | q+1,xs,h=>by
  rw[YL,qa7] at h
  rw[chunk,YX,lV r9]
  exact Zb _ _
theorem bB.chunk {es:Nat}:∀ (q:Nat) {cs:List A} {ds:List Value},bB H g w cs ds->bw H g w (chunk es q cs) (chunk es q ds)
 | 0,_,_,_=>by rw[Go.Proofs.YtebkhfhcipnfgaaGreat.chunk,Go.Proofs.YtebkhfhcipnfgaaGreat.chunk,bw]
 | q+1,cs,ds,h=>by
  rw[Go.Proofs.YtebkhfhcipnfgaaGreat.chunk,Go.Proofs.YtebkhfhcipnfgaaGreat.chunk,bw]
  exact⟨_,_,rfl,h.take es,bB.chunk q (h.drop es)⟩
theorem bw.flat:∀ {els:List (List A)} {ds:List (List Value)},bw H g w els ds->bB H g w els.flatten ds.flatten
 | [],_,h=>by rw[bw] at h; subst h; rw[List.flatten_nil,bB]; rfl
 | a :: els,_,h=>by
  rw[bw] at h
  obtain ⟨d,ds',rfl,h1,h2⟩:=h
  rw[YX,YX]
  exact h1.append (bw.flat h2)
theorem Eh (x:Value):VR H g w (zx x) x:=by
 unfold zx
 split
 ·rw[VR]; exact⟨none,0,[],0,rfl,XP _,fun _=>rfl,r8,r8,by rw[bw]⟩
 ·rw[VR]
theorem jz (l:List Value):bB H g w (l.map zx) l:=
 dG.2 ⟨r8,fun i a d ha hd=>by rw[Yq,hd] at ha; cases ha; exact Eh d⟩
theorem oE (x:Value):VR H g w (xP x) x:=by
 unfold xP
 split
 ·rename_i cs; rw[VR]; exact⟨cs,rfl,jz _⟩
 ·exact Eh _
mutual
theorem nk:∀ (a:A) {v c:Value},a.qj=some v->VR H g w a c->c=v
 | .any,_,_,h,_=>by simp[A.qj] at h
 | .v x,_,_,h,hr=>by simp[A.qj] at h; rw[VR] at hr; rw[hr,h]
 | .ptr ..,_,_,h,_=>by simp[A.qj] at h
 | .ep ..,_,_,h,_=>by simp[A.qj] at h
 | .ip _,_,_,h,_=>by simp[A.qj] at h
 | .imm ..,_,_,h,_=>by simp[A.qj] at h
 | .sl ..,_,_,h,_=>by simp[A.qj] at h
 | .agg cs,_,_,h,hr=>by
  simp[A.qj] at h
  obtain ⟨l,hl,rfl⟩:=h
  rw[VR] at hr
  obtain ⟨ds,rfl,h2⟩:=hr
  have:=A0 cs hl h2
  rw[<-this]
 | .tup _,_,_,h,_=>by simp[A.qj] at h
 | .fn (.func f) [] [],_,_,h,hr=>by
  simp[A.qj] at h
  subst h
  rw[VR] at hr
  obtain ⟨ds,es,rfl,h1,h2⟩:=hr
  rw[bB] at h1 h2
  have e1:ds=#[]:=by cases ds; simp_all
  have e2:es=#[]:=by cases es; simp_all
  rw[e1,e2]
 | .fn (.func _) (_ :: _) _,_,_,h,_=>by simp[A.qj] at h
 | .fn (.func _) [] (_ :: _),_,_,h,_=>by simp[A.qj] at h
 | .fn (.method _) _ _,_,_,h,_=>by simp[A.qj] at h
 | .fn (.methodOf ..) _ _,_,_,h,_=>by simp[A.qj] at h
 | .fn (.via ..) _ _,_,_,h,_=>by simp[A.qj] at h
 | .fn (.yield _) _ _,_,_,h,_=>by simp[A.qj] at h
 | .ifc t x,_,_,h,hr=>by
  simp[A.qj] at h
  obtain ⟨v,hv,rfl⟩:=h
  rw[VR] at hr
  obtain ⟨d,rfl,h2⟩:=hr
  rw[nk x hv h2]
theorem A0:∀ (cs:List A) {l ds:List Value},BN cs=some l->bB H g w cs ds->ds=l
 | [],_,_,h,hr=>by simp[BN] at h; rw[bB] at hr; rw[hr,<-h]
 | a :: as,_,_,h,hr=>by
  rw[BN] at h
  cases hx:a.qj with
  | none=>rw[hx] at h; cases h
  | some x=>
   rw[hx] at h
   cases hl:BN as with
   | none=>rw[hl] at h; cases h
   | some l=>
    rw[hl] at h
    cases h
    rw[bB] at hr
    obtain ⟨d,ds',rfl,h1,h2⟩:=hr
    rw[nk a hx h1,A0 as hl h2]
end
theorem rA {a:A} {c:Value} (hc:a.cell=true) (h:VR H g w a c):c.oneCell'=true:=by
 cases a with
 | any=>simp[A.cell] at hc
 | v x=>rw[VR] at h; rw[h]; simpa [A.cell] using hc
 | ptr b o=>
  rw[VR] at h
  split at h
  ·obtain ⟨k,_,rfl⟩:=h; rfl
  ·exact h.elim
  ·exact h
  ·exact h.elim
 | ep b i o=>
  rw[VR] at h
  split at h
  ·obtain ⟨_,k,_,rfl⟩:=h; rfl
  ·exact h.elim
  ·exact h
  ·exact h.elim
 | ip cs=>rw[VR] at h; obtain ⟨_,_,_,rfl,_⟩:=h; rfl
 | imm els clip=>rw[VR] at h; obtain ⟨_,_,_,_,rfl,_⟩:=h; rfl
 | sl b o n clip=>
  rw[VR] at h
  split at h
  ·obtain ⟨_,_,_,rfl,_⟩:=h; rfl
  ·obtain ⟨_,_,_,rfl,_⟩:=h; rfl
  ·exact h.elim
  ·exact h
  ·exact h.elim
 | agg _=>simp[A.cell] at hc
 | tup _=>simp[A.cell] at hc
 | fn f a b=>rw[VR] at h; obtain ⟨_,_,rfl,_⟩:=h; rfl
 | ifc t x=>rw[VR] at h; obtain ⟨_,rfl,_⟩:=h; rfl
 | nq _=>simp[A.cell] at hc
 | yld b=>
  rw[VR] at h
  split at h
  ·obtain ⟨_,_,rfl⟩:=h; rfl
  ·exact h.elim
  ·exact h
  ·exact h.elim
 | mr b=>
  rw[VR] at h
  split at h
  ·obtain ⟨_,_,rfl⟩:=h; rfl
  ·exact h.elim
  ·exact h
  ·exact h.elim
 | mv k ks vs=>rw[VR] at h; obtain ⟨_,_,_,rfl,_⟩:=h; rfl
theorem vp {c:Value} (h:c.oneCell'=true):c.cells=#[c]:=by cases c<;>first | rfl | simp[Value.oneCell'] at h
theorem mQ {a:A} {c:Value} {cs:List A} (ha:a.cells? = some cs) (h:VR H g w a c):bB H g w cs c.cells.toList/\(∀ x∈c.cells.toList,x.oneCell'=true)/\∀ x∈cs,x.cell=true:=by
 have one:∀ {x:A} {d:Value},x.cell=true->VR H g w x d->bB H g w [x] d.cells.toList/\(∀ y∈d.cells.toList,y.oneCell'=true)/\∀ y∈[x],y.cell=true:=fun {x d} hx hv=>by
  have h1:=rA hx hv
  rw[vp h1]
  refine⟨?_,by simp[h1],by simp[hx]⟩
  rw[bB]; exact⟨d,[],rfl,hv,u3⟩
 cases a with
 | any=>simp[A.cells?] at ha
 | tup _=>simp[A.cells?] at ha
 | agg as=>
  simp only[A.cells?,cond_eq_ite] at ha
  split at ha
  ·rename_i hall
   cases ha
   rw[VR] at h
   obtain ⟨ds,rfl,h2⟩:=h
   refine⟨h2,fun x hx=>?_,X0.1 hall⟩
   obtain ⟨i,hi,rfl⟩:=YI hx
   have hl:=h2.length
   obtain ⟨d,hd,hv⟩:=h2.get (i:=i) (XN (by simp only[Value.cells] at hi; omega))
   have hd':(Value.agg ds).cells.toList[i]? = some d:=hd
   rw[XN hi] at hd'
   cases hd'
   exact rA (X0.1 hall _ (Ys _)) hv
  ·cases ha
 | v x=>
  simp only[A.cells?,cond_eq_ite] at ha
  split at ha
  ·rename_i hx; cases ha; exact one hx h
  ·cases ha
 | nq _=>simp[A.cells?] at ha
 | _=>simp only[A.cells?,YE] at ha; subst ha; exact one rfl h
theorem vT {t:TypeId} {cs:List A} {ds:List Value} {a:A} (hj:join P t cs=some a) (h:bB H g w cs ds):∃ c,VR H g w a c/\(if ma P t=true then c=.agg ds.toArray else ds=[c]):=by
 unfold Go.Proofs.YtebkhfhcipnfgaaGreat.join at hj
 cases hA:ma P t
 ·rw[hA] at hj
  simp only[XO] at hj
  split at hj
  ·cases hj
   rw[bB] at h
   obtain ⟨d,ds',rfl,h1,h2⟩:=h
   rw[bB] at h2
   subst h2
   exact⟨d,h1,r8⟩
  ·cases hj
 ·rw[hA] at hj
  simp only[XR,YE] at hj
  subst hj
  exact⟨.agg ds.toArray,by rw[VR]; exact⟨_,rfl,by simpa using h⟩,r8⟩
theorem uy (t:TypeId) {d:TypeDesc} (hu:P.underlying t=some d) (w:World):(isAgg t).run P w=.ok (ma P t) w:=by
 unfold isAgg ma
 rw[Yv,X2 hu w,hu]
 cases d<;>rfl
theorem lW {t:TypeId} {n:Nat} (h:cQ P t=some n):∃ d,P.underlying t=some d:=by
 unfold cQ at h
 cases hu:P.underlying t with
 | none=>rw[hu] at h; cases h
 | some d=>exact⟨d,rfl⟩
theorem gy {t:TypeId} {n:Nat} (h:cQ P t=some n):∃ i,P.info? t=some i/\i.size=n:=by
 obtain ⟨d,hu⟩:=lW h
 unfold cQ at h
 rw[hu] at h
 cases hi:P.info? t with
 | none=>rw[hi] at h; cases h
 | some i=>rw[hi] at h; exact⟨i,rfl,by simpa using h⟩
theorem eA {t:TypeId} {n:Nat} (h:cQ P t=some n) (w:World):(sizeOf t).run P w=.ok n w:=by
 obtain ⟨i,hi,rfl⟩:=gy h
 simp[sizeOf,typeInfo,hi]
theorem xJ {t:TypeId} {n:Nat} (hs:cQ P t=some n) {d:TypeDesc} (hu:P.underlying t=some d) {k off:Nat} {ds:List Value} (hl:ds.length=n) (hc:w.rangeAt k off ds) {c:Value} (h:if ma P t=true then c=.agg ds.toArray else ds=[c]) :
  (loadVar t ⟨k,off,none⟩).run P w=.ok c w:=by
 have hc':(loadCells ⟨k,off,none⟩ ds.length).run P w=.ok ds.toArray w:=
  qaN (P:=P) w ⟨k,off,none⟩ ds (fun j v hv=>by rw[Y3]; exact hc j v hv)
 unfold loadVar
 rw[Yv,uy t hu w]
 cases hA:ma P t
 ·rw[hA] at h
  simp at h
  subst h
  have:=hc 0 c rfl
  simp only[Zf] at this
  simp[load,Sem.run,this]
 ·rw[hA] at h
  simp at h
  subst h
  simp[eA hs,<-hl,hc']
end
section
open Go.RowKit
variable {P:Program} {H:aC} {g:Gh} {w0 w:World}
theorem bE {α β:Type} {x:Option α} {f:α->Option β} {y:β} (h:x.bind f=some y):∃ a,x=some a/\f a=some y:=by
 cases x with
 | none=>cases h
 | some a=>exact⟨a,rfl,h⟩
theorem bG {α:Type} {b:Bool} {x y:α}:(bif b then x else y)=if b=true then x else y:=by cases b<;>rfl
theorem eE {α:Type} {b:Bool} {x:Option α} {y:α} (h:(bif b then none else x)=some y):b=false/\x=some y:=by cases b<;>simp_all
theorem bu {α:Type} {b:Bool} {x:Option α} {y:α} (h:(bif b then x else none)=some y):b=true/\x=some y:=by cases b<;>simp_all
theorem bM.drop {k off:Nat} {ds:List Value} (h:bM H g w k off ds) (n:Nat):bM H g w k (off+n) (ds.drop n):=fun j v hj=>by
 rw[Y0] at hj
 rw[Zz]
 exact h (n+j) v hj
theorem bM.take {k off:Nat} {ds:List Value} (h:bM H g w k off ds) (n:Nat):bM H g w k off (ds.take n):=fun j v hj=>by
 rw[Yc] at hj
 split at hj
 ·exact h j v hj
 ·cases hj
theorem bM.range {k off:Nat} {ds:List Value} (h:bM H g w k off ds):w.rangeAt k off ds:=fun j v hj=>(h j v hj).1
theorem jQ {es:Nat}:∀ {ds:List (List Value)},(∀ d∈ds,d.length=es)->∀ {j:Nat} {d:List Value},ds[j]? = some d->∀ i,i<es->ds.flatten[j*es+i]? = d[i]?
 | [],_,j,d,h,i,_=>by simp at h
 | x :: xs,hl,j,d,h,i,hi=>by
  have hx:=hl x r8
  cases j with
  | zero=>simp at h; subst h; simp[ZE,hx,hi]
  | succ j=>
   have:=jQ (ds:=xs) (fun d hd=>hl d (by simp[hd])) (j:=j) (d:=d) (by simpa using h) i hi
   rw[YX,Yr (by rw[hx,YL]; omega),hx,<-this]
   congr 1
   rw[YL]; omega
theorem b7 {es:Nat}:∀ {ds:List (List Value)},(∀ d∈ds,d.length=es)->ds.flatten.length=ds.length*es
 | [],_=>r8
 | x :: xs,hl=>by
  rw[YX,X9,hl x r8,b7 (fun d hd=>hl d (by simp[hd])),X8,YL]; omega
theorem bM.elem {k off es:Nat} {ds:List (List Value)} (h:bM H g w k off ds.flatten) (hl:∀ d∈ds,d.length=es) {j:Nat} {d:List Value} (hd:ds[j]? = some d):bM H g w k (off+j*es) d:=fun i v hi=>by
 have hdl:d.length=es:=hl d (Yh hd)
 have hi':i<es:=by rw[<-hdl]; exact(XS.1 hi).1
 rw[Zz]
 exact h (j*es+i) v (by rw[jQ hl hd i hi']; exact hi)
theorem bM.sub {k off es:Nat} {ds:List (List Value)} (h:bM H g w k off ds.flatten) (hl:∀ d∈ds,d.length=es) (l m:Nat):bM H g w k (off+l*es) ((ds.drop l).take m).flatten:=fun i v hi=>by
 have hl2:∀ d∈(ds.drop l).take m,d.length=es:=fun d hd=>hl d (Yo (Yk hd))
 have hlen:=(XS.1 hi).1
 rw[b7 hl2] at hlen
 have hes:0<es:=by rcases Z0 es with h0 | h0; (rw[h0] at hlen; simp at hlen); exact h0
 have hq:i / es<((ds.drop l).take m).length:=qaA (by rw[YZ]; exact hlen)
 have hdm:=qaB i es
 have hr:=qac i hes
 obtain ⟨d,hd⟩:∃ d,((ds.drop l).take m)[i / es]? = some d:=⟨_,XN hq⟩
 have e1:=jQ hl2 hd (i % es) hr
 have e2:i / es*es+i % es=i:=by rw[YZ]; exact hdm
 rw[e2,hi] at e1
 have hd2:ds[l+i / es]? = some d:=by
  rw[Yc] at hd
  split at hd
  ·rwa [Y0] at hd
  ·cases hd
 have e3:=jQ hl hd2 (i % es) hr
 have:=h ((l+i / es)*es+i % es) v (by rw[e3,<-e1])
 rwa [show off+((l+i / es)*es+i % es)=off+l*es+i by rw[YL]; omega] at this
theorem ot {a:A} {c:Value} {j:Nat} (h:idx a=some j) (hv:VR H g w a c):∃ k n,c=.int k n/\0<=n/\n.toNat=j:=by
 unfold idx at h
 split at h
 ·rename_i k n
  replace h:=bu h
  obtain ⟨h1,h2⟩:=h
  rw[VR] at hv
  exact⟨k,n,hv,by simpa using h1,by simpa using h2⟩
 ·cases h
theorem qo (hr:Rel H g w0 w) {t:TypeId} {x y:A} {c:Value} (h:lh P t x H=some y) (hx:VR H g w x c):∃ d,(Instr.loadAt t c).run P w=.ok d w/\VR H g w y d:=by
 unfold lh at h
 replace h:=bE h
 obtain ⟨n,hn,h⟩:=h
 replace h:=eE h
 obtain ⟨_,h⟩:=h
 obtain ⟨dd,hu⟩:=lW hn
 have fin:∀ {k off:Nat} {cs:List A} {ds:List Value},c=.pointer (some ⟨k,off,none⟩)->bB H g w cs ds->cs.length=n->w.rangeAt k off ds->join P t cs=some y->∃ d,(Instr.loadAt t c).run P w=.ok d w/\VR H g w y d:=by
  intro k off cs ds hc hv hl hcells hj
  obtain ⟨d,h1,h2⟩:=vT hj hv
  refine⟨d,?_,h1⟩
  subst hc
  simp only[Instr.loadAt,Instr.sureAddr,Yv,ZU,Ym]
  exact xJ hn hu (hv.length.trans hl) hcells h2
 have seg:∀ {k:Nat} {arr:Array Value} {ty:TypeId} (o:Nat) (ds:List Value),w.heap[k]? = some (.cells arr ty (0,0))->(∀ (j:Nat) v,ds[j]? = some v->arr[o+j]? = some v)->w.rangeAt k o ds:=fun {k arr ty} o ds hk hd j v hj=>by
  rw[Zh w k (o+j) arr ty (0,0) hk]; exact hd j v hj
 split at h
 ·rename_i b o
  split at h
  ·rename_i cs hb
   replace h:=bu h
   obtain ⟨h1,h2⟩:=h
   have h1:=XY h1
   rw[VR,hb] at hx
   obtain ⟨k,hk,rfl⟩:=hx
   obtain ⟨k',arr,ty,hk',ha,hv⟩:=hr.blk b _ hb
   rw[hk] at hk'; cases hk'
   refine fin rfl ((hv.drop o).take n) r9 (seg o _ ha fun j v hj=>?_) h2
   rw[Yc] at hj
   split at hj
   ·rw[Y0] at hj; simpa using hj
   ·cases hj
  ·cases h
 ·rename_i b i o
  split at h
  ·rename_i es els hb
   split at h
   ·rename_i cs hi
    rw[VR,hb] at hx
    obtain ⟨hlt,k,hk,rfl⟩:=hx
    obtain ⟨ds,hv,hl,hrow⟩:=hr.blk b _ hb
    obtain ⟨k',arr,ty,hk',ha,hcell⟩:=hrow o3
    rw[hk] at hk'; cases hk'
    obtain ⟨d,hd,hvd⟩:=hv.get hi
    rw[bG] at h
    split at h
    rotate_left
    ·replace h:=bu h
     obtain ⟨h1,h2⟩:=h
     simp only[XQ,qad] at h1
     obtain ⟨rfl,h1⟩:=h1
     have hcs:cs.length=es:=by rw[<-hvd.length]; exact hl d (Yh hd)
     refine fin rfl ((hv.drop i).take (n / cs.length)).flat h1 (seg _ _ ha fun j v hj=>?_) h2
     refine hcell _ v ?_
     have e1:ds.flatten=(ds.take i).flatten++(ds.drop i).flatten:=XF
     have e2:(ds.take i).flatten.length=i*es:=by
      have h3:=hv.length
      rw[b7 (es:=es) (fun d hd=>hl d (Yk hd)),YG,Zm o3]
     have e3:(ds.drop i).flatten=((ds.drop i).take (n / cs.length)).flatten++((ds.drop i).drop (n / cs.length)).flatten:=XF
     rw[e1,Yr o3,e2,e3]
     rw[X6 (by
      have:=(XS.1 hj).1
      omega)]
     rw[<-hj]; congr 1; omega
    rename_i h1
    have h2:=h
    have h1:=XY h1
    refine fin rfl ((hvd.drop o).take n) r9 (seg _ _ ha fun j v hj=>?_) h2
    rw[Yc] at hj
    split at hj
    ·rw[Y0] at hj
     have hdl:d.length=es:=hl d (Yh hd)
     have hoj:o+j<es:=by rw[<-hdl]; exact(XS.1 hj).1
     have:=hcell (i*es+(o+j)) v (by rw[jQ hl hd _ hoj]; exact hj)
     rwa [<-Zz] at this
    ·cases hj
   ·cases h
  ·cases h
 ·rename_i cs
  replace h:=bu h
  obtain ⟨h1,h2⟩:=h
  have h1:=XY h1
  rw[VR] at hx
  obtain ⟨k,off,ds,rfl,hc,hv⟩:=hx
  exact fin rfl (hv.take n) r9 (hc.take n).range h2
 ·cases h
theorem rj {x y:A} {i:Nat} {c:Value} (h:mO x i=some y) (hx:VR H g w x c):∃ d,(Instr.extract c i).run P w=.ok d w/\VR H g w y d:=by
 unfold mO at h
 split at h
 ·rw[VR] at hx
  obtain ⟨ds,rfl,hv⟩:=hx
  obtain ⟨d,hd,hvd⟩:=hv.get h
  have hd':ds[i]? = some d:=by simpa using hd
  exact⟨d,by simp[Instr.extract,hd'],hvd⟩
 ·cases h
theorem xX {t:TypeId} {n off:Nat} (hs:cQ P t=some n) {ds:Array Value} {c:Value} (h:if ma P t=true then c=.agg ((ds.toList.drop off).take n).toArray else (ds.toList.drop off).take n=[c]) :
  (part t ds off).run P w=.ok c w:=by
 obtain ⟨d,hu⟩:=lW hs
 unfold part
 rw[Yv,uy t hu w]
 cases hA:ma P t
 ·rw[hA] at h
  simp at h
  have:ds[off]? = some c:=by
   have h0:((ds.toList.drop off).take n)[0]? = some c:=by rw[h]; rfl
   rw[Yc] at h0
   split at h0
   ·simpa using h0
   ·cases h0
  simp[this]
 ·rw[hA] at h
  simp at h
  subst h
  simp[eA hs]
  apply ZF
  simp[List.take_drop,qaX]
theorem vh {t:TypeId} {x y:A} {i:Nat} {c:Value} (h:yF P t x i=some y) (hx:VR H g w x c):∃ d,(Instr.field t c i).run P w=.ok d w/\VR H g w y d:=by
 unfold yF at h
 split at h
 ·rename_i fs cs hu
  replace h:=bE h
  obtain ⟨f,hf,h⟩:=h
  replace h:=bE h
  obtain ⟨n,hn,h⟩:=h
  replace h:=bu h
  obtain ⟨h1,h2⟩:=h
  have h1:=XY h1
  rw[VR] at hx
  obtain ⟨ds,rfl,hv⟩:=hx
  obtain ⟨d,h3,h4⟩:=vT h2 ((hv.drop f.offset).take n)
  refine⟨d,?_,h3⟩
  unfold Instr.field
  rw[Yv,X2 hu w]
  simp[hf,asAgg]
  exact xX hn h4
 ·cases h
theorem vi {t:TypeId} {x i y:A} {c e:Value} (h:yH P t x i=some y) (hx:VR H g w x c) (hi:VR H g w i e):∃ d,(Instr.index t c e).run P w=.ok d w/\VR H g w y d:=by
 unfold yH at h
 replace h:=bE h
 obtain ⟨j,hj,h⟩:=h
 obtain ⟨ik,n,rfl,hn0,rfl⟩:=ot hj hi
 split at h
 ·rename_i len el cs hu
  replace h:=bE h
  obtain ⟨m,hm,h⟩:=h
  replace h:=bu h
  obtain ⟨h1,h2⟩:=h
  simp only[XQ,XV] at h1
  rw[VR] at hx
  obtain ⟨ds,rfl,hv⟩:=hx
  obtain ⟨d,h3,h4⟩:=vT h2 ((hv.drop (n.toNat*m)).take m)
  refine⟨d,?_,h3⟩
  have hlt:n<(len:Int):=o3
  unfold Instr.index
  simp[asIntOf,X2 hu,hn0,hlt,eA hm]
  exact xX hm h4
 ·rename_i s hu
  cases hb:s[n.toNat]? with
  | none=>rw[hb] at h; cases h
  | some b=>
   rw[hb] at h
   cases h
   rw[VR] at hx
   subst hx
   refine⟨.int .u8 b.toNat,?_,s6⟩
   unfold Instr.index
   simp[asIntOf,X2 hu,hn0,hb]
 ·cases h
theorem uI {b o:Nat} (h:gw H (.ptr b o)=true):∃ cs,H[b]? = some (.box cs):=by
 unfold gw at h; cases hb:H[b]? with
 | none=>simp[hb] at h
 | some B=>cases B<;>simp[hb] at h ⊢
theorem yd {b i o:Nat} (h:gw H (.ep b i o)=true):∃ es els,H[b]? = some (.row true es els):=by
 unfold gw at h; cases hb:H[b]? with
 | none=>simp[hb] at h
 | some B=>cases B with
  | row wr _ _=>cases wr<;>simp[hb] at h ⊢
  | _=>simp[hb] at h
theorem Et {b o n:Nat} {cl:Bool} (h:gw H (.sl b o n cl)=true):∃ wr es els,H[b]? = some (.row wr es els):=by
 unfold gw at h; cases hb:H[b]? with
 | none=>simp[hb] at h
 | some B=>cases B<;>simp[hb] at h ⊢
theorem pR {t:TypeId} {x y:A} {i:Nat} {c:Value} (h:fG P t x i H=some y) (hx:VR H g w x c) :
  ∃ d,(Instr.fieldAt t c i).run P w=.ok d w/\VR H g w y d:=by
 unfold fG at h
 replace h:=bu h
 obtain ⟨hok,h⟩:=h
 split at h
 ·rename_i fs hu
  replace h:=bE h
  obtain ⟨f,hf,h⟩:=h
  replace h:=bE h
  obtain ⟨n,hn,h⟩:=h
  replace h:=eE h
  obtain ⟨hn0,h⟩:=h
  have hn0:n≠0:=by simpa using hn0
  have fin:∀ {k off:Nat},c=.pointer (some ⟨k,off,none⟩)->(Instr.fieldAt t c i).run P w=.ok (.pointer (some ⟨k,off+f.offset,none⟩)) w:=fun {k off} hc=>by
   subst hc
   unfold Instr.fieldAt
   rw[Yv,X2 hu w]
   simp[hf,Instr.sureAddr,fieldPlace,eA hn,hn0,Y3]
  split at h
  ·rename_i b o
   cases h
   obtain ⟨cs,hb⟩:=uI hok
   rw[VR,hb] at hx
   obtain ⟨k,hk,rfl⟩:=hx
   exact⟨_,fin rfl,by rw[VR,hb]; exact⟨k,hk,rfl⟩⟩
  ·rename_i b j o
   cases h
   obtain ⟨es,els,hb⟩:=yd hok
   rw[VR,hb] at hx
   obtain ⟨hlt,k,hk,rfl⟩:=hx
   exact⟨_,fin rfl,by rw[VR,hb]; exact⟨hlt,k,hk,by rw[Zz]⟩⟩
  ·cases h
   rw[VR] at hx
   obtain ⟨k,off,ds,rfl,hc,hv⟩:=hx
   exact⟨_,fin rfl,by rw[VR]; exact⟨k,_,_,rfl,hc.drop _,hv.drop _⟩⟩
  ·cases h
 ·cases h
theorem yI {x y:A} {c:Value} {t ty:TypeId} (h:rk P t x H=some y) (hx:VR H g w x c):∃ d,(Builtin.len_ #[t] ty #[c]).run P w=.ok d w/\VR H g w y d:=by
 unfold rk at h
 replace h:=bu h
 obtain ⟨hok,h⟩:=h
 split at h
 ·rename_i s hu
  cases h
  rw[VR] at hx
  subst hx
  exact⟨_,by simp[Builtin.len_,X2 hu,goInt]; rfl,s6⟩
 ·rename_i e els cl hu
  cases h
  rw[VR] at hx
  obtain ⟨a,cap,ds,es,rfl,_⟩:=hx
  exact⟨_,by simp[Builtin.len_,X2 hu,goInt]; rfl,s6⟩
 ·rename_i e b o n cl hu
  cases h
  obtain ⟨wr,es,els,hb⟩:=Et hok
  rw[VR,hb] at hx
  cases wr
  ·obtain ⟨_,a,cap,rfl,_⟩:=hx
   exact⟨_,by simp[Builtin.len_,X2 hu,goInt]; rfl,s6⟩
  ·obtain ⟨_,a,cap,rfl,_⟩:=hx
   exact⟨_,by simp[Builtin.len_,X2 hu,goInt]; rfl,s6⟩
 ·cases h
theorem bw.lens {els:List (List A)} {ds:List (List Value)} (h:bw H g w els ds) {es j n:Nat} (hl:∀ d∈ds,d.length=es) {cs:List A} (hj:els[j]? = some cs) (hn:cs.length=n):es=n:=by
 obtain ⟨d,hd,hv⟩:=h.get hj
 rw[<-hl d (Yh hd),hv.length,hn]
theorem pS (hr:Rel H g w0 w) {t:TypeId} {x i y:A} {c e:Value} (h:dj P t x i H=some y) (hx:VR H g w x c) (hi:VR H g w i e):∃ d,(Instr.indexAt t c e).run P w=.ok d w/\VR H g w y d:=by
 unfold dj at h
 replace h:=bE h
 obtain ⟨j,hj,h⟩:=h
 obtain ⟨ik,n,rfl,hn0,rfl⟩:=ot hj hi
 replace h:=bu h
 obtain ⟨hok,h⟩:=h
 split at h
 ·rename_i el hu
  replace h:=bE h
  obtain ⟨m,hm,h⟩:=h
  have fin:∀ {k off len cap:Nat},c=.slice (some ⟨k,off,none⟩) len cap->n.toNat<len->(Instr.indexAt t c (.int ik n)).run P w=.ok (.pointer (some ⟨k,off+n.toNat*m,none⟩)) w:=fun {k off len cap} hc hlt=>by
   subst hc
   have:n<(len:Int):=o3
   unfold Instr.indexAt
   simp[asIntOf,X2 hu,hn0,this,eA hm,Y3]
  split at h
  ·rename_i els cl
   replace h:=bE h
   obtain ⟨cs,hcs,h⟩:=h
   replace h:=bu h
   obtain ⟨h1,h⟩:=h
   cases h
   have h1:cs.length=m:=by simpa using h1
   rw[VR] at hx
   obtain ⟨a,cap,ds,es,rfl,h2,h3,h4,h5,h6⟩:=hx
   have hlt:n.toNat<els.length:=(XS.1 hcs).1
   obtain ⟨k,off,rfl,hc⟩:=h5 o3
   obtain rfl:=h6.lens h4 hcs h1
   obtain ⟨d,hd,hv⟩:=h6.get hcs
   exact⟨_,fin rfl hlt,by rw[VR]; exact⟨k,_,d,rfl,hc.elem h4 hd,hv⟩⟩
  ·rename_i b o len cl
   replace h:=bu h
   obtain ⟨hlt,h⟩:=h
   have hlt:=XY hlt
   rw[VR] at hx
   split at h
   ·rename_i es els hb
    replace h:=bu h
    obtain ⟨h1,h⟩:=h
    cases h
    obtain rfl:es=m:=by simpa using h1
    rw[hb] at hx
    obtain ⟨h2,a,cap,rfl,h3,h4,h5,_⟩:=hx
    obtain ⟨k,hk,rfl⟩:=h5 o3
    refine⟨_,fin rfl hlt,?_⟩
    rw[VR,hb]
    exact⟨o3,k,hk,by rw[YL]; rfl⟩
   ·rename_i es els hb
    replace h:=bu h
    obtain ⟨h1,h⟩:=h
    obtain rfl:es=m:=by simpa using h1
    rw[hb] at hx
    obtain ⟨h2,a,cap,rfl,h3,h4,h5,_⟩:=hx
    obtain ⟨k,off,rfl,hc⟩:=h5 o3
    cases hcs:els[o+n.toNat]? with
    | none=>rw[hcs] at h; cases h
    | some cs=>
     rw[hcs] at h
     cases h
     obtain ⟨hga,hgl⟩:=hr.blk b _ hb
     obtain ⟨d,hd,hv⟩:=hga.get hcs
     refine⟨_,fin rfl hlt,?_⟩
     rw[VR]
     refine⟨k,_,d,rfl,hc.elem (fun d hd=>hgl d (Yo (Yk hd))) ?_,hv⟩
     rw[Yc,XX hlt,Y0]; exact hd
   ·cases h
  ·cases h
 ·rename_i len el hu
  replace h:=bE h
  obtain ⟨m,hm,h⟩:=h
  replace h:=eE h
  obtain ⟨hlt,h⟩:=h
  have hlt:n.toNat<len:=by simpa using hlt
  have fin:∀ {k off:Nat},c=.pointer (some ⟨k,off,none⟩)->(Instr.indexAt t c (.int ik n)).run P w=.ok (.pointer (some ⟨k,off+n.toNat*m,none⟩)) w:=fun {k off} hc=>by
   subst hc
   have:n<(len:Int):=o3
   unfold Instr.indexAt
   simp[asIntOf,X2 hu,hn0,this,eA hm,Y3,Instr.sureAddr]
  split at h
  ·rename_i b o
   cases h
   obtain ⟨cs,hb⟩:=uI hok
   rw[VR,hb] at hx
   obtain ⟨k,hk,rfl⟩:=hx
   exact⟨_,fin rfl,by rw[VR,hb]; exact⟨k,hk,rfl⟩⟩
  ·rename_i b q o
   obtain ⟨es,els,hb⟩:=yd hok
   simp only[hb] at h
   rw[VR,hb] at hx
   obtain ⟨hq,k,hk,rfl⟩:=hx
   rw[bG] at h
   split at h
   ·rename_i hc
    simp only[XQ,qad,XV] at hc
    obtain ⟨⟨rfl,rfl⟩,hlt2⟩:=hc
    cases h
    exact⟨_,fin rfl,by rw[VR,hb]; exact⟨hlt2,k,hk,by rw[YL]; simp⟩⟩
   ·cases h
    exact⟨_,fin rfl,by rw[VR,hb]; exact⟨hq,k,hk,by rw[Zz]⟩⟩
  ·cases h
   rw[VR] at hx
   obtain ⟨k,off,ds,rfl,hc,hv⟩:=hx
   exact⟨_,fin rfl,by rw[VR]; exact⟨k,_,_,rfl,hc.drop _,hv.drop _⟩⟩
  ·cases h
 ·cases h
theorem yG {t:TypeId} {x y:A} {c:Value} (h:Fb P t x=some y) (hx:VR H g w x c):∃ d,(Instr.makeInterface t c).run P w=.ok d w/\VR H g w y d:=by
 unfold Fb at h
 split at h
 ·cases h
 ·cases h
 ·rename_i d hn hu
  cases h
  refine⟨.iface t c,?_,by rw[VR]; exact⟨c,rfl,hx⟩⟩
  unfold Instr.makeInterface
  rw[Yv,X2 hu w]
  cases d<;>first | rfl | exact absurd rfl (hn _)
theorem xe (op:BinOp) (t:TypeId) (x y:Operand) (a b:Value):eqGuard op t x y a b=eqGuard op t (rep (Ky x)) (rep (Ky y)) a b:=by
 unfold eqGuard
 cases x<;>cases y<;>rfl
theorem pZ {q:TypeId->Value->Value->Option Bool} {d:Nat} (hq:∀ t x y r,q t x y=some r->∀ w,(Op.equalIn d t x y).run P w=.ok r w) (xs ys:Array Value):∀ (fs:List Field) (r:Bool),rG P q xs ys fs=some r->∀ w,(Op.eqFields d xs ys fs).run P w=.ok r w
 | [],r,h,w=>by cases h; simp[Op.eqFields]
 | [f],r,h,w=>by
  unfold rG at h
  rw[bG] at h
  unfold Op.eqFields
  split at h
  ·rename_i hn
   cases h
   have hn:f.name = "_" := by simpa using hn
   simp[hn,Op.eqFields]
  ·rename_i hn
   have hn:f.name ≠ "_" := by simpa using hn
   obtain ⟨a,ha,h⟩:=bE h
   obtain ⟨b,hb,h⟩:=bE h
   rw[XX hn]
   simp only[Yv,ek ha w,ek hb w,hq _ _ _ _ h w,Ym]
   cases r<;>simp[Op.eqFields]
 | f :: g :: fs,r,h,w=>by
  unfold rG at h
  rw[bG] at h
  unfold Op.eqFields
  split at h
  ·rename_i hn
   have hn:f.name = "_" := by simpa using hn
   rw[XW (by simp[hn])]
   exact pZ hq xs ys (g :: fs) r h w
  ·rename_i hn
   have hn:f.name ≠ "_" := by simpa using hn
   obtain ⟨a,ha,h⟩:=bE h
   obtain ⟨b,hb,h⟩:=bE h
   obtain ⟨r1,h1,h⟩:=bE h
   rw[XX hn]
   simp only[Yv,ek ha w,ek hb w,hq _ _ _ _ h1 w,Ym]
   cases hf:rG P q xs ys (g :: fs) with
   | none=>rw[hf] at h; cases h
   | some r2=>
    rw[hf] at h; cases h
    have:=pZ hq xs ys (g :: fs) r2 hf w
    cases r1<;>simp[this]
theorem ui {q:TypeId->Value->Value->Option Bool} {d:Nat} (hq:∀ t x y r,q t x y=some r->∀ w,(Op.equalIn d t x y).run P w=.ok r w) (e:TypeId) (c:Nat) (xs ys:Array Value):∀ (is:List Nat) (r:Bool),uh P q e c xs ys is=some r->∀ w,(Op.eqItems d e c xs ys is).run P w=.ok r w
 | [],r,h,w=>by cases h; simp[Op.eqItems]
 | [i],r,h,w=>by
  unfold uh at h
  unfold Op.eqItems
  obtain ⟨a,ha,h⟩:=bE h
  obtain ⟨b,hb,h⟩:=bE h
  simp only[Yv,ek ha w,ek hb w,hq _ _ _ _ h w,Ym]
  cases r<;>simp[Op.eqItems]
 | i :: j :: is,r,h,w=>by
  unfold uh at h
  unfold Op.eqItems
  obtain ⟨a,ha,h⟩:=bE h
  obtain ⟨b,hb,h⟩:=bE h
  obtain ⟨r1,h1,h⟩:=bE h
  simp only[Yv,ek ha w,ek hb w,hq _ _ _ _ h1 w,Ym]
  cases hf:uh P q e c xs ys (j :: is) with
  | none=>rw[hf] at h; cases h
  | some r2=>
   rw[hf] at h; cases h
   have:=ui hq e c xs ys (j :: is) r2 hf w
   cases r1<;>simp[this]
theorem Ar (D:Nat):∀ (d:Nat) (t:TypeId) (x y:Value) (r:Bool),LP P d t x y=some r->∀ w,(Op.equalIn (D+d) t x y).run P w=.ok r w
 | 0,_,_,_,_,h,_=>by cases h
 | d+1,t,x,y,r,h,w=>by
  have ih:=Ar D d
  unfold LP at h
  split at h
  ·rename_i k0 k a k' b hu
   obtain ⟨hk,h⟩:=bu h
   cases h
   have hk:k=k':=by simpa using hk
   subst hk
   simp[Op.equalIn,X2 hu]
  ·rename_i a b hu
   cases h
   simp[Op.equalIn,X2 hu]
  ·rename_i a b hu
   cases h
   simp[Op.equalIn,X2 hu]
  ·rename_i fs xs ys hu
   obtain ⟨hs,h⟩:=eE h
   have hfs:P.fieldsOf t=fs:=by simp[Program.fieldsOf,hu]
   exact(run_equalIn_struct w (D+d) t xs ys (by rw[hfs]; exact hu) hs).trans (pZ ih xs ys _ r h w)
  ·rename_i n e xs ys hu
   obtain ⟨i,hi,h⟩:=bE h
   exact(run_equalIn_array w (D+d) xs ys hu hi).trans (ui ih e (P.cellsOf e) xs ys _ r h w)
  ·cases h
theorem yB {op:BinOp} {t:TypeId} {x y z:A} {c d:Value} {p q:Operand} (h:jX P op t (Ky p) (Ky q) x y=some z) (hx:VR H g w x c) (hy:VR H g w y d) :
  ∃ e,(do eqGuard op t p q c d; binOp op t c d:Sem Value).run P w=.ok e w/\VR H g w z e:=by
 unfold jX at h
 have eqs:∀ {r:Bool} {xs ys:List A} (op:BinOp),uj P t (.agg xs) (.agg ys)=some r->VR H g w (.agg xs) c->VR H g w (.agg ys) d->∃ cs ds,c=.agg cs/\d=.agg ds/\(eqGuard op t p q c d).run P w=.ok () w/\(Op.equalIn 10000 t c d).run P w=.ok r w:=by
  intro r xs ys op h hx hy
  unfold uj at h
  obtain ⟨hg,h⟩:=eE h
  obtain ⟨a,ha,h⟩:=bE h
  obtain ⟨b,hb,h⟩:=bE h
  obtain rfl:=nk _ ha hx
  obtain rfl:=nk _ hb hy
  rw[VR] at hx hy
  obtain ⟨cs,rfl,_⟩:=hx
  obtain ⟨ds,rfl,_⟩:=hy
  exact⟨cs,ds,rfl,rfl,run_eqGuard_agg w op t p q cs ds hg,Ar 9980 20 t _ _ r h w⟩
 split at h
 ·cases hr:uj P t (.agg _) (.agg _) with
  | none=>rw[hr] at h; cases h
  | some r=>
   rw[hr] at h; cases h
   obtain ⟨cs,ds,rfl,rfl,h1,h2⟩:=eqs .eql hr hx hy
   exact⟨.bool r,by simp only[Yv,h1,Ym,run_eql_struct,h2],s6⟩
 ·cases hr:uj P t (.agg _) (.agg _) with
  | none=>rw[hr] at h; cases h
  | some r=>
   rw[hr] at h; cases h
   obtain ⟨cs,ds,rfl,rfl,h1,h2⟩:=eqs .neq hr hx hy
   exact⟨.bool (!r),by simp only[Yv,h1,Ym,run_neq_struct,h2],s6⟩
 replace h:=bE h
 obtain ⟨a,ha,h⟩:=h
 replace h:=bE h
 obtain ⟨b,hb,h⟩:=h
 obtain rfl:=nk x ha hx
 obtain rfl:=nk y hb hy
 rw[<-xe] at h
 cases he:cJ P (do eqGuard op t p q c d; binOp op t c d:Sem Value) with
 | none=>rw[he] at h; cases h
 | some e=>rw[he] at h; cases h; exact⟨e,ek he w,oE e⟩
theorem Bc {op:UnOp} {x z:A} {c:Value} (h:jj P op x=some z) (hx:VR H g w x c):∃ e,(Op.unary op c).run P w=.ok e w/\VR H g w z e:=by
 unfold jj at h
 replace h:=bE h
 obtain ⟨a,ha,h⟩:=h
 obtain rfl:=nk x ha hx
 cases he:cJ P (Op.unary op c) with
 | none=>rw[he] at h; cases h
 | some e=>rw[he] at h; cases h; exact⟨e,ek he w,oE e⟩
theorem ug (hr:Rel H g w0 w) {x:A} {els:List (List A)} {c:Value} (h:els? H x=some els) (hx:VR H g w x c):(∃ s,c=.string s/\x=.v (.string s))∨∃ a cap ds es,c=.slice a els.length cap/\els.length<=cap/\(∀ d∈ds,d.length=es)/\bw H g w els ds/\(0<els.length->∃ k off,a=some ⟨k,off,none⟩/\w.rangeAt k off ds.flatten):=by
 unfold els? at h
 split at h
 ·cases h
  rw[VR] at hx
  obtain ⟨a,cap,ds,es,rfl,h2,h3,h4,h5,h6⟩:=hx
  exact .inr ⟨a,cap,ds,es,rfl,h2,h4,h6,fun hp=>let ⟨k,off,e1,e2⟩:=h5 hp; ⟨k,off,e1,e2.range⟩⟩
 ·rename_i b o n cl
  split at h
  ·rename_i wr es els' hb
   cases h
   rw[VR,hb] at hx
   cases wr
   ·obtain ⟨h2,a,cap,rfl,h3,h4,h5,_⟩:=hx
    obtain ⟨hga,hgl⟩:=hr.blk b _ hb
    have hlen:((els'.drop o).take n).length=n:=r9
    refine .inr ⟨a,cap,((g.ga b).drop o).take n,es,by rw[hlen],o3,fun d hd=>hgl d (Yo (Yk hd)),(hga.drop o).take n,fun hp=>?_⟩
    obtain ⟨k,off,e1,e2⟩:=h5 o3
    exact⟨k,off,e1,e2.range⟩
   ·obtain ⟨h2,a,cap,rfl,h3,h4,h5,_⟩:=hx
    obtain ⟨ds,hv,hl,hrow⟩:=hr.blk b _ hb
    have hlen:((els'.drop o).take n).length=n:=r9
    refine .inr ⟨a,cap,(ds.drop o).take n,es,by rw[hlen],o3,fun d hd=>hl d (Yo (Yk hd)),(hv.drop o).take n,fun hp=>?_⟩
    obtain ⟨k,hk,rfl⟩:=h5 o3
    obtain ⟨k',arr,ty,hk',ha,hcell⟩:=hrow o3
    rw[hk] at hk'; cases hk'
    have hall:w.rangeAt k 0 ds.flatten:=fun j v hj=>by
     rw[Zh w k (0+j) arr ty (0,0) ha,YB]; exact hcell j v hj
    refine⟨k,_,rfl,fun j v hj=>?_⟩
    have hw:bM [] ⟨fun _=>none,fun _=>[],fun _ _=>True,fun _=>Ii⟩ w k 0 ds.flatten:=fun j v hj=>⟨hall j v hj,trivial,fun b hb=>by cases hb⟩
    have:=(hw.sub hl o n j v hj).1
    rwa [YB] at this
  ·cases h
 ·exact .inl ⟨_,by rw[VR] at hx; exact hx,rfl⟩
 ·cases h
theorem wZ:∀ {els:List (List A)} {l:List UInt8} {ds:List (List Value)},bytesOf els=some l->bw H g w els ds->∃ ns:List Int,ds=ns.map (fun n=>[.int .u8 n])/\l=ns.map (fun n=>n.toNat.toUInt8)
 | [],_,_,h,hv=>by simp only[bytesOf,YE] at h; rw[bw] at hv; exact⟨[],by simp[hv],by simp[<-h]⟩
 | e :: r,l,ds,h,hv=>by
  unfold bytesOf at h
  split at h
  ·rename_i heq; cases heq
  ·rename_i n r' heq
   cases heq
   cases hr:bytesOf r with
   | none=>rw[hr] at h; cases h
   | some l'=>
    rw[hr] at h
    cases h
    rw[bw] at hv
    obtain ⟨d,ds',rfl,h1,h2⟩:=hv
    obtain ⟨ns,rfl,rfl⟩:=wZ hr h2
    rw[bB] at h1
    obtain ⟨x,xs,rfl,h3,h4⟩:=h1
    rw[VR] at h3
    rw[bB] at h4
    exact⟨n :: ns,by simp[h3,h4],r8⟩
  ·cases h
theorem foldl_push (ns:List Int):∀ r:ByteArray,ns.foldl (fun r n=>r.push (UInt8.ofNat n.toNat)) r=⟨r.data++(ns.map (fun n=>n.toNat.toUInt8)).toArray⟩:=by
 induction ns with
 | nil=>intro r; simp
 | cons n ns ih=>
  intro r
  rw[qa5,ih]
  simp[ByteArray.push]
end
section
open Go.RowKit
variable {P:Program} {H:aC} {g:Gh} {w0 w:World}
theorem nv {a:A} {c:Value} {j y:Nat} (h:idx a=some j) (hv:VR H g w a c) (hy:j<=y) (code:BoundsCode):(Instr.sliceBound c y code).run P w=.ok j w:=by
 obtain ⟨k,n,rfl,h0,rfl⟩:=ot h hv
 have:0<=n/\n<=(y:Int):=⟨h0,o3⟩
 simp[Instr.sliceBound,asIntOf,this]
def I0 (H:aC) (g:Gh) (w:World):Option A->Option Value->Prop
 | none,none=>True
 | some a,some c=>VR H g w a c
 | _,_=>False
def RX (cap h:Nat):Option A->Prop
 | none=>h<=cap
 | some m=>idx m=some h/\h<=cap
def sB (cap h:Nat):Option A->Nat
 | none=>cap
 | some _=>h
theorem gF {lo hi:Option A} {clo chi cmx:Option Value} {mx:Option A} {len cap h l:Nat} (isS:Bool) (hlo:I0 H g w lo clo) (hhi:I0 H g w hi chi) (hmx:I0 H g w mx cmx)
  (e1:kD len hi=some h) (e2:kD 0 lo=some l) (hl:l<=h) (hm:RX cap h mx) (hhm:mx=none∨hi.isSome=true) :
  (Instr.sliceBounds isS len cap clo chi cmx).run P w=.ok (l,h,sB cap h mx) w:=by
 have hlo':(clo=none/\l=0)∨∃ v,clo=some v/\∀ code,(Instr.sliceBound v h code).run P w=.ok l w:=by
  cases lo with
  | none=>cases clo with
   | none=>simp only[kD,YE] at e2; exact .inl ⟨rfl,e2.symm⟩
   | some _=>exact hlo.elim
  | some a=>cases clo with
   | none=>exact hlo.elim
   | some v=>exact .inr ⟨v,rfl,fun code=>nv e2 hlo hl code⟩
 clear hlo e2
 unfold Instr.sliceBounds
 cases mx with
 | none=>cases cmx with
  | some _=>exact hmx.elim
  | none=>
   cases hi with
   | none=>cases chi with
    | some _=>exact hhi.elim
    | none=>
     simp only[kD,YE] at e1
     subst e1
     rcases hlo' with ⟨rfl,rfl⟩ | ⟨v,rfl,hv⟩
     ·simp[sB]
     ·simp[Result.andThen,hv,sB]
   | some a=>cases chi with
    | none=>exact hhi.elim
    | some v=>
     have hb:=fun code=>nv (P:=P) e1 hhi (show h<=cap from hm) code
     rcases hlo' with ⟨rfl,rfl⟩ | ⟨v,rfl,hv⟩
     ·simp[Result.andThen,hb,sB]
     ·simp[Result.andThen,hb,hv,sB]
 | some m=>cases cmx with
  | none=>exact hmx.elim
  | some mv=>
   have hb1:=fun code=>nv (P:=P) hm.1 hmx hm.2 code
   cases hi with
   | none=>simp at hhm
   | some a=>cases chi with
    | none=>exact hhi.elim
    | some v=>
     have hb:=fun code=>nv (P:=P) e1 hhi (XP h) code
     rcases hlo' with ⟨rfl,rfl⟩ | ⟨v,rfl,hv⟩
     ·simp[Result.andThen,hb,hb1,sB]
     ·simp[Result.andThen,hb,hb1,hv,sB]
theorem iM {t e:TypeId} (hu:P.underlying t=some (.slice e)) {a:Option Addr} {len cap l h m z:Nat} {clo chi cmx:Option Value} (hb:(Instr.sliceBounds true len cap clo chi cmx).run P w=.ok (l,h,m) w) (hz:cQ P e=some z) :
  (Instr.sliceAt t (.slice a len cap) clo chi cmx).run P w=.ok (.slice (if m=l then a else a.map (·.add (l*z))) (h - l) (m - l)) w:=by
 unfold Instr.sliceAt
 rw[Yv,X2 hu w]
 unfold Instr.slice
 simp[X2 hu,hb,eA hz,Result.andThen]
theorem qC {t e:TypeId} {n:Nat} (hu:P.underlying t=some (.array n e)) {a:Addr} {l h m z:Nat} {clo chi cmx:Option Value} (hb:(Instr.sliceBounds false n n clo chi cmx).run P w=.ok (l,h,m) w) (hz:cQ P e=some z) :
  (Instr.sliceAt t (.pointer (some a)) clo chi cmx).run P w=.ok (.slice (some (if m=l then a else a.add (l*z))) (h - l) (m - l)) w:=by
 unfold Instr.sliceAt
 rw[Yv,X2 hu w]
 simp[Instr.sureAddr,hb,eA hz,Result.andThen]
theorem vj (hr:Rel H g w0 w) {t:TypeId} {x y:A} {lo hi mx:Option A} {c:Value} {clo chi cmx:Option Value} (h:dA P t x lo hi mx H=some y) (hx:VR H g w x c) (hlo:I0 H g w lo clo) (hhi:I0 H g w hi chi) (hmx:I0 H g w mx cmx) (hhm:mx=none∨hi.isSome=true) :
  ∃ d,(Instr.sliceAt t c clo chi cmx).run P w=.ok d w/\VR H g w y d:=by
 unfold dA at h
 split at h
 ·rename_i s hu
  replace h:=eE h
  obtain ⟨hm,h⟩:=h
  obtain rfl:mx=none:=by cases mx<;>simp at hm ⊢
  replace h:=bE h
  obtain ⟨hh,e1,h⟩:=h
  replace h:=bE h
  obtain ⟨l,e2,h⟩:=h
  replace h:=bu h
  obtain ⟨h1,h⟩:=h
  simp only[XQ,XV] at h1
  cases h
  rw[VR] at hx
  subst hx
  have hb:=gF (P:=P) (cap:=s.size) false hlo hhi hmx e1 e2 h1.1 h1.2 (.inl rfl)
  cases cmx with
  | some _=>exact hmx.elim
  | none=>
   refine⟨.string (s.extract l hh),?_,s6⟩
   unfold Instr.sliceAt
   rw[Yv,X2 hu w]
   unfold Instr.slice
   simp[X2 hu,hb,Result.andThen]
 ·rename_i e els cl hu
  replace h:=bE h
  obtain ⟨z,hz,h⟩:=h
  replace h:=bE h
  obtain ⟨hh,e1,h⟩:=h
  replace h:=bE h
  obtain ⟨l,e2,h⟩:=h
  replace h:=bu h
  obtain ⟨h1,h⟩:=h
  simp only[XQ,XV,YP,YV] at h1
  obtain ⟨⟨h1,h2⟩,h3⟩:=h1
  rw[VR] at hx
  obtain ⟨a,cap,ds,es,rfl,g1,g2,g3,g4,g5⟩:=hx
  have hlenn:((els.drop l).take (hh - l)).length=hh - l:=r9
  have fin:∀ (m:Nat) (b:Bool),hh<=m->m<=cap->(b=true->m=hh)->VR H g w (.imm ((els.drop l).take (hh - l)) b) (.slice (if m=l then a else a.map (·.add (l*z))) (hh - l) (m - l)):=fun m b hm1 hm2 hb=>by
   rw[VR]
   refine⟨_,m - l,(ds.drop l).take (hh - l),es,by rw[hlenn],o3,fun hb'=>by rw[hlenn,hb hb'],fun d hd=>g3 d (Yo (Yk hd)),fun hp=>?_,(g5.drop l).take _⟩
   have hll:l<hh:=o3
   obtain ⟨k,off,rfl,hc⟩:=g4 o3
   rw[XW o3]
   refine⟨k,off+l*es,?_,hc.sub g3 l (hh - l)⟩
   rcases h3 with rfl | h3
   ·simp[Y3]
   ·have hlt:l<els.length:=by omega
    rw[XN hlt] at h3
    simp only[YV] at h3
    obtain rfl:=g5.lens g3 (XN hlt) h3
    simp[Y3]
  split at h
  ·cases h
   have hb:=gF (P:=P) (cap:=cap) true hlo hhi hmx e1 e2 h1 (show hh<=cap by omega) (.inl rfl)
   refine⟨_,iM hu hb hz,fin cap _ o3 (XP _) (fun hc=>?_)⟩
   simp only[XQ,YV] at hc
   have:=g2 hc.1; omega
  ·rename_i m
   replace h:=bE h
   obtain ⟨m',hm',h⟩:=h
   replace h:=bu h
   obtain ⟨hmh,h⟩:=h
   obtain rfl:m'=hh:=by simpa using hmh
   cases h
   have hb:=gF (P:=P) (cap:=cap) true hlo hhi hmx e1 e2 h1 ⟨hm',o3⟩ hhm
   exact⟨_,iM hu hb hz,fin m' _ (XP _) o3 (fun _=>rfl)⟩
 ·rename_i e b o n cl hu
  replace h:=bE h
  obtain ⟨z,hz,h⟩:=h
  replace h:=bE h
  obtain ⟨hh,e1,h⟩:=h
  replace h:=bE h
  obtain ⟨l,e2,h⟩:=h
  replace h:=bu h
  obtain ⟨h1,h⟩:=h
  simp only[XQ,XV] at h1
  obtain ⟨⟨h1,h2⟩,h3⟩:=h1
  obtain ⟨wr,els,hb⟩:∃ wr els,H[b]? = some (.row wr z els):=by
   cases hb:H[b]? with
   | none=>simp[hb] at h3
   | some B=>cases B with
    | row wr es els=>simp[hb] at h3; subst h3; exact⟨wr,els,rfl⟩
    | _=>simp[hb] at h3
  rw[VR,hb] at hx
  have main:∀ (a:Option Addr) (cap:Nat),c=.slice a n cap->n<=cap->(cl=true->cap=n)->(∀ (m:Nat) (q:Bool),hh<=m->m<=cap->(q=true->m=hh)->(q=false->m=cap)->VR H g w (.sl b (o+l) (hh - l) q) (.slice (if m=l then a else a.map (·.add (l*z))) (hh - l) (m - l)))->∃ d,(Instr.sliceAt t c clo chi cmx).run P w=.ok d w/\VR H g w y d:=by
   intro a cap hc hn hcl fin
   subst hc
   split at h
   ·cases h
    have hb:=gF (P:=P) (cap:=cap) true hlo hhi hmx e1 e2 h1 (show hh<=cap by omega) (.inl rfl)
    refine⟨_,iM hu hb hz,fin cap _ o3 (XP _) (fun hc=>?_) (fun _=>rfl)⟩
    simp only[XQ,YV] at hc
    have:=hcl hc.1; omega
   ·rename_i m
    replace h:=bE h
    obtain ⟨m',hm',h⟩:=h
    replace h:=bu h
    obtain ⟨hmh,h⟩:=h
    obtain rfl:m'=hh:=by simpa using hmh
    cases h
    have hb:=gF (P:=P) (cap:=cap) true hlo hhi hmx e1 e2 h1 ⟨hm',o3⟩ hhm
    exact⟨_,iM hu hb hz,fin m' _ (XP _) o3 (fun _=>rfl) (fun h=>by cases h)⟩
  cases wr
  ·obtain ⟨g0,a,cap,rfl,g1,g2,g3,g4⟩:=hx
   refine main a cap rfl g1 g2 fun m q hm1 hm2 hq hq2=>?_
   rw[VR,hb]
   refine⟨o3,_,m - l,rfl,o3,fun hc=>by rw[hq hc],fun hp=>?_,fun hc ho hn hlt=>?_⟩
   ·obtain ⟨k,off,rfl,hcell⟩:=g3 o3
    rw[XW o3]
    refine⟨k,off+l*z,by simp[Y3],?_⟩
    have hga:=(hr.blk b _ hb).2
    have:=hcell.sub (fun d hd=>hga d (Yo (Yk hd))) l (hh - l)
    have e3:((((g.ga b).drop o).take n).drop l).take (hh - l)=((g.ga b).drop (o+l)).take (hh - l):=by
     rw[List.drop_take,qaK,List.take_take]; congr 1; omega
    rwa [e3] at this
   ·obtain rfl:l=0:=by omega
    obtain rfl:o=0:=o3
    have hmc:=hq2 hc
    subst hmc
    by_cases hcl:cl=true
    ·have:=g2 hcl; omega
    ·obtain ⟨k,arr,ty,k1,k2,k3,k4⟩:=g4 (by simpa using hcl) rfl o3 o3
     refine⟨k,arr,ty,k1,?_,k3,by simpa using k4⟩
     rw[k2]; split<;>simp[Y3]
  ·obtain ⟨g0,a,cap,rfl,g1,g2,g3,g4⟩:=hx
   refine main a cap rfl g1 g2 fun m q hm1 hm2 hq hq2=>?_
   rw[VR,hb]
   refine⟨o3,_,m - l,rfl,o3,fun hc=>by rw[hq hc],fun hp=>?_,fun hc ho hn hlt=>?_⟩
   ·obtain ⟨k,hk,rfl⟩:=g3 o3
    rw[XW o3]
    exact⟨k,hk,by simp[Y3,YL]⟩
   ·obtain rfl:l=0:=by omega
    obtain rfl:o=0:=o3
    have hmc:=hq2 hc
    subst hmc
    by_cases hcl:cl=true
    ·have:=g2 hcl; omega
    ·obtain ⟨k,arr,ty,k1,k2,k3,k4⟩:=g4 (by simpa using hcl) rfl o3 o3
     refine⟨k,arr,ty,k1,?_,k3,by simpa using k4⟩
     rw[k2]; split<;>simp[Y3]
 ·rename_i n e cs hu
  replace h:=bE h
  obtain ⟨z,hz,h⟩:=h
  replace h:=bE h
  obtain ⟨hh,e1,h⟩:=h
  replace h:=bE h
  obtain ⟨l,e2,h⟩:=h
  replace h:=bu h
  obtain ⟨h1,h⟩:=h
  simp only[XQ,XV,YQ] at h1
  obtain ⟨⟨⟨⟨h1,h2⟩,h3⟩,h4⟩,h5⟩:=h1
  obtain rfl:mx=none:=by cases mx<;>simp at h4 ⊢
  cases h
  rw[VR] at hx
  obtain ⟨k,off,ds,rfl,hc,hv⟩:=hx
  have hb:(Instr.sliceBounds false n n clo chi cmx).run P w=.ok (l,hh,n) w:=gF (P:=P) (cap:=n) false hlo hhi hmx e1 e2 h1 h2 (.inl rfl)
  cases cmx with
  | some _=>exact hmx.elim
  | none=>
   refine⟨_,qC hu hb hz,?_⟩
   have hdl:=hv.length
   have htl:(ds.take (n*z)).length=n*z:=y6
   have htc:(cs.take (n*z)).length=n*z:=y6
   have hck:∀ {α:Type} (q:Nat) (xs:List α),q*z<=xs.length->chunk z q xs=chunk z q (xs.take (q*z)):=by
    intro α q
    induction q with
    | zero=>intro xs _; rfl
    | succ q ih=>
     intro xs hq
     rw[YL,qa7] at hq
     rw[chunk,chunk,ih (xs.drop z) r9,List.take_take,List.drop_take,Zm (by rw[YL]; omega)]
     congr 3
     rw[YL]; omega
   have hlenn:(((chunk z n cs).drop l).take (hh - l)).length=hh - l:=by simp[gX]; omega
   rw[VR]
   refine⟨_,n - l,((chunk z n (ds.take (n*z))).drop l).take (hh - l),z,by rw[hlenn],o3,fun hb'=>by rw[hlenn]; have:=(qad ▸ hb':hh=n); omega,fun d hd=>jO htl d (Yo (Yk hd)),fun hp=>?_,?_⟩
   ·rw[hlenn] at hp
    rw[XW o3]
    refine⟨k,off+l*z,by simp[Y3],?_⟩
    refine bM.sub (es:=z) ?_ (jO htl) l (hh - l)
    rw[lV htl]
    exact hc.take _
   ·rw[hck n cs h3]
    exact(((hv.take (n*z)).chunk n).drop l).take _
 ·rename_i n e b q o hu
  replace h:=bE h
  obtain ⟨z,hz,h⟩:=h
  replace h:=bE h
  obtain ⟨hh,e1,h⟩:=h
  replace h:=bE h
  obtain ⟨l,e2,h⟩:=h
  replace h:=bu h
  obtain ⟨h1,h⟩:=h
  simp only[XQ,XV,YQ] at h1
  obtain ⟨⟨⟨⟨h1,h2⟩,h4⟩,h5⟩,h6⟩:=h1
  obtain rfl:o=0:=by simpa [qad] using h5
  obtain rfl:mx=none:=by cases mx<;>simp at h4 ⊢
  cases h
  obtain ⟨els,hbk,hq⟩:∃ els,H[b]? = some (.row true z els)/\q+n<=els.length:=by
   split at h6
   ·rename_i es els hbk
    simp only[XQ,XV,qad] at h6
    obtain ⟨rfl,h6⟩:=h6
    exact⟨els,hbk,h6⟩
   ·cases h6
  rw[VR,hbk] at hx
  obtain ⟨hqe,k,hk,rfl⟩:=hx
  have hb:(Instr.sliceBounds false n n clo chi cmx).run P w=.ok (l,hh,n) w:=gF (P:=P) (cap:=n) false hlo hhi hmx e1 e2 h1 h2 (.inl rfl)
  cases cmx with
  | some _=>exact hmx.elim
  | none=>
   refine⟨_,qC hu hb hz,?_⟩
   rw[VR,hbk]
   refine⟨o3,_,n - l,rfl,o3,fun hb'=>by have:=(qad ▸ hb':hh=n); omega,fun hp=>⟨k,hk,?_⟩,fun hb' _ hn _=>by
    have hne:hh≠n:=fun q=>by rw[q,qaC] at hb'; cases hb'
    omega⟩
   rw[XW o3]
   simp[Y3,YL]
 ·cases h
theorem m5 (hr:Rel H g w0 w) {w':World} {arr:Array Value} {ty:TypeId} {fr:Nat×Nat} (ha:w'.heap[w.heap.size]? = some (.cells arr ty fr)) {ds:List Value} (hd:∀ (j:Nat) v,ds[j]? = some v->arr[j]? = some v):bM H g w' w.heap.size 0 ds:=fun j v hj=>by
 refine⟨?_,hr.out _ _ (XP _),fun b hb=>absurd (hr.dom b _ hb).2.2 (ZI _)⟩
 rw[YB,Zh w' _ j arr ty fr ha]
 exact hd j v hj
theorem Bj {x:A} {els:List (List A)} (h:xc H x=some els):els? H x=some els/\∀ s,x≠.v (.string s):=by
 cases x<;>simp only[xc] at h<;>first | exact⟨h,r8⟩ | cases h
theorem mZ {α β:Type} (f:α->β) (l:List α):(l.map fun n=>[f n]).flatten=l.map f:=by
 induction l with
 | nil=>rfl
 | cons n l ih=>simp[ih]
theorem ri (hr:Rel H g w0 w) {s t:TypeId} {x y:A} {c:Value} (h:bt P s t x H=some y) (hx:VR H g w x c):∃ d w',(convert s t c).run P w=.ok d w'/\Below w.heap.size w w'/\VR H g w' y d:=by
 unfold bt at h
 split at h
 ·rename_i e hs hd
  split at h
  ·rename_i he hz
   replace h:=bE h
   obtain ⟨els,h1,h⟩:=h
   cases hb:bytesOf els with
   | none=>rw[hb] at h; cases h
   | some l=>
    rw[hb] at h
    cases h
    refine⟨.string ⟨l.toArray⟩,w,?_,Below.refl _ _,s6⟩
    have h1':=Bj h1
    rcases ug hr h1'.1 hx with ⟨s',rfl,rfl⟩ | ⟨a,cap,ds,es,rfl,h2,h3,h4,h5⟩
    ·exact absurd rfl (h1'.2 s')
    ·obtain ⟨ns,rfl,rfl⟩:=wZ hb h4
     have hl:els.length=ns.length:=by have:=h4.length; simpa using this.symm
     simp only[convert,Yv,X2 hs,X2 hd,X2 he,Ym]
     cases a with
     | none=>
      have hn:ns=[]:=by
       by_cases hp:0<els.length
       ·obtain ⟨k,off,e1,_⟩:=h5 hp; cases e1
       ·exact Ye o3
      subst hn
      simp[Conv.bytesToString]
      rfl
     | some a=>
      have hl2:(loadCells a els.length).run P w=.ok (ns.map (Value.int .u8)).toArray w:=by
       by_cases hp:0<els.length
       ·obtain ⟨k,off,e1,hc⟩:=h5 hp
        cases e1
        rw[mZ] at hc
        have:=qaN (P:=P) w ⟨k,off,none⟩ (ns.map (Value.int .u8)) (fun j v hv=>by rw[Y3]; exact hc j v hv)
        rwa [Zx,<-hl] at this
       ·have hn:ns=[]:=Ye o3
        subst hn
        rw[hl]
        rfl
      rw[run_bytesToString w a _ cap ns hl2,foldl_push]
      simp
  ·cases h
 ·rename_i e s' hs hd
  split at h
  ·rename_i he
   cases h
   rw[VR] at hx
   subst hx
   have hr':=run_bytes_of_string (P:=P) w s t e s' hs hd he
   have hb:Below w.heap.size w (w.drew.alloc (.cells (bytesRow s' (grownCap w s'.size 0 e)) e ((bytesRow s' (grownCap w s'.size 0 e)).size,(bytesRow s' (grownCap w s'.size 0 e)).size+1))):=((Below.refl _ w).drew).alloc (XP _) _
   refine⟨_,_,hr',hb,?_⟩
   rw[VR]
   have hlen:(s'.data.toList.map fun c=>[A.v (.int .u8 c.toNat)]).length=s'.size:=by rw[Zx,ZW]; rfl
   refine⟨_,_,s'.data.toList.map fun c=>[.int .u8 c.toNat],1,by rw[hlen],by rw[hlen]; exact qaL w _ _ _,fun h=>(by cases h),r8,fun _=>⟨w.heap.size,0,rfl,?_⟩,?_⟩
   ·refine m5 hr (Zi w.drew _) fun j v hj=>?_
    rw[mZ] at hj
    unfold bytesRow
    rw[Zg]
    ·simpa using hj
    ·have:=(XS.1 hj).1
     simpa using this
   ·refine cR.2 ⟨r8,fun i a d ha hd=>?_⟩
    simp only[Yq,Yu] at ha hd
    obtain ⟨b,hb,rfl⟩:=ha
    obtain ⟨b',hb',rfl⟩:=hd
    rw[hb] at hb'; cases hb'
    rw[bB]; exact⟨_,[],rfl,s6,u3⟩
  ·cases h
 ·replace h:=bE h
  obtain ⟨v,hv,h⟩:=h
  obtain rfl:=nk _ hv hx
  cases he:cJ P (convert s t c) with
  | none=>rw[he] at h; cases h
  | some e=>rw[he] at h; cases h; exact⟨e,w,ek he w,Below.refl _ _,oE e⟩
theorem sS (vs:List Value):∀ (off:Nat) (cs:Array Value),off+vs.length<=cs.size->((vs.zipIdx 0).foldl (fun cs p=>cs.setIfInBounds (off+p.2) p.1) cs).toList=bz cs.toList off vs:=by
 have gen:∀ (vs:List Value) (n off:Nat) (cs:Array Value),off+n+vs.length<=cs.size->((vs.zipIdx n).foldl (fun cs p=>cs.setIfInBounds (off+p.2) p.1) cs).toList=bz cs.toList (off+n) vs:=by
  intro vs
  induction vs with
  | nil=>intro n off cs _; simp[bz]
  | cons v vs ih=>
   intro n off cs h
   rw[List.zipIdx_cons,qa5,ih (n+1) off _ (by simp at h ⊢; omega)]
   simp only[bz,Array.toList_setIfInBounds,X8]
   have hlt:off+n<cs.toList.length:=by simp at h ⊢; omega
   rw[show off+(n+1)=off+n+1 by omega,List.take_succ_eq_append_getElem (by simp; simp at hlt; omega)]
   simp only[List.getElem_set_self]
   rw[List.take_set_of_le (XP _),Yx,Yx]
   rw[List.drop_set_of_lt o3]
   have e:off+n+1+vs.length=off+n+(vs.length+1):=o3
   rw[e]
   simp
 intro off cs h
 exact gen vs 0 off cs (by simpa using h)
theorem Aw {place:Nat->Option (Nat×Nat)}:∀ {parts:List (Nat×A)} {vparts:List (Nat×Value)} {cs ds:List A} {arr:Array Value},uq place cs parts=some ds->bB H g w cs arr.toList ->
  (∀ i:Nat,(∀ p,parts[i]? = some p->∃ q,vparts[i]? = some q/\q.1=p.1/\VR H g w p.2 q.2))->vparts.length=parts.length->∃ arr',Instr.fill place arr vparts=some arr'/\bB H g w ds arr'.toList
 | [],vparts,cs,ds,arr,h,hv,hp,hl=>by
  simp only[uq,YE] at h
  subst h
  have:vparts=[]:=Ye (by simpa using hl)
  subst this
  exact⟨arr,rfl,hv⟩
 | (i,x) :: r,vparts,cs,ds,arr,h,hv,hp,hl=>by
  cases vparts with
  | nil=>simp at hl
  | cons q vr=>
   obtain ⟨q',hq,e1,hx⟩:=hp 0 (i,x) rfl
   simp at hq
   subst hq
   simp only[uq] at h
   replace h:=bE h
   obtain ⟨p,hpl,h⟩:=h
   replace h:=bE h
   obtain ⟨xs,hxs,h⟩:=h
   replace h:=bu h
   obtain ⟨hc,h⟩:=h
   simp only[XQ,YV,XV] at hc
   obtain ⟨hvs,_,_⟩:=mQ hxs hx
   have hvl:=hvs.length
   have hal:=hv.length
   obtain ⟨qi,qv⟩:=q
   simp only at e1
   subst e1
   have hsz:qv.cells.size=p.2:=by simpa [hc.1] using hvl
   have hfit:p.1+qv.cells.size<=arr.size:=by simp at hal; omega
   have hset:(qv.cells.zipIdx.foldl (fun cs (c,j)=>cs.setIfInBounds (p.1+j) c) arr).toList=bz arr.toList p.1 qv.cells.toList:=by
    have:=sS qv.cells.toList p.1 arr (by simpa using hfit)
    rw[<-this,<-ZY]
    simp
   obtain ⟨arr',h1,h2⟩:=Aw (place:=place) (arr:=qv.cells.zipIdx.foldl (fun cs (c,j)=>cs.setIfInBounds (p.1+j) c) arr) (vparts:=vr) h (by rw[hset]; exact hv.bz hvs p.1) (fun j p' hj=>by have:=hp (j+1) p' (by simpa using hj); simpa using this) (by simpa using hl)
   refine⟨arr',?_,h2⟩
   unfold Instr.fill
   rw[hpl]
   obtain ⟨p1,p2⟩:=p
   simp only at hsz hfit ⊢
   rw[XW (by simp[hsz]; omega)]
   exact h1
theorem fP {t:TypeId} {z:List A} (h:gR P t=some z):∃ i v,P.info? t=some i/\i.zero=some v/\z=v.cells.toList.map zx:=by
 unfold gR at h
 cases hi:P.info? t with
 | none=>rw[hi] at h; cases h
 | some i=>
  rw[hi] at h
  simp only[XM] at h
  cases hz:i.zero with
  | none=>rw[hz] at h; cases h
  | some v=>rw[hz] at h; cases h; exact⟨i,v,rfl,hz,rfl⟩
def mK (H:aC) (g:Gh) (w:World) (parts:List (Nat×A)) (vparts:List (Nat×Value)):Prop:=vparts.length=parts.length/\∀ (i:Nat) p,parts[i]? = some p->∃ q,vparts[i]? = some q/\q.1=p.1/\VR H g w p.2 q.2
theorem vg {t:TypeId} {parts:List (Nat×A)} {vparts:Array (Nat×Value)} {y:A} (h:vf P t parts=some y) (hp:mK H g w parts vparts.toList):∃ d,(Instr.build t vparts).run P w=.ok d w/\VR H g w y d:=by
 unfold vf at h
 replace h:=bE h
 obtain ⟨z,hz,h⟩:=h
 replace h:=bE h
 obtain ⟨place,hpl,h⟩:=h
 obtain ⟨it,v,hi,hv,rfl⟩:=fP hz
 cases hf:uq place (v.cells.toList.map zx) parts with
 | none=>rw[hf] at h; cases h
 | some ds=>
  rw[hf] at h
  cases h
  obtain ⟨arr,h1,h2⟩:=Aw (arr:=v.cells) hf (jz _) (fun i p hi=>hp.2 i p hi) hp.1
  refine⟨.agg arr,run_build w t vparts arr ?_,by rw[VR]; exact⟨arr,rfl,h2⟩⟩
  unfold AP at hpl
  unfold Program.built
  rw[hi]
  split at hpl
  ·rename_i fs hu
   rw[hu]
   cases hm:(fs.toList.mapM fun f=>(P.info? f.type).map fun i=>(f.offset,i.size)) with
   | none=>rw[hm] at hpl; cases hpl
   | some places=>
    rw[hm] at hpl
    cases hpl
    simp only[hv,hm]
    exact h1
  ·rename_i n e hu
   rw[hu]
   cases hie:P.info? e with
   | none=>rw[hie] at hpl; cases hpl
   | some ie=>
    rw[hie] at hpl
    cases hpl
    simp only[hv,hie]
    exact h1
  ·cases hpl
end
section
open Go.RowKit
variable {P:Program} {H:aC} {g:Gh} {w0 w:World}
def Gh.put (g:Gh) (b:Nat) (k:Option Nat) (γ:List (List Value)):Gh:={ g with mu:=fun c=>if c=b then k else g.mu c,ga:=fun c=>if c=b then γ else g.ga c }
theorem Gh.bJ (g:Gh) (b:Nat) (k:Option Nat) (γ:List (List Value)):(g.put b k γ).mu b=k:=by simp[Gh.put]
theorem Gh.hY (g:Gh) (b:Nat) (k:Option Nat) (γ:List (List Value)):(g.put b k γ).ga b=γ:=by simp[Gh.put]
theorem Gh.aI (g:Gh) {b c:Nat} (k:Option Nat) (γ:List (List Value)) (h:c≠b):(g.put b k γ).mu c=g.mu c:=by simp[Gh.put,h]
theorem Gh.eB (g:Gh) {b c:Nat} (k:Option Nat) (γ:List (List Value)) (h:c≠b):(g.put b k γ).ga c=g.ga c:=by simp[Gh.put,h]
def Step (H:aC) (g:Gh) (w0 w:World) (lo:Nat) (r:Result Value) (y:A) (H':aC):Prop:=
 ∃ d w' g',r=.ok d w'/\Rel H' g' w0 w'/\Ext H g w H' g' w'/\VR H' g' w' y d/\H.length<=H'.length/\(∀ b,b<lo->b<H.length->H'[b]? = H[b]?)/\g'.S=g.S
theorem dS {k:Nat} {o:Obj} {w w':World} (hb:Below w.heap.size w w') (h:w.heap[k]? = some o):w'.heap[k]? = some o:=(hb.block k (XU.1 h).1).trans h
theorem Rel.push (hr:Rel H g w0 w) {w':World} (hb:Below w.heap.size w w') (B:aO) (ko:Option Nat) (γ:List (List Value)) (hk:∀ k,ko=some k->k=w.heap.size/\w.heap.size<w'.heap.size)
  (hB:Ext H g w (H++[B]) (g.put H.length ko γ) w'->lP (H++[B]) (g.put H.length ko γ) w' H.length B):Rel (H++[B]) (g.put H.length ko γ) w0 w'/\Ext H g w (H++[B]) (g.put H.length ko γ) w':=by
 have old:∀ {b k},(g.put H.length ko γ).mu b=some k->k<w.heap.size->b≠H.length/\g.mu b=some k:=fun {b k} h hlt=>by
  by_cases e:b=H.length
  ·subst e; rw[Gh.bJ] at h; have:=(hk k h).1; omega
  ·exact⟨e,by rwa [Gh.aI _ _ _ e] at h⟩
 have he:Ext H g w (H++[B]) (g.put H.length ko γ) w':=by
  refine⟨fun k o v hs hc=>?_,fun b B' hB'=>⟨B',?_,?_⟩,fun k o ho=>(hb.block k (XU.1 ho).1).trans ho,hb.size,fun k arr cl hs hm=>?_,fun k hk' _=>hb.block k hk',fun b k h=>?_⟩
  rotate_right 1
  ·by_cases e:b=H.length
   ·subst e; rw[Gh.bJ] at h; exact .inr (qam (hk k h).1.symm)
   ·exact .inl ⟨b,by rwa [Gh.aI _ _ _ e] at h⟩
  ·have hlt:=Zu w ⟨k,o,none⟩ hc
   refine⟨(hb.cell (p:=⟨k,o,none⟩) hlt).trans hc,hs.1,fun b hbk=>?_⟩
   obtain ⟨_,h2⟩:=old hbk hlt
   obtain ⟨es,els,h3,h4⟩:=hs.2 b h2
   exact⟨es,els,by rw[X6 (XS.1 h3).1]; exact h3,h4⟩
  ·rw[X6 (XS.1 hB').1]; exact hB'
  ·have hne:b≠H.length:=by have:=(XS.1 hB').1; omega
   cases B' with
   | box _=>exact Gh.aI _ _ _ hne
   | row wr es els=>cases wr with
    | true=>exact⟨rfl,rfl,Gh.aI _ _ _ hne,fun k arr ty hk' ha=>⟨arr,dS hb ha,XP _⟩⟩
    | false=>exact⟨rfl,⟨[],by rw[Gh.eB _ _ _ hne]; simp⟩,(hr.blk b _ hB').len,XP _,fun _=>⟨Gh.aI _ _ _ hne,fun k arr ty hk' ha=>⟨arr,dS hb ha,XP _⟩⟩⟩
   | rng _=>exact⟨Gh.aI _ _ _ hne,rfl⟩
   | mp _ _ _=>exact Gh.aI _ _ _ hne
   | dead=>trivial
   | hole=>trivial
  ·have hlt:=(XU.1 hm).1
   refine⟨(hb.block k hlt).trans hm,hs.1,fun b hbk=>?_⟩
   obtain ⟨_,h2⟩:=old hbk hlt
   obtain ⟨es,els,h3,h4⟩:=hs.2 b h2
   exact⟨es,els,by rw[X6 (XS.1 h3).1]; exact h3,h4⟩
 refine⟨⟨hr.below.trans (hb.mono hr.below.size),fun b k hbk=>?_,fun b c k h1 h2=>?_,hr.xW he,hr.wa he,fun b B' hB'=>?_⟩,he⟩
 ·by_cases e:b=H.length
  ·subst e; rw[Gh.bJ] at hbk
   obtain ⟨rfl,h2⟩:=hk k hbk
   exact⟨r8,hr.below.size,h2⟩
  ·rw[Gh.aI _ _ _ e] at hbk
   obtain ⟨h1,h2,h3⟩:=hr.dom b k hbk
   exact⟨r9,h2,X5 h3 hb.size⟩
 ·by_cases e:b=H.length
  ·by_cases e':c=H.length
   ·rw[e,e']
   ·subst e
    rw[Gh.bJ] at h1
    rw[Gh.aI _ _ _ e'] at h2
    have:=(hk k h1).1; have:=(hr.dom c k h2).2.2; omega
  ·by_cases e':c=H.length
   ·subst e'
    rw[Gh.bJ] at h2
    rw[Gh.aI _ _ _ e] at h1
    have:=(hk k h2).1; have:=(hr.dom b k h1).2.2; omega
   ·rw[Gh.aI _ _ _ e] at h1
    rw[Gh.aI _ _ _ e'] at h2
    exact hr.inj b c k h1 h2
 ·by_cases e:b=H.length
  ·subst e
   rw[Yr (XP _)] at hB'
   simp at hB'
   subst hB'
   exact hB he
  ·have hlt:b<H.length:=by have:=(XS.1 hB').1; simp at this; omega
   rw[X6 hlt] at hB'
   have h:=hr.blk b B' hB'
   cases B' with
   | box cs=>obtain ⟨k,arr,ty,h1,h2,h3⟩:=h; exact⟨k,arr,ty,(Gh.aI _ _ _ e).trans h1,dS hb h2,bB.ext he _ _ h3⟩
   | row wr es els=>cases wr with
    | true=>
     obtain ⟨ds,h1,h2,h3⟩:=h
     exact⟨ds,bw.ext he _ _ h1,h2,fun hp=>let ⟨k,arr,ty,e1,e2,e3⟩:=h3 hp; ⟨k,arr,ty,(Gh.aI _ _ _ e).trans e1,dS hb e2,e3⟩⟩
    | false=>
     obtain ⟨h1,h2⟩:=h
     refine⟨?_,?_⟩
     ·rw[Gh.eB _ _ _ e]; exact bw.ext he _ _ h1
     ·rw[Gh.eB _ _ _ e]; exact h2
   | rng st=>obtain ⟨k,h1,h2⟩:=h; exact⟨k,(Gh.aI _ _ _ e).trans h1,dS hb h2⟩
   | mp _ _ _=>obtain ⟨k,arr,cl,h1,h2,h3,h4⟩:=h; exact⟨k,arr,cl,(Gh.aI _ _ _ e).trans h1,dS hb h2,h3,bB.ext he _ _ h4⟩
   | dead=>exact(Gh.aI _ _ _ e).trans h
   | hole=>exact(Gh.aI _ _ _ e).trans h
theorem ew (H:aC) (B:aO):(H++[B])[H.length]? = some B:=r8
theorem iK (H:aC) (B:aO) (lo:Nat):∀ b,b<lo->b<H.length->(H++[B])[b]? = H[b]?:=fun _ _ h=>X6 h
theorem yD (hr:Rel H g w0 w) {t:TypeId} {x y:A} {H':aC} {c:Value} (lo:Nat) (h:yC x H=some (y,H')) (hx:VR H g w x c):Step H g w0 w lo ((Instr.box t c).run P w) y H':=by
 unfold yC at h
 cases hc:x.cells? with
 | none=>rw[hc] at h; cases h
 | some cs=>
  rw[hc] at h
  cases h
  obtain ⟨hv,_,_⟩:=mQ hc hx
  have hb:Below w.heap.size w (w.alloc (.cells c.cells t)):=(Below.refl _ w).alloc (XP _) _
  obtain ⟨h1,h2⟩:=hr.push hb (.box cs) (some w.heap.size) [] (fun k hk=>by cases hk; exact⟨rfl,r8⟩) (fun he=>⟨w.heap.size,c.cells,t,Gh.bJ _ _ _ _,Zi w _,bB.ext he _ _ hv⟩)
  refine⟨.pointer (some ⟨w.heap.size,0,none⟩),_,_,by simp[Instr.box,newVar,newRow,newObj]; rfl,h1,h2,?_,r8,iK _ _ _,rfl⟩
  rw[VR,ew]; exact⟨w.heap.size,Gh.bJ _ _ _ _,rfl⟩
theorem vd (hr:Rel H g w0 w) {t:TypeId} {y:A} {H':aC} (lo:Nat) (h:lQ P t H=some (y,H')):Step H g w0 w lo ((Instr.alloc t true (.tuple #[])).run P w) y H':=by
 unfold lQ at h
 cases hz:gR P t with
 | none=>rw[hz] at h; cases h
 | some cs=>
  rw[hz] at h
  cases h
  obtain ⟨i,z,hi,hzz,rfl⟩:=fP hz
  have hb:Below w.heap.size w (w.alloc (.cells z.cells t)):=(Below.refl _ w).alloc (XP _) _
  obtain ⟨h1,h2⟩:=hr.push hb (.box (z.cells.toList.map zx)) (some w.heap.size) [] (fun k hk=>by cases hk; exact⟨rfl,r8⟩) (fun he=>⟨w.heap.size,z.cells,t,Gh.bJ _ _ _ _,Zi w _,jz _⟩)
  refine⟨.pointer (some ⟨w.heap.size,0,none⟩),_,_,by simp[Instr.alloc,zeroValue,typeInfo,hi,hzz,newVar,newRow,newObj]; rfl,h1,h2,?_,r8,iK _ _ _,rfl⟩
  rw[VR,ew]; exact⟨w.heap.size,Gh.bJ _ _ _ _,rfl⟩
theorem sO (hr:Rel H g w0 w) {t:TypeId} {cs:List A} {y:A} {H':aC} {arr:Array Value} {ty:TypeId} (h:rowOf P t cs H=some (y,H')) (hv:bB H g w cs arr.toList) :
  Rel H' (g.put H.length (some w.heap.size) []) w0 (w.alloc (.cells arr ty))/\Ext H g w H' (g.put H.length (some w.heap.size) []) (w.alloc (.cells arr ty))/\VR H' (g.put H.length (some w.heap.size) []) (w.alloc (.cells arr ty)) y (.pointer (some ⟨w.heap.size,0,none⟩))/\H.length<=H'.length/\∀ lo b,b<lo->b<H.length->H'[b]? = H[b]?:=by
 unfold rowOf at h
 split at h
 ·rename_i n e hu
  replace h:=bE h
  obtain ⟨es,hes,h⟩:=h
  replace h:=eE h
  obtain ⟨h0,h⟩:=h
  cases h
  simp only[YK,Zo,qad] at h0
  obtain ⟨⟨h1,h2⟩,h3⟩:=h0
  have h2:n≠0:=fun e=>by rw[e] at h2; cases h2
  have hb:Below w.heap.size w (w.alloc (.cells arr ty)):=(Below.refl _ w).alloc (XP _) _
  have hal:arr.toList.length=n*es:=by rw[hv.length,h3]
  obtain ⟨r1,r2⟩:=hr.push hb (.row true es (chunk es n cs)) (some w.heap.size) [] (fun k hk=>by cases hk; exact⟨rfl,r8⟩) (fun he=>⟨chunk es n arr.toList,(bB.ext he _ _ hv).chunk n,jO hal,fun _=>⟨w.heap.size,arr,ty,Gh.bJ _ _ _ _,Zi w _,fun j v hj=>by
   rw[lV hal] at hj; simpa using hj⟩⟩)
  refine⟨r1,r2,?_,r8,fun lo=>iK _ _ _⟩
  rw[VR,ew]
  exact⟨by rw[gX]; omega,w.heap.size,Gh.bJ _ _ _ _,r8⟩
 ·cases h
theorem wP (hr:Rel H g w0 w) {t:TypeId} {x y:A} {H':aC} {c:Value} (lo:Nat) (h:ua P t x H=some (y,H')) (hx:VR H g w x c):Step H g w0 w lo ((Instr.box t c).run P w) y H':=by
 unfold ua at h
 cases hc:x.cells? with
 | none=>rw[hc] at h; cases h
 | some cs=>
  rw[hc] at h
  obtain ⟨hv,_,_⟩:=mQ hc hx
  obtain ⟨r1,r2,r3,r4,r5⟩:=sO (P:=P) hr (ty:=t) h hv
  exact⟨.pointer (some ⟨w.heap.size,0,none⟩),_,_,by simp[Instr.box,newVar,newRow,newObj]; rfl,r1,r2,r3,r4,r5 lo,rfl⟩
theorem tt (hr:Rel H g w0 w) {t:TypeId} {y:A} {H':aC} (lo:Nat) (h:jZ P t H=some (y,H')):Step H g w0 w lo ((Instr.alloc t true (.tuple #[])).run P w) y H':=by
 unfold jZ at h
 cases hz:gR P t with
 | none=>rw[hz] at h; cases h
 | some cs=>
  rw[hz] at h
  obtain ⟨i,z,hi,hzz,rfl⟩:=fP hz
  obtain ⟨r1,r2,r3,r4,r5⟩:=sO (P:=P) hr (arr:=z.cells) (ty:=t) h (jz _)
  exact⟨.pointer (some ⟨w.heap.size,0,none⟩),_,_,by simp[Instr.alloc,zeroValue,typeInfo,hi,hzz,newVar,newRow,newObj]; rfl,r1,r2,r3,r4,r5 lo,rfl⟩
theorem qf {α:Type} (arr:Array α) (o:Nat) (xs:List α):arr.size<=(bz arr.toList o xs).toArray.size:=by
 unfold bz
 simp
 omega
theorem Rel.write (hr:Rel H g w0 w) {b k:Nat} {arr arr':Array Value} {ty:TypeId} (hk:g.mu b=some k) (ha:w.heap[k]? = some (.cells arr ty (0,0))) {B B':aO} (hB:H[b]? = some B)
  (hkind:(∃ cs cs',B=.box cs/\B'=.box cs')∨∃ es els els',B=.row true es els/\B'=.row true es els'/\els'.length=els.length/\arr.size<=arr'.size)
  (hB':Ext H g w (H.set b B') g (w.setRow k arr')->(w.setRow k arr').heap[k]? = some (.cells arr' ty (0,0))->lP (H.set b B') g (w.setRow k arr') b B'):Rel (H.set b B') g w0 (w.setRow k arr')/\Ext H g w (H.set b B') g (w.setRow k arr'):=by
 have hlt:b<H.length:=(XS.1 hB).1
 have hnew:(w.setRow k arr').heap[k]? = some (.cells arr' ty (0,0)):=setRow_heap w k arr arr' ty (0,0) ha
 have hoth:∀ j,j≠k->(w.setRow k arr').heap[j]? = w.heap[j]?:=fun j hj=>setRow_other w k j arr' hj
 have hnot:∀ {o:Nat},¬ eF H g k o:=fun {o} hs=>by
  obtain ⟨es,els,h1,_⟩:=hs.2 b hk
  rw[hB] at h1
  rcases hkind with ⟨cs,cs',rfl,_⟩ | ⟨es',els1,els',rfl,_⟩<;>cases h1
 have he:Ext H g w (H.set b B') g (w.setRow k arr'):=by
  refine⟨fun k' o v hs hc=>?_,fun c C hC=>?_,fun k' o ho=>(hoth k' (fun e=>by subst e; rw[ha] at ho; cases ho)).trans ho,by simp[World.setRow],fun k' marr cl hs hm=>?_,fun k' _ hn=>hoth k' (fun e=>hn b (e ▸ hk)),fun c k' h=>.inl ⟨c,h⟩⟩
  ·have hne:k'≠k:=fun e=>hnot (e ▸ hs)
   refine⟨(Zr (a:=⟨k',o,none⟩) (hoth k' hne)).trans hc,hs.1,fun c hck=>?_⟩
   obtain ⟨es,els,h1,h2⟩:=hs.2 c hck
   have hcb:c≠b:=fun e=>by subst e; rw[hk] at hck; exact hne (by cases hck; rfl)
   exact⟨es,els,by rw[X4 (YS hcb)]; exact h1,h2⟩
  ·by_cases e:c=b
   ·subst e
    rw[hB] at hC; cases hC
    refine⟨B',by rw[Yf hlt],?_⟩
    rcases hkind with ⟨cs,cs',rfl,rfl⟩ | ⟨es,els,els',rfl,rfl,hl,hsz'⟩
    ·rfl
    ·exact⟨rfl,hl,rfl,fun k' arr1 ty1 hk1 ha1=>by rw[hk] at hk1; cases hk1; rw[ha] at ha1; cases ha1; exact⟨arr',hnew,hsz'⟩⟩
   ·refine⟨C,by rw[X4 (YS e)]; exact hC,?_⟩
    cases C with
    | box _=>rfl
    | row wr es els=>cases wr with
     | true=>exact⟨rfl,rfl,rfl,fun k' arr1 ty1 hk1 ha1=>⟨arr1,(hoth k' (fun e2=>e (hr.inj c b k (e2 ▸ hk1) hk))).trans ha1,XP _⟩⟩
     | false=>exact⟨rfl,⟨[],r8⟩,(hr.blk c _ hC).len,XP _,fun _=>⟨rfl,fun k' arr1 ty1 hk1 ha1=>⟨arr1,(hoth k' (fun e2=>e (hr.inj c b k (e2 ▸ hk1) hk))).trans ha1,XP _⟩⟩⟩
    | rng _=>exact⟨rfl,rfl⟩
    | mp _ _ _=>rfl
    | dead=>trivial
    | hole=>trivial
  ·have hne:k'≠k:=fun e=>by subst e; rw[ha] at hm; cases hm
   refine⟨(hoth k' hne).trans hm,hs.1,fun c hck=>?_⟩
   obtain ⟨es,els,h1,h2⟩:=hs.2 c hck
   have hcb:c≠b:=fun e=>by subst e; rw[hk] at hck; exact hne (by cases hck; rfl)
   exact⟨es,els,by rw[X4 (YS hcb)]; exact h1,h2⟩
 have hsz:(w.setRow k arr').heap.size=w.heap.size:=by simp[World.setRow]
 have hkb:=(hr.dom b k hk).2.1
 refine⟨⟨hr.below.trans ⟨rfl,rfl,rfl,by rw[hsz]; exact XP _,fun j hj=>hoth j o3⟩,fun c j hcj=>⟨by simpa using (hr.dom c j hcj).1,(hr.dom c j hcj).2.1,by rw[hsz]; exact(hr.dom c j hcj).2.2⟩,hr.inj,hr.xW he,hr.wa he,fun c C hC=>?_⟩,he⟩
 by_cases e:c=b
 ·subst e
  rw[Yf hlt] at hC; cases hC
  exact hB' he hnew
 ·rw[X4 (YS e)] at hC
  have h:=hr.blk c C hC
  have hmu:∀ {j},g.mu c=some j->j≠k:=fun {j} hj e2=>e (hr.inj c b k (e2 ▸ hj) hk)
  cases C with
  | box cs=>obtain ⟨j,arr1,ty1,h1,h2,h3⟩:=h; exact⟨j,arr1,ty1,h1,(hoth j (hmu h1)).trans h2,bB.ext he _ _ h3⟩
  | row wr es els=>cases wr with
   | true=>
    obtain ⟨ds,h1,h2,h3⟩:=h
    exact⟨ds,bw.ext he _ _ h1,h2,fun hp=>let ⟨j,arr1,ty1,e1,e2,e3⟩:=h3 hp; ⟨j,arr1,ty1,e1,(hoth j (hmu e1)).trans e2,e3⟩⟩
   | false=>exact⟨bw.ext he _ _ h.1,h.2⟩
  | rng st=>obtain ⟨j,h1,h2⟩:=h; exact⟨j,h1,(hoth j (hmu h1)).trans h2⟩
  | mp _ _ _=>obtain ⟨j,arr1,cl,h1,h2,h3,h4⟩:=h; exact⟨j,arr1,cl,h1,(hoth j (hmu h1)).trans h2,h3,bB.ext he _ _ h4⟩
  | dead=>exact h
  | hole=>exact h
theorem me (H:aC) (B:aO) {lo b:Nat} (hb:lo<=b):∀ c,c<lo->c<H.length->(H.set b B)[c]? = H[c]?:=fun _ hc _=>X4 o3
theorem mm {t:TypeId} {n k o:Nat} {c:Value} {arr:Array Value} {ty:TypeId} (hs:cQ P t=some n) (hn:c.cells.size=n) (ha:w.heap[k]? = some (.cells arr ty (0,0))) (hfit:o+n<=arr.size) (h1:∀ x∈c.cells.toList,x.oneCell'=true) :
  (Instr.storeAt t (.pointer (some ⟨k,o,none⟩)) c).run P w=.ok () (w.setRow k (bz arr.toList o c.cells.toList).toArray):=by
 have:=qaR P k o ty c.cells.toList 0 arr w ha (by simpa [hn] using hfit) h1
 simp only[Zf] at this
 simp only[Instr.storeAt,Instr.sureAddr,Yv,ZU,Ym,storeVar,eA hs]
 rw[XW (by simp[hn])]
 rw[this]
 simp[bz]
theorem iP {α:Type} (cs xs:List α) (o:Nat) (h:o+xs.length<=cs.length):(bz cs o xs).length=cs.length:=by
 simp[bz]; omega
theorem gJ {α:Type} (cs xs:List α) (o j:Nat) (h:o+xs.length<=cs.length):(bz cs o xs)[j]? = if o<=j/\j<o+xs.length then xs[j - o]? else cs[j]?:=by
 unfold bz
 rw[Yx,ZE,YG,Zm o3]
 by_cases h1:j<o
 ·rw[XX h1,XW o3,Yc,XX h1]
 ·rw[XW h1,ZE]
  by_cases h2:j<o+xs.length
  ·rw[XX o3,XX o3]
  ·rw[XW o3,XW o3,Y0]
   congr 1; omega
theorem sY {α:Type} (x l xs:List α) (n:Nat):bz (x++l) (x.length+n) xs=x++bz l n xs:=by
 unfold bz
 rw[Zz,List.take_length_add_append,List.drop_length_add_append]
 simp
theorem rS {es:Nat}:∀ {ds:List (List Value)} {i:Nat} {d d':List Value},(∀ d∈ds,d.length=es)->ds[i]? = some d->∀ o xs,o+xs.length<=es->d'=bz d o xs->(ds.set i d').flatten=bz ds.flatten (i*es+o) xs
 | [],i,d,d',_,h,_,_,_,_=>by simp at h
 | x :: r,i,d,d',hl,h,o,xs,hf,hd=>by
  have hx:=hl x r8
  cases i with
  | zero=>
   simp at h; subst h; subst hd
   simp only[List.set_cons_zero,YX,qaY,YB,bz]
   rw[qaJ o3,qaI o3]
   simp
  | succ i=>
   have ih:=rS (ds:=r) (i:=i) (d:=d) (d':=d') (fun d hd=>hl d (by simp[hd])) (by simpa using h) o xs hf hd
   have e:(i+1)*es+o=x.length+(i*es+o):=by rw[hx,YL]; omega
   rw[List.set_cons_succ,YX,YX,ih,e,sY]
theorem fY {es:Nat} {ds:List (List Value)} (hl:∀ d∈ds,d.length=es) {m:Nat} (hm:m<=ds.length):(ds.take m).flatten.length=m*es:=by
 rw[b7 (fun d hd=>hl d (Yk hd)),YG,Zm hm]
theorem m0 {es:Nat}:∀ {ds:List (List Value)} (o:Nat) {xs:List (List Value)},(∀ d∈ds,d.length=es)->(∀ d∈xs,d.length=es)->o+xs.length<=ds.length->(bz ds o xs).flatten=bz ds.flatten (o*es) xs.flatten
 | ds,0,xs,hl,hx,h=>by
  have:ds=ds.take xs.length++ds.drop xs.length:=(Zb _ _).symm
  have h1:(ds.take xs.length).flatten.length=xs.length*es:=fY hl o3
  simp only[bz,List.take_zero,YR,YB,qaY,Zy]
  congr 1
  have e:ds.flatten=(ds.take xs.length).flatten++(ds.drop xs.length).flatten:=XF
  rw[e,List.drop_append,h1,b7 hx]
  simp[h1]
 | [],o+1,xs,hl,hx,h=>by simp at h
 | d :: r,o+1,xs,hl,hx,h=>by
  have ih:=m0 (ds:=r) o (xs:=xs) (fun d hd=>hl d (by simp[hd])) hx (by simp at h; omega)
  have e1:bz (d :: r) (o+1) xs=d :: bz r o xs:=by
   simp only[bz,qbq,Yz]
   rw[show o+1+xs.length=o+xs.length+1 by omega,qbr]
  rw[e1,YX,ih,YX]
  have e2:(o+1)*es=d.length+o*es:=by rw[hl d r8,YL]; omega
  rw[e2,sY]
theorem vk (hr:Rel H g w0 w) {t:TypeId} {a x:A} {H':aC} {lo:Nat} {ca cx:Value} (h:ji P t a x H lo=some H') (ha:VR H g w a ca) (hx:VR H g w x cx) :
  ∃ w',(Instr.storeAt t ca cx).run P w=.ok () w'/\Rel H' g w0 w'/\Ext H g w H' g w'/\H.length<=H'.length/\∀ b,b<lo->b<H.length->H'[b]? = H[b]?:=by
 unfold ji at h
 replace h:=bE h
 obtain ⟨n,hn,h⟩:=h
 replace h:=bE h
 obtain ⟨xs,hxs,h⟩:=h
 replace h:=eE h
 obtain ⟨h0,h⟩:=h
 simp only[YK,Zo,YV] at h0
 obtain ⟨hvs,h1,_⟩:=mQ hxs hx
 have hsz:cx.cells.size=n:=by have:=hvs.length; simp at this; omega
 split at h
 ·rename_i b o
  split at h
  ·rename_i cs hb
   replace h:=bu h
   obtain ⟨hc,h⟩:=h
   simp only[XQ,XV] at hc
   cases h
   rw[VR,hb] at ha
   obtain ⟨k,hk,rfl⟩:=ha
   obtain ⟨k',arr,ty,hk',har,hv⟩:=hr.blk b _ hb
   rw[hk] at hk'; cases hk'
   have hal:arr.size=cs.length:=by simpa using hv.length
   have hrun:=mm (P:=P) hn hsz har (o:=o) o3 h1
   obtain ⟨r1,r2⟩:=hr.write hk har (arr':=(bz arr.toList o cx.cells.toList).toArray) (B':=.box (bz cs o xs)) hb (.inl ⟨_,_,rfl,rfl⟩) (fun he hnew=>⟨k,_,ty,hk,hnew,bB.ext he _ _ (by simpa using hv.bz hvs o)⟩)
   exact⟨_,hrun,r1,r2,r8,me _ _ hc.1⟩
  ·cases h
 ·rename_i b i o
  split at h
  ·rename_i es els hb
   split at h
   ·rename_i cs hi
    rw[VR,hb] at ha
    obtain ⟨hlt,k,hk,rfl⟩:=ha
    obtain ⟨ds,hv,hl,hrow⟩:=hr.blk b _ hb
    obtain ⟨k',arr,ty,hk',har,hcell⟩:=hrow o3
    rw[hk] at hk'; cases hk'
    obtain ⟨d,hd,hvd⟩:=hv.get hi
    have hdl:d.length=es:=hl d (Yh hd)
    have hcl:cs.length=es:=by rw[<-hvd.length]; exact hdl
    have hfl:=b7 hl
    have hvl:=hv.length
    have hbound:i*es+es<=ds.length*es:=by
     have:=Zs es (show i+1<=ds.length by omega)
     rw[YL] at this; omega
    have hal:ds.flatten.length<=arr.size:=by
     by_cases hz:ds.flatten.length=0
     ·omega
     ·have:=hcell (ds.flatten.length - 1) _ (XN o3)
      have:=(XU.1 this).1
      omega
    have hxl:cx.cells.toList.length=n:=by simpa using hsz
    rw[bG] at h
    split at h
    rotate_left
    ·replace h:=bu h
     obtain ⟨hc,h⟩:=h
     simp only[XQ,XV,qad] at hc
     obtain ⟨⟨⟨hlo,rfl⟩,hq⟩,hfit⟩:=hc
     cases h
     have hxq:cx.cells.toList.length=n / es*es:=o3
     have hq2:i*es+n / es*es<=ds.length*es:=by
      have:=Zs es (show i+n / es<=ds.length by omega)
      rwa [YL] at this
     have hrun:=mm (P:=P) hn hsz har (o:=i*es+0) o3 h1
     have hcl2:=jO (es:=es) hxq
     obtain ⟨r1,r2⟩:=hr.write hk har (arr':=(bz arr.toList (i*es+0) cx.cells.toList).toArray) (B':=.row true es (bz els i (chunk es (n / es) xs))) hb (.inr ⟨es,els,_,rfl,rfl,by rw[iP _ _ _ (by rw[gX]; omega)],qf _ _ _⟩) (fun he hnew=>by
      refine⟨bz ds i (chunk es (n / es) cx.cells.toList),?_,?_,fun _=>⟨k,_,ty,hk,hnew,fun j v hj=>?_⟩⟩
      ·have hv2:=bw.ext he _ _ hv
       have hx2:=bw.ext he _ _ (hvs.chunk (es:=es) (n / es))
       exact hv2.bz hx2 i
      ·intro d' hd'
       unfold bz at hd'
       rcases Y4.1 hd' with hd' | hd'
       ·rcases Y4.1 hd' with hd' | hd'
        ·exact hl d' (Yk hd')
        ·exact hcl2 d' hd'
       ·exact hl d' (Yo hd')
      ·rw[m0 i hl hcl2 (by rw[gX]; omega),lV hxq] at hj
       rw[gJ _ _ _ _ o3] at hj
       have:(bz arr.toList (i*es+0) cx.cells.toList).toArray[j]? = (bz arr.toList (i*es+0) cx.cells.toList)[j]?:=r8
       rw[this,gJ _ _ _ _ r9]
       simp only[Zf]
       split
       ·rename_i hin; rw[XX hin] at hj; exact hj
       ·rename_i hin; rw[XW hin] at hj
        have:=hcell j v hj
        simpa using this)
     exact⟨_,hrun,r1,r2,r8,me _ _ hlo⟩
    rename_i hc
    simp only[XQ,XV] at hc
    cases h
    have hrun:=mm (P:=P) hn hsz har (o:=i*es+o) o3 h1
    obtain ⟨r1,r2⟩:=hr.write hk har (arr':=(bz arr.toList (i*es+o) cx.cells.toList).toArray) (B':=.row true es (els.set i (bz cs o xs))) hb (.inr ⟨es,els,_,rfl,rfl,r8,qf _ _ _⟩) (fun he hnew=>by
     refine⟨ds.set i (bz d o cx.cells.toList),?_,?_,fun _=>⟨k,_,ty,hk,hnew,fun j v hj=>?_⟩⟩
     ·have hv2:=bw.ext he _ _ hv
      have hvd2:=bB.ext he _ _ (hvd.bz hvs o)
      obtain ⟨g1,g2⟩:=cR.1 hv2
      refine cR.2 ⟨by simp[g1],fun j a' d' ha' hd'=>?_⟩
      by_cases e:j=i
      ·subst e
       rw[Yf o3] at ha'
       rw[Yf o3] at hd'
       cases ha'; cases hd'; exact hvd2
      ·rw[X4 (YS e)] at ha' hd'
       exact g2 j a' d' ha' hd'
     ·intro d' hd'
      rcases qal hd' with h' | rfl
      ·exact hl d' h'
      ·rw[iP _ _ _ o3]; exact hdl
     ·rw[rS hl hd o cx.cells.toList o3 rfl] at hj
      rw[gJ _ _ _ _ o3] at hj
      have:(bz arr.toList (i*es+o) cx.cells.toList).toArray[j]? = (bz arr.toList (i*es+o) cx.cells.toList)[j]?:=r8
      rw[this,gJ _ _ _ _ r9]
      split
      ·rename_i hin; rw[XX hin] at hj; exact hj
      ·rename_i hin; rw[XW hin] at hj
       have:=hcell j v hj
       simpa using this)
    exact⟨_,hrun,r1,r2,r8,me _ _ hc.1⟩
   ·cases h
  ·cases h
 ·cases h
end
section
open Go.RowKit
variable {P:Program} {H:aC} {g:Gh} {w0 w:World}
theorem jP {t e:TypeId} (h:kb P t=some e):P.underlying t=some (.slice e):=by
 unfold kb at h
 split at h
 ·rename_i hu; cases h; exact hu
 ·cases h
theorem nC (z:Array Value) (len:Nat) (hz:0<z.size):(madeCells z (len*z.size)).toList=(List.replicate len z.toList).flatten:=by
 have hl:∀ d∈List.replicate len z.toList,d.length=z.size:=fun d hd=>by rw[(Z1.1 hd).2]; simp
 apply Zk
 intro j
 by_cases hj:j<len*z.size
 ·have hq:j / z.size<len:=qaA (by rw[YZ]; exact hj)
  have e:=jQ hl (j:=j / z.size) (d:=z.toList) (by rw[Zv,XX hq]) (j % z.size) (qac _ hz)
  rw[show j / z.size*z.size+j % z.size=j by rw[YZ]; exact qaB _ _] at e
  rw[e]
  have hm:=qac j hz
  have:(madeCells z (len*z.size))[j]? = some (z[j % z.size]!):=by simp[madeCells,hj]
  rw[Yt,this]
  simp[hm]
 ·rw[YT (by simp[madeCells]; omega),YT (by rw[b7 hl]; simp; omega)]
theorem xm {es:Nat}:∀ {parts:List (Nat×A)} {vparts:List (Nat×Value)} {els els':List (List A)} {ds:List (List Value)} {arr:Array Value},ml els parts=some els'->arr.toList=ds.flatten->bw H g w els ds->(∀ d∈ds,d.length=es) ->
  (∀ p∈parts,p.1<els.length/\∃ xs,p.2.cells? = some xs/\xs.length=es)->mK H g w parts vparts->∃ arr' ds',Instr.fill (fun i=>some (i*es,es)) arr vparts=some arr'/\arr'.toList=ds'.flatten/\bw H g w els' ds'/\(∀ d∈ds',d.length=es)
 | [],vparts,els,els',ds,arr,h,ha,hv,hl,_,hp=>by
  simp only[ml,YE] at h
  subst h
  have:vparts=[]:=Ye (by simpa using hp.1)
  subst this
  exact⟨arr,ds,rfl,ha,hv,hl⟩
 | (i,x) :: r,vparts,els,els',ds,arr,h,ha,hv,hl,hc,hp=>by
  cases vparts with
  | nil=>simp[mK] at hp
  | cons q vr=>
   obtain ⟨q',hq,e1,hx⟩:=hp.2 0 (i,x) rfl
   simp at hq
   subst hq
   obtain ⟨hi,xs,hxs,hxl⟩:=hc (i,x) r8
   simp only[ml,hxs,XM] at h
   obtain ⟨hvs,_,_⟩:=mQ hxs hx
   have hvl:=hvs.length
   have hel:=hv.length
   obtain ⟨qi,qv⟩:=q
   simp only at e1 hi
   subst e1
   have hsz:qv.cells.size=es:=by simpa [hxl] using hvl
   obtain ⟨d,hd,_⟩:=hv.get (i:=qi) (XN hi)
   have hdl:d.length=es:=hl d (Yh hd)
   have hfl:=b7 hl
   have hfit:qi*es+qv.cells.size<=arr.size:=by
    have e2:arr.size=ds.length*es:=by rw[<-hfl,<-ha]; simp
    have:=Zs es (show qi+1<=ds.length by omega)
    rw[YL] at this; omega
   have hsp:qv.cells.toList=bz d 0 qv.cells.toList:=by
    unfold bz
    rw[List.take_zero,YR,Z6 r9,YN]
   have hset:(qv.cells.zipIdx.foldl (fun cs (c,j)=>cs.setIfInBounds (qi*es+j) c) arr).toList=(ds.set qi qv.cells.toList).flatten:=by
    have:=sS qv.cells.toList (qi*es) arr (by simpa using hfit)
    rw[rS hl hd 0 qv.cells.toList r9 hsp,<-ha,Zf,<-this,<-ZY]
    simp
   obtain ⟨arr',ds',h1,h2,h3,h4⟩:=xm (els:=els.set qi xs) (ds:=ds.set qi qv.cells.toList) (arr:=qv.cells.zipIdx.foldl (fun cs (c,j)=>cs.setIfInBounds (qi*es+j) c) arr) (vparts:=vr) h hset
    (by
     obtain ⟨g1,g2⟩:=cR.1 hv
     refine cR.2 ⟨by simp[g1],fun j a' d' ha' hd'=>?_⟩
     by_cases e:j=qi
     ·subst e
      rw[Yf o3] at ha'
      rw[Yf o3] at hd'
      cases ha'; cases hd'; exact hvs
     ·rw[X4 (YS e)] at ha' hd'
      exact g2 j a' d' ha' hd')
    (fun d' hd'=>by
     rcases qal hd' with h' | rfl
     ·exact hl d' h'
     ·simpa using hsz)
    (fun p hpm=>by have:=hc p (by simp[hpm]); simpa using this) ⟨by simpa using hp.1,fun j p' hj=>by have:=hp.2 (j+1) p' (by simpa using hj); simpa using this⟩
   refine⟨arr',ds',?_,h2,h3,h4⟩
   unfold Instr.fill
   simp only
   rw[XW (by simp[hsz]; omega)]
   exact h1
theorem mw {t:TypeId} {len:Nat} {parts:List (Nat×A)} {vparts:Array (Nat×Value)} {y:A} (h:aP P t len parts=some y) (hp:mK H g w parts vparts.toList) :
  ∃ e es els arr' ds,y=.imm els true/\kb P t=some e/\cQ P e=some es/\es≠0/\(Instr.buildSlice t len vparts).run P w=.ok (.slice (some ⟨w.heap.size,0,none⟩) len len) (w.alloc (.cells arr' e))/\els.length=len/\arr'.toList=ds.flatten/\bw H g w els ds/\∀ d∈ds,d.length=es:=by
 unfold aP at h
 replace h:=bE h
 obtain ⟨e,he,h⟩:=h
 have hu:=jP he
 replace h:=bE h
 obtain ⟨es,hes,h⟩:=h
 replace h:=bE h
 obtain ⟨z,hz,h⟩:=h
 replace h:=eE h
 obtain ⟨h0,h⟩:=h
 replace h:=bu h
 obtain ⟨hc,h⟩:=h
 simp only[YK,Zo,YV,XV,Y8] at h0
 obtain ⟨⟨h0,h1⟩,h2⟩:=h0
 obtain ⟨it,v,hi,hv,rfl⟩:=fP hz
 obtain ⟨it',hi',hsz⟩:=gy hes
 rw[hi] at hi'; cases hi'
 have hvs:v.cells.size=es:=by simpa using h1
 cases hse:ml (List.replicate len (v.cells.toList.map zx)) parts with
 | none=>rw[hse] at h; cases h
 | some els=>
  rw[hse] at h
  cases h
  have hz0:0<v.cells.size:=o3
  have hall:∀ p∈parts,p.1<(List.replicate len (v.cells.toList.map zx)).length/\∃ xs,p.2.cells? = some xs/\xs.length=es:=fun p hpm=>by
   have:=X0.1 hc p hpm
   simp only[XQ,XV] at this
   refine⟨by simpa using this.1,?_⟩
   have h3:=this.2
   split at h3
   ·rename_i xs hx; exact⟨xs,hx,by simpa using h3⟩
   ·cases h3
  have hrep:bw H g w (List.replicate len (v.cells.toList.map zx)) (List.replicate len v.cells.toList):=cR.2 ⟨r8,fun i a d ha hd=>by
   rw[Zv] at ha hd
   split at ha
   ·rename_i hlt; rw[XX hlt] at hd; cases ha; cases hd; exact jz _
   ·cases ha⟩
  obtain ⟨arr',ds',f1,f2,f3,f4⟩:=xm (es:=es) (arr:=madeCells v.cells (len*es)) hse (by rw[<-hvs]; exact nC _ _ hz0) hrep (fun d hd=>by rw[(Z1.1 hd).2]; simpa using hvs) hall hp
  have hb:Below w.heap.size w (w.alloc (.cells arr' e)):=(Below.refl _ w).alloc (XP _) _
  have hlen:els.length=len:=by
   have gen:∀ (parts:List (Nat×A)) (els els':List (List A)),ml els parts=some els'->els'.length=els.length:=by
    intro parts
    induction parts with
    | nil=>intro els els' h; simp only[ml,YE] at h; rw[h]
    | cons p r ih=>
     intro els els' h
     obtain ⟨i,x⟩:=p
     simp only[ml] at h
     obtain ⟨xs,_,h⟩:=bE h
     rw[ih _ _ h]; simp
   rw[gen _ _ _ hse]; simp
  refine⟨e,es,els,arr',ds',rfl,he,hes,h0,?_,hlen,f2,f3,f4⟩
  unfold Instr.buildSlice
  have hsz':(sizeOf e).run P w=.ok es w:=eA hes w
  have hbig:¬ (16777216<len*es):=o3
  by_cases hle:len*es=0
  ·rw[hle] at f1
   rw[show madeCells v.cells 0=#[] by simp[madeCells]] at f1
   simp[X2 hu,hsz',hle,show Array.range 0=#[] from rfl,f1,newRow,newObj]
   rfl
  ·unfold madeCells at f1
   simp[X2 hu,hsz',hle,hbig,zeroValue,typeInfo,hi,hv,f1,newRow,newObj]
   rfl
theorem oU (hr:Rel H g w0 w) {t:TypeId} {len:Nat} {parts:List (Nat×A)} {vparts:Array (Nat×Value)} {y:A} (h:aP P t len parts=some y) (hp:mK H g w parts vparts.toList) :
  ∃ d w',(Instr.buildSlice t len vparts).run P w=.ok d w'/\Below w.heap.size w w'/\VR H g w' y d:=by
 obtain ⟨e,es,els,arr',ds',rfl,_,_,_,hrun,hlen,f2,f3,f4⟩:=mw h hp
 have hb:Below w.heap.size w (w.alloc (.cells arr' e)):=(Below.refl _ w).alloc (XP _) _
 refine⟨_,_,hrun,hb,?_⟩
 rw[VR]
 have he:=Ext.below hr hb
 refine⟨_,len,ds',es,by rw[hlen],o3,fun _=>hlen.symm,f4,fun _=>⟨w.heap.size,0,rfl,?_⟩,bw.ext he _ _ f3⟩
 exact m5 hr (Zi w _) fun j v hj=>by rw[<-f2] at hj; simpa using hj
theorem qF (hr:Rel H g w0 w) {t:TypeId} {len:Nat} {parts:List (Nat×A)} {vparts:Array (Nat×Value)} {y:A} {H':aC} (lo:Nat) (h:pQ P t len parts H=some (y,H')) (hp:mK H g w parts vparts.toList) :
  Step H g w0 w lo ((Instr.buildSlice t len vparts).run P w) y H':=by
 unfold pQ at h
 obtain ⟨e0,h1,h⟩:=bE h
 obtain ⟨es0,h2,h⟩:=bE h
 obtain ⟨y0,h3,h⟩:=bE h
 obtain ⟨e,es,els,arr',ds',rfl,g1,g2,g3,hrun,hlen,f2,f3,f4⟩:=mw h3 hp
 rw[h1] at g1; cases g1
 rw[h2] at g2; cases g2
 simp only[YE,qaP] at h
 obtain ⟨rfl,rfl⟩:=h
 have hb:Below w.heap.size w (w.alloc (.cells arr' e0)):=(Below.refl _ w).alloc (XP _) _
 obtain ⟨k1,k2⟩:=hr.push hb (.row true es0 els) (some w.heap.size) [] (fun k hk=>by cases hk; exact⟨rfl,by show w.heap.size<(w.heap.push _).size; rw[Array.size_push]; exact Nat.lt_succ_self _⟩) (fun he=>⟨ds',bw.ext he _ _ f3,f4,fun _=>⟨w.heap.size,arr',e0,Gh.bJ _ _ _ _,Zi w _,fun j v hj=>by rw[<-f2] at hj; simpa using hj⟩⟩)
 refine⟨_,_,_,hrun,k1,k2,?_,r8,fun b _ hb=>X6 hb,rfl⟩
 rw[VR,ew]
 exact⟨r8,_,len,by rw[hlen],o3,fun _=>hlen.symm,fun _=>⟨w.heap.size,Gh.bJ _ _ _ _,r8⟩,fun h=>by cases h⟩
theorem G8 {x:A} {c:Value} (h:VR H g w x c):VR H g w (wk x) c:=by
 cases x with
 | imm els cl=>
  simp only[wk]
  rw[VR] at h ⊢
  obtain ⟨a,cap,ds,es,h1,h2,_,h4,h5,h6⟩:=h
  exact⟨a,cap,ds,es,h1,h2,fun h=>(by cases h),h4,h5,h6⟩
 | _=>exact h
theorem pL:∀ {cs:List A} {ds:List Value},bB H g w cs ds->bB H g w (cs.map wk) ds
 | [],_,h=>h
 | a :: as,_,h=>by
  rw[bB] at h
  obtain ⟨d,ds',rfl,h1,h2⟩:=h
  rw[YW,bB]
  exact⟨d,ds',rfl,G8 h1,pL h2⟩
theorem rl (hr:Rel H g w0 w) {t:TypeId} {n c y:A} {cn cc:Value} {H':aC} (h:gW P t n c H=some (y,H')) (hn:VR H g w n cn) (hc:VR H g w c cc):H'=H/\∃ d w',(Instr.makeSlice t cn cc).run P w=.ok d w'/\Below w.heap.size w w'/\VR H g w' y d:=by
 unfold gW at h
 obtain ⟨e,he,h⟩:=bE h
 have hu:=jP he
 obtain ⟨es,hes,h⟩:=bE h
 obtain ⟨by_,hby,h⟩:=bE h
 obtain ⟨z,hz,h⟩:=bE h
 obtain ⟨ni,hni,h⟩:=bE h
 obtain ⟨ci,hci,h⟩:=bE h
 obtain ⟨h0,h⟩:=eE h
 simp only[YK,Zo,YV,XV,Y8] at h0
 obtain ⟨⟨⟨⟨h0,h1⟩,h2⟩,h3⟩,h4⟩:=h0
 cases h
 obtain ⟨it,v,hi,hv,rfl⟩:=fP hz
 obtain ⟨it',hi',hsz⟩:=gy hes
 rw[hi] at hi'; cases hi'
 have hvs:v.cells.size=es:=by simpa using h1
 have hbv:it.bytes=by_:=by unfold jN at hby; rw[hi] at hby; simpa using hby
 obtain ⟨kn,zn,rfl,hn0,rfl⟩:=ot hni hn
 obtain ⟨kc,zc,rfl,hc0,rfl⟩:=ot hci hc
 unfold dF at h2 h3
 have hbz:(it.bytes:Int)*zc<=281474976710656:=by
  have:((zc.toNat*by_:Nat):Int)<=140737488355328:=o3
  rw[Z2,qak hc0,qby,<-hbv] at this
  omega
 have hrun:=run_make (P:=P) w t e it v hu hi hv kn kc zn zc hn0 o3 hbz o3
 have hb:Below w.heap.size w (w.alloc (.cells (madeCells v.cells (zc.toNat*it.size)) e)):=(Below.refl _ w).alloc (XP _) _
 rw[hsz] at hrun hb
 have hz0:0<v.cells.size:=o3
 refine⟨rfl,_,_,hrun,hb,?_⟩
 rw[VR]
 refine⟨_,zc.toNat,List.replicate zn.toNat v.cells.toList,es,r8,r9,fun h=>(by cases h),fun d hd=>by rw[(Z1.1 hd).2]; simpa using hvs,fun _=>⟨w.heap.size,0,rfl,?_⟩,cR.2 ⟨r8,fun i a d ha hd=>?_⟩⟩
 ·exact m5 hr (Zi w _) fun j x hj=>by rw[<-Yt,<-hvs,nC _ _ hz0,<-h4]; exact hj
 ·rw[Zv] at ha hd
  split at ha
  ·rename_i hlt; rw[XX hlt] at hd; cases ha; cases hd; exact pL (jz _)
  ·cases ha
theorem j0 {ck:Bool} (hr:Rel H g w0 w) {t:TypeId} {n c y:A} {cn cc:Value} {H':aC} (lo:Nat) (h:fH ck P t n c H=some (y,H')) (hn:VR H g w n cn) (hc:VR H g w c cc):Step H g w0 w lo ((Instr.makeSlice t cn cc).run P w) y H':=by
 unfold fH at h
 replace h:=bE h
 obtain ⟨e,he,h⟩:=h
 have hu:=jP he
 replace h:=bE h
 obtain ⟨es,hes,h⟩:=h
 replace h:=bE h
 obtain ⟨by_,hby,h⟩:=h
 replace h:=bE h
 obtain ⟨z,hz,h⟩:=h
 replace h:=bE h
 obtain ⟨ni,hni,h⟩:=h
 replace h:=bE h
 obtain ⟨ci,hci,h⟩:=h
 replace h:=eE h
 obtain ⟨h0,h⟩:=h
 simp only[YK,Zo,YV,XV,Y8] at h0
 obtain ⟨⟨⟨⟨h0,h1⟩,h2⟩,h3⟩,h4⟩:=h0
 obtain ⟨it,v,hi,hv,rfl⟩:=fP hz
 obtain ⟨it',hi',hsz⟩:=gy hes
 rw[hi] at hi'; cases hi'
 have hvs:v.cells.size=es:=by simpa using h1
 have hbv:it.bytes=by_:=by unfold jN at hby; rw[hi] at hby; simpa using hby
 obtain ⟨kn,zn,rfl,hn0,rfl⟩:=ot hni hn
 obtain ⟨kc,zc,rfl,hc0,rfl⟩:=ot hci hc
 unfold dF at h2 h3
 have hbz:(it.bytes:Int)*zc<=281474976710656:=by
  have:((zc.toNat*by_:Nat):Int)<=140737488355328:=o3
  rw[Z2,qak hc0,qby,<-hbv] at this
  omega
 have hrun:=run_make (P:=P) w t e it v hu hi hv kn kc zn zc hn0 o3 hbz o3
 have hb:Below w.heap.size w (w.alloc (.cells (madeCells v.cells (zc.toNat*it.size)) e)):=(Below.refl _ w).alloc (XP _) _
 rw[hsz] at hrun hb
 have hz0:0<v.cells.size:=o3
 rw[bG] at h
 split at h
 ·rename_i hnc
  have hnc:zn.toNat=zc.toNat:=by simpa using hnc
  cases h
  obtain ⟨r1,r2⟩:=hr.push hb (.row true es (List.replicate zn.toNat ((v.cells.toList.map zx).map wk))) (some w.heap.size) [] (fun k hk=>by cases hk; exact⟨rfl,r8⟩) (fun he'=>by
   refine⟨List.replicate zn.toNat v.cells.toList,cR.2 ⟨r8,fun i a d ha hd=>?_⟩,fun d hd=>by rw[(Z1.1 hd).2]; simpa using hvs,fun _=>⟨w.heap.size,_,e,Gh.bJ _ _ _ _,Zi w _,fun j x hj=>?_⟩⟩
   ·rw[Zv] at ha hd
    split at ha
    ·rename_i hlt; rw[XX hlt] at hd; cases ha; cases hd; exact pL (jz _)
    ·cases ha
   ·rw[<-Yt,<-hvs,nC _ _ hz0,<-hnc]; exact hj)
  refine⟨_,_,_,hrun,r1,r2,?_,r8,iK _ _ _,rfl⟩
  rw[VR,ew]
  refine⟨r8,_,zc.toNat,rfl,o3,fun _=>o3,fun _=>⟨w.heap.size,Gh.bJ _ _ _ _,r8⟩,fun _ _ _ hlt=>o3⟩
 ·rw[bG] at h
  split at h
  ·rename_i hn00
   have hn00:zn.toNat=0:=by simpa using hn00
   cases h
   obtain ⟨r1,r2⟩:=hr.push hb (.row false es []) (some w.heap.size) [] (fun k hk=>by cases hk; exact⟨rfl,r8⟩) (fun he'=>by
    refine⟨?_,?_⟩
    ·rw[Gh.hY,bw]
    ·rw[Gh.hY]; simp)
   refine⟨_,_,_,hrun,r1,r2,?_,r8,iK _ _ _,rfl⟩
   rw[VR,ew]
   refine⟨r8,_,zc.toNat,by rw[hn00],o3,fun h=>(by cases h),fun h=>absurd h r8,fun _ _ _ _=>⟨w.heap.size,_,e,Gh.bJ _ _ _ _,rfl,Zi w _,by rw[size_madeCells]; exact XP _⟩⟩
  ·cases h
theorem pU (hr:Rel H g w0 w) {t:TypeId} {n c y:A} {cn cc:Value} {H':aC} (lo:Nat) (h:gE P t n c H=some (y,H')) (hn:VR H g w n cn) (hc:VR H g w c cc):Step H g w0 w lo ((Instr.makeSlice t cn cc).run P w) y H':=j0 hr lo h hn hc
end
end Go.Proofs.YtebkhfhcipnfgaaGreat
