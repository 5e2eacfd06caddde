/-
 Slices made, appended to, copied into: as the model's.
-/
import Derived.Below
import Derived.ChangeArms
import Derived.Deep.Slices
import Derived.RangeFuncNested
import Derived.RangeFuncCalls
import Derived.RangeFuncLeaves
import Derived.OrdersIn
import Derived.TacticsIn
import Derived.Maps.AppendAt
import Derived.OwnWalkIn
import Derived.OwnWalk
import Derived.Deep.MidRow
import Derived.DeepKeys
import Derived.Laws.StructEq
import Derived.Laws.Tables
import Derived.Laws.IdiomStrings
import Derived.Laws.BytesString
import Derived.Laws.Slices
import Derived.Laws.MakeOwn
import Derived.KernelRfl
namespace Go.Proofs.Ytebkhfhcipnfgaa
set_option linter.unusedVariables false
set_option linter.unusedSimpArgs false
set_option linter.defProp false
theorem o3 {p:Prop} (h:p:=by omega):p:=h
theorem r8 {p:Prop} (h:p:=by simp):p:=h
theorem r9 {p:Prop} (h:p:=by simp; omega):p:=h
theorem s6 {p:Prop} (h:p:=by rw[VR]):p:=h
theorem u3 {p:Prop} (h:p:=by rw[bl]):p:=h
theorem H6 {p:Prop} (h:p:=by rw[List.length_take]; omega):p:=h
theorem Sm {p:Prop} (h:p:=by rw[VR]; trivial):p:=h
theorem So {p:Prop} (h:p:=by rw[<-List.flatten_append,List.take_append_drop]):p:=h
def Sw:=@Option.bind_some
def Sx:=@List.getElem?_eq_getElem
def Sy:=@Nat.le_refl
def Sz:=@Bool.and_eq_true
def SA:=@cond_false
def SB:=@List.getElem?_eq_some_iff
def SC:=@cond_true
def SE:=@Array.getElem?_eq_some_iff
def SF:=@of_decide_eq_true
def SG:=@decide_eq_true_eq
def SH:=@if_pos
def SI:=@if_neg
def SJ:=@List.all_eq_true
def SM:=@Nat.eq_of_beq_eq_true
def SN:=@run_underlying
def SO:=@List.getElem?_set_ne
def SP:=@List.getElem?_append_left
def SQ:=@Nat.lt_of_lt_of_le
def SS:=@List.getElem?_take
def SU:=@List.drop_eq_getElem_cons
def SV:=@List.eq_nil_of_length_eq_zero
def SW:=@List.length_cons
def SX:=@List.length_append
def SY:=@List.getElem?_set_self
def SZ:=@Nat.le_trans
def S1:=@List.mem_of_getElem?
def S2:=@List.mem_of_mem_take
def S3:=@List.getElem?_append_right
def S4:=@List.mem_of_mem_drop
def S5:=@Bool.false_eq_true
def S6:=@List.mem_range
def S7:=@Result.andThen_ok
def Ta:=@Option.some.injEq
def Tb:=@List.getElem_mem
def Tc:=@Array.getElem?_toList
def Td:=@List.getElem?_map
def Te:=@Option.map_eq_some_iff
def Tf:=@Sem.run_bind
def Tg:=@List.cons_append
def Th:=@Nat.zero_add
def Ti:=@List.mem_cons
def Tl:=@Array.getElem?_eq_getElem
def Tm:=@Bool.true_and
def Tn:=@Bool.not_eq_true'
def Tp:=@Option.map_some
def Tt:=@List.append_assoc
def Tu:=@List.getElem_of_mem
def Tw:=@beq_iff_eq
def Tx:=@Option.bind_assoc
def Ty:=@congrArg
def Tz:=@List.length_take
def TB:=@Nat.add_mul
def TD:=@Array.getD_eq_getD_getElem?
def TE:=@Bool.or_eq_false_iff
def TF:=@Ne.symm
def TG:=@List.append_nil
def TK:=@Bool.or_eq_true
def TL:=@List.getElem?_drop
def TM:=@List.getElem?_eq_none
def TN:=@List.nil_append
def TP:=@List.mem_append
def TR:=@List.flatten_cons
def TS:=@List.map_cons
def TU:=@Nat.mul_comm
def TV:=@Nat.lt_of_not_le
def TW:=@World.putObj_heap_other
def TX:=@Addr.add_mid
def TY:=@List.ext_getElem?
def T2:=@List.countP_eq_length_filter
def T3:=@List.take_append_drop
def Ub:=@Nat.add_zero
def Uc:=@Array.getElem?_append_left
def Ud:=@cell_of_row
def Ue:=@heap_alloc_new
def Ug:=@Nat.min_eq_left
def Ui:=@Bool.not_eq_false'
def Ul:=@World.cell?_of_block
def Um:=@Nat.mul_le_mul_right
def Uo:=@World.block_lt_of_cell?
def Up:=@List.getElem?_replicate
def Uq:=@List.length_map
def Ur:=@List.flatten_append
def Us:=@Nat.add_assoc
def Uu:=@Nat.le_of_not_lt
def Ux:=@Array.getElem?_setIfInBounds_ne
def Uy:=@List.getElem?_append
def Uz:=@Array.ext'
def UE:=@List.length_pos_of_mem
def UF:=@Nat.mod_lt
def UI:=@Nat.lt_irrefl
def UL:=@getD_set_ne
def UN:=@Array.all_eq_true_iff_forall_mem
def UO:=@Sem.run_pure
def UQ:=@Array.length_toList
def UR:=@beq_eq_false_iff_ne
def US:=@List.all_cons
def UU:=@Array.foldl_toList
def UW:=@mem_ready
def UX:=@List.mem_replicate
def UY:=@Int.natCast_mul
def U1:=@List.drop_of_length_le
def U7:=@Nat.beq_eq
def Vd:=@if_true
def Vf:=@Int.toNat_of_nonneg
def Vi:=@Nat.eq_zero_or_pos
def Vj:=@Nat.le_of_eq
def Vp:=@Prod.mk.injEq
def Vu:=@List.length_filter_le
def Vv:=@List.mem_filter
def Vw:=@Nat.le_antisymm
def Vx:=@Nat.div_lt_of_lt_mul
def Vy:=@Nat.div_add_mod
def Vz:=@Nat.beq_refl
def VE:=@List.drop_append_of_le_length
def VF:=@List.take_append_of_le_length
def VI:=@List.drop_drop
def VJ:=@grownCap_ge
def VK:=@run_loadCells_list
def VO:=@run_storeCells_at
def VS:=@List.mem_or_eq_of_mem_set
def VV:=@List.mem_map
def VW:=@Nat.add_comm
def VX:=@Nat.zero_mul
def V4:=@List.nodup_cons
def V5:=@List.foldl_cons
def V7:=@Nat.one_mul
def Wd:=@List.countP_mono_left
def We:=@List.take_zero
def Wj:=@Classical.not_forall
def Wm:=@Oper.semAt_eq
def Wo:=@Array.getElem?_push
def Wp:=@List.take_succ_cons
def Wq:=@List.drop_succ_cons
def Wu:=@Bool.true_or
def Wv:=@Int.mul_comm
section
open Go.RowKit
def jV:Obj->Bool
 | .cells ..=>true
 | .map ..=>true
 | _=>false
def fj (B:Nat) (w w':World):Prop:=∀ (k:Nat) (o:Obj),k<B->w.heap[k]? = some o->jV o=true->w'.heap[k]? = some o
theorem fj.dY {B n:Nat} {w w':World} (h:Below B w w') (hn:n<=B):fj n w w':=fun k _ hk ho _=>(h.block k (SQ hk hn)).trans ho
theorem fj.mono {B n:Nat} {w w':World} (h:fj B w w') (hn:n<=B):fj n w w':=fun k o hk=>h k o (SQ hk hn)
theorem fj.refl (B:Nat) (w:World):fj B w w:=fun _ _ _ h _=>h
theorem fj.trans {B:Nat} {a b c:World} (h:fj B a b) (k:fj B b c):fj B a c:=fun i o hi ho hd=>k i o hi (h i o hi ho hd) hd
def dw (T:Nat->Prop) (w w':World):Prop:=∀ (k:Nat) (o:Obj),T k->w.heap[k]? = some o->jV o=true->w'.heap[k]? = some o
theorem dw.refl (T:Nat->Prop) (w:World):dw T w w:=fun _ _ _ h _=>h
theorem dw.trans {T:Nat->Prop} {a b c:World} (h:dw T a b) (k:dw T b c):dw T a c:=fun i o hi ho hd=>k i o hi (h i o hi ho hd) hd
theorem dw.sub {T T':Nat->Prop} {a b:World} (h:dw T a b) (hs:∀ k,T' k->T k):dw T' a b:=fun i o hi ho hd=>h i o (hs i hi) ho hd
theorem dw.keeps {T:Nat->Prop} {B:Nat} {a b:World} (h:dw T a b) (hs:∀ k,k<B->T k):fj B a b:=fun i o hi ho hd=>h i o (hs i hi) ho hd
theorem dw.alloc (T:Nat->Prop) (w:World) (o:Obj):dw T w (w.alloc o):=fun k _ _ h _=>(Below.heap_alloc w o k (SE.1 h).1).trans h
theorem dw.dY {T:Nat->Prop} {w w':World} (h:Below w.heap.size w w'):dw T w w':=fun k _ _ ho _=>(h.block k (SE.1 ho).1).trans ho
theorem dw.setCell {T:Nat->Prop} {w:World} {a:Addr} (v:Value) (h:¬ T a.block):dw T w (w.setCell a v):=fun k _ hk ho _=>(Below.heap_setCell w a v k (fun e=>h (e ▸ hk))).trans ho
theorem fj.alloc (B:Nat) (w:World) (o:Obj):fj B w (w.alloc o):=fun k _ _ h _=>(Below.heap_alloc w o k (SE.1 h).1).trans h
theorem yh {B:Nat} {w w':World} (h:fj B w w') {a:Addr} {v:Value} (hb:a.block<B) (hc:w.cell? a=some v):w'.cell? a=some v:=by
 have hx:∃ o,w.heap[a.block]? = some o/\jV o=true:=by
  unfold World.cell? at hc
  cases ho:w.heap[a.block]? with
  | none=>simp[ho] at hc
  | some o=>cases o<;>simp[ho] at hc<;>exact⟨_,rfl,rfl⟩
 obtain ⟨o,ho,hd⟩:=hx
 rw[<-hc]
 exact Ul ((h _ o hb ho hd).trans ho.symm)
structure zk (α:Type) where
 k:Nat
 rd:Nat->World->List Value->α->Prop
 len:∀ {B:Nat} {w:World} {cs:List Value} {a:α},rd B w cs a->cs.length=k
 mono:∀ {B B':Nat} {w:World} {cs:List Value} {a:α},B<=B'->rd B w cs a->rd B' w cs a
 stab:∀ {B:Nat} {w w':World} {cs:List Value} {a:α},fj B w w'->rd B w cs a->rd B w' cs a
def NU:zk Int:={ k:=1,rd:=fun _ _ cs n=>cs=[.int .i64 n]/\-9223372036854775808<=n/\n<=9223372036854775807,len:=fun h=>by rw[h.1]; rfl,mono:=fun _ h=>h,stab:=fun _ h=>h }
def jk {α:Type} (L:zk α) (B:Nat) (w:World) (b off i:Nat) (x:α):Prop:=
 ∃ vs:List Value,L.rd B w vs x/\∀ j,j<L.k->w.cell? ⟨b,off+i*L.k+j,none⟩=vs[j]?
def fE {α:Type} (L:zk α) (B:Nat) (w:World) (v:Value) (l:List α):Prop:=
 ∃ a cap,v=.slice a l.length cap/\l.length<=cap/\cap<=maxLen/\(0<l.length->∃ b off,a=some ⟨b,off,none⟩/\b<B/\∀ i (h:i<l.length),jk L B w b off i l[i])
theorem jk.mono {α:Type} {L:zk α} {B B':Nat} {w:World} {b off i:Nat} {x:α} (hB:B<=B') (h:jk L B w b off i x):jk L B' w b off i x:=by
 obtain ⟨vs,h1,h2⟩:=h
 exact⟨vs,L.mono hB h1,h2⟩
theorem jk.stab {α:Type} {L:zk α} {B:Nat} {w w':World} {b off i:Nat} {x:α} (hb:b<B) (hw:fj B w w') (h:jk L B w b off i x):jk L B w' b off i x:=by
 obtain ⟨vs,h1,h2⟩:=h
 exact⟨vs,L.stab hw h1,fun j hj=>by
  have hlt:j<vs.length:=by rw[L.len h1]; exact hj
  have h3:=h2 j hj
  rw[Sx hlt] at h3 ⊢
  exact yh hw hb h3⟩
theorem fE.mono {α:Type} {L:zk α} {B B':Nat} {w:World} {v:Value} {l:List α} (hB:B<=B') (h:fE L B w v l):fE L B' w v l:=by
 obtain ⟨a,cap,e,h1,h2,h3⟩:=h
 exact⟨a,cap,e,h1,h2,fun hp=>let ⟨b,off,e',hb,h4⟩:=h3 hp; ⟨b,off,e',SQ hb hB,fun i hi=>(h4 i hi).mono hB⟩⟩
theorem fE.stab {α:Type} {L:zk α} {B:Nat} {w w':World} {v:Value} {l:List α} (hw:fj B w w') (h:fE L B w v l):fE L B w' v l:=by
 obtain ⟨a,cap,e,h1,h2,h3⟩:=h
 exact⟨a,cap,e,h1,h2,fun hp=>let ⟨b,off,e',hb,h4⟩:=h3 hp; ⟨b,off,e',hb,fun i hi=>(h4 i hi).stab hb hw⟩⟩
theorem fE.nil {α:Type} (L:zk α) (B:Nat) (w:World):fE L B w (.slice none 0 0) []:=⟨none,0,rfl,Sy _,by simp[maxLen],fun h=>by simp at h⟩
theorem jk.one {α:Type} {L:zk α} {B:Nat} {w:World} {b off i:Nat} {x:α} {v:Value} (h:jk L B w b off i x) (hk:L.k=1) (hv:∀ vs,L.rd B w vs x->vs=[v]):w.cell? ⟨b,off+i,none⟩=some v:=by
 obtain ⟨vs,h1,h2⟩:=h
 have:=h2 0 o3
 rw[hv vs h1,hk] at this
 simpa using this
theorem jk.int {B:Nat} {w:World} {b off i:Nat} {x:Int} (h:jk NU B w b off i x):w.cell? ⟨b,off+i,none⟩=some (.int .i64 x)/\-9223372036854775808<=x/\x<=9223372036854775807:=by
 refine⟨h.one rfl (fun vs hv=>hv.1),?_⟩
 obtain ⟨vs,h1,_⟩:=h
 exact h1.2
end
section
open Go.RowKit
structure bP (B:Nat) (W W':World):Prop where
 os:W'.os=W.os
 tape:W'.tape=W.tape
 output:W'.output=W.output
 size:W.heap.size<=W'.heap.size
 low:∀ (k:Nat),k<B->k<W.heap.size->W'.heap[k]? = W.heap[k]?
 data:∀ (k:Nat) (o:Obj),W.heap[k]? = some o->jV o=true->W'.heap[k]? = some o
theorem bP.refl (B:Nat) (W:World):bP B W W:=⟨rfl,rfl,rfl,Sy _,fun _ _ _=>rfl,fun _ _ h _=>h⟩
theorem bP.trans {B:Nat} {X Y Z:World} (h:bP B X Y) (k:bP B Y Z):bP B X Z:=
 ⟨k.os.trans h.os,k.tape.trans h.tape,k.output.trans h.output,SZ h.size k.size,fun i hi hs=>(k.low i hi (SQ hs h.size)).trans (h.low i hi hs),fun i o hi ho=>k.data i o (h.data i o hi ho) ho⟩
theorem bP.mono {B B':Nat} {W W':World} (h:bP B W W') (hB:B'<=B):bP B' W W':=⟨h.os,h.tape,h.output,h.size,fun k hk=>h.low k (SQ hk hB),h.data⟩
theorem bP.alloc (B:Nat) (W:World) (o:Obj):bP B W (W.alloc o):=
 ⟨rfl,rfl,rfl,r8,fun k _ hs=>Below.heap_alloc W o k hs,fun k _ hk _=>(Below.heap_alloc W o k (SE.1 hk).1).trans hk⟩
theorem bP.putObj {B:Nat} {W:World} {l:Nat} {o:Obj} (o':Obj) (hB:B<=l) (hl:W.heap[l]? = some o) (ho:jV o=false):bP B W (W.putObj l o'):=
 ⟨rfl,rfl,rfl,r8,fun k hk _=>TW o3,fun k _ hk hd=>by
  by_cases e:k=l
  ·subst e; rw[hl] at hk; cases hk; rw[ho] at hd; cases hd
  ·exact(TW e).trans hk⟩
theorem bP.dY {B:Nat} {W W':World} (h:Below W.heap.size W W'):bP B W W':=
 ⟨h.os,h.tape,h.output,h.size,fun k _ hs=>h.block k hs,fun k _ hk _=>(h.block k (SE.1 hk).1).trans hk⟩
theorem bP.drew (B:Nat) (W:World):bP B W W.drew:=⟨rfl,rfl,rfl,Sy _,fun _ _ _=>rfl,fun _ _ h _=>h⟩
def Calm (B:Nat) (I:World->Prop):Prop:=∀ W W',I W->bP B W W'->I W'
theorem Calm.and {B:Nat} {I J:World->Prop} (h:Calm B I) (k:Calm B J):Calm B fun W=>I W/\J W:=fun W W' hs hc=>⟨h W W' hs.1 hc,k W W' hs.2 hc⟩
theorem Calm.pure (B:Nat) (p:Prop):Calm B fun _=>p:=fun _ _ h _=>h
theorem Calm.ex {α:Type} {B:Nat} {I:α->World->Prop} (h:∀ x,Calm B (I x)):Calm B fun W=>∃ x,I x W:=fun W W' ⟨x,hx⟩ hc=>⟨x,h x W W' hx hc⟩
theorem Calm.block {B:Nat} (b:Nat) (o:Obj) (hd:jV o=true):Calm B fun W=>W.heap[b]? = some o:=fun _ _ h hc=>hc.data b o h hd
theorem Calm.cell {B:Nat} (a:Addr) (v:Value):Calm B fun W=>W.cell? a=some v:=fun W W' h hc=>by
 have h1:W.cell? a=some v:=h
 obtain ⟨o,ho,hc1⟩:=cells_of_cell h1
 have h2:=hc.data _ _ ho (by cases o<;>first | rfl | (cases hc1))
 show W'.cell? a=some v
 rw[<-h1]
 exact Ul (h2.trans ho.symm)
theorem Calm.below {B n₀:Nat} {w:World} (hn:n₀<=w.heap.size) (hB:n₀<=B):Calm B fun W=>Below n₀ w W:=fun W W' h hc=>
 h.trans ⟨hc.os,hc.tape,hc.output,hc.size,fun k hk=>hc.low k o3 (by have:=h.size; omega)⟩
theorem bP.keeps {B n:Nat} {W W':World} (h:bP B W W'):fj n W W':=fun k o _ hk ho=>h.data k o hk ho
theorem Calm.slice {α:Type} (L:zk α) {B:Nat} (n:Nat) (v:Value) (l:List α):Calm B fun W=>fE L n W v l:=fun _ _ h hc=>h.stab hc.keeps
structure dm (B:Nat) (W W':World):Prop where
 size:W.heap.size<=W'.heap.size
 same:∀ (k:Nat) (o:Obj),B<=k->W.heap[k]? = some o->jV o=false->W'.heap[k]? = some o
theorem dm.refl (B:Nat) (W:World):dm B W W:=⟨Sy _,fun _ _ _ h _=>h⟩
theorem dm.trans {B:Nat} {X Y Z:World} (h:dm B X Y) (k:dm B Y Z):dm B X Z:=⟨SZ h.size k.size,fun i o hB hi ho=>k.same i o hB (h.same i o hB hi ho) ho⟩
theorem dm.mono {B B':Nat} {W W':World} (h:dm B W W') (hB:B<=B'):dm B' W W':=⟨h.size,fun k o hk=>h.same k o (SZ hB hk)⟩
theorem dm.dY {B:Nat} {W W':World} (h:Below W.heap.size W W'):dm B W W':=⟨h.size,fun k _ _ hk _=>(h.block k (SE.1 hk).1).trans hk⟩
theorem dm.alloc (B:Nat) (W:World) (o:Obj):dm B W (W.alloc o):=⟨r8,fun k _ _ hk _=>(Below.heap_alloc W o k (SE.1 hk).1).trans hk⟩
theorem dm.drew (B:Nat) (W:World):dm B W W.drew:=⟨Sy _,fun _ _ _ h _=>h⟩
theorem dm.setCell (B:Nat) (W:World) (a:Addr) (v:Value):dm B W (W.setCell a v):=
 ⟨by simp[World.setCell],fun k o _ hk ho=>by
  by_cases e:k=a.block
  ·subst e
   obtain ⟨hlt,hk'⟩:=SE.1 hk
   show (W.heap.modify a.block _)[a.block]? = some o
   rw[Tl (by rw[Array.size_modify]; exact hlt),Array.getElem_modify_self,hk']
   cases o<;>first | rfl | (cases ho)
  ·exact(Below.heap_setCell W a v k e).trans hk⟩
theorem dm.grown {B:Nat} {W W':World} {row:Option Nat} (hg:W.grownBy W' row) (hrow:∀ j,row=some j->j<B∨∃ o,W.heap[j]? = some o/\jV o=true):dm B W W':=
 ⟨hg.size,fun k o hB hk ho=>(hg.block k (SE.1 hk).1 (fun e=>by
  rcases hrow k e.symm with h | ⟨o',h1,h2⟩
  ·omega
  ·rw[hk] at h1; cases h1; rw[ho] at h2; cases h2)).trans hk⟩
def qK (F:Fence):Prop:=F.depth=none/\∀ f,F.fn f
theorem qK.inRound {F:Fence} (h:qK F) (l:Nat):qK (F.inRound l):=h
theorem fj.putObj (B:Nat) {X:World} {l:Nat} {o:Obj} (o':Obj) (hl:X.heap[l]? = some o) (ho:jV o=false):fj B X (X.putObj l o'):=fun k o'' _ hk hd=>by
 by_cases e:k=l
 ·subst e; rw[hl] at hk; cases hk; rw[ho] at hd; cases hd
 ·exact(TW e).trans hk
theorem dw.putObj (T:Nat->Prop) {X:World} {l:Nat} {o:Obj} (o':Obj) (hl:X.heap[l]? = some o) (ho:jV o=false):dw T X (X.putObj l o'):=fun k o'' _ hk hd=>by
 by_cases e:k=l
 ·subst e; rw[hl] at hk; cases hk; rw[ho] at hd; cases hd
 ·exact(TW e).trans hk
variable {F:Fence} {n:Nat} {P:Program}
def Marks (B:Nat) (W:World) (ds:List Deferred):Prop:=∃ rs:List Nat,ds=rs.map (fun r=>{ target:=.collected r,args:=#[] })/\rs.Nodup/\∀ r∈rs,B<=r/\W.heap[r]? = some (.deferred (some []))
theorem Marks.nil (B:Nat) (W:World):Marks B W []:=⟨[],rfl,List.nodup_nil,fun _ h=>by cases h⟩
theorem Marks.cons {B D:Nat} {W:World} {ds:List Deferred} (h:Marks B W ds) (hD:B<=D) (hW:W.heap[D]? = some (.deferred (some []))) (hn:∀ r,(⟨.collected r,#[]⟩:Deferred)∈ds->r≠D):Marks B W ({ target:=.collected D,args:=#[] } :: ds):=by
 obtain ⟨rs,rfl,h2,h3⟩:=h
 refine⟨D :: rs,rfl,V4.2 ⟨fun hm=>hn D (VV.2 ⟨D,hm,rfl⟩) rfl,h2⟩,fun r hr=>?_⟩
 rcases Ti.1 hr with rfl | hr
 ·exact⟨hD,hW⟩
 ·exact h3 r hr
theorem Marks.lt {B:Nat} {W:World} {ds:List Deferred} (h:Marks B W ds) {r:Nat} (hr:(⟨.collected r,#[]⟩:Deferred)∈ds):r<W.heap.size:=by
 obtain ⟨rs,rfl,h2,h3⟩:=h
 obtain ⟨q,hq,e⟩:=VV.1 hr
 cases e
 exact(SE.1 (h3 _ hq).2).1
theorem Marks.kept {B C:Nat} {W W':World} {ds:List Deferred} (h:Marks B W ds) (hk:dm C W W') (hC:C<=B):Marks B W' ds:=by
 obtain ⟨rs,e,h2,h3⟩:=h
 exact⟨rs,e,h2,fun r hr=>⟨(h3 r hr).1,hk.same r _ (SZ hC (h3 r hr).1) (h3 r hr).2 rfl⟩⟩
theorem Marks.below {B C:Nat} {W W':World} {ds:List Deferred} (h:Marks B W ds) (hk:Below C W W') (hC:W.heap.size<=C):Marks B W' ds:=by
 obtain ⟨rs,e,h2,h3⟩:=h
 refine⟨rs,e,h2,fun r hr=>⟨(h3 r hr).1,(hk.block r ?_).trans (h3 r hr).2⟩⟩
 have:=(SE.1 (h3 r hr).2).1
 omega
end
section
def xF (F:Fence) (n:Nat) (P:Program) (o:Oper) (ev:Operand->Value) (w:World) (R:Value->World->Prop):Prop:=
 match (execOp ev o).run P w with
 | .ok (.value v) w'=>R v w'
 | .ok .skip w'=>R undef w'
 | .ok (.enter f args) w'=>CallsIn F (n - 1) P f args w' fun
   | .returned v,w''=>R v w''
   | _,_=>False
 | .ok (.row row args) w'=>RowsIn F (n - 1) P row args w' R
 | .ok (.round l f tmps assign body) w'=>RoundIn F (n - 1) P l f tmps assign body w' fun
   | .returned v,w''=>R v w''
   | _,_=>False
 | _=>False
theorem xF.mono {F:Fence} {n:Nat} {P:Program} {o:Oper} {ev:Operand->Value} {w:World} {R R':Value->World->Prop} (h:xF F n P o ev w R) (hr:∀ v w',R v w'->R' v w'):xF F n P o ev w R':=by
 unfold xF at *
 generalize (execOp ev o).run P w=r at *
 cases r with
 | ok x w'=>
  cases x<;>simp only at h ⊢<;>first
   | exact hr _ _ h
   | exact h.mono fun e w'' he=>by cases e<;>first | exact hr _ _ he | exact he
   | exact h.mono fun v w'' he=>hr _ _ he
 | halt x w'=>exact h
def slot (a:Act) (t:Nat):Value:=a.tmps.getD t undef
def bV (ops:Array Oper) (i:Nat):Option Nat:=(ops[i]?).bind (·.dst)
def ff (ops:Array Oper) (i j:Nat):Bool:=((Region.before ops).getD i 0).testBit j
def lG (o:Oper):Bool:=match o.op with | .select ..=>false | .defer _=>false | _=>true
def te (ops:Array Oper) (N:Nat):Bool:=
 (List.range ops.size).all fun i=>match ops[i]? with
  | none=>true
  | some o=>lG o&&(match o.dst with | some d=>decide (d<N) | none=>true) &&
   (o.after.all fun e=>!Region.binds .any e || decide (e.on<i)) &&
   ((List.range ops.size).all fun j=>i==j || o.dst.isNone || bV ops j != o.dst) &&
   ((List.range ops.size).all fun j=>match bV ops j with
    | none=>true
    | some t=>!(o.looksAt ops).contains t || i==j || ff ops i j || ff ops j i) &&
   !ff ops i i
def dZ (_ops:Array Oper) (listed:Array Bool) (i:Nat):Prop:=listed.getD i false=true
variable {F:Fence} {n:Nat} {P:Program} {ops:Array Oper} {Q:Exit->Act->World->Prop}
inductive nv (ops:Array Oper):Nat->Nat->Prop
 | edge {i:Nat} {o:Oper} {e:Edge} (ho:ops[i]? = some o) (he:e∈o.after) (hb:Region.binds .any e=true):nv ops i e.on
 | thru {i j:Nat} {o:Oper} {e:Edge} (ho:ops[i]? = some o) (he:e∈o.after) (hb:Region.binds .any e=true) (h:nv ops e.on j):nv ops i j
theorem qX (acc:Array Nat) (hacc:∀ i j,(acc.getD i 0).testBit j=true->nv ops i j) {i:Nat} {o:Oper} (ho:ops[i]? = some o) :
  ∀ (l:List Edge) (s:Nat),(∀ e∈l,e∈o.after)->(∀ j,s.testBit j=true->nv ops i j)->∀ j,(l.foldl (fun s e=>if Region.binds .any e then s ||| 2 ^ e.on ||| acc.getD e.on 0 else s) s).testBit j=true->nv ops i j
 | [],s,_,hs,j,h=>hs j h
 | e :: l,s,hl,hs,j,h=>by
  rw[V5] at h
  refine qX acc hacc ho l _ (fun e he=>hl e (by simp[he])) (fun j hj=>?_) j h
  split at hj
  ·rename_i hb
   rw[Nat.testBit_or,Nat.testBit_or,TK,TK] at hj
   rcases hj with (hj | hj) | hj
   ·exact hs j hj
   ·rw[Nat.testBit_two_pow] at hj
    obtain rfl:e.on=j:=by simpa using hj
    exact .edge ho (hl e r8) hb
   ·exact .thru ho (hl e r8) hb (hacc _ _ hj)
  ·exact hs j hj
theorem fF (i j:Nat) (h:ff ops i j=true):nv ops i j:=by
 unfold ff Region.before at h
 rw[<-UU] at h
 have key:∀ (l:List Oper) (k:Nat) (acc:Array Nat),(∀ m,l[m]? = ops[k+m]?)->acc.size=k->(∀ i j,(acc.getD i 0).testBit j=true->nv ops i j) ->
   ∀ i j,((l.foldl (fun acc o=>acc.push (o.after.foldl (fun s e=>if Region.binds .any e then s ||| 2 ^ e.on ||| acc.getD e.on 0 else s) 0)) acc).getD i 0).testBit j=true->nv ops i j:=by
  intro l
  induction l with
  | nil=>intro k acc _ _ hacc i j h; exact hacc i j h
  | cons o l ih=>
   intro k acc hl hk hacc i j h
   refine ih (k+1) _ (fun m=>by have:=hl (m+1); simpa [Us,VW 1 m] using this) (by simp[hk]) (fun i j hij=>?_) i j h
   have ho:ops[k]? = some o:=by simpa using (hl 0).symm
   by_cases e:i=acc.size
   ·subst e
    rw[hk]
    have e2:∀ X:Nat,(acc.push X).getD acc.size 0=X:=fun X=>r8
    rw[e2,<-UU] at hij
    exact qX acc hacc ho _ 0 (fun e he=>Array.mem_toList_iff.1 he) (fun j hj=>by simp at hj) j hij
   ·refine hacc i j ?_
    have:(acc.push (o.after.foldl (fun s e=>if Region.binds .any e then s ||| 2 ^ e.on ||| acc.getD e.on 0 else s) 0)).getD i 0=acc.getD i 0:=by
     simp only[TD,Wo,SI e]
    rw[this] at hij; exact hij
 exact key ops.toList 0 #[] r8 rfl (fun i j h=>by simp at h) i j h
theorem kE {listed:Array Bool} (hcl:∀ i o,ops[i]? = some o->dZ ops listed i->∀ e∈o.after,Region.binds .any e=true->dZ ops listed e.on)
  (i j:Nat) (hi:∃ o,ops[i]? = some o/\∀ e∈o.after,Region.binds .any e=true->dZ ops listed e.on) (h:ff ops i j=true):dZ ops listed j:=by
 have hw:=fF i j h
 clear h
 induction hw with
 | edge ho he hb=>
  obtain ⟨o',ho',hall⟩:=hi
  rw[ho] at ho'; cases ho'
  exact hall _ he hb
 | thru ho he hb hw ih=>
  obtain ⟨o',ho',hall⟩:=hi
  rw[ho] at ho'; cases ho'
  refine ih ?_
  have hc:=hall _ he hb
  cases hw with
  | edge ho2 _ _=>exact⟨_,ho2,hcl _ _ ho2 hc⟩
  | thru ho2 _ _ _=>exact⟨_,ho2,hcl _ _ ho2 hc⟩
theorem filter_lt {α:Type} (p q:α->Bool):∀ l:List α,(∀ x∈l,q x=true->p x=true)->(∃ x∈l,p x=true/\q x=false)->(l.filter q).length<(l.filter p).length
 | [],_,⟨x,hx,_⟩=>by cases hx
 | y :: l,h,⟨x,hx,hp,hq⟩=>by
  have hle:(l.filter q).length<=(l.filter p).length:=by
   clear hx hp hq
   induction l with
   | nil=>simp
   | cons z l ih=>
    have hz:=h z r8
    have:=ih (fun x hx=>h x (by rcases Ti.1 hx with rfl | hx; simp; simp[hx]))
    simp only[List.filter_cons]
    cases hqz:q z<;>cases hpz:p z<;>simp<;>first | omega | skip
    rw[hz hqz] at hpz; cases hpz
  have hy:=h y r8
  simp only[List.filter_cons]
  rcases Ti.1 hx with rfl | hx
  ·rw[hp,hq]; simp; omega
  ·have:=filter_lt p q l (fun x hx=>h x (by simp[hx])) ⟨x,hx,hp,hq⟩
   cases hqy:q y<;>cases hpy:p y<;>simp<;>first | omega | skip
   rw[hy hqy] at hpy; cases hpy
def Ak (ops:Array Oper) (listed:Array Bool):Nat:=((List.range ops.size).filter fun i=>!listed.getD i true).length
theorem eS {a:Act} {d:Nat} {v:Value} (h:d<a.tmps.size):slot (a.put (some d) v) d=v:=by
 simp[slot,Act.put,h]
theorem di {a:Act} {dst:Option Nat} {t:Nat} {v:Value} (h:dst≠some t):slot (a.put dst v) t=slot a t:=by
 cases dst with
 | none=>rfl
 | some d=>
  have hne:d≠t:=fun e=>h (by rw[e])
  simp[slot,Act.put,Ux hne]
theorem jZ (hWF:qK F) {i:Nat} {o:Oper} (ho:ops[i]? = some o) (hp:lG o=true) {a:Act} {w:World} {K:Act->World->Prop} {R:Value->World->Prop}
  (h:if Region.wanted o (yielded ops a.tmps)=true then xF F n P o a.eval w R else R undef w) (hK:∀ v w',R v w'->K (a.put o.dst v) w'):wpOpIn F n P ops Q i K a w:=by
 unfold wpOpIn
 simp only[ho]
 split
 ·rename_i hw
  rw[SH hw] at h
  refine⟨fun f _=>hWF.2 f,?_⟩
  rw[Wm _ _ _ (fun c hc=>by unfold lG at hp; rw[hc] at hp; cases hp)]
  unfold xF at h
  generalize (execOp a.eval o).run P w=r at *
  have hd:F.depth.isSome=true->1<=n:=fun hs=>by rw[hWF.1] at hs; cases hs
  cases r with
  | ok x w'=>
   cases x<;>simp only[Oper.uponIn] at h ⊢<;>first
    | exact hK _ _ h
    | exact⟨hd,h.mono fun e w'' he=>by cases e<;>first | exact hK _ _ he | exact he.elim⟩
    | exact⟨hd,h.mono fun v w'' he=>hK _ _ he⟩
    | exact h.elim
  | halt x w'=>exact h.elim
 ·rename_i hw
  rw[SI hw] at h
  exact⟨fun f _=>hWF.2 f,hK _ _ h⟩
def rv (ops:Array Oper) (k:Nat):Array Bool:=((List.range ops.size).map fun i=>decide (i<k)).toArray
def eV (ops:Array Oper) (m:Nat):Bool:=decide (m<=ops.size)&&((List.range ops.size).all fun i=>decide (i<m) || (List.range m).all fun j=>ff ops i j)&&(List.range (ops.size+1)).all fun k=>decide (k<m) || (Region.ready .any ops (rv ops k)==if k<ops.size then [k] else [])
theorem tQ {listed:Array Bool} {k:Nat} (hls:listed.size=ops.size) (hc:∀ i,i<ops.size->(dZ ops listed i↔i<k)):listed=rv ops k:=by
 refine Array.ext (by simp[rv,hls]) fun i h1 h2=>?_
 have:=hc i o3
 unfold dZ at this
 simp only[rv,List.getElem_toArray,List.getElem_map,List.getElem_range]
 have e:listed.getD i false=listed[i]:=by simp[h1]
 rw[e] at this
 cases h:listed[i] with
 | true=>rw[h] at this; simpa using this.1 rfl
 | false=>rw[h] at this; simp at this; simp; exact this
theorem pj {m:Nat} (ht:eV ops m=true) :
  ∀ (r k:Nat),k+r=ops.size->m<=k->∀ (fuel:Nat) (listed:Array Bool) (a:Act) (w:World),r<=fuel->listed.size=ops.size->(∀ i,i<ops.size->(dZ ops listed i↔i<k)) ->
   wpListIn F n P ops Q (ops.toList.drop k) a w->wpAnyIn F n P .any ops Q fuel listed a w:=by
 have hready:∀ k,k<=ops.size->m<=k->Region.ready .any ops (rv ops k)=if k<ops.size then [k] else []:=fun k hk hm=>by
  simp only[eV,Sz] at ht
  have:=SJ.1 ht.2 k (S6.2 o3)
  simp only[TK,SG,Tw] at this
  exact this.resolve_left o3
 intro r
 induction r with
 | zero=>
  intro k hk hm fuel listed a w _ hls hc h
  have e:=tQ hls hc
  have hr:Region.ready .any ops listed=[]:=by rw[e,hready k o3 hm,SI o3]
  rw[U1 r9] at h
  exact wpAnyIn_done hr h fuel
 | succ r ih=>
  intro k hk hm fuel listed a w hf hls hc h
  have e:=tQ hls hc
  have hr:Region.ready .any ops listed=[k]:=by rw[e,hready k o3 hm,SH o3]
  obtain ⟨fuel,rfl⟩:∃ f,fuel=f+1:=⟨fuel - 1,o3⟩
  have hlt:k<ops.toList.length:=r9
  rw[SU hlt] at h
  have ho:ops[k]? = some ops.toList[k]:=by rw[Array.getElem_toList]; exact Tl _
  refine wpAnyIn_all hr r8 fun i hi=>?_
  obtain rfl:i=k:=by simpa using hi
  unfold wpOpIn
  simp only[ho]
  have next:∀ a w,wpListIn F n P ops Q (ops.toList.drop (i+1)) a w->wpAnyIn F n P .any ops Q fuel (listed.setIfInBounds i true) a w:=fun a w h'=>by
   refine ih (i+1) o3 o3 fuel _ a w o3 (by simpa using hls) (fun j hj=>?_) h'
   by_cases e:j=i
   ·subst e; unfold dZ; simp[hls,hj]
   ·have:=hc j hj
    unfold dZ at this ⊢
    rw[UL false (TF e),this]; omega
  unfold wpListIn at h
  split
  ·rename_i hw; rw[SH hw] at h; exact Oper.wpIn_mono next h
  ·rename_i hw; rw[SI hw] at h; exact⟨h.1,next _ _ h.2⟩
def LW (F:Fence) (n:Nat) (P:Program) (ops:Array Oper) (Q:Exit->Act->World->Prop) (a:Act) (w:World):Prop:=∀ t,wpOpsIn F n P ops Q (Region.schedule (P.follows .mixedOrders) ops t) a { w with drawn:=w.drawn+1 }
theorem LW.wpIn {id:Nat} {a:Act} {w:World} (h:LW F n P ops Q a w):(Code.region id ops true).wpIn F n P Q a w:=wpIn_region_draw h
theorem Bg {a:Act} {w:World} (hm:P.follows .mixedOrders=true) (h:wpAnyIn F n P .any ops Q ops.size (Array.replicate ops.size false) a { w with drawn:=w.drawn+1 }):LW F n P ops Q a w:=fun t=>by
 simp only[Region.schedule,hm,Wu,Vd]
 exact wpAnyIn_sound ops.size t _ a _ h
theorem A1 {a0:Act} {w0:World} (hWF:qK F) (hm:P.follows .mixedOrders=true) (N m:Nat) (hN:a0.tmps.size=N) (lj:te ops N=true) (chkt:eV ops m=true)
  (S:World->Prop) (Ext:World->World->Prop) (V:Nat->Value->World->Prop) (hV:∀ i v w w',V i v w->Ext w w'->V i v w') (hS:S w0.drew)
  (hstep:∀ i o,i<m->ops[i]? = some o->∀ (a:Act) (w:World),S w ->
   (∀ t∈o.looksAt ops,∀ j,bV ops j=some t->ff ops i j=true->V j (slot a t) w) ->
   (∀ t∈o.looksAt ops,(∀ j,bV ops j=some t->ff ops i j=false)->slot a t=slot a0 t)->a.tmps.size=N ->
   if Region.wanted o (yielded ops a.tmps)=true then xF F n P o a.eval w (fun v w'=>V i v w'/\S w'/\Ext w w') else V i undef w/\S w/\Ext w w)
  (hend:∀ (a:Act) (w:World),S w->a.defers=a0.defers->a.tmps.size=N->(∀ i t,i<m->bV ops i=some t->V i (slot a t) w)->(∀ t,(∀ i,i<m->bV ops i≠some t)->slot a t=slot a0 t) ->
   (∀ i o,i<m->ops[i]? = some o->o.dst=none->∃ v,V i v w)->wpListIn F n P ops Q (ops.toList.drop m) a w) :
  LW F n P ops Q a0 w0:=by
 have chk1:∀ i o,ops[i]? = some o->lG o=true/\(∀ d,o.dst=some d->d<N)/\(∀ e∈o.after,Region.binds .any e=true->e.on<i)/\(∀ j d,i≠j->o.dst=some d->bV ops j≠some d) ∧
   (∀ j t,bV ops j=some t->t∈o.looksAt ops->i=j∨ff ops i j=true∨ff ops j i=true)/\ff ops i i=false:=by
  intro i o ho
  have hi:i<ops.size:=(SE.1 ho).1
  have h:=SJ.1 lj i (S6.2 hi)
  simp only[ho,Sz] at h
  obtain ⟨⟨⟨⟨⟨h1,h2⟩,h3⟩,h4⟩,h5⟩,h6⟩:=h
  refine⟨h1,fun d hd=>by rw[hd] at h2; simpa using h2,fun e he hb=>?_,fun j d hij hd hj=>?_,fun j t hj ht=>?_,by simpa using h6⟩
  ·have:=UN.1 h3 e he
   rw[hb] at this; simpa using this
  ·have hjs:j<ops.size:=by
    unfold bV at hj
    cases hx:ops[j]? with
    | none=>rw[hx] at hj; cases hj
    | some _=>exact(SE.1 hx).1
   have:=SJ.1 h4 j (S6.2 hjs)
   rw[hd,hj] at this
   simp at this
   exact hij this
  ·have hjs:j<ops.size:=by
    unfold bV at hj
    cases hx:ops[j]? with
    | none=>rw[hx] at hj; cases hj
    | some _=>exact(SE.1 hx).1
   have:=SJ.1 h5 j (S6.2 hjs)
   rw[hj] at this
   simp[ht] at this
   rcases this with (h | h) | h
   ·exact .inl h
   ·exact .inr (.inl h)
   ·exact .inr (.inr h)
 have hm2:m<=ops.size:=by simp only[eV,Sz,SG] at chkt; exact chkt.1.1
 have main:∀ (fuel:Nat) (listed:Array Bool) (a:Act) (w:World),Ak ops listed<=fuel->listed.size=ops.size->S w->a.defers=a0.defers->a.tmps.size=N ->
   (∀ i o,ops[i]? = some o->dZ ops listed i->∀ e∈o.after,Region.binds .any e=true->dZ ops listed e.on)->(∀ i,m<=i->i<ops.size->¬ dZ ops listed i) ->
   (∀ i t,i<m->bV ops i=some t->dZ ops listed i->V i (slot a t) w)->(∀ t,(∀ i,i<m->bV ops i=some t->¬ dZ ops listed i)->slot a t=slot a0 t) ->
   (∀ i o,i<m->ops[i]? = some o->o.dst=none->dZ ops listed i->∃ v,V i v w)->wpAnyIn F n P .any ops Q fuel listed a w:=by
  have getD_eq:∀ (listed:Array Bool) (i:Nat),i<listed.size->listed.getD i true=listed.getD i false:=fun listed i hi=>by simp[hi]
  intro fuel
  induction fuel with
  | zero=>
   intro listed a w hu hls hSw hdf hsz hcl hnt hv hno hns
   have all:∀ i,i<ops.size->dZ ops listed i:=fun i hi=>by
    cases hc:listed.getD i false with
    | true=>exact hc
    | false=>
     have hmem:i∈(List.range ops.size).filter (fun i=>!listed.getD i true):=Vv.2 ⟨S6.2 hi,by rw[getD_eq _ _ o3,hc]; rfl⟩
     have:=UE hmem
     unfold Ak at hu; omega
   have hmm:m=ops.size:=Vw hm2 (Uu fun h=>hnt m (Sy _) h (all m h))
   exact pj chkt 0 ops.size o3 hm2 0 listed a w (Sy _) hls (fun i hi=>⟨fun _=>hi,fun _=>all i hi⟩)
    (by rw[<-hmm]; exact hend a w hSw hdf hsz (fun i t hi h=>hv i t hi h (all i o3)) (fun t h=>hno t (fun i hi hi2=>absurd hi2 (h i hi))) (fun i o hi ho hd=>hns i o hi ho hd (all i o3)))
  | succ fuel ih=>
   intro listed a w hu hls hSw hdf hsz hcl hnt hv hno hns
   by_cases hall:∀ i,i<m->dZ ops listed i
   ·refine pj chkt (ops.size - m) m o3 (Sy _) (fuel+1) listed a w ?_ hls (fun i hi=>⟨fun h=>TV fun hle=>hnt i hle hi h,fun h=>hall i h⟩)
     (hend a w hSw hdf hsz (fun i t hi h=>hv i t hi h (hall i hi)) (fun t h=>hno t (fun i hi hi2=>absurd hi2 (h i hi))) (fun i o hi ho hd=>hns i o hi ho hd (hall i hi)))
    refine SZ ?_ hu
    unfold Ak
    have:((List.range ops.size).filter fun i=>decide (m<=i)).length=ops.size - m:=by
     rw[<-T2]
     have:∀ s,(List.range s).countP (fun i=>decide (m<=i))=s - m:=by
      intro s
      induction s with
      | zero=>simp
      | succ s ih=>rw[List.range_succ,List.countP_append,ih]; simp[List.countP_cons]; split<;>omega
     exact this _
    rw[<-this]
    rw[<-T2,<-T2]
    refine Wd fun i hi h=>?_
    have hi:=S6.1 hi
    have hn:=hnt i (by simpa using h) hi
    unfold dZ at hn
    rw[getD_eq _ _ o3]
    simpa using hn
   ·simp only[Wj] at hall
    obtain ⟨i0,hi0,hni0⟩:=hall
    refine⟨fun hrd=>?_,fun i hi=>?_⟩
    ·exfalso
     have:∀ i,i<m->dZ ops listed i:=by
      intro i
      induction i using Nat.strongRecOn with
      | _ i ih2=>
       intro hi
       cases hc:listed.getD i false with
       | true=>exact hc
       | false=>
        have:i∈Region.ready .any ops listed:=by
         refine UW.2 ⟨by rw[getD_eq _ _ o3]; exact hc,_,Tl o3,fun e he hb=>?_⟩
         have hlt:=(chk1 i _ (Tl o3)).2.2.1 e he hb
         exact ih2 e.on hlt o3
        rw[hrd] at this; cases this
     exact hni0 (this i0 hi0)
    obtain ⟨hun,o,ho,hall⟩:=UW.1 hi
    have his:i<ops.size:=(SE.1 ho).1
    have him:i<m:=TV fun hle=>by
     simp only[eV,Sz] at chkt
     have h1:=SJ.1 chkt.1.2 i (S6.2 his)
     simp only[TK,SG] at h1
     have h2:=SJ.1 (h1.resolve_left o3) i0 (S6.2 hi0)
     exact hni0 (kE hcl i i0 ⟨o,ho,hall⟩ h2)
    obtain ⟨c1,c2,c3,c4,c5,c6⟩:=chk1 i o ho
    have hnot:¬ dZ ops listed i:=by unfold dZ; rw[<-getD_eq _ _ o3,hun]; simp
    have hdst:∀ t,o.dst=some t->bV ops i=some t:=fun t h=>by unfold bV; rw[ho]; exact h
    refine jZ hWF ho c1 (hstep i o him ho a w hSw (fun t ht j hj hb=>?_) (fun t ht hj=>hno t fun j hjm hjt hcj=>?_) hsz) ?_
    ·have hcj:=kE hcl i j ⟨o,ho,hall⟩ hb
     have hjs:j<ops.size:=by
      unfold bV at hj
      cases hx:ops[j]? with
      | none=>rw[hx] at hj; cases hj
      | some _=>exact(SE.1 hx).1
     exact hv j t (TV fun hle=>hnt j hle hjs hcj) hj hcj
    ·rcases c5 j t hjt ht with rfl | h | h
     ·exact hnot hcj
     ·rw[hj j hjt] at h; cases h
     ·cases hoj:ops[j]? with
      | none=>unfold bV at hjt; rw[hoj] at hjt; cases hjt
      | some oj=>exact hnot (kE hcl j i ⟨oj,hoj,hcl j oj hoj hcj⟩ h)
    ·rintro v w' ⟨hv1,hS1,hE1⟩
     have come_set:∀ k,dZ ops (listed.setIfInBounds i true) k↔k=i∨dZ ops listed k:=fun k=>by
      unfold dZ
      by_cases e:k=i
      ·subst e; simp[hls,his]
      ·rw[UL false (TF e)]; simp[e]
     refine ih _ _ _ ?_ (by simpa using hls) hS1 ?_ ?_ ?_ ?_ ?_ ?_ ?_
     ·have:=filter_lt (fun k=>!listed.getD k true) (fun k=>!(listed.setIfInBounds i true).getD k true) (List.range ops.size) (fun x hx hq=>by
       by_cases e:i=x
       ·subst e; rw[hun]; rfl
       ·rw[UL true e] at hq; exact hq) ⟨i,S6.2 his,by rw[hun]; rfl,by simp[hls,his]⟩
      unfold Ak at *; omega
     ·cases hd:o.dst<;>simp[Act.put,hdf]
     ·cases hd:o.dst<;>simp[Act.put,hsz]
     ·intro k ok hok hk e he hb
      rw[come_set]
      rcases (come_set k).1 hk with rfl | hk
      ·rw[ho] at hok; cases hok
       exact .inr (hall e he hb)
      ·exact .inr (hcl k ok hok hk e he hb)
     ·intro k hk hks hc
      rcases (come_set k).1 hc with rfl | hc
      ·omega
      ·exact hnt k hk hks hc
     ·intro k t hkm hkt hk
      rcases (come_set k).1 hk with rfl | hk
      ·have hd:o.dst=some t:=by unfold bV at hkt; rw[ho] at hkt; exact hkt
       rw[hd,eS (by rw[hsz]; exact c2 t hd)]
       exact hv1
      ·have hne:k≠i:=fun e=>hnot (e ▸ hk)
       rw[di (fun hd=>c4 k t (TF hne) hd hkt)]
       exact hV k _ _ _ (hv k t hkm hkt hk) hE1
     ·intro t ht
      rw[di (fun hd=>ht i him (hdst t hd) ((come_set i).2 (.inl rfl)))]
      exact hno t fun k hkm hk hck=>ht k hkm hk ((come_set k).2 (.inr hck))
     ·intro k ok hkm hok hd hk
      rcases (come_set k).1 hk with rfl | hk
      ·exact⟨v,hv1⟩
      ·obtain ⟨u,hu⟩:=hns k ok hkm hok hd hk
       exact⟨u,hV k _ _ _ hu hE1⟩
 have h0:∀ i,¬ dZ ops (Array.replicate ops.size false) i:=fun i hc=>by
  unfold dZ at hc
  by_cases h:i<ops.size<;>simp[Array.getD,h] at hc
 refine Bg hm (main _ _ _ _ ?_ r8 hS rfl hN ?_ ?_ ?_ ?_ ?_)
 ·unfold Ak
  exact SZ (Vu _ _) r8
 ·intro i o _ hc; exact absurd hc (h0 i)
 ·intro i _ _ hc; exact h0 i hc
 ·intro i t _ _ hc; exact absurd hc (h0 i)
 ·intro t _; rfl
 ·intro i o _ _ _ hc; exact absurd hc (h0 i)
end
section
open Go.RowKit
def gv {α:Type} (L:zk α) (e:TypeId) (base B:Nat) (w:World) (v:Value) (l:List α):Prop:=
 ∃ xs,w.ownsRow base e L.k v l.length xs/\∀ i (h:i<l.length),∃ vs,L.rd B w vs l[i]/\∀ j,j<L.k->xs[i*L.k+j]? = vs[j]?
variable {α:Type} {L:zk α} {e:TypeId} {base B:Nat} {w:World} {v:Value} {l:List α}
theorem gv.nil (L:zk α) (e:TypeId) (base B:Nat) (w:World):gv L e base B w (.slice none 0 0) []:=
 ⟨[],World.ownsRow_nil w base e L.k,fun i h=>by simp at h⟩
theorem gv.made (L:zk α) (e:TypeId) (base B:Nat) (w:World) (cur:Array Value) (cap:Nat) (hb:base<=w.heap.size) (hm:cap<=maxLen) (hs:cur.size=cap*L.k) :
  gv L e base B (w.alloc (.cells cur e)) (.slice (some ⟨w.heap.size,0,none⟩) 0 cap) []:=
 ⟨[],World.ownsRow_made w cur cap hb hm hs,fun i h=>by simp at h⟩
theorem gv.kept {w':World} (h:gv L e base B w v l) (hb:Below w.heap.size w w') (hB:B<=w.heap.size):gv L e base B w' v l:=by
 obtain ⟨xs,h1,h2⟩:=h
 refine⟨xs,h1.kept (row:=none) ⟨hb.os,hb.tape,hb.output,hb.size,fun k hk _=>hb.block k hk⟩ (by cases v.ownBlock<;>simp),fun i hi=>?_⟩
 obtain ⟨vs,h3,h4⟩:=h2 i hi
 exact⟨vs,L.stab (fj.dY hb hB) h3,h4⟩
theorem gv.other {w':World} {row:Option Nat} (h:gv L e base B w v l) (hg:w.grownBy w' row) (hB:B<=w.heap.size) (hr:∀ k,row=some k->B<=k) (hne:v.ownBlock=none∨v.ownBlock≠row):gv L e base B w' v l:=by
 obtain ⟨xs,h1,h2⟩:=h
 refine⟨xs,h1.kept hg hne,fun i hi=>?_⟩
 obtain ⟨vs,h3,h4⟩:=h2 i hi
 exact⟨vs,L.stab (fj.dY ((Below.refl _ _).grown hg hB hr) (Sy _)) h3,h4⟩
theorem gv.alloc (h:gv L e base B w v l) (hB:B<=w.heap.size) (o:Obj):gv L e base B (w.alloc o) v l:=
 h.kept ((Below.refl _ _).alloc (Sy _) _) hB
theorem gv.drew (h:gv L e base B w v l) (hB:B<=w.heap.size):gv L e base B w.drew v l:=
 h.kept (Below.refl _ _).drew hB
theorem gv.lt (h:gv L e base B w v l):∀ k,v.ownBlock=some k->base<=k/\k<w.heap.size:=let ⟨_,h1,_⟩:=h; h1.lt
theorem wj (b off j:Nat):(⟨b,off,none⟩:Addr).add j=⟨b,off+j,none⟩:=by unfold Addr.add; split<;>simp_all
theorem gv.slice (h:gv L e base B w v l) {B':Nat} (hB:B<=B') (hw:w.heap.size<=B'):fE L B' w v l:=by
 obtain ⟨xs,h1,h2⟩:=h
 have hlt:=h1.lt
 have hcs:=fun g hg=>h1.cells (g:=g) hg
 obtain ⟨hl,h3⟩:=h1
 rcases h3 with ⟨rfl,hn⟩ | ⟨g,cap,cur,rfl,hb,hg,hc,hm,hs,ht⟩
 ·obtain rfl:l=[]:=SV hn
  exact fE.nil _ _ _
 ·refine⟨_,cap,rfl,hc,hm,fun _=>⟨g,0,rfl,SQ (hlt g rfl).2 hw,fun i hi=>?_⟩⟩
  obtain ⟨vs,h4,h5⟩:=h2 i hi
  refine⟨vs,L.mono hB h4,fun j hj=>?_⟩
  have hlv:j<vs.length:=by rw[L.len h4]; exact hj
  rw[<-h5 j hj]
  have h6:=h5 j hj
  rw[Sx hlv] at h6
  have:=hcs g rfl _ _ h6
  rw[wj,Th] at this
  rw[Th,this,h6]
theorem fE.cells {B':Nat} {x:Value} {ys:List α} (hone:∀ vs y,L.rd B' w vs y->∀ u∈vs,u.oneCell'=true) (hk:0<L.k) (hx:fE L B' w x ys) (hp:0<ys.length) :
  ∃ (ad:Addr) (c:Nat) (news:List Value),x=.slice (some ad) ys.length c/\news.length=ys.length*L.k/\(∀ j u,news[j]? = some u->w.cell? (ad.add j)=some u)/\(∀ u∈news,u.oneCell'=true) ∧
   ∀ i (h:i<ys.length),∃ vs,L.rd B' w vs ys[i]/\∀ j,j<L.k->news[i*L.k+j]? = vs[j]?:=by
 obtain ⟨a,cap,rfl,hc,hm,h3⟩:=hx
 obtain ⟨b,off,rfl,hb,h4⟩:=h3 hp
 have key:∀ t,t<ys.length*L.k->∃ u,w.cell? ⟨b,off+t,none⟩=some u/\u.oneCell'=true:=fun t ht=>by
  have hi:t / L.k<ys.length:=Vx (by rw[TU]; exact ht)
  have hj:=UF t hk
  obtain ⟨vs,h5,h6⟩:=h4 _ hi
  have hlv:t % L.k<vs.length:=by rw[L.len h5]; exact hj
  have h7:=h6 _ hj
  rw[Sx hlv] at h7
  have e1:off+t / L.k*L.k+t % L.k=off+t:=by have:=Vy t L.k; rw[TU] at this; omega
  rw[e1] at h7
  exact⟨_,h7,hone _ _ h5 _ (Tb _)⟩
 have at_:∀ j,j<ys.length*L.k->((List.range (ys.length*L.k)).map fun t=>(w.cell? ⟨b,off+t,none⟩).getD undef)[j]? = w.cell? ⟨b,off+j,none⟩:=fun j hj=>by
  obtain ⟨u,h5,_⟩:=key j hj
  rw[Td,List.getElem?_range hj,Tp,h5]
  rfl
 refine⟨_,cap,(List.range (ys.length*L.k)).map fun t=>(w.cell? ⟨b,off+t,none⟩).getD undef,rfl,r8,fun j u hu=>?_,fun u hu=>?_,fun i hi=>?_⟩
 ·have hj:j<ys.length*L.k:=by have:=(SB.1 hu).1; simpa using this
  rw[at_ j hj] at hu
  rw[wj]; exact hu
 ·obtain ⟨t,ht,rfl⟩:=VV.1 hu
  obtain ⟨u,h5,h6⟩:=key t (S6.1 ht)
  rw[h5]; exact h6
 ·obtain ⟨vs,h5,h6⟩:=h4 i hi
  refine⟨vs,h5,fun j hj=>?_⟩
  have:i*L.k+j<ys.length*L.k:=by
   have:=Um L.k (show i+1<=ys.length from hi)
   rw[TB] at this; omega
  rw[at_ _ this,<-h6 j hj,Us]
end
inductive A where
 | any
 | v (x:Value)
 | ptr (b o:Nat)
 | ep (b i o:Nat)
 | ip (cs:List A)
 | imm (els:List (List A)) (clip:Bool)
 | sl (b o n:Nat) (clip:Bool)
 | agg (cs:List A)
 | tup (cs:List A)
 | fn (f:Fn) (first cap:List A)
 | ifc (t:TypeId) (x:A)
 | yld (b:Nat)
 | nq (els:List (List A))
 | mr (b:Nat)
 | mv (k:IntKind) (ks:List Int) (vs:List A)
 deriving Inhabited
inductive ME where
 | exit (id:Nat)
 | goto (l:Nat)
 | ret
inductive D5 where
 | ready
 | busy
 | done (j:ME)
inductive aD where
 | box (cs:List A)
 | row (wr:Bool) (es:Nat) (els:List (List A))
 | rng (st:D5)
 | dead
 | hole
 | mp (k:IntKind) (ks:List Int) (vs:List A)
 deriving Inhabited
abbrev ar:=List aD
inductive E where
 | normal
 | exit (id:Nat)
 | goto (l:Nat)
 | ret
 | pan (v:A)
inductive Out where
 | ret (a:A)
 | pan (a:A)
abbrev R:=Out×ar
structure St where
 fr:List (Nat×A)
 H:ar
def qG (P:Program) (k es:Nat):Prop:=∀ (w:World) (base:Option Addr) (n cap i vb vo vc:Nat) (cs vs:List Value),i<=n->n<=cap->n+1<=4294967296->cs.length=n*es->vs.length=es->(∀ v∈cs,v.oneCell'=true)->(∀ v∈vs,v.oneCell'=true) ->
 (∀ (j:Nat) (v:Value),vs[j]? = some v->w.cell? ⟨vb,vo+j,none⟩=some v) ->
 (0<cap->∃ (b:Nat) (arr:Array Value) (ty:TypeId),base=some ⟨b,0,none⟩/\vb≠b/\w.heap[b]? = some (.cells arr ty (0,0))/\cap*es<=arr.size/\∀ (j:Nat) (v:Value),cs[j]? = some v->arr[j]? = some v) ->
 Calls P k #[.slice base n cap,.int .i64 i,.slice (some ⟨vb,vo,none⟩) 1 vc] w fun e w'=>∃ b cap',e=.returned (.slice (some ⟨b,0,none⟩) (n+1) cap')/\n+1<=cap'/\RowKit.Below 0 w w'/\(∀ j,j<w.heap.size->w'.heap[j]? = w.heap[j]?∨(0<cap/\base=some ⟨j,0,none⟩))/\((0<cap/\base=some ⟨b,0,none⟩)∨w.heap.size<=b) ∧
  ∀ (j:Nat) (v:Value),(cs.take (i*es)++vs++cs.drop (i*es))[j]? = some v->w'.cell? ⟨b,j,none⟩=some v
structure Cx where
 P:Program
 glob:Nat->Option (List Value)
 isOrc:Nat->Bool
 isOrcV:Nat->Bool
 C:Nat->List A->Option A
 keep:Nat->Nat->List Nat
 wrAt:Nat->Nat->Bool
 acts:Nat->Nat->List (Nat×Nat×Nat)
 loud:Nat->Nat->Bool
 arr:Nat->Nat->Bool
 join:Nat->Nat->List Nat:=fun _ _=>[]
 cut:Nat->Nat:=fun _=>0
 fre:Nat->Bool:=fun _=>false
 deep:Nat->Bool:=fun _=>false
 ins:Nat->Nat:=fun _=>0
 pin:Nat->Nat->Bool:=fun _ _=>false
 insOK:∀ k,Nat.beq (ins k) 0=false->qG P k (ins k):=by intro k h; exact Bool.noConfusion h
def vw (f r:Nat):List ((Nat×Nat)×List Nat)->List Nat
 | []=>[]
 | p :: l=>bif Nat.beq p.1.1 f then bif Nat.beq p.1.2 r then p.2 else vw f r l else vw f r l
def BV (f r:Nat):List ((Nat×Nat)×List (Nat×Nat×Nat))->List (Nat×Nat×Nat)
 | []=>[]
 | p :: l=>bif Nat.beq p.1.1 f then bif Nat.beq p.1.2 r then p.2 else BV f r l else BV f r l
def tF (k:Nat):List (Nat×Nat)->Nat
 | []=>0
 | p :: l=>bif Nat.beq p.1 k then p.2 else tF k l
theorem Ht {P:Program} {q es:Nat} (h:qG P q es):∀ k,Nat.beq (tF k [(q,es)]) 0=false->qG P k (tF k [(q,es)]):=fun k hk=>by
 unfold tF at hk ⊢
 cases hb:Nat.beq q k with
 | true=>
  have:=SM hb
  subst this
  exact h
 | false=>
  rw[hb] at hk
  exact absurd (show Nat.beq 0 0=false from hk) (by decide)
def w7 (f r:Nat):List (Nat×Nat)->Bool
 | []=>false
 | p :: l=>bif Nat.beq p.1 f&&Nat.beq p.2 r then true else w7 f r l
def Da (k:Nat):List Nat->Bool
 | []=>true
 | x :: l=>bif Nat.beq x k then false else Da k l
def look:List (Nat×A)->Nat->A
 | [],_=>.any
 | (s,a) :: r,t=>bif Nat.beq s t then a else look r t
def St.put (s:St) (dst:Option Nat) (a:A):St:=match dst with | some d=>{ s with fr:=(d,a) :: s.fr } | none=>s
def cj {α:Type} (P:Program):Sem α->Option α
 | .pure a=>some a
 | .program k=>cj P (k P)
 | .mark _ k=>cj P k
 | _=>none
mutual
def A.pW:A->Option Value
 | .v x=>some x
 | .agg cs=>(A7 cs).map fun l=>.agg l.toArray
 | .ifc t x=>(A.pW x).map (.iface t)
 | .fn (.func f) [] []=>some (.func (.func f) #[] #[])
 | _=>none
def A7:List A->Option (List Value)
 | []=>some []
 | a :: as=>(A.pW a).bind fun x=>(A7 as).map (x :: ·)
end
def xH:Value->A
 | .slice none 0 0=>.imm [] true
 | x=>.v x
def xf:Value->A
 | .agg cs=>.agg (cs.toList.map xH)
 | x=>xH x
def lA (P:Program) (t:TypeId):Bool:=match P.underlying t with | some (.struct _) | some (.array _ _)=>true | _=>false
def cz (P:Program) (t:TypeId):Option Nat:=(P.underlying t).bind fun _=>(P.info? t).map (·.size)
def jv (P:Program) (t:TypeId):Option Nat:=(P.info? t).map (·.bytes)
def gB (P:Program) (t:TypeId):Option (List A):=(P.info? t).bind fun i=>i.zero.map fun z=>z.cells.toList.map xH
def jI (P:Program) (t:TypeId):Option TypeId:=match P.underlying t with | some (.slice e)=>some e | _=>none
def A.cell:A->Bool
 | .any | .agg _ | .tup _ | .nq _=>false
 | .v x=>x.oneCell'
 | _=>true
def A.cells?:A->Option (List A)
 | .agg cs=>bif cs.all A.cell then some cs else none
 | .v x=>bif x.oneCell' then some [.v x] else none
 | .any | .tup _ | .nq _=>none
 | a=>some [a]
def join (P:Program) (t:TypeId) (cs:List A):Option A:=bif lA P t then some (.agg cs) else match cs with | [c]=>some c | _=>none
def chunk {α:Type} (es:Nat):Nat->List α->List (List α)
 | 0,_=>[]
 | q+1,xs=>xs.take es :: chunk es q (xs.drop es)
def ml (P:Program) (t:TypeId) (a:A) (H:ar):Option A:=
 (cz P t).bind fun n=>bif n==0 then none else
 match a with
 | .ptr b o=>match H[b]? with
  | some (.box cs)=>bif decide (o+n<=cs.length) then join P t ((cs.drop o).take n) else none
  | _=>none
 | .ep b i o=>match H[b]? with
  | some (.row true _ els)=>match els[i]? with
   | some cs=>bif decide (o+n<=cs.length) then join P t ((cs.drop o).take n) else
    bif Nat.beq o 0&&Nat.beq ((els.drop i).take (n / cs.length)).flatten.length n then join P t ((els.drop i).take (n / cs.length)).flatten else none
   | none=>none
  | _=>none
 | .ip cs=>bif decide (n<=cs.length) then join P t (cs.take n) else none
 | _=>none
def bk {α:Type} (cs:List α) (o:Nat) (xs:List α):List α:=cs.take o++xs++cs.drop (o+xs.length)
def iL (P:Program) (t:TypeId) (a x:A) (H:ar) (lo:Nat):Option ar:=
 (cz P t).bind fun n=>x.cells?.bind fun xs=>bif n==0 || !(xs.length==n) then none else
 match a with
 | .ptr b o=>match H[b]? with
  | some (.box cs)=>bif decide (lo<=b)&&decide (o+n<=cs.length) then some (H.set b (.box (bk cs o xs))) else none
  | _=>none
 | .ep b i o=>match H[b]? with
  | some (.row true es els)=>match els[i]? with
   | some cs=>bif decide (lo<=b)&&decide (o+n<=cs.length) then some (H.set b (.row true es (els.set i (bk cs o xs)))) else
    bif decide (lo<=b)&&Nat.beq o 0&&Nat.beq (n / es*es) n&&decide (i+n / es<=els.length) then some (H.set b (.row true es (bk els i (chunk es (n / es) xs)))) else none
   | none=>none
  | _=>none
 | _=>none
def kY (P:Program) (t:TypeId) (H:ar):Option (A×ar):=(gB P t).map fun cs=>(.ptr H.length 0,H++[.box cs])
def xW (x:A) (H:ar):Option (A×ar):=x.cells?.map fun cs=>(.ptr H.length 0,H++[.box cs])
def rowOf (P:Program) (t:TypeId) (cs:List A) (H:ar):Option (A×ar):=match P.underlying t with
 | some (.array n e)=>(cz P e).bind fun es=>bif Nat.beq es 0 || Nat.beq n 0 || !Nat.beq cs.length (n*es) then none else some (.ep H.length 0 0,H++[.row true es (chunk es n cs)])
 | _=>none
def jF (P:Program) (t:TypeId) (H:ar):Option (A×ar):=(gB P t).bind fun cs=>rowOf P t cs H
def tC (P:Program) (t:TypeId) (x:A) (H:ar):Option (A×ar):=x.cells?.bind fun cs=>rowOf P t cs H
def nM (b:Bool) (P:Program) (t:TypeId) (H:ar):Option (A×ar):=bif b then jF P t H else kY P t H
def ye (b:Bool) (P:Program) (t:TypeId) (x:A) (H:ar):Option (A×ar):=bif b then tC P t x H else xW x H
def rep (c:Bool):Operand:=if c then .const .nilIface else .tmp 0
def IA:Operand->Bool | .const _=>true | _=>false
def rj (P:Program) (q:TypeId->Value->Value->Option Bool) (xs ys:Array Value):List Field->Option Bool
 | []=>some true
 | [f]=>bif f.name == "_" then some true else (cj P (part f.type xs f.offset)).bind fun a=>(cj P (part f.type ys f.offset)).bind fun b=>q f.type a b
 | f :: fs=>bif f.name == "_" then rj P q xs ys fs else (cj P (part f.type xs f.offset)).bind fun a=>(cj P (part f.type ys f.offset)).bind fun b=>(q f.type a b).bind fun r=>(rj P q xs ys fs).map fun r'=>r&&r'
def tI (P:Program) (q:TypeId->Value->Value->Option Bool) (e:TypeId) (c:Nat) (xs ys:Array Value):List Nat->Option Bool
 | []=>some true
 | [i]=>(cj P (part e xs (i*c))).bind fun a=>(cj P (part e ys (i*c))).bind fun b=>q e a b
 | i :: is=>(cj P (part e xs (i*c))).bind fun a=>(cj P (part e ys (i*c))).bind fun b=>(q e a b).bind fun r=>(tI P q e c xs ys is).map fun r'=>r&&r'
def JE (P:Program):Nat->TypeId->Value->Value->Option Bool
 | 0,_,_,_=>none
 | d+1,t,x,y=>match P.underlying t,x,y with
  | some (.int _),.int k a,.int k' b=>bif decide (k=k') then some (a==b) else none
  | some .bool,.bool a,.bool b=>some (a==b)
  | some .string,.string a,.string b=>some (a==b)
  | some (.struct _),.agg xs,.agg ys=>bif P.stoodInHeld t then none else rj P (JE P d) xs ys (P.fieldsOf t).toList
  | some (.array n e),.agg xs,.agg ys=>(P.info? e).bind fun _=>tI P (JE P d) e (P.cellsOf e) xs ys (List.range n)
  | _,_,_=>none
def tK (P:Program) (t:TypeId) (x y:A):Option Bool:=bif P.eqGuardType P.depth t then none else x.pW.bind fun a=>y.pW.bind fun b=>JE P 20 t a b
def jE (P:Program) (op:BinOp) (t:TypeId) (c d:Bool) (x y:A):Option A:=
 match op,x,y with
 | .eql,.agg _,.agg _=>(tK P t x y).map fun r=>.v (.bool r)
 | .neq,.agg _,.agg _=>(tK P t x y).map fun r=>.v (.bool (!r))
 | _,_,_=>x.pW.bind fun a=>y.pW.bind fun b=>(cj P (do eqGuard op t (rep c) (rep d) a b; binOp op t a b)).map xf
def kC (P:Program) (op:UnOp) (x:A):Option A:=x.pW.bind fun a=>(cj P (Op.unary op a)).map xf
def zt (mn:Bool) (x y:A):Option A:=match x,y with
 | .v (.int k a),.v (.int l b)=>bif k==l then some (.v (.int k (if mn then (if b<a then b else a) else (if a<b then b else a)))) else none
 | _,_=>none
def DR (mn:Bool):A->List A->Option A
 | x,[]=>some x
 | x,y :: r=>(zt mn x y).bind fun z=>DR mn z r
def AU (P:Program) (t:TypeId):Option (IntKind×TypeId):=match P.underlying t with
 | some (.map kt vt)=>match P.underlying kt with | some (.int k)=>some (k,vt) | _=>none
 | _=>none
def keyOf (k:IntKind):A->Option Int
 | .v (.int j n)=>bif decide (j=k) then some n else none
 | _=>none
def nN (a:Int):List Int->List A->Option A
 | x :: ks,v :: vs=>bif decide (a=x) then some v else nN a ks vs
 | _,_=>none
def AZ (a:Int) (y:A):List Int->List A->List Int×List A
 | x :: ks,v :: vs=>bif decide (a=x) then (x :: ks,y :: vs) else (x :: (AZ a y ks vs).1,v :: (AZ a y ks vs).2)
 | _,_=>([a],[y])
def qR (P:Program) (t:TypeId) (H:ar):Option (A×ar):=(AU P t).map fun p=>(.mr H.length,H++[.mp p.1 [] []])
def qu (P:Program) (t:TypeId) (m i x:A) (H:ar) (lo:Nat):Option ar:=(AU P t).bind fun p=>(keyOf p.1 i).bind fun a=>match m with
 | .mr b=>match H[b]? with
  | some (.mp k ks vs)=>bif decide (lo<=b)&&decide (k=p.1) then some (H.set b (.mp k (AZ a x ks vs).1 (AZ a x ks vs).2)) else none
  | _=>none
 | _=>none
def IC (P:Program) (vt:TypeId) (c:Bool) (r:Option A):Option A:=match r with
 | some y=>some (bif c then .tup [y,.v (.bool true)] else y)
 | none=>(P.info? vt).bind fun i=>i.zero.map fun z=>bif c then .tup [xf z,.v (.bool false)] else xf z
def kZ (P:Program) (t:TypeId) (m i:A) (c:Bool) (H:ar):Option A:=(AU P t).bind fun p=>(keyOf p.1 i).bind fun a=>match m with
 | .mv k ks vs=>bif decide (k=p.1) then IC P p.2 c (nN a ks vs) else none
 | .mr b=>match H[b]? with
  | some (.mp k ks vs)=>bif decide (k=p.1) then IC P p.2 c (nN a ks vs) else none
  | _=>none
 | _=>none
def mi (x:A) (i:Nat):Option A:=match x with | .tup cs=>cs[i]? | _=>none
def xZ (P:Program) (t:TypeId) (x:A) (i:Nat):Option A:=
 match P.underlying t,x with
 | some (.struct fs),.agg cs=>fs[i]?.bind fun f=>(cz P f.type).bind fun n=>bif decide (f.offset+n<=cs.length) then join P f.type ((cs.drop f.offset).take n) else none
 | _,_=>none
def idx:A->Option Nat
 | .v (.int _ n)=>bif decide (0<=n) then some n.toNat else none
 | _=>none
def yb (P:Program) (t:TypeId) (x i:A):Option A:=
 (idx i).bind fun j=>
 match P.underlying t,x with
 | some (.array len e),.agg cs=>(cz P e).bind fun n=>bif decide (j<len)&&decide (j*n+n<=cs.length) then join P e ((cs.drop (j*n)).take n) else none
 | some .string,.v (.string s)=>s[j]?.map fun b=>.v (.int .u8 b.toNat)
 | _,_=>none
def fY (H:ar):A->Bool
 | .ptr b _=>match H[b]? with | some (.box _)=>true | _=>false
 | .ep b _ _=>match H[b]? with | some (.row true _ _)=>true | _=>false
 | .sl b _ _ _=>match H[b]? with | some (.row ..)=>true | _=>false
 | .mr b=>match H[b]? with | some (.mp ..)=>true | _=>false
 | _=>true
def fo (P:Program) (t:TypeId) (x:A) (i:Nat) (H:ar):Option A:=
 bif fY H x then
 match P.underlying t with
 | some (.struct fs)=>fs[i]?.bind fun f=>(cz P f.type).bind fun n=>bif n==0 then none else
  match x with
  | .ptr b o=>some (.ptr b (o+f.offset))
  | .ep b j o=>some (.ep b j (o+f.offset))
  | .ip cs=>some (.ip (cs.drop f.offset))
  | _=>none
 | _=>none
 else none
def cQ (P:Program) (t:TypeId) (x i:A) (H:ar):Option A:=
 (idx i).bind fun j=>bif fY H x then
 match P.underlying t with
 | some (.slice e)=>(cz P e).bind fun n=>match x with
  | .imm els _=>els[j]?.bind fun cs=>bif cs.length==n then some (.ip cs) else none
  | .sl b o m _=>bif decide (j<m) then match H[b]? with
   | some (.row true es _)=>bif es==n then some (.ep b (o+j) 0) else none
   | some (.row false es els)=>bif es==n then els[o+j]?.map .ip else none
   | _=>none else none
  | _=>none
 | some (.array len e)=>(cz P e).bind fun n=>bif !decide (j<len) then none else match x with
  | .ptr b o=>some (.ptr b (o+j*n))
  | .ep b k o=>match H[b]? with
   | some (.row _ es els)=>bif Nat.beq es n&&Nat.beq o 0&&decide (k+j<els.length) then some (.ep b (k+j) 0) else some (.ep b k (o+j*n))
   | _=>none
  | .ip cs=>some (.ip (cs.drop (j*n)))
  | _=>none
 | _=>none
 else none
def qP (P:Program) (t:TypeId) (x:A) (H:ar):Option A:=
 bif fY H x then
 match P.underlying t,x with
 | some .string,.v (.string s)=>some (.v (.int .i64 s.size))
 | some (.slice _),.imm els _=>some (.v (.int .i64 els.length))
 | some (.slice _),.sl _ _ n _=>some (.v (.int .i64 n))
 | _,_=>none
 else none
def pO (H:ar):A->Bool
 | .ptr b o=>fY H (.ptr b o)
 | .ep b i o=>fY H (.ep b i o)
 | .ip _=>true
 | .fn (.func _) _ _=>true
 | _=>false
def Au (a:A) (H:ar):Option A:=bif pO H a then some a else none
def jX (d:Nat):Option A->Option Nat
 | none=>some d
 | some a=>idx a
def eb (P:Program) (t:TypeId) (x:A) (lo hi mx:Option A) (H:ar):Option A:=
 match P.underlying t,x with
 | some .string,.v (.string s)=>bif mx.isSome then none else
  (jX s.size hi).bind fun h=>(jX 0 lo).bind fun l=>bif decide (l<=h)&&decide (h<=s.size) then some (.v (.string (s.extract l h))) else none
 | some (.slice e),.imm els c=>(cz P e).bind fun n=>(jX els.length hi).bind fun h=>(jX 0 lo).bind fun l=>
  bif decide (l<=h)&&decide (h<=els.length)&&(l==0 || match els[l]? with | some cs=>cs.length==n | none=>true) then match mx with
   | none=>some (.imm ((els.drop l).take (h - l)) (c&&h==els.length))
   | some m=>(idx m).bind fun m=>bif m==h then some (.imm ((els.drop l).take (h - l)) true) else none
  else none
 | some (.slice e),.sl b o n c=>(cz P e).bind fun z=>(jX n hi).bind fun h=>(jX 0 lo).bind fun l=>
  bif decide (l<=h)&&decide (h<=n)&&(match H[b]? with | some (.row _ es _)=>es==z | _=>false) then match mx with
   | none=>some (.sl b (o+l) (h - l) (c&&h==n))
   | some m=>(idx m).bind fun m=>bif m==h then some (.sl b (o+l) (h - l) true) else none
  else none
 | some (.array n e),.ip cs=>(cz P e).bind fun z=>(jX n hi).bind fun h=>(jX 0 lo).bind fun l=>
  bif decide (l<=h)&&decide (h<=n)&&decide (n*z<=cs.length)&&mx.isNone&&!Nat.beq z 0 then some (.imm (((chunk z n cs).drop l).take (h - l)) (Nat.beq h n)) else none
 | some (.array n e),.ep b k o=>(cz P e).bind fun z=>(jX n hi).bind fun h=>(jX 0 lo).bind fun l=>
  bif decide (l<=h)&&decide (h<=n)&&mx.isNone&&Nat.beq o 0&&(match H[b]? with | some (.row true es els)=>Nat.beq es z&&decide (k+n<=els.length) | _=>false) then some (.sl b (k+l) (h - l) (Nat.beq h n)) else none
 | _,_=>none
def els? (H:ar):A->Option (List (List A))
 | .imm els _=>some els
 | .sl b o n _=>match H[b]? with
  | some (.row _ _ els)=>some ((els.drop o).take n)
  | _=>none
 | .v (.string s)=>some (s.data.toList.map fun c=>[.v (.int .u8 c.toNat)])
 | _=>none
def wD (H:ar):A->Option (List (List A))
 | .v _=>none
 | x=>els? H x
def db:Nat:=140737488355328
def jW (P:Program) (t:TypeId):Bool:=match P.underlying t with | some (.slice _) | some .string=>true | _=>false
def vq (P:Program) (t:TypeId):Bool:=match P.underlying t with | some (.int _)=>true | _=>false
def vJ:A->A
 | .imm els _=>.imm els false
 | a=>a
def yo (P:Program) (H:ar) (t2:TypeId) (by_:Nat) (z:List A) (y:A):Option (List (List A)):=bif jW P t2 then els? H y else match y with
 | .v (.int .i64 n)=>bif vq P t2&&decide (0<=n)&&decide (n*by_<=db)&&decide (n<=db) then some (List.replicate n.toNat (z.map vJ)) else none
 | _=>none
def bG (P:Program) (t t2:TypeId) (wr:Bool) (x y:A) (H:ar) (lo:Nat):Option (A×ar):=
 (jI P t).bind fun e=>(cz P e).bind fun es=>(jv P e).bind fun by_=>(gB P e).bind fun z=>(yo P H t2 by_ z y).bind fun ys=>
 bif es==0 || by_==0 || !(z.length==es) || !(ys.all fun cs=>cs.length==es&&cs.all A.cell) then none else
 match x with
 | .imm xs true=>
  bif !decide ((xs.length+ys.length)*by_<=db) then none else
  bif wr&&xs.isEmpty then some (.sl H.length 0 ys.length false,H++[.row true es ys]) else
  bif xs.all (fun cs=>cs.length==es&&cs.all A.cell) then some (.sl H.length 0 (xs.length+ys.length) false,H++[.row false es (xs++ys)]) else none
 | .sl b o n c=>match H[b]? with
  | some (.row false es' els)=>
   bif !decide ((n+ys.length)*by_<=db) || !(es'==es) || !decide (o+n<=els.length) then none else
   bif c then some (.sl H.length 0 (n+ys.length) false,H++[.row false es ((els.drop o).take n++ys)]) else
   bif decide (lo<=b)&&o==0&&n==els.length then some (.sl b 0 (n+ys.length) false,H.set b (.row false es (els++ys))) else none
  | _=>none
 | _=>none
def dV (ck:Bool) (P:Program) (t:TypeId) (n c:A) (H:ar):Option (A×ar):=
 (jI P t).bind fun e=>(cz P e).bind fun es=>(jv P e).bind fun by_=>(gB P e).bind fun z=>(idx n).bind fun n=>(idx c).bind fun c=>
 bif es==0 || !(z.length==es) || !decide (c*by_<=db) || !decide (c<=db) || !decide (n<=c) then none else
 bif n==c then some (.sl H.length 0 n ck,H++[.row true es (List.replicate n (bif ck then z else z.map vJ))]) else
 bif n==0 then some (.sl H.length 0 0 false,H++[.row false es []]) else none
def gG (P:Program) (t:TypeId) (n c:A) (H:ar):Option (A×ar):=
 (jI P t).bind fun e=>(cz P e).bind fun es=>(jv P e).bind fun by_=>(gB P e).bind fun z=>(idx n).bind fun n=>(idx c).bind fun c=>
 bif es==0 || !(z.length==es) || !decide (c*by_<=db) || !decide (c<=db) || !(n==c) then none else some (.imm (List.replicate n (z.map vJ)) false,H)
def rT (b w:Bool) (P:Program) (t:TypeId) (n c:A) (H:ar):Option (A×ar):=bif b then gG P t n c H else dV w P t n c H
def tP (place:Nat->Option (Nat×Nat)) (cs:List A):List (Nat×A)->Option (List A)
 | []=>some cs
 | (i,x) :: r=>(place i).bind fun p=>x.cells?.bind fun xs=>bif xs.length==p.2&&decide (p.1+p.2<=cs.length) then tP place (bk cs p.1 xs) r else none
def z8 (P:Program) (t:TypeId):Option (Nat->Option (Nat×Nat)):=match P.underlying t with
 | some (.struct fs)=>(fs.toList.mapM fun f=>(P.info? f.type).map fun i=>(f.offset,i.size)).map fun places=>(places.toArray[·]?)
 | some (.array _ e)=>(P.info? e).map fun i=>fun j=>some (j*i.size,i.size)
 | _=>none
def uJ (P:Program) (t:TypeId) (parts:List (Nat×A)):Option A:=
 (gB P t).bind fun z=>(z8 P t).bind fun place=>(tP place z parts).map .agg
def lK (els:List (List A)):List (Nat×A)->Option (List (List A))
 | []=>some els
 | (i,x) :: r=>x.cells?.bind fun xs=>lK (els.set i xs) r
def aG (P:Program) (t:TypeId) (len:Nat) (parts:List (Nat×A)):Option A:=
 (jI P t).bind fun e=>(cz P e).bind fun es=>(gB P e).bind fun z=>bif es==0 || !(z.length==es) || !decide (len*es<=16777216) then none else
 bif parts.all (fun p=>decide (p.1<len)&&(match p.2.cells? with | some xs=>xs.length==es | none=>false)) then (lK (List.replicate len z) parts).map fun els=>.imm els true else none
def pz (P:Program) (t:TypeId) (len:Nat) (parts:List (Nat×A)) (H:ar):Option (A×ar):=
 (jI P t).bind fun e=>(cz P e).bind fun es=>(aG P t len parts).bind fun a=>match a with
  | .imm els true=>some (.sl H.length 0 els.length true,H++[.row true es els])
  | _=>none
def p0 (P:Program) (t:TypeId) (x y:A) (H:ar) (lo:Nat):Option (A×ar):=
 (jI P t).bind fun e=>(cz P e).bind fun es=>(els? H y).bind fun ys=>bif es==0 || !(ys.all fun cs=>cs.length==es&&cs.all A.cell) then none else
 match x with
 | .sl b o n _=>match H[b]? with
  | some (.row true es' els)=>bif decide (lo<=b)&&es'==es then some (.v (.int .i64 (min ys.length n:Nat)),H.set b (.row true es (bk els o (ys.take n)))) else none
  | _=>none
 | _=>none
def bytesOf:List (List A)->Option (List UInt8)
 | []=>some []
 | [.v (.int .u8 n)] :: r=>(bytesOf r).map (n.toNat.toUInt8 :: ·)
 | _=>none
def aW (P:Program) (s d:TypeId) (x:A) (H:ar):Option A:=
 match P.underlying s,P.underlying d,x with
 | some (.slice e),some .string,x=>match P.underlying e,cz P e with
  | some (.int .u8),some 1=>(wD H x).bind fun els=>(bytesOf els).map fun l=>.v (.string ⟨l.toArray⟩)
  | _,_=>none
 | some .string,some (.slice e),.v (.string s)=>match P.underlying e with
  | some (.int .u8)=>some (.imm (s.data.toList.map fun c=>[.v (.int .u8 c.toNat)]) false)
  | _=>none
 | _,_,x=>x.pW.bind fun a=>(cj P (convert s d a)).map xf
def D7 (P:Program) (t:TypeId) (x:A):Option A:=match P.underlying t with | some (.interface _)=>none | none=>none | some _=>some (.ifc t x)
def vz (P:Program) (t:TypeId) (c:Bool):Option A:=bif c then (P.info? t).bind fun i=>i.zero.map fun z=>.tup [xf z,.v (.bool false)] else none
def mU (P:Program) (x:A) (t:TypeId) (c:Bool):Option A:=match P.underlying t with
 | none=>none
 | some (.interface _)=>none
 | some _=>match x with
  | .ifc t' y=>bif Nat.beq t' t then some (bif c then .tup [y,.v (.bool true)] else y) else vz P t c
  | .v .nilIface=>vz P t c
  | _=>none
mutual
def bZ (g:Nat->Nat->Nat->A):A->A
 | .sl b o m _=>g b o m
 | .imm els _=>.imm (cP g els) false
 | .agg cs=>.agg (aX g cs)
 | .tup cs=>.tup (aX g cs)
 | .ifc t x=>.ifc t (bZ g x)
 | .mv k ks vs=>.mv k ks (aX g vs)
 | .v x=>.v x
 | .fn f [] []=>.fn f [] []
 | _=>.any
def aX (g:Nat->Nat->Nat->A):List A->List A
 | []=>[]
 | a :: as=>bZ g a :: aX g as
def cP (g:Nat->Nat->Nat->A):List (List A)->List (List A)
 | []=>[]
 | a :: as=>aX g a :: cP g as
end
def gS:Nat->ar->Nat->Nat->Nat->A
 | 0,_,_,_,_=>.any
 | n+1,H,b,o,m=>match H[b]? with
  | some (.row false _ els)=>.imm (cP (gS n H) ((els.drop o).take m)) false
  | _=>.any
def snap (H:ar) (a:A):A:=bZ (gS 4 H) a
def hJ:Nat->ar->Nat->Nat->Nat->A
 | 0,_,_,_,_=>.any
 | n+1,H,b,o,m=>match H[b]? with
  | some (.row _ _ els)=>.imm (cP (hJ n H) ((els.drop o).take m)) false
  | _=>.any
def jR:Nat->ar->A->A
 | 0,_,_=>.any
 | n+1,H,.ptr b o=>match H[b]? with | some (.box cs)=>.ip ((cs.drop o).map (jR n H)) | _=>.any
 | n+1,H,.fn f p q=>.fn f (p.map (jR n H)) (q.map (jR n H))
 | n+1,H,.agg cs=>.agg (cs.map (jR n H))
 | _+1,H,a=>bZ (hJ 4 H) a
def br (H:ar) (a:A):A:=match a with
 | .mr b=>match H[b]? with
  | some (.mp k ks vs)=>.mv k ks (aX (hJ 4 H) vs)
  | _=>.any
 | .fn f p q=>jR 6 H (.fn f p q)
 | a=>bZ (hJ 4 H) a
def mj (lo:Nat) (a:A) (H:ar):Option (A×ar):=match a with
 | .sl b o n _=>match H[b]? with
  | some (.row true _ els)=>bif decide (lo<=b) then some (.imm (cP (gS 4 H) ((els.drop o).take n)) false,H.set b .dead) else none
  | some (.row false _ els)=>some (.imm (cP (gS 4 H) ((els.drop o).take n)) false,H)
  | _=>none
 | .ptr b o=>match H[b]? with
  | some (.box cs)=>bif decide (lo<=b)&&Nat.beq o 0 then some (.ip cs,H.set b .dead) else none
  | _=>none
 | .imm els c=>some (.imm els c,H)
 | _=>none
def N7 (els:List (List A)):Bool:=els.all fun cs=>match cs with | [.imm [] true]=>true | _=>false
def BQ (lo es:Nat) (a:A) (H:ar):Option (A×ar):=match a with
 | .sl b o n c=>match H[b]? with
  | some (.row true k els)=>bif decide (lo<=b)&&Nat.beq k 1&&Nat.beq n els.length&&decide (n<=4)&&N7 els then some (.sl b o n c,(H++[aD.row false es [],aD.row false es [],aD.row false es [],aD.row false es []]).set b (.row true 1 (List.take n [[.sl H.length 0 0 false],[.sl (H.length+1) 0 0 false],[.sl (H.length+2) 0 0 false],[.sl (H.length+3) 0 0 false]]))) else none
  | _=>none
 | _=>none
def JX (m lo:Nat) (a:A) (H:ar):Option (A×ar):=match m with | 0=>mj lo a H | es+1=>BQ lo es a H
def BR (P:Program) (s t:TypeId) (x:A) (H:ar) (lo:Nat):Option (A×ar):=
 match P.underlying s with
 | some (.slice e)=>match P.underlying e with
  | some (.int .u8)=>match x with
   | .sl b _ n _=>match H[b]? with
    | some (.row true _ _)=>bif Nat.beq s t&&decide (0<n) then mj lo x H else none
    | _=>none
   | _=>none
  | _=>none
 | _=>none
def AK (H:ar) (a:A):A:=match a with | .sl b o n c=>snap H (.sl b o n c) | .imm els _=>.imm els false | a=>a
def cY (H:ar) (a:A):A:=match a with | .sl b o n c=>snap H (.sl b o n c) | .agg cs=>.agg (cs.map (AK H)) | a=>a
def bN (a:A) (H:ar) (x:A):A:=match a with | .ep ..=>cY H x | _=>x
def DH (p:Bool) (a:A) (H:ar) (x:A):A:=bif p then x else bN a H x
mutual
def A.under (L:Nat):A->Bool
 | .any | .v _ | .nq _=>true
 | .ptr b _ | .ep b _ _ | .sl b _ _ _ | .yld b | .mr b=>decide (b<L)
 | .mv _ _ vs=>aZ L vs
 | .ip cs | .agg cs | .tup cs=>aZ L cs
 | .imm els _=>aQ L els
 | .fn _ a b=>aZ L a&&aZ L b
 | .ifc _ x=>A.under L x
def aZ (L:Nat):List A->Bool
 | []=>true
 | a :: as=>A.under L a&&aZ L as
def aQ (L:Nat):List (List A)->Bool
 | []=>true
 | a :: as=>aZ L a&&aQ L as
end
def aD.under (L:Nat):aD->Bool
 | .box cs=>aZ L cs
 | .row _ _ els=>aQ L els
 | .rng _=>true
 | .dead=>true
 | .hole=>true
 | .mp _ _ vs=>aZ L vs
def trim (L:Nat) (H:ar):Option ar:=bif H.length==L then some H else bif (H.take L).all (aD.under L) then some (H.take L) else none
def bM (cx:Cx) (s:St):Operand->A
 | .tmp t=>look s.fr t
 | .const x=>xf x
 | .global g=>match cx.glob g with | some vs=>.ip (vs.map .v) | none=>.any
 | .func f=>.fn (.func f) [] []
def cJ {β:Type} (a:A) (x y:Option β):Option β:=match a with | .v (.bool b)=>bif b then x else y | _=>none
def DA:Value->Value->Bool
 | .int k a,.int k' b=>decide (k=k')&&decide (a=b)
 | .bool a,.bool b=>a==b
 | .string a,.string b=>decide (a.data.toList=b.data.toList)
 | .nilIface,.nilIface=>true
 | .nilFunc,.nilFunc=>true
 | _,_=>false
theorem DB:∀ (x y:Value),DA x y=true->x=y:=fun x y h=>by
 unfold DA at h
 split at h
 ·simp only[Sz,SG] at h; rw[h.1,h.2]
 ·rw[eq_of_beq h]
 ·rename_i a b
  obtain ⟨⟨a⟩⟩:=a; obtain ⟨⟨b⟩⟩:=b
  exact Ty (fun l=>Value.string ⟨⟨l⟩⟩) (SF h)
 ·rfl
 ·rfl
 ·cases h
mutual
def gM:A->A->Bool
 | .any,y=>match y with | .any=>true | _=>false
 | .v x,y=>match y with | .v z=>DA x z | _=>false
 | .ptr b o,y=>match y with | .ptr b' o'=>Nat.beq b b'&&Nat.beq o o' | _=>false
 | .ep b i o,y=>match y with | .ep b' i' o'=>Nat.beq b b'&&Nat.beq i i'&&Nat.beq o o' | _=>false
 | .ip cs,y=>match y with | .ip ds=>sameAs cs ds | _=>false
 | .imm els c,y=>match y with | .imm ds d=>nd els ds&&(c==d) | _=>false
 | .sl b o n c,y=>match y with | .sl b' o' n' c'=>Nat.beq b b'&&Nat.beq o o'&&Nat.beq n n'&&(c==c') | _=>false
 | .agg cs,y=>match y with | .agg ds=>sameAs cs ds | _=>false
 | .tup cs,y=>match y with | .tup ds=>sameAs cs ds | _=>false
 | .mv k ks vs,y=>match y with | .mv k' ks' vs'=>decide (k=k')&&decide (ks=ks')&&sameAs vs vs' | _=>false
 | .mr b,y=>match y with | .mr b'=>Nat.beq b b' | _=>false
 | .fn _ _ _,_=>false
 | .ifc _ _,_=>false
 | .yld _,_=>false
 | .nq _,_=>false
def sameAs:List A->List A->Bool
 | [],y=>match y with | []=>true | _=>false
 | a :: l,y=>match y with | b :: m=>gM a b&&sameAs l m | []=>false
def nd:List (List A)->List (List A)->Bool
 | [],y=>match y with | []=>true | _=>false
 | a :: l,y=>match y with | b :: m=>sameAs a b&&nd l m | []=>false
end
mutual
theorem sw:∀ (x y:A),gM x y=true->x=y
 | .any,y,h=>by cases y<;>simp only[gM,S5] at h; rfl
 | .v x,y,h=>by
  cases y<;>simp only[gM,S5,Sz,SG] at h
  rw[DB _ _ h]
 | .ptr b o,y,h=>by
  cases y<;>simp only[gM,S5,Sz,SG] at h
  rw[SM h.1,SM h.2]
 | .ep b i o,y,h=>by
  cases y<;>simp only[gM,S5,Sz,SG] at h
  rw[SM h.1.1,SM h.1.2,SM h.2]
 | .ip cs,y,h=>by
  cases y<;>simp only[gM,S5,Sz,SG] at h
  rw[gy _ _ h]
 | .imm els c,y,h=>by
  cases y<;>simp only[gM,S5,Sz,SG] at h
  rw[oh _ _ h.1,eq_of_beq h.2]
 | .sl b o n c,y,h=>by
  cases y<;>simp only[gM,S5,Sz,SG] at h
  rw[SM h.1.1.1,SM h.1.1.2,SM h.1.2,eq_of_beq h.2]
 | .agg cs,y,h=>by
  cases y<;>simp only[gM,S5,Sz,SG] at h
  rw[gy _ _ h]
 | .tup cs,y,h=>by
  cases y<;>simp only[gM,S5,Sz,SG] at h
  rw[gy _ _ h]
 | .mv k ks vs,y,h=>by
  cases y<;>simp only[gM,S5,Sz,SG] at h
  rw[h.1.1,h.1.2,gy _ _ h.2]
 | .mr b,y,h=>by
  cases y<;>simp only[gM,S5,Sz,SG] at h
  rw[SM h]
 | .fn ..,y,h=>by cases y<;>simp only[gM,S5] at h
 | .ifc ..,y,h=>by cases y<;>simp only[gM,S5] at h
 | .yld ..,y,h=>by cases y<;>simp only[gM,S5] at h
 | .nq ..,y,h=>by cases y<;>simp only[gM,S5] at h
theorem gy:∀ (x y:List A),sameAs x y=true->x=y
 | [],y,h=>by cases y<;>simp only[sameAs,S5] at h; rfl
 | a :: l,y,h=>by
  cases y<;>simp only[sameAs,S5,Sz] at h
  rw[sw _ _ h.1,gy _ _ h.2]
theorem oh:∀ (x y:List (List A)),nd x y=true->x=y
 | [],y,h=>by cases y<;>simp only[nd,S5] at h; rfl
 | a :: l,y,h=>by
  cases y<;>simp only[nd,S5,Sz] at h
  rw[gy _ _ h.1,oh _ _ h.2]
end
def Dx:aD->aD->Bool
 | .box a,.box b=>sameAs a b
 | .row w e a,.row w' e' b=>(w==w')&&Nat.beq e e'&&nd a b
 | .dead,.dead=>true
 | .hole,.hole=>true
 | .mp k ks vs,.mp k' ks' vs'=>decide (k=k')&&decide (ks=ks')&&sameAs vs vs'
 | _,_=>false
theorem Dy:∀ (x y:aD),Dx x y=true->x=y:=fun x y h=>by
 unfold Dx at h
 split at h
 ·rw[gy _ _ h]
 ·rw[Sz,Sz] at h; rw[eq_of_beq h.1.1,SM h.1.2,oh _ _ h.2]
 ·rfl
 ·rfl
 ·simp only[Sz,SG] at h; rw[h.1.1,h.1.2,gy _ _ h.2]
 ·cases h
def xx:ar->ar->Bool
 | [],[]=>true
 | a :: l,b :: m=>Dx a b&&xx l m
 | _,_=>false
theorem sx:∀ (x y:ar),xx x y=true->x=y
 | [],[],_=>rfl
 | [],_ :: _,h=>by cases h
 | _ :: _,[],h=>by cases h
 | a :: l,b :: m,h=>by
  rw[xx,Sz] at h; rw[Dy _ _ h.1,sx _ _ h.2]
def xy:Option R->Option R->Bool
 | some (.ret a,H),some (.ret b,H')=>gM a b&&xx H H'
 | some (.pan a,H),some (.pan b,H')=>gM a b&&xx H H'
 | none,none=>true
 | _,_=>false
theorem Dz (x y:Option R) (h:xy x y=true):x=y:=by
 unfold xy at h
 split at h
 ·rw[Sz] at h; rw[sw _ _ h.1,sx _ _ h.2]
 ·rw[Sz] at h; rw[sw _ _ h.1,sx _ _ h.2]
 ·rfl
 ·cases h
noncomputable def both (x y:Option R):Option R:=bif xy x y then y else open Classical in if x=y then y else none
noncomputable def Jc (els:List (List A)) (x y:Option R):Option R:=match els with | []=>both x y | _ :: _=>y
noncomputable def bh (a:A) (x y:Option R):Option R:=match a with | .nq els=>Jc els x y | a=>cJ a x y
theorem B1 {x y:Option R} (h:x=y):both x y=y:=by
 unfold both
 cases xy x y
 ·exact SH h
 ·rfl
theorem Ay {x y:Option R} {r:R} (h:both x y=some r):x=y/\y=some r:=by
 unfold both at h
 cases e:xy x y
 ·rw[e] at h
  by_cases hxy:x=y
  ·rw[show (bif false then y else open Classical in if x=y then y else none)=y from SH hxy] at h; exact⟨hxy,h⟩
  ·rw[show (bif false then y else open Classical in if x=y then y else none)=none from SI hxy] at h; cases h
 ·rw[e] at h; exact⟨Dz _ _ e,h⟩
def G3 (P:Program) (t:TypeId) (x:A):Option A:=match P.underlying t,x with | some (.slice _),.imm els _=>some (.nq els) | _,_=>none
def HD (op:BinOp) (y:Operand):Bool:=match op,y with | .eql,.const (.slice none 0 0)=>true | _,_=>false
def Jd (b:Bool) (P:Program) (op:BinOp) (t:TypeId) (c d:Bool) (x y:A):Option A:=bif b then G3 P t x else jE P op t c d x y
abbrev aU:=Nat->List A->ar->Nat->Option R
def oQ {β:Type} (cx:Cx) (f lo:Nat) (dst:Option Nat) (c:Call) (s:St) (k:A->ar->Option β):Option β:=
 match c.callee,c.args.toList,c.argTypes.toList with
 | .builtin .len,[x],[t]=>(qP cx.P t (bM cx s x) s.H).bind fun a=>k a s.H
 | .builtin .append,[x,y],[t,t2]=>(bG cx.P t t2 (cx.wrAt f (dst.getD 0)) (bM cx s x) (bM cx s y) s.H lo).bind fun r=>k r.1 r.2
 | .builtin .copy,[x,y],[t,_]=>(p0 cx.P t (bM cx s x) (bM cx s y) s.H lo).bind fun r=>k r.1 r.2
 | .builtin .min,x :: r,_=>(DR true (bM cx s x) (r.map (bM cx s))).bind fun a=>k a s.H
 | .builtin .max,x :: r,_=>(DR false (bM cx s x) (r.map (bM cx s))).bind fun a=>k a s.H
 | _,_,_=>none
def bw {β:Type} (cx:Cx) (f:Nat) (lo:Nat) (o:Oper) (s:St) (k:A->ar->Option β):Option β:=
 match o.op with
 | .move x | .assign x=>k (bM cx s x) s.H
 | .alloc t=>(nM (cx.arr f t) cx.P t s.H).bind fun r=>k r.1 r.2
 | .box t x=>(ye (cx.arr f t) cx.P t (bM cx s x) s.H).bind fun r=>k r.1 r.2
 | .build t parts=>(uJ cx.P t (parts.toList.map fun p=>(p.1,bM cx s p.2))).bind fun a=>k a s.H
 | .buildSlice t n parts=>(aG cx.P t n (parts.toList.map fun p=>(p.1,cY s.H (bM cx s p.2)))).bind fun a=>k a s.H
 | .load t a=>(ml cx.P t (bM cx s a) s.H).bind fun a=>k a s.H
 | .store t a x=>(iL cx.P t (bM cx s a) (DH (cx.pin f t) (bM cx s a) s.H (bM cx s x)) s.H lo).bind fun H=>k .any H
 | .binOp op t x y _=>(Jd (HD op y) cx.P op t (IA x) (IA y) (bM cx s x) (bM cx s y)).bind fun a=>k a s.H
 | .unOp op _ x=>(kC cx.P op (bM cx s x)).bind fun a=>k a s.H
 | .convert a b x=>(aW cx.P a b (bM cx s x) s.H).bind fun a=>k a s.H
 | .makeInterface t x=>(D7 cx.P t (bM cx s x)).bind fun a=>k a s.H
 | .makeFunc fn a b=>k (.fn fn (a.toList.map (bM cx s)) (b.toList.map (bM cx s))) s.H
 | .makeSlice t n c=>(rT (cx.loud f (o.dst.getD 0)) (cx.wrAt f (o.dst.getD 0)) cx.P t (bM cx s n) (bM cx s c) s.H).bind fun r=>k r.1 r.2
 | .slice t x lo hi mx=>(bif mx.isNone || hi.isSome then eb cx.P t (bM cx s x) (lo.map (bM cx s)) (hi.map (bM cx s)) (mx.map (bM cx s)) s.H else none).bind fun a=>k a s.H
 | .fieldAddr t x i=>(fo cx.P t (bM cx s x) i s.H).bind fun a=>k a s.H
 | .field t x i=>(xZ cx.P t (bM cx s x) i).bind fun a=>k a s.H
 | .indexAddr t x i=>(cQ cx.P t (bM cx s x) (bM cx s i) s.H).bind fun a=>k a s.H
 | .index t x i=>(yb cx.P t (bM cx s x) (bM cx s i)).bind fun a=>k a s.H
 | .extract x i=>(mi (bM cx s x) i).bind fun a=>k a s.H
 | .nilCheck x=>(Au (bM cx s x) s.H).bind fun a=>k a s.H
 | .makeMap t none=>(qR cx.P t s.H).bind fun r=>k r.1 r.2
 | .insert t m i x=>(qu cx.P t (bM cx s m) (bM cx s i) (bM cx s x) s.H lo).bind fun H=>k .any H
 | .mapUpdate t m i x=>(qu cx.P t (bM cx s m) (bM cx s i) (bM cx s x) s.H lo).bind fun H=>k .any H
 | .lookup t m i c=>(kZ cx.P t (bM cx s m) (bM cx s i) c s.H).bind fun a=>k a s.H
 | .typeAssert x _ t c=>(mU cx.P (bM cx s x) t c).bind fun a=>k a s.H
 | .call c=>oQ cx f lo o.dst c s k
 | _=>none
def cp (P:Program) (k:Nat):Bool:=match P.funcs[k]? with | some fn=>fn.body.isSome&&!(fn.name == "runtime.NumGoroutine") | none=>false
def callee? (cx:Cx) (s:St):Op->Option (Nat×List A)
 | .call c=>match c.callee with
  | .value g=>match bM cx s g with
   | .fn (.func k) first cap=>bif cp cx.P k then some (k,first++c.args.toList.map (bM cx s)++cap) else none
   | _=>none
  | _=>none
 | _=>none
def yldOf? (cx:Cx) (s:St):Op->Option (Nat×List A)
 | .call c=>match c.callee with
  | .value g=>match bM cx s g with
   | .yld b=>some (b,c.args.toList.map (bM cx s))
   | _=>none
  | _=>none
 | _=>none
def zM (H:ar) (b:Nat):Bool:=match H[b]? with | some (.rng _)=>true | _=>false
def GJ {α β:Type} (x:Option α) (k:α->Option β) (e:Option β):Option β:=match x with | some a=>k a | none=>e
def g9:Op->Bool
 | .call c=>match c.callee with | .value _=>true | _=>false
 | _=>false
def dj (x:Out) (k:A->Option R) (pan:A->Option R):Option R:=match x with | .ret a=>k a | .pan a=>pan a
def HZ (L:Nat) (r:R):Option A:=match r.1 with
 | .ret a=>bif A.under L a then some a else none
 | .pan _=>none
def iB (cx:Cx) (s:St):Op->A
 | .call c=>match c.callee with | .value g=>bM cx s g | _=>.any
 | _=>.any
def er (cx:Cx) (s:St):Op->List A
 | .call c=>c.args.toList.map (bM cx s)
 | _=>[]
def dn (cx:Cx) (call:aU) (fv:A) (args:List A) (H:ar) (lo:Nat) (k:A->ar->Option R) (pan:A->ar->Option R):Option R:=
 match fv with
 | .yld b=>bif zM H b then (call (cx.P.funcs.size+b) args H lo).bind fun r=>dj r.1 (fun a=>k a r.2) (fun _=>none) else none
 | .fn (.func q) first cap=>bif cp cx.P q then
   bif cx.isOrc q then (cx.C q ((first++args++cap).map (snap H))).bind fun a=>k a H
   else (call q (first++args++cap) H lo).bind fun r=>dj r.1 (fun a=>k a r.2) (fun a=>pan a r.2)
  else none
 | _=>none
theorem rh {cx:Cx} {call:aU} {s:St} {op:Op} {lo:Nat} {k:A->ar->Option R} {pan:A->ar->Option R}:dn cx call (iB cx s op) (er cx s op) s.H lo k pan =
   GJ (yldOf? cx s op) (fun p=>bif zM s.H p.1 then (call (cx.P.funcs.size+p.1) p.2 s.H lo).bind fun r=>dj r.1 (fun a=>k a r.2) (fun _=>none) else none)
   ((callee? cx s op).bind fun p=>bif cx.isOrc p.1 then (cx.C p.1 (p.2.map (snap s.H))).bind fun a=>k a s.H
    else (call p.1 p.2 s.H lo).bind fun r=>dj r.1 (fun a=>k a r.2) (fun a=>pan a r.2)):=by
 cases op with
 | call c=>
  cases hc:c.callee with
  | value g=>
   cases hf:bM cx s g with
   | fn f first cap=>cases f with
    | func q=>
     simp only[dn,iB,er,yldOf?,callee?,GJ,hc,hf]
     cases cp cx.P q<;>rfl
    | _=>simp only[dn,iB,er,yldOf?,callee?,GJ,hc,hf]; rfl
   | yld b=>simp only[dn,iB,er,yldOf?,callee?,GJ,hc,hf]
   | _=>simp only[dn,iB,er,yldOf?,callee?,GJ,hc,hf]; rfl
  | _=>simp only[dn,iB,er,yldOf?,callee?,GJ,hc]; rfl
 | _=>rfl
def qn {β:Type} (cx:Cx) (call:aU) (fv:A) (args:List A) (H:ar) (k:A->Option β):Option β:=
 match fv with
 | .fn (.func q) first cap=>bif cp cx.P q then
   bif cx.isOrcV q then (cx.C q ((first++args++cap).map (snap H))).bind k
   else ((call q (first++args++cap) H H.length).bind fun r=>HZ H.length r).bind k
  else none
 | _=>none
def Fk {β:Type} (x:A) (k:A->Option β):Option β:=match x with | .ifc t y=>k (.ifc t y) | _=>none
def rk (cx:Cx) (call:aU) (f lo:Nat) (o:Oper) (s:St) (k:St->Option R) (pan:A->St->Option R):Option R:=
 match o.op with
 | .pick c a b=>(cJ (bM cx s c) (some (bM cx s a)) (some (bM cx s b))).bind fun x=>k (s.put o.dst x)
 | .panic x=>Fk (bM cx s x) fun a=>pan a s
 | .buildSlice t n parts=>bif cx.wrAt f (o.dst.getD 0) then (pz cx.P t n (parts.toList.map fun p=>(p.1,cY s.H (bM cx s p.2))) s.H).bind fun r=>k ({ s with H:=r.2 }.put o.dst r.1) else bw cx f lo o s fun a H=>k ({ s with H:=H }.put o.dst a)
 | .makeSlice t n c=>bif cx.wrAt f (o.dst.getD 0) then (dV true cx.P t (bM cx s n) (bM cx s c) s.H).bind fun r=>k ({ s with H:=r.2 }.put o.dst r.1) else bw cx f lo o s fun a H=>k ({ s with H:=H }.put o.dst a)
 | .convert t t' x=>bif Nat.beq t t' then (BR cx.P t t' (bM cx s x) s.H lo).bind fun r=>k ({ s with H:=r.2 }.put o.dst r.1) else bw cx f lo o s fun a H=>k ({ s with H:=H }.put o.dst a)
 | .call _=>bif g9 o.op then
   dn cx call (iB cx s o.op) (er cx s o.op) s.H lo (fun a H=>k ({ s with H:=H }.put o.dst a)) (fun a H=>pan a { s with H:=H })
  else bw cx f lo o s fun a H=>k ({ s with H:=H }.put o.dst a)
 | _=>bw cx f lo o s fun a H=>k ({ s with H:=H }.put o.dst a)
def bK (ops:Array Oper) (o:Oper):Option (Nat×Bool):=match o.guard with
 | some (j,want)=>match ops[j]? with
  | some q=>match q.dst with
   | some t=>some (t,want)
   | none=>none
  | none=>none
 | none=>none
theorem ja (ops:Array Oper) (o:Oper):bK ops o=match o.guard with | some (j,want)=>((ops[j]?).bind (·.dst)).map (·,want) | none=>none:=by
 unfold bK
 split
 ·rename_i j want h
  cases ops[j]? with
  | none=>rfl
  | some q=>show _=(Option.bind (some q) (·.dst)).map _; cases h:q.dst<;>simp[h]
 ·rfl
def qa {β:Type} (g:A) (want:Bool) (run skip:Option β):Option β:=match g with
 | .v (.bool b)=>bif b then bif want then run else skip else bif want then skip else run
 | .v (.tuple _)=>skip
 | _=>none
theorem uW {β:Type} {cx:Cx} {call:aU} {s:St} {op:Op} {k:A->Option β}:qn cx call (iB cx s op) (er cx s op) s.H k =
   ((callee? cx s op).bind fun p=>bif cx.isOrcV p.1 then cx.C p.1 (p.2.map (snap s.H))
    else (call p.1 p.2 s.H s.H.length).bind fun r=>HZ s.H.length r).bind k:=by
 cases op with
 | call c=>
  cases hc:c.callee with
  | value g=>
   cases hf:bM cx s g with
   | fn f first cap=>cases f with
    | func q=>
     simp only[qn,iB,er,callee?,hc,hf]
     cases cp cx.P q with
     | false=>rfl
     | true=>
      simp only[SC,Sw]
      cases cx.isOrcV q<;>rfl
    | _=>simp only[qn,iB,er,callee?,hc,hf]; rfl
   | _=>simp only[qn,iB,er,callee?,hc,hf]; rfl
  | _=>simp only[qn,iB,er,callee?,hc]; rfl
 | _=>rfl
def gC (cx:Cx) (call:aU) (f:Nat) (o:Oper) (s:St):Option A:=
 match o.op with
 | .pick c a b=>cJ (bM cx s c) (some (bM cx s a)) (some (bM cx s b))
 | .alloc _ | .box .. | .store .. | .makeSlice .. | .panic _ | .makeMap .. | .insert .. | .mapUpdate ..=>none
 | .call c=>bif g9 o.op then
   qn cx call (iB cx s o.op) (er cx s o.op) s.H some
  else match c.callee with
   | .builtin .len=>bw cx f 0 o s fun a _=>some a
   | _=>none
 | _=>bw cx f 0 o s fun a _=>some a
def ru {β:Type} (cx:Cx) (call:aU) (f:Nat) (o:Oper) (s:St) (k:A->Option β):Option β:=
 match o.op with
 | .pick c a b=>(cJ (bM cx s c) (some (bM cx s a)) (some (bM cx s b))).bind k
 | .alloc _ | .box .. | .store .. | .makeSlice .. | .panic _ | .makeMap .. | .insert .. | .mapUpdate ..=>none
 | .call c=>bif g9 o.op then
   qn cx call (iB cx s o.op) (er cx s o.op) s.H k
  else match c.callee with
   | .builtin .len=>bw cx f 0 o s fun a _=>k a
   | _=>none
 | _=>bw cx f 0 o s fun a _=>k a
def quiet (cx:Cx) (f:Nat) (o:Oper):Bool:=
 match o.op with
 | .alloc _ | .box .. | .store .. | .makeSlice .. | .panic _ | .makeMap .. | .insert .. | .mapUpdate ..=>false
 | .call c=>match c.callee with
  | .value (.func k)=>cx.isOrc k
  | .value _=>match o.dst with | some d=>!cx.loud f d | none=>true
  | .builtin .len=>true
  | _=>false
 | _=>true
def cf {β:Type} (l:List A) (k:A->List A->Option β):Option β:=match l with | a :: r=>k a r | []=>none
def Fv {β:Type}:List Nat->List A->(List (Nat×A)->Option β)->Option β
 | [],_,k=>k []
 | d :: ds,l,k=>cf l fun a r=>Fv ds r fun fr=>k ((d,a) :: fr)
def iR (t:Nat):List Nat->Bool
 | []=>false
 | x :: l=>bif Nat.beq x t then true else iR t l
def jT (o:Oper):List Nat:=match o.dst with | some d=>[d] | none=>[]
def rM (ops:Array Oper) (g:Nat) (w:Bool) (ds:List Nat) (o:Oper):Bool:=
 match o.guard with
 | none=>false
 | some _=>match bK ops o with
  | none=>false
  | some (t,w')=>bif iR g (jT o) then false else bif Nat.beq t g then (bif w then w' else !w') else iR t ds
def bI (ops:Array Oper) (g:Nat) (w:Bool):List Nat->List Oper->List Oper×List Oper
 | _,[]=>([],[])
 | ds,o :: os=>bif rM ops g w ds o then (o :: (bI ops g w (jT o++ds) os).1,(bI ops g w (jT o++ds) os).2) else ([],o :: os)
def gP:List Oper->List Nat
 | []=>[]
 | o :: os=>gP os++jT o
def oA (cx:Cx) (f:Nat):List Oper->Bool
 | []=>true
 | o :: os=>bif quiet cx f o then oA cx f os else false
def sf (ops:Array Oper) (asm:Option (Nat×Bool)) (o:Oper):Bool:=
 match o.guard with
 | none=>true
 | some _=>match asm,bK ops o with
  | some (g,w),some (t,w')=>bif Nat.beq t g then (bif w then w' else !w') else false
  | _,_=>false
def uY (ops:Array Oper) (asm:Option (Nat×Bool)) (g:Nat):List Oper->Option (Nat×Operand×Operand)
 | o :: _=>bif sf ops asm o then (match o.op,o.dst with
  | .pick (.tmp t) a b,some d=>bif Nat.beq t g then some (d,a,b) else none
  | _,_=>none) else none
 | []=>none
def yn (d:Option Nat) (x:A) (dl:List (Nat×A)):List (Nat×A):=match d with | some d=>(d,x) :: dl | none=>dl
def dM (dl:List (Nat×A)) (s:St):St:=⟨dl++s.fr,s.H⟩
def pX (ds:List Nat):List (Nat×A):=ds.map fun d=>(d,.v undef)
def wO (cx:Cx) (fin:Option (Nat×Operand)) (dl:List (Nat×A)) (s:St):List (Nat×A):=match fin with | some (d,x)=>(d,bM cx (dM dl s) x) :: dl | none=>dl
def JO {β:Type} (ops:Array Oper) (asm:Option (Nat×Bool)) (g:Nat) (w:Bool) (os:List Oper) (s:St) (vals:Option (Nat×Operand)->List Oper->Option (List A)) (ud:Option (Nat×Operand)->List Oper->Option (List A)) (k:List Oper->List (Nat×A)->Option β):Option β:=
 match uY ops asm g (bI ops g w [] os).2 with
 | some (d,a,b)=>(cJ (look s.fr g) (bif w then vals (some (d,a)) (bI ops g w [] os).1 else ud (some (d,a)) (bI ops g w [] os).1) (bif w then ud (some (d,b)) (bI ops g w [] os).1 else vals (some (d,b)) (bI ops g w [] os).1)).bind fun l=>
   Fv (d :: gP (bI ops g w [] os).1) l fun fr=>k (bI ops g w [] os).2.tail fr
 | none=>(qa (look s.fr g) w (vals none (bI ops g w [] os).1) (ud none (bI ops g w [] os).1)).bind fun l=>
   Fv (gP (bI ops g w [] os).1) l fun fr=>k (bI ops g w [] os).2 fr
def LF (cx:Cx) (s:St) (fin:Option (Nat×Operand)) (run:List Oper):Option (List A):=some ((wO cx fin (pX (gP run)) s).map (·.2))
def nR (cx:Cx) (call:aU) (f:Nat) (ops:Array Oper):Nat->Option (Nat×Bool)->Option (Nat×Operand)->List Oper->List (Nat×A)->St->Option (List A)
 | 0,_,_,_,_,_=>none
 | _+1,_,fin,[],dl,s=>some ((wO cx fin dl s).map (·.2))
 | q+1,asm,fin,o :: os,dl,s=>bif sf ops asm o then ru cx call f o (dM dl s) fun x=>nR cx call f ops q asm fin os (yn o.dst x dl) s
  else match bK ops o with
   | none=>none
   | some (t,w)=>bif rM ops t w [] o then JO ops asm t w (o :: os) (dM dl s) (fun fin' run=>nR cx call f ops q (some (t,w)) fin' run [] (dM dl s)) (LF cx (dM dl s)) (fun rest fr=>nR cx call f ops q asm fin rest (fr++dl) s) else none
def fp (cx:Cx) (call:aU) (f lo:Nat) (ops:Array Oper):List Oper->St->(E->St->Option R)->Option R
 | [],s,k=>k .normal s
 | o :: os,s,k=>match o.guard with
  | none=>rk cx call f lo o s (fun s=>fp cx call f lo ops os s k) (fun a s=>k (.pan a) s)
  | some _=>match bK ops o with
   | none=>none
   | some (g,want)=>bif quiet cx f o then (qa (look s.fr g) want (gC cx call f o s) (some (.v undef))).bind fun x=>fp cx call f lo ops os (s.put o.dst x) k
    else qa (look s.fr g) want (rk cx call f lo o s (fun s=>fp cx call f lo ops os s k) (fun a s=>k (.pan a) s)) (fp cx call f lo ops os (s.put o.dst (.v undef)) k)
def gk (cx:Cx) (call:aU) (f lo:Nat) (ops:Array Oper):Nat->List Oper->St->(E->St->Option R)->Option R
 | 0,_,_,_=>none
 | _+1,[],s,k=>k .normal s
 | q+1,o :: os,s,k=>match o.guard with
  | none=>rk cx call f lo o s (fun s=>gk cx call f lo ops q os s k) (fun a s=>k (.pan a) s)
  | some _=>match bK ops o with
   | none=>none
   | some (t,w)=>bif rM ops t w [] o&&oA cx f (bI ops t w [] (o :: os)).1 then
     JO ops none t w (o :: os) s (fun fin run=>nR cx call f ops q (some (t,w)) fin run [] s) (LF cx s) (fun rest fr=>gk cx call f lo ops q rest (dM fr s) k)
    else bif quiet cx f o then (qa (look s.fr t) w (gC cx call f o s) (some (.v undef))).bind fun x=>gk cx call f lo ops q os (s.put o.dst x) k
    else qa (look s.fr t) w (rk cx call f lo o s (fun s=>gk cx call f lo ops q os s k) (fun a s=>k (.pan a) s)) (gk cx call f lo ops q os (s.put o.dst (.v undef)) k)
def iT (cx:Cx) (call:aU) (f:Nat) (ops:Array Oper):List Oper->St->(St->Option R)->Option R
 | [],s,k=>k s
 | o :: os,s,k=>match o.guard with
  | none=>(gC cx call f o s).bind fun x=>iT cx call f ops os (s.put o.dst x) k
  | some _=>match bK ops o with
   | none=>none
   | some (g,want)=>(qa (look s.fr g) want (gC cx call f o s) (some (.v undef))).bind fun x=>iT cx call f ops os (s.put o.dst x) k
def pI (cx:Cx) (call:aU) (f:Nat) (ops:Array Oper):Nat->List Oper->St->(St->Option R)->Option R
 | 0,_,_,_=>none
 | _+1,[],s,k=>k s
 | q+1,o :: os,s,k=>match o.guard with
  | none=>ru cx call f o s fun x=>pI cx call f ops q os (s.put o.dst x) k
  | some _=>match bK ops o with
   | none=>none
   | some (t,w)=>bif rM ops t w [] o then
     JO ops none t w (o :: os) s (fun fin run=>nR cx call f ops q (some (t,w)) fin run [] s) (LF cx s) (fun rest fr=>pI cx call f ops q rest (dM fr s) k)
    else none
def dp (o:Oper):Bool:=match o.op with
 | .store .. | .alloc _ | .box .. | .makeSlice ..=>true
 | .call c=>match c.callee with | .builtin .append | .builtin .copy=>true | _=>false
 | _=>false
def cW (ops:Array Oper) (i:Nat):Bool:=match ops[i]? with | some o=>dp o | none=>false
def blk?:A->Option Nat
 | .ptr b _ | .ep b _ _ | .sl b _ _ _ | .mr b=>some b
 | _=>none
def apart (a e:A):Bool:=match blk? a with
 | none=>true
 | some b=>match blk? e with | some c=>!Nat.beq b c | none=>true
def cU (cx:Cx) (s:St):Op->A
 | .store _ a _=>bM cx s a
 | .call c=>match c.args.toList with | x :: _=>bM cx s x | []=>.any
 | _=>.any
def addrOf (cx:Cx) (s:St):Op->A
 | .load _ a=>bM cx s a
 | .fieldAddr _ x _=>bM cx s x
 | .indexAddr _ x _=>bM cx s x
 | .slice _ x _ _ _=>bM cx s x
 | .nilCheck x=>bM cx s x
 | .convert _ _ x=>bM cx s x
 | .lookup _ x _ _=>bM cx s x
 | .call c=>match c.args.toList with | x :: _=>bM cx s x | []=>.any
 | _=>.any
def bC (o:Oper):Nat:=match o.op with
 | .pick .. | .move _ | .assign _ | .extract .. | .field .. | .unOp .. | .binOp .. | .index .. | .build .. | .makeFunc .. | .makeInterface .. | .typeAssert ..=>0
 | .load .. | .fieldAddr .. | .indexAddr .. | .slice .. | .nilCheck ..=>1
 | .convert .. | .lookup ..=>1
 | .call c=>match c.callee with | .builtin .len=>1 | .value (.func _)=>4 | _=>3
 | .buildSlice ..=>2
 | _=>3
def yf (o:Oper):Bool:=match o.op with
 | .store .. | .alloc _ | .box ..=>true
 | .makeSlice _ (.tmp a) (.tmp b)=>Nat.beq a b
 | .call c=>match c.callee with | .builtin .copy=>true | _=>false
 | _=>false
def uQ (ops:Array Oper) (i:Nat):Bool:=match ops[i]? with | some o=>yf o | none=>false
def ug (cx:Cx) (o:Oper):Bool:=match o.op with
 | .call c=>match c.callee with | .value (.func q)=>cp cx.P q&&cx.isOrcV q | _=>false
 | _=>false
def Gl:A->Bool
 | .sl ..=>false
 | _=>true
def rz:A->Bool
 | .sl ..=>false
 | .agg cs=>cs.all Gl
 | _=>true
def partsOf (cx:Cx) (s:St):Op->List A
 | .buildSlice _ _ parts=>parts.toList.map fun p=>bM cx s p.2
 | _=>[]
def oX:List A->Bool
 | []=>true
 | a :: l=>bif rz a then oX l else false
def kD (ops:Array Oper) (i:Nat) (a:A):List (Nat×A)->Bool
 | []=>true
 | p :: l=>bif ff ops i p.1 || ff ops p.1 i then kD ops i a l else bif apart a p.2 then kD ops i a l else false
def jP (ops:Array Oper) (i:Nat) (e:A):List (Nat×A)->Bool
 | []=>true
 | p :: l=>bif ff ops i p.1 || ff ops p.1 i then jP ops i e l else bif apart p.2 e then jP ops i e l else false
def uS (ops:Array Oper) (m:Nat):Bool:=(List.range m).all fun i=>(List.range m).all fun j=>!(cW ops i&&cW ops j&&decide (i<j)) || ff ops j i
def Cz (ops:Array Oper) (m:Nat):Bool:=(List.range m).any (cW ops)
def Ge (ops:Array Oper) (m i:Nat):Bool:=(List.range m).all fun e=>!cW ops e || uQ ops e || e==i || ff ops i e || ff ops e i
def vh (cx:Cx) (f:Nat) (o:Oper):Option TypeId:=match o.op with
 | .alloc t=>bif cx.arr f t then none else some t
 | _=>none
def rO (cx:Cx) (f:Nat) (ops:Array Oper) (i:Nat):Bool:=match ops[i]? with | some o=>(vh cx f o).isSome | none=>false
def ra (cx:Cx) (f:Nat) (ops:Array Oper) (m:Nat):Bool:=(List.range m).all fun i=>(List.range m).all fun j=>!(cW ops i&&cW ops j&&decide (i<j)&&!rO cx f ops i&&!rO cx f ops j) || ff ops j i
def cC (i:Nat):List (Nat×A)->Option A
 | []=>none
 | p :: l=>bif Nat.beq p.1 i then some p.2 else cC i l
def ahead {β:Type} (cx:Cx) (f:Nat):Nat->List Oper->ar->(List (Nat×A)->ar->Option β)->Option β
 | _,[],H,k=>k [] H
 | i,o :: os,H,k=>match vh cx f o with
  | some t=>(kY cx.P t H).bind fun r=>ahead cx f (i+1) os r.2 fun fl H=>k ((i,r.1) :: fl) H
  | none=>ahead cx f (i+1) os H k
def jd (fl:List (Nat×A)) (ops:Array Oper) (m i:Nat):Bool:=(List.range m).all fun e=>!cW ops e || (cC e fl).isSome || e==i || ff ops i e || ff ops e i
def n6 (cx:Cx) (o:Oper):Bool:=Nat.beq (bC o) 0 || Nat.beq (bC o) 1 || Nat.beq (bC o) 2 || (Nat.beq (bC o) 4&&ug cx o)
def wP (ops:Array Oper) (i:Nat):List (Nat×A)->Bool
 | []=>true
 | p :: l=>bif ff ops i p.1 then wP ops i l else false
def EF (cx:Cx) (s:St) (o:Oper):Bool:=match o.op with
 | .call c=>bif g9 (.call c) then match iB cx s (.call c) with | .fn (.func q) _ _=>cp cx.P q&&cx.isOrcV q | _=>false else false
 | _=>false
def rm (cx:Cx) (call:aU) (f lo:Nat) (ops:Array Oper) (m:Nat) (fl:List (Nat×A)) (i:Nat) (o:Oper) (effs seen:List (Nat×A)) (s:St) (rec:List (Nat×A)->List (Nat×A)->St->Option R):Option R:=
 match cC i fl with
 | some a=>rec effs seen (s.put o.dst a)
 | none=>bif dp o then bif jP ops i (cU cx s o.op) seen then bw cx f lo o s fun a H=>rec ((i,cU cx s o.op) :: effs) seen ({ s with H:=H }.put o.dst a) else none
  else bif jd fl ops m i&&(n6 cx o || wP ops i fl || EF cx s o) then ru cx call f o s fun x=>rec effs seen (s.put o.dst x)
  else bif Nat.beq (bC o) 0 then ru cx call f o s fun x=>rec effs seen (s.put o.dst x)
  else bif Nat.beq (bC o) 1 then bif kD ops i (addrOf cx s o.op) effs then ru cx call f o s fun x=>rec effs ((i,addrOf cx s o.op) :: seen) (s.put o.dst x) else none
  else bif (Nat.beq (bC o) 2 || (Nat.beq (bC o) 4&&ug cx o))&&Ge ops m i then ru cx call f o s fun x=>rec effs seen (s.put o.dst x)
  else bif Nat.beq (bC o) 2 then bif oX (partsOf cx s o.op) then ru cx call f o s fun x=>rec effs seen (s.put o.dst x) else none
  else none
def va (cx:Cx) (ops:Array Oper) (m:Nat) (fl:List (Nat×A)) (i:Nat) (o:Oper) (effs seen:List (Nat×A)) (s:St) (rec:List (Nat×A)->List (Nat×A)->St->Option R):Option R:=
 bif dp o then bif jP ops i (cU cx s o.op) seen then rec ((i,cU cx s o.op) :: effs) seen (s.put o.dst (.v undef)) else none
 else bif Nat.beq (bC o) 1 then bif jd fl ops m i then rec effs seen (s.put o.dst (.v undef)) else bif kD ops i (addrOf cx s o.op) effs then rec effs ((i,addrOf cx s o.op) :: seen) (s.put o.dst (.v undef)) else none
 else rec effs seen (s.put o.dst (.v undef))
def ft (cx:Cx) (call:aU) (f lo:Nat) (ops:Array Oper) (m:Nat) (fl:List (Nat×A)):Nat->List Oper->List (Nat×A)->List (Nat×A)->St->(St->Option R)->Option R
 | _,[],_,_,s,k=>k s
 | i,o :: os,effs,seen,s,k=>match o.guard with
  | some _=>match bK ops o with
   | none=>none
   | some (t,w)=>bif Nat.beq (bC o) 0&&!dp o&&(cC i fl).isNone then (qa (look s.fr t) w (gC cx call f o s) (some (.v undef))).bind fun x=>ft cx call f lo ops m fl (i+1) os effs seen (s.put o.dst x) k
    else bif (cC i fl).isNone then cJ (look s.fr t)
     (bif w then rm cx call f lo ops m fl i o effs seen (s.put (some t) (.v (.bool true))) (fun effs seen s=>ft cx call f lo ops m fl (i+1) os effs seen s k) else va cx ops m fl i o effs seen (s.put (some t) (.v (.bool true))) (fun effs seen s=>ft cx call f lo ops m fl (i+1) os effs seen s k))
     (bif w then va cx ops m fl i o effs seen (s.put (some t) (.v (.bool false))) (fun effs seen s=>ft cx call f lo ops m fl (i+1) os effs seen s k) else rm cx call f lo ops m fl i o effs seen (s.put (some t) (.v (.bool false))) (fun effs seen s=>ft cx call f lo ops m fl (i+1) os effs seen s k))
    else none
  | none=>rm cx call f lo ops m fl i o effs seen s fun effs seen s=>ft cx call f lo ops m fl (i+1) os effs seen s k
def vk:Op->Bool
 | .alloc _ | .box .. | .store .. | .makeSlice .. | .call _ | .makeMap .. | .insert .. | .mapUpdate ..=>true
 | _=>false
def pV (ops:Array Oper):Option Nat:=(List.range (ops.size+1)).find? (eV ops)
def zB (ops:Array Oper) (N:Nat):Bool:=ops.toList.all fun o=>match o.dst with | some d=>decide (d<N) | none=>true
def vp (cx:Cx) (o:Oper):Bool:=match o.op with
 | .call c=>match c.callee with | .value (.func q)=>cp cx.P q&&!cx.isOrc q&&(!Nat.beq (cx.cut q) 0 || cx.fre q) | _=>false
 | _=>false
def Ec (cx:Cx) (o:Oper):Nat:=match o.op with
 | .call c=>match c.callee with | .value (.func q)=>cx.cut q | _=>0
 | _=>0
def DS (cx:Cx) (o:Oper) (lo:Nat) (H:ar):Nat:=match o.op with
 | .call c=>match c.callee with | .value (.func q)=>bif cx.fre q then H.length else lo | _=>lo
 | _=>lo
def B8 (cx:Cx):Nat->List Oper->Option Nat
 | _,[]=>none
 | i,o :: os=>bif vp cx o then some i else B8 cx (i+1) os
def Km (ops:Array Oper) (c m:Nat):List Nat:=(List.range m).filter fun i=>ff ops c i&&(cW ops i || (List.range m).any fun e=>cW ops e&&ff ops i e)
def pF (ops:Array Oper) (c m:Nat):List Nat:=Km ops c m++c :: (List.range m).filter fun i=>ff ops i c
def Ad (ops:Array Oper) (c m:Nat):List Nat:=(List.range m).filter fun i=>(pF ops c m).all fun j=>!Nat.beq i j
def uT (ops:Array Oper):List Nat->List Nat->Bool
 | _,[]=>true
 | ps,i :: is=>bif ps.all (fun p=>ff ops i p) then uT ops (i :: ps) is else false
def Jg (ops:Array Oper) (L T:List Nat):Bool:=L.all fun i=>T.all fun j=>!ff ops i j
def tc (o:Oper):Bool:=match o.guard with | none=>true | some _=>false
def PV (o:Oper):Bool:=tc o&&(Nat.beq (bC o) 0 || Nat.beq (bC o) 1 || Nat.beq (bC o) 2)
def PX (o:Oper):Bool:=tc o&&(dp o || !vk o.op)&&!g9 o.op
def Lz (cx:Cx) (call:aU) (f:Nat) (ops:Array Oper):List Nat->List (Nat×A)->St->(List (Nat×A)->St->Option R)->Option R
 | [],seen,s,k=>k seen s
 | i :: is,seen,s,k=>match ops[i]? with
  | none=>none
  | some o=>bif PV o then bif (bif Nat.beq (bC o) 2 then oX (partsOf cx s o.op) else true) then ru cx call f o s fun x=>Lz cx call f ops is (bif Nat.beq (bC o) 1 then (i,addrOf cx s o.op) :: seen else seen) (s.put o.dst x) k else none else none
def gY (m:Nat) (a:A):Bool:=match blk? a with | none=>true | some b=>Nat.ble m b
def uq (ops:Array Oper) (c m:Nat):List (Nat×A)->Bool
 | []=>true
 | p :: l=>bif ff ops c p.1 then uq ops c m l else bif gY m p.2 then uq ops c m l else false
def Ix (cx:Cx) (call:aU) (f lo:Nat) (ops:Array Oper) (c:Nat) (kp:A->ar->Option R):List Nat->List (Nat×A)->St->(St->Option R)->Option R
 | [],_,s,k=>k s
 | i :: is,seen,s,k=>match ops[i]? with
  | none=>none
  | some o=>bif Nat.beq i c then bif uq ops c (Ec cx o) seen then dn cx call (iB cx s o.op) (er cx s o.op) s.H (DS cx o lo s.H) (fun a H=>Ix cx call f lo ops c kp is seen ({ s with H:=H }.put o.dst a) k) kp else none
   else bif PX o then bif (bif dp o then jP ops i (cU cx s o.op) seen else true) then bw cx f lo o s fun a H=>Ix cx call f lo ops c kp is seen ({ s with H:=H }.put o.dst a) k else none else none
def GL (cx:Cx) (N:Nat) (ops:Array Oper) (c m:Nat) (o:Oper):Bool:=(ops.toList.take m).all tc&&vp cx o&&te ops N&&uT ops [] (pF ops c m)&&Jg ops (Ad ops c m) (pF ops c m)&&(pF ops c m).all fun i=>Nat.blt i m
def Hf (cx:Cx) (ops:Array Oper):Option Nat:=match pV ops with | none=>none | some m=>B8 cx 0 (ops.toList.take m)
def zF (cx:Cx) (call:aU) (f lo N:Nat) (ops:Array Oper) (c:Nat) (s:St) (k:E->St->Option R):Option R:=
 match ops[c]? with
 | none=>none
 | some o=>(pV ops).bind fun m=>bif GL cx N ops c m o then Lz cx call f ops (Ad ops c m) [] s fun seen s1=>
   Ix cx call f lo ops c (fun a H=>k (.pan a) ⟨[],H⟩) (pF ops c m) seen s1 fun s=>gk cx call f lo ops (ops.size+1) (ops.toList.drop m) s k
  else none
def bL:Code->Nat
 | .region id _ _=>id
 | .seq a _=>bL a
 | .block _ c=>bL c
 | .scope c=>bL c
 | .loop c=>bL c
 | _=>0
def En (H:ar) (a:A):A:=match a with | .sl b o n c=>snap H (.sl b o n c) | .imm els _=>.imm els false | a=>a
def Gm (H:ar) (a:A):A:=match a with | .sl b o n c=>snap H (.sl b o n c) | .imm els _=>.imm els false | .agg cs=>.agg (cs.map (En H)) | a=>a
def eO (es:Nat) (H:ar):A->A×ar
 | .imm els true=>bif els.all (fun cs=>Nat.beq cs.length es) then (.sl H.length 0 els.length false,H++[.row false es els]) else (.imm els true,H)
 | a=>(a,H)
def fZ (es:Nat) (H:ar):A->A×ar
 | .imm [] true=>(.sl H.length 0 0 false,H++[.row true es []])
 | a=>(a,H)
def kU (es:Nat) (H:ar):A->A×ar
 | .imm els true=>bif els.all (fun cs=>Nat.beq cs.length es) then (.sl H.length 0 els.length false,H++[.row false es els]) else (.imm els true,H++[.dead])
 | a=>(a,H++[.dead])
def ed (lo off m:Nat) (a:A) (H:ar):ar:=
 match a with
 | .ptr b o=>match H[b]? with
  | some (.box cs)=>match cs[o+off]? with
   | some c=>bif decide (lo<=b) then match m with
    | 0=>H.set b (.box (cs.set (o+off) (Gm H c)))
    | es+1=>(eO es H c).2.set b (.box (cs.set (o+off) (eO es H c).1))
    else H
   | none=>H
  | _=>H
 | _=>H
def nK (lo:Nat) (p:Nat×Nat×Nat) (s:St):St:=
 match p.2.1 with
 | 0=>match p.2.2 with
  | 0=>⟨(p.1,Gm s.H (look s.fr p.1)) :: s.fr,s.H⟩
  | es+1=>bif Nat.ble 500000 es then (bif Nat.ble 1000000 es then ⟨(p.1,(kU (es - 1000000) s.H (look s.fr p.1)).1) :: s.fr,(kU (es - 1000000) s.H (look s.fr p.1)).2⟩ else ⟨(p.1,(fZ (es - 500000) s.H (look s.fr p.1)).1) :: s.fr,(fZ (es - 500000) s.H (look s.fr p.1)).2⟩) else ⟨(p.1,(eO es s.H (look s.fr p.1)).1) :: s.fr,(eO es s.H (look s.fr p.1)).2⟩
 | off+1=>⟨s.fr,ed lo off p.2.2 (look s.fr p.1) s.H⟩
def dB (lo:Nat):List (Nat×Nat×Nat)->St->St
 | [],s=>s
 | p :: ps,s=>dB lo ps (nK lo p s)
def qA (lo:Nat):List (Nat×Nat×Nat)->St->(St->Option R)->Option R
 | [],s,k=>k s
 | p :: ps,s,k=>(JX p.2.2 lo (look s.fr p.1) s.H).bind fun r=>qA lo ps ⟨(p.1,r.1) :: s.fr,r.2⟩ k
def yA:List (Nat×Nat×Nat)->List (Nat×Nat×Nat)
 | []=>[]
 | p :: ps=>match p.2.2 with | 0=>p :: yA ps | _+1=>yA ps
def dh (keep:List Nat) (s:St):St:=⟨keep.map fun t=>(t,look s.fr t),s.H⟩
def aS (L:Nat) (fr:List (Nat×A)):List Nat->Bool
 | []=>true
 | t :: ts=>bif A.under L (look fr t) then aS L fr ts else false
theorem mK (L:Nat) (fr:List (Nat×A)):∀ keep:List Nat,aS L fr keep=true->keep.all (fun t=>A.under L (look fr t))=true
 | [],_=>rfl
 | t :: ts,h=>by
  rw[aS] at h
  cases hu:A.under L (look fr t) with
  | false=>rw[hu] at h; cases h
  | true=>
   rw[hu] at h
   rw[US,hu,Tm]
   exact mK L fr ts h
def xe (keep:List Nat) (L:Nat) (s:St) (k:St->Option R):Option R:=
 (trim L s.H).bind fun H=>bif (bif Nat.beq s.H.length L then true else aS L s.fr keep) then k ⟨keep.map fun t=>(t,look s.fr t),H⟩ else none
def xw:List (Nat×Nat×Nat)->Option (Nat×Nat×Nat)
 | []=>none
 | p :: ps=>match ps with
  | []=>match p.2.1 with
   | 0=>bif Nat.ble 1000001 p.2.2 then some p else none
   | _+1=>none
  | _ :: _=>xw ps
def Kn (n:Nat):Nat:=n - 1
def Hw:A->Bool | .imm _ true=>true | _=>false
def GF (lo:Nat) (keep:List Nat) (p:Nat×Nat×Nat) (L:Nat) (s:St) (k:St->Option R):Option R:=
 bif Hw (look s.fr p.1) then xe keep (Kn L) s fun s=>bif Nat.beq (nK lo p s).H.length L then k (dh keep (nK lo p s)) else none else xe keep L s k
def CY (lo:Nat) (keep:List Nat) (acts:List (Nat×Nat×Nat)) (L:Nat) (s:St) (k:St->Option R):Option R:=
 match xw acts with
 | none=>xe keep L (dB lo (yA acts) s) k
 | some p=>GF lo keep p L (dB lo (yA acts) s) k
def DI (s:St) (keep:List Nat) (k:Nat->St->Option R):Option R:=k s.H.length (dh keep s)
def iter (lo:Nat) (keep:List Nat) (acts:List (Nat×Nat×Nat)) (L:Nat) (f:St->(E->St->Option R)->Option R) (kx kg:Nat->St->Option R) (kr:St->Option R) (kp:A->St->Option R):Nat->St->Option R
 | 0,_=>none
 | n+1,s=>f s fun e s'=>match e with
  | .normal=>CY lo keep acts L s' fun s'=>iter lo keep acts L f kx kg kr kp n s'
  | .exit i=>kx i (dh keep s')
  | .goto l=>kg l (dh keep s')
  | .ret=>kr (dh keep s')
  | .pan a=>kp a (dh keep s')
def iV:Code->Bool
 | .seq a b=>iV a&&iV b
 | .cond _ a b=>iV a&&iV b
 | .block _ c=>iV c
 | .loop c=>iV c
 | .rangeFunc .. | .scope _=>false
 | _=>true
def z9:List Nat->List A->List (Nat×A)->List (Nat×A)
 | p :: ps,a :: as,fr=>z9 ps as ((p,a) :: fr)
 | _,_,fr=>fr
def LC {β:Type} (H:ar) (b:Nat) (x:Option β):Option β:=match H[b]? with | some (.rng .ready)=>x | _=>none
def Iv {β:Type} (H:ar) (b:Nat) (x:Option β):Option β:=match H[b]? with | some (.rng .busy)=>x | _=>none
def Ia (b:Nat) (e:E) (H:ar):Option R:=
 match e with
 | .normal=>Iv H b (some (.ret (.v (.bool true)),H.set b (.rng .ready)))
 | .exit i=>Iv H b (some (.ret (.v (.bool false)),H.set b (.rng (.done (.exit i)))))
 | .goto l=>Iv H b (some (.ret (.v (.bool false)),H.set b (.rng (.done (.goto l)))))
 | .ret=>Iv H b (some (.ret (.v (.bool false)),H.set b (.rng (.done .ret))))
 | .pan _=>none
def roundOf (F1 F2:St->(E->St->Option R)->Option R) (lo b:Nat) (ps:List Nat) (fr:List (Nat×A)) (args:List A) (H:ar) (lo':Nat):Option R:=
 bif Nat.beq args.length ps.length&&Nat.ble lo' lo then
  LC H b (F1 ⟨z9 ps args fr,H⟩ fun e s=>match e with
   | .normal=>LC s.H b (F2 ⟨s.fr,s.H.set b (.rng .busy)⟩ fun e s=>Ia b e s.H)
   | _=>none)
 else none
def Ij (q:Nat) (call:aU) (b:Nat) (rnd:List A->ar->Nat->Option R):aU:=fun k args H lo=>bif Nat.beq k (q+b) then rnd args H lo else call k args H lo
def Dv {β:Type} (b:Nat) (H:ar) (kn:ar->Option β) (kx kg:Nat->ar->Option β) (kr:ar->Option β):Option β:=
 match H[b]? with
 | some (.rng .ready)=>kn (H.set b .dead)
 | some (.rng (.done (.exit i)))=>kx i (H.set b .dead)
 | some (.rng (.done (.goto l)))=>kg l (H.set b .dead)
 | some (.rng (.done .ret))=>kr (H.set b .dead)
 | _=>none
def yU (b:Nat) (H:ar) (k:E->ar->Option R):Option R:=Dv b H (fun H=>k .normal H) (fun i H=>k (.exit i) H) (fun l H=>k (.goto l) H) (fun H=>k .ret H)
def mP (s:St) (k:St->Option R):Option R:=k s
def Hq (P:Program):A->Option (Nat×List A)
 | .fn (.func gf) [] cap=>bif cp P gf then some (gf,cap) else none
 | _=>none
def wk (N:Nat):List Nat->Bool
 | []=>true
 | p :: ps=>bif Nat.blt p N then wk N ps else false
def yT (body:Code):Nat:=1000000+bL body
def nS:Code->Nat
 | .region id _ _=>id
 | .seq a _=>nS a
 | .block _ c=>nS c
 | .scope c=>nS c
 | .loop c=>nS c
 | .cond _ a _=>nS a
 | _=>0
def Gs (keep:List Nat) (e:E) (s:St):Option R:=match e with
 | .normal=>some (.ret (.tup (keep.map (look s.fr))),s.H)
 | _=>none
def Kv {β:Type} (r:R) (k:List A->ar->Option β):Option β:=match r with
 | (.ret (.tup l),H)=>k l H
 | _=>none
theorem Aj {β:Type} (fr:List (Nat×A)):∀ (keep:List Nat) (k:List (Nat×A)->Option β),Fv keep (keep.map (look fr)) k=k (keep.map fun t=>(t,look fr t))
 | [],_=>rfl
 | d :: ds,k=>by
  show Fv ds (ds.map (look fr)) (fun r=>k ((d,look fr d) :: r))=_
  rw[Aj fr ds]; rfl
def vu:Code->Nat
 | .block _ c=>nS c
 | .cond _ a _=>500000+nS a
 | .seq _ b=>vu b
 | _=>999999
def OZ (js:List Nat) (X:(E->St->Option R)->Option R) (Y:St->Option R) (k:E->St->Option R):Option R:=match js with
 | []=>X fun e s'=>match e with | .normal=>Y s' | e=>k e s'
 | j :: js=>(X (Gs (j :: js))).bind fun r=>Kv r fun l H=>Fv (j :: js) l fun fr=>Y ⟨fr,H⟩
noncomputable def ou (cx:Cx) (call:aU) (rg:aU->aU) (n f lo N:Nat):Code->St->(E->St->Option R)->Option R
 | .skip,s,k=>k .normal s
 | .label _,s,k=>k .normal s
 | .region id ops draw,s,k=>qA lo (cx.acts f (2000000+id)) s fun s=>bif zB ops N then
  bif draw then match Hf cx ops with | some c=>zF cx call f lo N ops c s k | none=>bif te ops N then (pV ops).bind fun m=>bif Cz ops m then bif uS ops m then ft cx call f lo ops m [] 0 (ops.toList.take m) [] [] s fun s=>gk cx call f lo ops (ops.size+1) (ops.toList.drop m) s k else bif ra cx f ops m then ahead cx f 0 (ops.toList.take m) s.H fun fl H=>ft cx call f lo ops m fl 0 (ops.toList.take m) [] [] ⟨s.fr,H⟩ fun s=>gk cx call f lo ops (ops.size+1) (ops.toList.drop m) s k else none else pI cx call f ops (ops.size+1) (ops.toList.take m) s fun s=>gk cx call f lo ops (ops.size+1) (ops.toList.drop m) s k else none
  else gk cx call f lo ops (ops.size+1) ops.toList s k
  else none
 | .seq a b,s,k=>OZ (cx.join f (vu a)) (fun k=>ou cx call rg n f lo N a s k) (fun s=>ou cx call rg n f lo N b s k) k
 | .cond c a b,s,k=>bh (bM cx s c) (ou cx call rg n f lo N a s k) (ou cx call rg n f lo N b s k)
 | .block id c,s,k=>ou cx call rg n f lo N c s fun e s'=>match e with | .exit j=>bif Nat.beq j id then k .normal s' else k (.exit j) s' | e=>k e s'
 | .scope c,s,k=>ou cx call rg n f lo N c s fun e s'=>match e with | .goto _=>none | e=>k e s'
 | .loop c,s,k=>DI (dB lo (cx.acts f (bL c)) (dh (cx.keep f (bL c)) s)) (cx.keep f (bL c)) fun L s=>iter lo (cx.keep f (bL c)) (cx.acts f (bL c)) L (fun s k=>ou cx call rg n f lo N c s k) (fun i s=>k (.exit i) s) (fun l s=>k (.goto l) s) (fun s=>k .ret s) (fun a s=>k (.pan a) s) n s
 | .exit id,s,k=>k (.exit id) s
 | .goto l,s,k=>k (.goto l) s
 | .ret,s,k=>k .ret s
 | .rangeFunc g ps asg body,s,k=>mP (dB lo (cx.acts f (yT body)) s) fun s=>(Hq cx.P (bM cx s g)).bind fun p=>bif wk N ps.toList&&iV asg&&iV body&&Nat.ble lo s.H.length then
   (rg (Ij cx.P.funcs.size call s.H.length (roundOf (fun s k=>ou cx call rg n f lo N asg s k) (fun s k=>ou cx call rg n f lo N body s k) lo s.H.length ps.toList (dh (cx.keep f (yT body)) s).fr)) p.1 (.yld s.H.length :: p.2) (s.H++[.rng .ready]) lo).bind fun r=>
    dj r.1 (fun _=>yU s.H.length r.2 fun e H=>k e ⟨s.fr,H⟩) (fun _=>none)
  else none
 | _,_,_=>none
def ig:Code->List Code
 | .loop c=>c :: ig c
 | .seq a b=>ig a++ig b
 | .cond _ a b=>ig a++ig b
 | .block _ c=>ig c
 | .scope c=>ig c
 | .rangeFunc _ _ a b=>ig a++ig b
 | _=>[]
def yE (cx:Cx) (f i:Nat):Code:=match (cx.P.funcs[f]?).bind (·.body) with | some c=>(ig c).getD i .skip | none=>.skip
def R6 (cx:Cx) (f:Nat):Nat:=match cx.P.funcs[f]? with | some fn=>fn.ntmps | none=>0
def iG:Code->List (List Nat×Code×Code)
 | .loop c=>iG c
 | .seq a b=>iG a++iG b
 | .cond _ a b=>iG a++iG b
 | .block _ c=>iG c
 | .scope c=>iG c
 | .rangeFunc _ ps a b=>[(ps.toList,a,b)]
 | _=>[]
def rangeAt (cx:Cx) (f i:Nat):List Nat×Code×Code:=match (cx.P.funcs[f]?).bind (·.body) with | some c=>(iG c).getD i ([],.skip,.skip) | none=>([],.skip,.skip)
noncomputable def aI (cx:Cx) (call:aU) (rg:aU->aU) (n f lo i L:Nat) (kx kg:Nat->St->Option R) (kr:St->Option R) (kp:A->St->Option R) (m:Nat) (s:St):Option R:=
 iter lo (cx.keep f (bL (yE cx f i))) (cx.acts f (bL (yE cx f i))) L (fun s k=>ou cx call rg n f lo (R6 cx f) (yE cx f i) s k) kx kg kr kp m s
def rp (cx:Cx) (s:St):ResultVar->Option A
 | .tmp t=>some (look s.fr t)
 | .cell a t=>ml cx.P t (look s.fr a) s.H
def nQ (cx:Cx) (s:St):List ResultVar->Option (List A)
 | []=>some []
 | r :: rs=>(rp cx s r).bind fun a=>(nQ cx s rs).bind fun l=>some (a :: l)
def zE (cx:Cx) (fn:Func) (s:St):Option A:=match fn.results.toList with
 | [r]=>rp cx s r
 | rs=>(nQ cx s rs).bind fun l=>some (.tup l)
def ve (cx:Cx) (s:St):List ResultVar->(List A->Option R)->Option R
 | [],k=>k []
 | r :: rs,k=>(rp cx s r).bind fun a=>ve cx s rs fun l=>k (a :: l)
def lu (cx:Cx) (fn:Func) (s:St):Option R:=match fn.results.toList with
 | [r]=>(rp cx s r).bind fun a=>some (.ret a,s.H)
 | rs=>ve cx s rs fun l=>some (.ret (.tup l),s.H)
theorem tM (cx:Cx) (s:St):∀ (rs:List ResultVar) (k:List A->Option R),ve cx s rs k=(nQ cx s rs).bind k
 | [],_=>rfl
 | r :: rs,k=>by
  rw[ve,nQ,Tx]
  congr 1; funext a
  rw[tM cx s rs,Tx]
  rfl
theorem AI (cx:Cx) (fn:Func) (s:St):lu cx fn s=(zE cx fn s).bind fun a=>some (.ret a,s.H):=by
 unfold lu zE
 split
 ·rename_i h; rfl
 ·rw[tM,Tx]
  rfl
def frame (args:List A):List (Nat×A):=args.zipIdx.map fun p=>(p.2,p.1)
noncomputable def Cm (cx:Cx) (call:aU) (rg:aU->aU) (n f lo:Nat) (fn:Func) (c:Code) (args:List A) (H:ar):Option R:=
 ou cx call rg n f lo fn.ntmps c ⟨frame args,H⟩ fun e s=>match e with
  | .normal | .ret=>mP (dB lo (cx.acts f 3000000) s) fun s=>lu cx fn s
  | .pan a=>some (.pan a,s.H)
  | _=>none
def Et (o:Oper):Bool:=match o.op with | .defer _=>true | _=>false
def xa:List Oper->Option (List Oper×Oper)
 | []=>none
 | o :: os=>match os with
  | []=>some ([],o)
  | _ :: _=>(xa os).map fun p=>(o :: p.1,p.2)
def rJ:Code->Bool
 | .seq _ (.seq (.region _ ops false) _)=>ops.toList.any Et
 | _=>false
def PS (cx:Cx) (q:Nat) (o:Oper):Bool:=cp cx.P q&&tc o&&o.dst.isNone
def Ca (cx:Cx) (s:St) (o:Oper):Option (Nat×List A):=match o.op with
 | .defer c=>match c.callee,c.args.toList with
  | .value g,[]=>match bM cx s g with
   | .fn (.func q) [] cap=>bif PS cx q o then some (q,cap) else none
   | _=>none
  | _,_=>none
 | _=>none
def lH (o:Oper):Option Nat:=match o.op with
 | .call c=>match c.callee,c.args.toList with
  | .builtin .recover,[]=>bif tc o then o.dst else none
  | _,_=>none
 | _=>none
def recAt:Nat->List Oper->Option (Nat×Nat)
 | _,[]=>none
 | i,o :: os=>match lH o with | some d=>some (i,d) | none=>recAt (i+1) os
def jM (ops:Array Oper) (i d:Nat):Array Oper:=match ops[i]? with | some o=>ops.setIfInBounds i { o with op:=.move (.tmp d) } | none=>ops
def jc (d:Nat) (o:Oper):Bool:=tc o&&(match o.op with | .load _ (.tmp t)=>!Nat.beq t d | _=>false)&&(match o.dst with | some e=>!Nat.beq e d | none=>false)
def w9 (d:Nat) (ops:Array Oper) (j:Nat):Bool:=match ops[j]? with | some o=>jc d o | none=>true
def GK (ops:Array Oper) (i d:Nat):Bool:=(List.range ops.size).all fun j=>Nat.beq j i || match ops[j]? with | some o=>jc d o || o.after.any fun e=>Region.binds .any e&&!w9 d ops e.on | none=>false
def PW (cap:List A) (ops:Array Oper) (fn:Func) (rest:Code):Bool:=decide (cap.length<=fn.ntmps)&&zB ops fn.ntmps&&iV rest&&fn.results.toList.isEmpty
def PU (ops:Array Oper) (N:Nat) (a:Code):Bool:=zB ops N&&iV a
def vd (cx:Cx) (call:aU) (f lo N:Nat) (ops:Array Oper) (s:St) (k:E->St->Option R):Option R:=
 bif zB ops N then
  match Hf cx ops with | some c=>zF cx call f lo N ops c s k | none=>bif te ops N then (pV ops).bind fun m=>bif Cz ops m then bif uS ops m then ft cx call f lo ops m [] 0 (ops.toList.take m) [] [] s fun s=>gk cx call f lo ops (ops.size+1) (ops.toList.drop m) s k else bif ra cx f ops m then ahead cx f 0 (ops.toList.take m) s.H fun fl H=>ft cx call f lo ops m fl 0 (ops.toList.take m) [] [] ⟨s.fr,H⟩ fun s=>gk cx call f lo ops (ops.size+1) (ops.toList.drop m) s k else none else pI cx call f ops (ops.size+1) (ops.toList.take m) s fun s=>gk cx call f lo ops (ops.size+1) (ops.toList.drop m) s k else none
 else none
def PY (cap:List A) (ops:Array Oper) (fn:Func) (p:Nat×Nat):Bool:=decide (cap.length<=fn.ntmps)&&decide (p.2<fn.ntmps)&&GK ops p.1 p.2&&(match ops[p.1]? with | some o=>o.after.toList.isEmpty | none=>false)&&fn.results.toList.isEmpty
noncomputable def wH (cx:Cx) (call:aU) (rg:aU->aU) (n lo q:Nat) (cap:List A) (v:A) (H:ar) (k:ar->Option R):Option R:=
 (cx.P.funcs[q]?).bind fun fn=>fn.body.bind fun c=>match c with
  | .seq (.region _ ops false) rest=>match ops.toList with
   | o :: os=>(lH o).bind fun d=>bif PW cap ops fn rest then fp cx call q lo ops os ⟨(d,v) :: frame cap,H⟩ fun e s=>match e with
     | .normal=>ou cx call rg n q lo fn.ntmps rest s fun e s=>match e with
      | .normal | .ret=>k s.H
      | _=>none
     | _=>none
    else none
   | []=>none
  | .region _ ops true=>(recAt 0 ops.toList).bind fun p=>bif PY cap ops fn p then vd cx call q lo fn.ntmps (jM ops p.1 p.2) ⟨(p.2,v) :: frame cap,H⟩ fun e s=>match e with
    | .normal=>k s.H
    | _=>none
   else none
  | _=>none
noncomputable def qx (cx:Cx) (call:aU) (rg:aU->aU) (n f lo:Nat) (fn:Func) (c:Code) (args:List A) (H:ar):Option R:=match c with
 | .seq a (.seq (.region _ ops false) rest)=>bif PU ops fn.ntmps a then ou cx call rg n f lo fn.ntmps a ⟨frame args,H⟩ fun e s=>match e with
  | .normal=>(xa ops.toList).bind fun p=>fp cx call f lo ops p.1 s fun e s=>match e with
   | .normal=>(Ca cx s p.2).bind fun z=>ou cx call rg n f lo fn.ntmps rest s fun e s=>match e with
    | .normal | .ret=>wH cx call rg n lo z.1 z.2 (.v .nilIface) s.H fun H=>mP (dB lo (cx.acts f 3000000) ⟨s.fr,H⟩) fun s=>lu cx fn s
    | .pan x=>wH cx call rg n lo z.1 z.2 x s.H fun H=>mP (dB lo (cx.acts f 3000000) ⟨s.fr,H⟩) fun s=>lu cx fn s
    | _=>none
   | _=>none
  | _=>none
  else none
 | _=>none
def qz (es:Nat) (args:List A) (H:ar) (lo:Nat):Option R:=match args with
 | [.sl b 0 n _,.v (.int .i64 i),.imm [v] _]=>match H[b]? with
  | some (.row true es' els)=>bif Nat.beq es' es&&!(Nat.beq es 0)&&Nat.beq n els.length&&decide (lo<=b)&&decide (0<=i)&&decide (i<=(n:Int))&&decide (n<4294967296)&&Nat.beq v.length es&&v.all A.cell&&els.all (fun cs=>cs.all A.cell) then some (.ret (.imm (els.take i.toNat++v :: els.drop i.toNat) false),H.set b .dead) else none
  | _=>none
 | _=>none
noncomputable def aB (cx:Cx) (call:aU) (rg:aU->aU) (n f:Nat) (args:List A) (H:ar) (lo:Nat):Option R:=
 (cx.P.funcs[f]?).bind fun fn=>bif !(Nat.beq (cx.ins f) 0) then qz (cx.ins f) args H lo else fn.body.bind fun c=>bif decide (args.length<=fn.ntmps) then bif rJ c then qx cx call rg n f lo fn c args H else Cm cx call rg n f lo fn c args H else none
def DT:aU:=fun _ _ _ _=>none
def R0:A->Bool | .v _=>true | _=>false
def fS (cx:Cx) (k:Nat) (H:ar):Bool:=bif cx.deep k then bif Nat.beq H.length 0 then false else true else false
def mq (cx:Cx) (k:Nat) (args:List A) (H:ar):Option R:=(cx.C k (args.map (jR 6 H))).bind fun r=>bif R0 r then some (.ret r,H) else none
def fH (cx:Cx) (k:Nat) (H:ar):Bool:=bif Nat.beq (cx.cut k) 0 then false else bif Nat.ble (cx.cut k) H.length then true else bif Nat.beq H.length 0 then false else Nat.beq (cx.cut k) 999999999
def cutAt (cx:Cx) (k:Nat) (H:ar):Nat:=bif Nat.ble (cx.cut k) H.length then cx.cut k else H.length
def kR (m:Nat):Out->Bool
 | .ret a=>A.under m a
 | .pan a=>A.under m a
def mX (m:Nat) (f:ar->Option R) (args:List A) (H:ar):Option R:=
 bif aZ m args&&(H.take m).all (aD.under m) then (f (H.take m)).bind fun r=>bif Nat.ble m r.2.length&&(r.2.take m).all (aD.under m)&&kR m r.1 then some (r.1,r.2.take m++H.drop m) else none else none
noncomputable def bo (cx:Cx):Nat->aU->aU
 | 0,base,k,args,H,lo=>bif Nat.ble cx.P.funcs.size k then base k args H lo else none
 | n+1,base,k,args,H,lo=>bif Nat.ble cx.P.funcs.size k then base k args H lo else bif fH cx k H then mX (cutAt cx k H) (fun H=>aB cx (bo cx n DT) (bo cx n) n k args H lo) args H else bif fS cx k H then mq cx k args H else aB cx (bo cx n base) (bo cx n) n k args H lo
noncomputable def dx (cx:Cx) (n:Nat):aU:=bo cx n DT
section
open Go.RowKit
structure Gh where
 mu:Nat->Option Nat
 ga:Nat->List (List Value)
 S:Nat->Nat->Prop
 lr:Nat->Loop
def Gt:Loop:={ state:=.ready,pending:=none,fn:=0,tmps:=#[],params:=#[],assign:=.skip,body:=.skip,defers:=0 }
def ME.code:ME->Code
 | .exit id=>.exit id
 | .goto l=>.goto l
 | .ret=>.ret
def iH (r:Loop):D5->Loop
 | .ready=>{ r with state:=.ready,pending:=none }
 | .busy=>{ r with state:=.busy,pending:=none }
 | .done j=>{ r with state:=.done,pending:=some j.code }
def dP (H:ar) (g:Gh) (k o:Nat):Prop:=g.S k o/\∀ b,g.mu b=some k->∃ es els,H[b]? = some (.row false es els)/\o<es*els.length
def bt (H:ar) (g:Gh) (w:World) (k off:Nat) (ds:List Value):Prop:=∀ j v,ds[j]? = some v->w.cell? ⟨k,off+j,none⟩=some v/\dP H g k (off+j)
mutual
def VR (H:ar) (g:Gh) (w:World):A->Value->Prop
 | .any,_=>True
 | .v x,c=>c=x
 | .ptr b o,c=>match H[b]? with
  | some (.box _)=>∃ k,g.mu b=some k/\c=.pointer (some ⟨k,o,none⟩)
  | some .hole=>False
  | some _=>c.oneCell'=true
  | none=>False
 | .ep b i o,c=>match H[b]? with
  | some (.row true es els)=>i<els.length/\∃ k,g.mu b=some k/\c=.pointer (some ⟨k,i*es+o,none⟩)
  | some .hole=>False
  | some _=>c.oneCell'=true
  | none=>False
 | .ip cs,c=>∃ k off ds,c=.pointer (some ⟨k,off,none⟩)/\bt H g w k off ds/\bl H g w cs ds
 | .imm els clip,c=>∃ a cap ds es,c=.slice a els.length cap/\els.length<=cap/\(clip=true->cap=els.length)/\(∀ d∈ds,d.length=es)/\(0<els.length->∃ k off,a=some ⟨k,off,none⟩/\bt H g w k off ds.flatten)/\bf H g w els ds
 | .sl b o n clip,c=>match H[b]? with
  | some (.row true es els)=>o+n<=els.length/\∃ a cap,c=.slice a n cap/\n<=cap/\(clip=true->cap=n)/\(0<n->∃ k,g.mu b=some k/\a=some ⟨k,o*es,none⟩) ∧
    (clip=false->o=0->n=els.length->n<cap->∃ k arr ty,g.mu b=some k/\a=some ⟨k,0,none⟩/\w.heap[k]? = some (.cells arr ty (0,0))/\cap*es<=arr.size)
  | some (.row false es els)=>o+n<=els.length/\∃ a cap,c=.slice a n cap/\n<=cap/\(clip=true->cap=n)/\(0<n->∃ k off,a=some ⟨k,off,none⟩/\bt H g w k off (((g.ga b).drop o).take n).flatten) ∧
    (clip=false->o=0->n=els.length->n<cap->∃ k arr ty,g.mu b=some k/\a=some ⟨k,0,none⟩/\w.heap[k]? = some (.cells arr ty (0,0))/\cap*es<=arr.size)
  | some .hole=>False
  | some _=>c.oneCell'=true
  | none=>False
 | .agg cs,c=>∃ ds,c=.agg ds/\bl H g w cs ds.toList
 | .tup cs,c=>∃ ds,c=.tuple ds/\bl H g w cs ds.toList
 | .fn f a b,c=>∃ ds es,c=.func f ds es/\bl H g w a ds.toList/\bl H g w b es.toList
 | .ifc t x,c=>∃ d,c=.iface t d/\VR H g w x d
 | .yld b,c=>match H[b]? with
  | some (.rng _)=>∃ k,g.mu b=some k/\c=.func (.yield k) #[] #[]
  | some .hole=>False
  | some _=>c.oneCell'=true
  | none=>False
 | .nq els,c=>∃ b,c=.bool b/\(b=true->els=[])
 | .mr b,c=>match H[b]? with
  | some (.mp ..)=>∃ k,g.mu b=some k/\c=.map (some k)
  | some .hole=>False
  | some _=>c.oneCell'=true
  | none=>False
 | .mv k ks vs,c=>∃ r arr cl,c=.map (some r)/\dP H g r 0/\w.heap[r]? = some (.map arr cl)/\arr.toList.map (·.key)=ks.map (.int k)/\bl H g w vs (arr.toList.map (·.val))
def bl (H:ar) (g:Gh) (w:World):List A->List Value->Prop
 | [],ds=>ds=[]
 | a :: as,ds=>∃ d ds',ds=d :: ds'/\VR H g w a d/\bl H g w as ds'
def bf (H:ar) (g:Gh) (w:World):List (List A)->List (List Value)->Prop
 | [],ds=>ds=[]
 | a :: as,ds=>∃ d ds',ds=d :: ds'/\bl H g w a d/\bf H g w as ds'
end
def kX (H:ar) (g:Gh) (w:World) (b:Nat):aD->Prop
 | .box cs=>∃ k arr ty,g.mu b=some k/\w.heap[k]? = some (.cells arr ty (0,0))/\bl H g w cs arr.toList
 | .row true es els=>∃ ds,bf H g w els ds/\(∀ d∈ds,d.length=es)/\(0<els.length->∃ (k:Nat) (arr:Array Value) (ty:TypeId),g.mu b=some k/\w.heap[k]? = some (.cells arr ty (0,0))/\∀ (j:Nat) (v:Value),ds.flatten[j]? = some v->arr[j]? = some v)
 | .row false es els=>bf H g w els (g.ga b)/\(∀ d∈g.ga b,d.length=es)
 | .rng st=>∃ k,g.mu b=some k/\w.heap[k]? = some (.loop (iH (g.lr b) st))
 | .dead=>g.mu b=none
 | .hole=>g.mu b=none
 | .mp k ks vs=>∃ r arr cl,g.mu b=some r/\w.heap[r]? = some (.map arr cl)/\arr.toList.map (·.key)=ks.map (.int k)/\bl H g w vs (arr.toList.map (·.val))
structure Rel (H:ar) (g:Gh) (w0 w:World):Prop where
 below:Below w0.heap.size w0 w
 dom:∀ b k,g.mu b=some k->b<H.length/\w0.heap.size<=k/\k<w.heap.size
 inj:∀ b c k,g.mu b=some k->g.mu c=some k->b=c
 out:∀ k o,w.heap.size<=k->g.S k o
 own:∀ b k o,g.mu b=some k->g.S k o
 blk:∀ b B,H[b]? = some B->kX H g w b B
def BT (g:Gh) (w:World) (g':Gh) (w':World) (b:Nat):aD->aD->Prop
 | .box _,.box _=>g'.mu b=g.mu b
 | .row true es els,.row true es' els'=>es'=es/\els'.length=els.length/\g'.mu b=g.mu b/\∀ k arr ty,g.mu b=some k->w.heap[k]? = some (.cells arr ty (0,0))->∃ arr',w'.heap[k]? = some (.cells arr' ty (0,0))/\arr.size<=arr'.size
 | .row false es els,.row false es' els'=>es'=es/\(∃ r,g'.ga b=g.ga b++r)/\(g.ga b).length=els.length/\els.length<=els'.length/\(els'.length=els.length->g'.mu b=g.mu b/\∀ k arr ty,g.mu b=some k->w.heap[k]? = some (.cells arr ty (0,0))->∃ arr',w'.heap[k]? = some (.cells arr' ty (0,0))/\arr.size<=arr'.size)
 | .rng _,.rng _=>g'.mu b=g.mu b/\g'.lr b=g.lr b
 | .mp ..,.mp ..=>g'.mu b=g.mu b
 | .hole,_=>True
 | _,.dead=>True
 | _,_=>False
structure vP (H:ar) (g:Gh) (w:World) (H':ar) (g':Gh) (w':World):Prop where
 cell:∀ k o v,dP H g k o->w.cell? ⟨k,o,none⟩=some v->w'.cell? ⟨k,o,none⟩=some v/\dP H' g' k o
 blk:∀ (b:Nat) (B:aD),H[b]? = some B->∃ B',H'[b]? = some B'/\BT g w g' w' b B B'
 map:∀ k arr cl,dP H g k 0->w.heap[k]? = some (.map arr cl)->w'.heap[k]? = some (.map arr cl)/\dP H' g' k 0
structure Ext (H:ar) (g:Gh) (w:World) (H':ar) (g':Gh) (w':World):Prop where
 cell:∀ k o v,dP H g k o->w.cell? ⟨k,o,none⟩=some v->w'.cell? ⟨k,o,none⟩=some v/\dP H' g' k o
 blk:∀ (b:Nat) (B:aD),H[b]? = some B->∃ B',H'[b]? = some B'/\BT g w g' w' b B B'
 kept:∀ (k:Nat) (x:Option (List Deferred)),w.heap[k]? = some (.deferred x)->w'.heap[k]? = some (.deferred x)
 size:w.heap.size<=w'.heap.size
 map:∀ k arr cl,dP H g k 0->w.heap[k]? = some (.map arr cl)->w'.heap[k]? = some (.map arr cl)/\dP H' g' k 0
 obj:∀ k,k<w.heap.size->(∀ b,g.mu b≠some k)->w'.heap[k]? = w.heap[k]?
 fresh:∀ b k,g'.mu b=some k->(∃ c,g.mu c=some k)∨w.heap.size<=k
variable {H H':ar} {g g':Gh} {w0 w w':World}
theorem bl.length:∀ {cs:List A} {ds:List Value},bl H g w cs ds->ds.length=cs.length
 | [],_,h=>by rw[bl] at h; subst h; rfl
 | a :: as,_,h=>by rw[bl] at h; obtain ⟨d,ds',rfl,_,h2⟩:=h; simp[bl.length h2]
theorem bf.length:∀ {cs:List (List A)} {ds:List (List Value)},bf H g w cs ds->ds.length=cs.length
 | [],_,h=>by rw[bf] at h; subst h; rfl
 | a :: as,_,h=>by rw[bf] at h; obtain ⟨d,ds',rfl,_,h2⟩:=h; simp[bf.length h2]
theorem bt.eG (he:vP H g w H' g' w') {k off:Nat} {ds:List Value} (h:bt H g w k off ds):bt H' g' w' k off ds:=fun j v hj=>let ⟨h1,h2⟩:=h j v hj; he.cell _ _ _ h2 h1
mutual
theorem VR.eG (he:vP H g w H' g' w'):∀ (a:A) (c:Value),VR H g w a c->VR H' g' w' a c
 | .any,_,_=>Sm
 | .v x,c,h=>by rw[VR] at h ⊢; exact h
 | .ptr b o,c,h=>by
  rw[VR] at h ⊢
  cases hb:H[b]? with
  | none=>rw[hb] at h; exact h.elim
  | some B=>
   obtain ⟨B',hB',ht⟩:=he.blk b B hb
   rw[hb] at h; rw[hB']
   cases B with
   | box _=>cases B' with
    | box _=>obtain ⟨k,h1,h2⟩:=h; exact⟨k,(show g'.mu b=g.mu b from ht).trans h1,h2⟩
    | row wr _ _=>exact False.elim ht
    | rng _=>exact False.elim ht
    | mp _ _ _=>exact False.elim ht
    | dead=>obtain ⟨k,h1,h2⟩:=h; subst h2; rfl
    | hole=>exact False.elim ht
   | row wr _ _=>cases B' with
    | box _=>cases wr<;>exact False.elim ht
    | row _ _ _=>exact h
    | rng _=>cases wr<;>exact False.elim ht
    | mp _ _ _=>cases wr<;>exact False.elim ht
    | dead=>exact h
    | hole=>cases wr<;>exact False.elim ht
   | rng _=>cases B'<;>first | exact h | (exact False.elim ht)
   | mp _ _ _=>cases B'<;>first | exact h | (exact False.elim ht)
   | dead=>cases B'<;>first | exact h | (exact False.elim ht)
   | hole=>exact False.elim h
 | .ep b i o,c,h=>by
  rw[VR] at h ⊢
  cases hb:H[b]? with
  | none=>rw[hb] at h; exact h.elim
  | some B=>
   obtain ⟨B',hB',ht⟩:=he.blk b B hb
   rw[hb] at h; rw[hB']
   cases B with
   | box _=>cases B' with
    | box _=>exact h
    | row wr _ _=>exact False.elim ht
    | rng _=>exact False.elim ht
    | mp _ _ _=>exact False.elim ht
    | dead=>exact h
    | hole=>exact False.elim ht
   | row wr es els=>cases wr with
    | true=>cases B' with
     | box _=>exact False.elim ht
     | row wr' es' els'=>cases wr' with
      | true=>
       obtain ⟨e1,e2,e3,_⟩:=ht
       obtain ⟨h0,k,h1,h2⟩:=h
       subst e1
       exact⟨o3,k,e3.trans h1,h2⟩
      | false=>exact False.elim ht
     | rng _=>exact False.elim ht
     | mp _ _ _=>exact False.elim ht
     | dead=>obtain ⟨_,k,h1,h2⟩:=h; subst h2; rfl
     | hole=>exact False.elim ht
    | false=>cases B' with
     | box _=>exact False.elim ht
     | row wr' es' els'=>cases wr' with
      | true=>exact False.elim ht
      | false=>exact h
     | rng _=>exact False.elim ht
     | mp _ _ _=>exact False.elim ht
     | dead=>exact h
     | hole=>exact False.elim ht
   | rng _=>cases B'<;>first | exact h | (exact False.elim ht)
   | mp _ _ _=>cases B'<;>first | exact h | (exact False.elim ht)
   | dead=>cases B'<;>first | exact h | (exact False.elim ht)
   | hole=>exact False.elim h
 | .ip cs,c,h=>by
  rw[VR] at h ⊢
  obtain ⟨k,off,ds,h1,h2,h3⟩:=h
  exact⟨k,off,ds,h1,h2.eG he,bl.eG he cs ds h3⟩
 | .imm els clip,c,h=>by
  rw[VR] at h ⊢
  obtain ⟨a,cap,ds,es,h1,h2,h3,h4,h5,h6⟩:=h
  exact⟨a,cap,ds,es,h1,h2,h3,h4,fun hp=>let ⟨k,off,e1,e2⟩:=h5 hp; ⟨k,off,e1,e2.eG he⟩,bf.eG he els ds h6⟩
 | .sl b o n clip,c,h=>by
  rw[VR] at h ⊢
  cases hb:H[b]? with
  | none=>rw[hb] at h; exact h.elim
  | some B=>
   obtain ⟨B',hB',ht⟩:=he.blk b B hb
   rw[hb] at h; rw[hB']
   cases B with
   | box _=>cases B' with
    | box _=>exact h
    | row wr _ _=>exact False.elim ht
    | rng _=>exact False.elim ht
    | mp _ _ _=>exact False.elim ht
    | dead=>exact h
    | hole=>exact False.elim ht
   | row wr es els=>cases wr with
    | true=>cases B' with
     | box _=>exact False.elim ht
     | row wr' es' els'=>cases wr' with
      | true=>
       obtain ⟨e1,e2,e3,e4⟩:=ht
       obtain ⟨h0,a,cap,h1,h2,h3,h4,h5⟩:=h
       subst e1
       refine⟨o3,a,cap,h1,h2,h3,fun hp=>let ⟨k,g1,g2⟩:=h4 hp; ⟨k,e3.trans g1,g2⟩,fun hc ho hn hlt=>?_⟩
       obtain ⟨k,arr,ty,g1,g2,g3,g4⟩:=h5 hc ho o3 hlt
       obtain ⟨arr',m3,m4⟩:=e4 k arr ty g1 g3
       exact⟨k,arr',ty,e3.trans g1,g2,m3,o3⟩
      | false=>exact False.elim ht
     | rng _=>exact False.elim ht
     | mp _ _ _=>exact False.elim ht
     | dead=>obtain ⟨_,a,cap,h1,_⟩:=h; subst h1; rfl
     | hole=>exact False.elim ht
    | false=>cases B' with
     | box _=>exact False.elim ht
     | row wr' es' els'=>cases wr' with
      | true=>exact False.elim ht
      | false=>
       obtain ⟨e1,⟨r,e2⟩,e3,e4,e5⟩:=ht
       obtain ⟨h0,a,cap,h1,h2,h3,h4,h5⟩:=h
       subst e1
       refine⟨o3,a,cap,h1,h2,h3,fun hp=>?_,fun hc ho hn hlt=>?_⟩
       ·obtain ⟨k,off,g1,g2⟩:=h4 hp
        refine⟨k,off,g1,?_⟩
        have:((g'.ga b).drop o).take n=((g.ga b).drop o).take n:=by
         rw[e2,VE o3,VF r9]
        rw[this]
        exact g2.eG he
       ·have hel:els'.length=els.length:=by omega
        obtain ⟨k,arr,ty,g1,g2,g3,g4⟩:=h5 hc ho o3 hlt
        obtain ⟨m1,m2⟩:=e5 hel
        obtain ⟨arr',m3,m4⟩:=m2 k arr ty g1 g3
        exact⟨k,arr',ty,m1.trans g1,g2,m3,o3⟩
     | rng _=>exact False.elim ht
     | mp _ _ _=>exact False.elim ht
     | dead=>obtain ⟨_,a,cap,h1,_⟩:=h; subst h1; rfl
     | hole=>exact False.elim ht
   | rng _=>cases B'<;>first | exact h | (exact False.elim ht)
   | mp _ _ _=>cases B'<;>first | exact h | (exact False.elim ht)
   | dead=>cases B'<;>first | exact h | (exact False.elim ht)
   | hole=>exact False.elim h
 | .agg cs,c,h=>by
  rw[VR] at h ⊢
  obtain ⟨ds,h1,h2⟩:=h
  exact⟨ds,h1,bl.eG he cs _ h2⟩
 | .tup cs,c,h=>by
  rw[VR] at h ⊢
  obtain ⟨ds,h1,h2⟩:=h
  exact⟨ds,h1,bl.eG he cs _ h2⟩
 | .fn f a b,c,h=>by
  rw[VR] at h ⊢
  obtain ⟨ds,es,h1,h2,h3⟩:=h
  exact⟨ds,es,h1,bl.eG he a _ h2,bl.eG he b _ h3⟩
 | .ifc t x,c,h=>by
  rw[VR] at h ⊢
  obtain ⟨d,h1,h2⟩:=h
  exact⟨d,h1,VR.eG he x d h2⟩
 | .yld b,c,h=>by
  rw[VR] at h ⊢
  cases hb:H[b]? with
  | none=>rw[hb] at h; exact h.elim
  | some B=>
   obtain ⟨B',hB',ht⟩:=he.blk b B hb
   rw[hb] at h; rw[hB']
   cases B with
   | rng st=>cases B' with
    | rng st'=>obtain ⟨k,h1,h2⟩:=h; exact⟨k,(show g'.mu b=g.mu b from ht.1).trans h1,h2⟩
    | dead=>obtain ⟨k,h1,h2⟩:=h; subst h2; rfl
    | hole=>exact False.elim ht
    | box _=>exact False.elim ht
    | row _ _ _=>exact False.elim ht
    | mp _ _ _=>exact False.elim ht
   | row wr _ _=>cases wr<;>cases B'<;>first | exact h | (exact False.elim ht)
   | dead=>cases B'<;>first | exact h | (exact False.elim ht)
   | box _=>cases B'<;>first | exact h | (exact False.elim ht)
   | mp _ _ _=>cases B'<;>first | exact h | (exact False.elim ht)
   | hole=>exact False.elim h
 | .nq els,c,h=>by rw[VR] at h ⊢; exact h
 | .mr b,c,h=>by
  rw[VR] at h ⊢
  cases hb:H[b]? with
  | none=>rw[hb] at h; exact h.elim
  | some B=>
   obtain ⟨B',hB',ht⟩:=he.blk b B hb
   rw[hb] at h; rw[hB']
   cases B with
   | mp _ _ _=>cases B' with
    | mp _ _ _=>obtain ⟨k,h1,h2⟩:=h; exact⟨k,(show g'.mu b=g.mu b from ht).trans h1,h2⟩
    | dead=>obtain ⟨k,h1,h2⟩:=h; subst h2; rfl
    | hole=>exact False.elim ht
    | box _=>exact False.elim ht
    | row _ _ _=>exact False.elim ht
    | rng _=>exact False.elim ht
   | row wr _ _=>cases wr<;>cases B'<;>first | exact h | (exact False.elim ht)
   | dead=>cases B'<;>first | exact h | (exact False.elim ht)
   | box _=>cases B'<;>first | exact h | (exact False.elim ht)
   | rng _=>cases B'<;>first | exact h | (exact False.elim ht)
   | hole=>exact False.elim h
 | .mv k ks vs,c,h=>by
  rw[VR] at h ⊢
  obtain ⟨r,arr,cl,h1,h2,h3,h4,h5⟩:=h
  obtain ⟨e1,e2⟩:=he.map r arr cl h2 h3
  exact⟨r,arr,cl,h1,e2,e1,h4,bl.eG he vs _ h5⟩
theorem bl.eG (he:vP H g w H' g' w'):∀ (cs:List A) (ds:List Value),bl H g w cs ds->bl H' g' w' cs ds
 | [],_,h=>by rw[bl] at h ⊢; exact h
 | a :: as,_,h=>by
  rw[bl] at h ⊢
  obtain ⟨d,ds',h1,h2,h3⟩:=h
  exact⟨d,ds',h1,VR.eG he a d h2,bl.eG he as ds' h3⟩
theorem bf.eG (he:vP H g w H' g' w'):∀ (cs:List (List A)) (ds:List (List Value)),bf H g w cs ds->bf H' g' w' cs ds
 | [],_,h=>by rw[bf] at h ⊢; exact h
 | a :: as,_,h=>by
  rw[bf] at h ⊢
  obtain ⟨d,ds',h1,h2,h3⟩:=h
  exact⟨d,ds',h1,bl.eG he a d h2,bf.eG he as ds' h3⟩
end
theorem Ext.LD (he:Ext H g w H' g' w'):vP H g w H' g' w':=⟨he.cell,he.blk,he.map⟩
theorem bt.ext (he:Ext H g w H' g' w') {k off:Nat} {ds:List Value} (h:bt H g w k off ds):bt H' g' w' k off ds:=h.eG he.LD
theorem VR.ext (he:Ext H g w H' g' w') (a:A) (c:Value) (h:VR H g w a c):VR H' g' w' a c:=VR.eG he.LD a c h
theorem bl.ext (he:Ext H g w H' g' w') (cs:List A) (ds:List Value) (h:bl H g w cs ds):bl H' g' w' cs ds:=bl.eG he.LD cs ds h
theorem bf.ext (he:Ext H g w H' g' w') (cs:List (List A)) (ds:List (List Value)) (h:bf H g w cs ds):bf H' g' w' cs ds:=bf.eG he.LD cs ds h
theorem kX.len {b es:Nat} {els:List (List A)} (h:kX H g w b (.row false es els)):(g.ga b).length=els.length:=h.1.length
theorem Rel.xk (hr:Rel H g w0 w) (he:Ext H g w H' g' w') (hS:g'.S=g.S:=by rfl):∀ k o,w'.heap.size<=k->g'.S k o:=fun k o hk=>by rw[hS]; exact hr.out k o (SZ he.size hk)
theorem Rel.vD (hr:Rel H g w0 w) (he:Ext H g w H' g' w') (hS:g'.S=g.S:=by rfl):∀ b k o,g'.mu b=some k->g'.S k o:=fun b k o h=>by
 rw[hS]
 rcases he.fresh b k h with ⟨c,hc⟩ | hl
 ·exact hr.own c k o hc
 ·exact hr.out k o hl
theorem Ext.below (hr:Rel H g w0 w) (hb:Below w.heap.size w w'):Ext H g w H g w':=by
 refine⟨fun k o v hs hc=>⟨(hb.cell (p:=⟨k,o,none⟩) (Uo w _ hc)).trans hc,hs⟩,fun b B hB=>⟨B,hB,?_⟩,fun k o ho=>(hb.block k (SE.1 ho).1).trans ho,hb.size,fun k arr cl hs hm=>⟨(hb.block k (SE.1 hm).1).trans hm,hs⟩,fun k hk _=>hb.block k hk,fun b k h=>.inl ⟨b,h⟩⟩
 cases B with
 | box _=>rfl
 | mp _ _ _=>rfl
 | row wr es els=>cases wr with
  | true=>exact⟨rfl,rfl,rfl,fun k arr ty hk ha=>⟨arr,(hb.block k (hr.dom b k hk).2.2).trans ha,Sy _⟩⟩
  | false=>exact⟨rfl,⟨[],r8⟩,(hr.blk b _ hB).len,Sy _,fun _=>⟨rfl,fun k arr ty hk ha=>⟨arr,(hb.block k (hr.dom b k hk).2.2).trans ha,Sy _⟩⟩⟩
 | rng _=>exact⟨rfl,rfl⟩
 | dead=>trivial
 | hole=>trivial
theorem kX.below {b:Nat} {B:aD} (hr:Rel H g w0 w) (hb:Below w.heap.size w w') (h:kX H g w b B):kX H g w' b B:=by
 have he:=Ext.below hr hb
 cases B with
 | box cs=>obtain ⟨k,arr,ty,h1,h2,h3⟩:=h; exact⟨k,arr,ty,h1,(hb.block k (hr.dom b k h1).2.2).trans h2,bl.ext he _ _ h3⟩
 | row wr es els=>cases wr with
  | true=>
   obtain ⟨ds,h1,h2,h3⟩:=h
   exact⟨ds,bf.ext he _ _ h1,h2,fun hp=>let ⟨k,arr,ty,e1,e2,e3⟩:=h3 hp; ⟨k,arr,ty,e1,(hb.block k (hr.dom b k e1).2.2).trans e2,e3⟩⟩
  | false=>exact⟨bf.ext he _ _ h.1,h.2⟩
 | rng st=>obtain ⟨k,h1,h2⟩:=h; exact⟨k,h1,(hb.block k (hr.dom b k h1).2.2).trans h2⟩
 | mp _ _ _=>obtain ⟨k,arr,cl,h1,h2,h3,h4⟩:=h; exact⟨k,arr,cl,h1,(hb.block k (hr.dom b k h1).2.2).trans h2,h3,bl.ext he _ _ h4⟩
 | dead=>exact h
 | hole=>exact h
theorem Rel.dY (hr:Rel H g w0 w) (hb:Below w.heap.size w w'):Rel H g w0 w':=
 ⟨hr.below.trans (hb.mono hr.below.size),fun b k hk=>⟨(hr.dom b k hk).1,(hr.dom b k hk).2.1,SQ (hr.dom b k hk).2.2 hb.size⟩,hr.inj,fun k o hk=>hr.out k o (SZ hb.size hk),hr.own,fun b B hB=>(hr.blk b B hB).below hr hb⟩
theorem Rel.wy (hr:Rel H g w0 w) {B:Nat} (hc:bP B w w'):vP H g w H g w':=by
 refine⟨fun k o v hs h=>⟨Calm.cell (B:=B) ⟨k,o,none⟩ v w w' h hc,hs⟩,fun b Bk hB=>⟨Bk,hB,?_⟩,fun k arr cl hs hm=>⟨hc.data _ _ hm rfl,hs⟩⟩
 cases Bk with
 | box _=>rfl
 | mp _ _ _=>rfl
 | row wr es els=>cases wr with
  | true=>exact⟨rfl,rfl,rfl,fun k arr ty hk ha=>⟨arr,hc.data _ _ ha rfl,Sy _⟩⟩
  | false=>exact⟨rfl,⟨[],r8⟩,(hr.blk b _ hB).len,Sy _,fun _=>⟨rfl,fun k arr ty hk ha=>⟨arr,hc.data _ _ ha rfl,Sy _⟩⟩⟩
 | rng _=>exact⟨rfl,rfl⟩
 | dead=>trivial
 | hole=>trivial
theorem Rel.calm (hr:Rel H g w0 w) {B:Nat} (hB:w0.heap.size<=B) (hc:bP B w w') (hl:∀ (k:Nat) (o:Loop),w.heap[k]? = some (.loop o)->w'.heap[k]? = some (.loop o)):Rel H g w0 w':=by
 have he:=hr.wy hc
 refine⟨Calm.below (Sy _) hB w w' hr.below hc,fun b k hk=>⟨(hr.dom b k hk).1,(hr.dom b k hk).2.1,SQ (hr.dom b k hk).2.2 hc.size⟩,hr.inj,fun k o hk=>hr.out k o (SZ hc.size hk),hr.own,fun b Bk hBk=>?_⟩
 have h:=hr.blk b Bk hBk
 cases Bk with
 | box cs=>obtain ⟨k,arr,ty,h1,h2,h3⟩:=h; exact⟨k,arr,ty,h1,hc.data _ _ h2 rfl,bl.eG he _ _ h3⟩
 | row wr es els=>cases wr with
  | true=>
   obtain ⟨ds,h1,h2,h3⟩:=h
   exact⟨ds,bf.eG he _ _ h1,h2,fun hp=>let ⟨k,arr,ty,e1,e2,e3⟩:=h3 hp; ⟨k,arr,ty,e1,hc.data _ _ e2 rfl,e3⟩⟩
  | false=>exact⟨bf.eG he _ _ h.1,h.2⟩
 | rng st=>obtain ⟨k,h1,h2⟩:=h; exact⟨k,h1,hl k _ h2⟩
 | mp _ _ _=>obtain ⟨k,arr,cl,h1,h2,h3,h4⟩:=h; exact⟨k,arr,cl,h1,hc.data _ _ h2 rfl,h3,bl.eG he _ _ h4⟩
 | dead=>exact h
 | hole=>exact h
theorem Ext.calm {H0:ar} {g0:Gh} {ws:World} (he:Ext H0 g0 ws H g w) (hr:Rel H g w0 w) {B:Nat} (hB:ws.heap.size<=B) (hc:bP B w w'):Ext H0 g0 ws H g w':=by
 have h0:=hr.wy hc
 refine⟨fun k o v hs h=>?_,fun b Bk hBk=>?_,fun k o ho=>?_,SZ he.size hc.size,fun k arr cl hs hm=>let ⟨c1,s1⟩:=he.map k arr cl hs hm; h0.map k arr cl s1 c1,fun k hk hn=>(hc.low k o3 (SQ hk he.size)).trans (he.obj k hk hn),he.fresh⟩
 ·obtain ⟨c1,s1⟩:=he.cell k o v hs h
  exact h0.cell k o v s1 c1
 ·obtain ⟨B',hB',ht⟩:=he.blk b Bk hBk
  refine⟨B',hB',?_⟩
  cases Bk with
  | row wr es els=>cases wr with
   | false=>cases B' with
    | row wr' es' els'=>cases wr' with
     | false=>
      obtain ⟨e1,e2,e3,e4,e5⟩:=ht
      refine⟨e1,e2,e3,e4,fun hl=>⟨(e5 hl).1,fun k arr ty hk ha=>?_⟩⟩
      obtain ⟨arr',q1,q2⟩:=(e5 hl).2 k arr ty hk ha
      exact⟨arr',hc.data _ _ q1 rfl,q2⟩
     | true=>exact ht
    | _=>exact ht
   | true=>cases B' with
    | row wr' es' els'=>cases wr' with
     | true=>
      obtain ⟨e1,e2,e3,e4⟩:=ht
      refine⟨e1,e2,e3,fun k arr ty hk ha=>?_⟩
      obtain ⟨arr',q1,q2⟩:=e4 k arr ty hk ha
      exact⟨arr',hc.data _ _ q1 rfl,q2⟩
     | false=>exact ht
    | _=>exact ht
  | _=>cases B'<;>exact ht
 ·have hk:=he.kept k o ho
  have hlt:=(SE.1 ho).1
  exact(hc.low k o3 (SE.1 hk).1).trans hk
end
section
open Go.RowKit
variable {P:Program} {H:ar} {g:Gh} {w0 w:World}
theorem dA {α:Type} {P:Program}:∀ {s:Sem α} {a:α},cj P s=some a->∀ w,s.run P w=.ok a w
 | .pure a,_,h,w=>by simp only[cj,Ta] at h; subst h; rfl
 | .program k,a,h,w=>by simp only[cj] at h; exact dA (s:=k P) h w
 | .mark _ k,a,h,w=>by simp only[cj] at h; exact dA (s:=k) h w
 | .load ..,_,h,_ | .store ..,_,h,_ | .new ..,_,h,_ | .shape ..,_,h,_ | .freeze ..,_,h,_ | .frozen ..,_,h,_ | .getObj ..,_,h,_ | .setObj ..,_,h,_ | .choose ..,_,h,_ | .sys ..,_,h,_ | .halt _,_,h,_=>by cases h
theorem de:∀ {cs:List A} {ds:List Value},bl H g w cs ds↔ds.length=cs.length/\∀ (i:Nat) a d,cs[i]? = some a->ds[i]? = some d->VR H g w a d
 | [],ds=>by
  rw[bl]
  exact⟨fun h=>by subst h; simp,fun h=>by simpa using h.1⟩
 | a :: as,ds=>by
  rw[bl]
  constructor
  ·rintro ⟨d,ds',rfl,h1,h2⟩
   obtain ⟨h3,h4⟩:=de.1 h2
   refine⟨by simp[h3],fun i x y hx hy=>?_⟩
   cases i with
   | zero=>simp at hx hy; subst hx; subst hy; exact h1
   | succ i=>exact h4 i x y (by simpa using hx) (by simpa using hy)
  ·rintro ⟨h1,h2⟩
   cases ds with
   | nil=>simp at h1
   | cons d ds'=>exact⟨d,ds',rfl,h2 0 a d rfl rfl,de.2 ⟨by simpa using h1,fun i x y hx hy=>h2 (i+1) x y (by simpa using hx) (by simpa using hy)⟩⟩
theorem b9:∀ {cs:List (List A)} {ds:List (List Value)},bf H g w cs ds↔ds.length=cs.length/\∀ (i:Nat) a d,cs[i]? = some a->ds[i]? = some d->bl H g w a d
 | [],ds=>by
  rw[bf]
  exact⟨fun h=>by subst h; simp,fun h=>by simpa using h.1⟩
 | a :: as,ds=>by
  rw[bf]
  constructor
  ·rintro ⟨d,ds',rfl,h1,h2⟩
   obtain ⟨h3,h4⟩:=b9.1 h2
   refine⟨by simp[h3],fun i x y hx hy=>?_⟩
   cases i with
   | zero=>simp at hx hy; subst hx; subst hy; exact h1
   | succ i=>exact h4 i x y (by simpa using hx) (by simpa using hy)
  ·rintro ⟨h1,h2⟩
   cases ds with
   | nil=>simp at h1
   | cons d ds'=>exact⟨d,ds',rfl,h2 0 a d rfl rfl,b9.2 ⟨by simpa using h1,fun i x y hx hy=>h2 (i+1) x y (by simpa using hx) (by simpa using hy)⟩⟩
theorem bl.get {cs:List A} {ds:List Value} (h:bl H g w cs ds) {i:Nat} {a:A} (ha:cs[i]? = some a):∃ d,ds[i]? = some d/\VR H g w a d:=by
 obtain ⟨h1,h2⟩:=de.1 h
 have hi:i<ds.length:=by rw[h1]; exact(SB.1 ha).1
 exact⟨ds[i],Sx hi,h2 i a _ ha (Sx hi)⟩
theorem bf.get {cs:List (List A)} {ds:List (List Value)} (h:bf H g w cs ds) {i:Nat} {a:List A} (ha:cs[i]? = some a):∃ d,ds[i]? = some d/\bl H g w a d:=by
 obtain ⟨h1,h2⟩:=b9.1 h
 have hi:i<ds.length:=by rw[h1]; exact(SB.1 ha).1
 exact⟨ds[i],Sx hi,h2 i a _ ha (Sx hi)⟩
theorem bl.drop {cs:List A} {ds:List Value} (h:bl H g w cs ds) (n:Nat):bl H g w (cs.drop n) (ds.drop n):=by
 obtain ⟨h1,h2⟩:=de.1 h
 exact de.2 ⟨by simp[h1],fun i a d ha hd=>h2 (n+i) a d (by simpa using ha) (by simpa using hd)⟩
theorem bl.take {cs:List A} {ds:List Value} (h:bl H g w cs ds) (n:Nat):bl H g w (cs.take n) (ds.take n):=by
 obtain ⟨h1,h2⟩:=de.1 h
 refine de.2 ⟨by simp[h1],fun i a d ha hd=>?_⟩
 rw[SS] at ha hd
 split at ha
 ·rename_i hlt; rw[SH hlt] at hd; exact h2 _ _ _ ha hd
 ·cases ha
theorem bl.append {cs cs':List A} {ds ds':List Value} (h:bl H g w cs ds) (h':bl H g w cs' ds'):bl H g w (cs++cs') (ds++ds'):=by
 obtain ⟨h1,h2⟩:=de.1 h
 obtain ⟨h3,h4⟩:=de.1 h'
 refine de.2 ⟨by simp[h1,h3],fun i a d ha hd=>?_⟩
 rw[Uy] at ha hd
 rw[h1] at hd
 split at ha
 ·rename_i hlt; rw[SH hlt] at hd; exact h2 _ _ _ ha hd
 ·rename_i hlt; rw[SI hlt] at hd; exact h4 _ _ _ ha hd
theorem bf.drop {cs:List (List A)} {ds:List (List Value)} (h:bf H g w cs ds) (n:Nat):bf H g w (cs.drop n) (ds.drop n):=by
 obtain ⟨h1,h2⟩:=b9.1 h
 exact b9.2 ⟨by simp[h1],fun i a d ha hd=>h2 (n+i) a d (by simpa using ha) (by simpa using hd)⟩
theorem bf.take {cs:List (List A)} {ds:List (List Value)} (h:bf H g w cs ds) (n:Nat):bf H g w (cs.take n) (ds.take n):=by
 obtain ⟨h1,h2⟩:=b9.1 h
 refine b9.2 ⟨by simp[h1],fun i a d ha hd=>?_⟩
 rw[SS] at ha hd
 split at ha
 ·rename_i hlt; rw[SH hlt] at hd; exact h2 _ _ _ ha hd
 ·cases ha
theorem bf.append {cs cs':List (List A)} {ds ds':List (List Value)} (h:bf H g w cs ds) (h':bf H g w cs' ds'):bf H g w (cs++cs') (ds++ds'):=by
 obtain ⟨h1,h2⟩:=b9.1 h
 obtain ⟨h3,h4⟩:=b9.1 h'
 refine b9.2 ⟨by simp[h1,h3],fun i a d ha hd=>?_⟩
 rw[Uy] at ha hd
 rw[h1] at hd
 split at ha
 ·rename_i hlt; rw[SH hlt] at hd; exact h2 _ _ _ ha hd
 ·rename_i hlt; rw[SI hlt] at hd; exact h4 _ _ _ ha hd
theorem bl.bk {cs xs:List A} {ds ys:List Value} (h:bl H g w cs ds) (h':bl H g w xs ys) (o:Nat):bl H g w (bk cs o xs) (bk ds o ys):=by
 unfold Go.Proofs.Ytebkhfhcipnfgaa.bk
 rw[h'.length]
 exact((h.take o).append h').append (h.drop _)
theorem bf.bk {cs xs:List (List A)} {ds ys:List (List Value)} (h:bf H g w cs ds) (h':bf H g w xs ys) (o:Nat):bf H g w (bk cs o xs) (bk ds o ys):=by
 unfold Go.Proofs.Ytebkhfhcipnfgaa.bk
 rw[h'.length]
 exact((h.take o).append h').append (h.drop _)
theorem gH {α:Type} (es:Nat):∀ (q:Nat) (xs:List α),(chunk es q xs).length=q
 | 0,_=>rfl
 | q+1,xs=>by rw[chunk,SW,gH es q]
theorem jx {α:Type} {es:Nat}:∀ {q:Nat} {xs:List α},xs.length=q*es->∀ d∈chunk es q xs,d.length=es
 | 0,_,_,d,hd=>by cases hd
 | q+1,xs,h,d,hd=>by
  rw[TB,V7] at h
  rcases Ti.1 hd with rfl | hd
  ·simp; omega
  ·exact jx r9 d hd
theorem ll {α:Type} {es:Nat}:∀ {q:Nat} {xs:List α},xs.length=q*es->(chunk es q xs).flatten=xs
 | 0,xs,h=>by
  have:xs=[]:=SV (by simpa using h)
  subst this; rfl
 | q+1,xs,h=>by
  rw[TB,V7] at h
  rw[chunk,TR,ll r9]
  exact T3 _ _
theorem bl.chunk {es:Nat}:∀ (q:Nat) {cs:List A} {ds:List Value},bl H g w cs ds->bf H g w (chunk es q cs) (chunk es q ds)
 | 0,_,_,_=>by rw[Go.Proofs.Ytebkhfhcipnfgaa.chunk,Go.Proofs.Ytebkhfhcipnfgaa.chunk,bf]
 | q+1,cs,ds,h=>by
  rw[Go.Proofs.Ytebkhfhcipnfgaa.chunk,Go.Proofs.Ytebkhfhcipnfgaa.chunk,bf]
  exact⟨_,_,rfl,h.take es,bl.chunk q (h.drop es)⟩
theorem bf.flat:∀ {els:List (List A)} {ds:List (List Value)},bf H g w els ds->bl H g w els.flatten ds.flatten
 | [],_,h=>by rw[bf] at h; subst h; rw[List.flatten_nil,bl]; rfl
 | a :: els,_,h=>by
  rw[bf] at h
  obtain ⟨d,ds',rfl,h1,h2⟩:=h
  rw[TR,TR]
  exact h1.append (bf.flat h2)
theorem Dh (x:Value):VR H g w (xH x) x:=by
 unfold xH
 split
 ·rw[VR]; exact⟨none,0,[],0,rfl,Sy _,fun _=>rfl,r8,r8,by rw[bf]⟩
 ·rw[VR]
theorem ij (l:List Value):bl H g w (l.map xH) l:=
 de.2 ⟨r8,fun i a d ha hd=>by rw[Td,hd] at ha; cases ha; exact Dh d⟩
theorem oa (x:Value):VR H g w (xf x) x:=by
 unfold xf
 split
 ·rename_i cs; rw[VR]; exact⟨cs,rfl,ij _⟩
 ·exact Dh _
mutual
theorem mQ:∀ (a:A) {v c:Value},a.pW=some v->VR H g w a c->c=v
 | .any,_,_,h,_=>by simp[A.pW] at h
 | .v x,_,_,h,hr=>by simp[A.pW] at h; rw[VR] at hr; rw[hr,h]
 | .ptr ..,_,_,h,_=>by simp[A.pW] at h
 | .ep ..,_,_,h,_=>by simp[A.pW] at h
 | .ip _,_,_,h,_=>by simp[A.pW] at h
 | .imm ..,_,_,h,_=>by simp[A.pW] at h
 | .sl ..,_,_,h,_=>by simp[A.pW] at h
 | .agg cs,_,_,h,hr=>by
  simp[A.pW] at h
  obtain ⟨l,hl,rfl⟩:=h
  rw[VR] at hr
  obtain ⟨ds,rfl,h2⟩:=hr
  have:=Ai cs hl h2
  rw[<-this]
 | .tup _,_,_,h,_=>by simp[A.pW] at h
 | .fn (.func f) [] [],_,_,h,hr=>by
  simp[A.pW] at h
  subst h
  rw[VR] at hr
  obtain ⟨ds,es,rfl,h1,h2⟩:=hr
  rw[bl] at h1 h2
  have e1:ds=#[]:=by cases ds; simp_all
  have e2:es=#[]:=by cases es; simp_all
  rw[e1,e2]
 | .fn (.func _) (_ :: _) _,_,_,h,_=>by simp[A.pW] at h
 | .fn (.func _) [] (_ :: _),_,_,h,_=>by simp[A.pW] at h
 | .fn (.method _) _ _,_,_,h,_=>by simp[A.pW] at h
 | .fn (.methodOf ..) _ _,_,_,h,_=>by simp[A.pW] at h
 | .fn (.via ..) _ _,_,_,h,_=>by simp[A.pW] at h
 | .fn (.yield _) _ _,_,_,h,_=>by simp[A.pW] at h
 | .ifc t x,_,_,h,hr=>by
  simp[A.pW] at h
  obtain ⟨v,hv,rfl⟩:=h
  rw[VR] at hr
  obtain ⟨d,rfl,h2⟩:=hr
  rw[mQ x hv h2]
theorem Ai:∀ (cs:List A) {l ds:List Value},A7 cs=some l->bl H g w cs ds->ds=l
 | [],_,_,h,hr=>by simp[A7] at h; rw[bl] at hr; rw[hr,<-h]
 | a :: as,_,_,h,hr=>by
  rw[A7] at h
  cases hx:a.pW with
  | none=>rw[hx] at h; cases h
  | some x=>
   rw[hx] at h
   cases hl:A7 as with
   | none=>rw[hl] at h; cases h
   | some l=>
    rw[hl] at h
    cases h
    rw[bl] at hr
    obtain ⟨d,ds',rfl,h1,h2⟩:=hr
    rw[mQ a hx h1,Ai as hl h2]
end
theorem q9 {a:A} {c:Value} (hc:a.cell=true) (h:VR H g w a c):c.oneCell'=true:=by
 cases a with
 | any=>simp[A.cell] at hc
 | v x=>rw[VR] at h; rw[h]; simpa [A.cell] using hc
 | ptr b o=>
  rw[VR] at h
  split at h
  ·obtain ⟨k,_,rfl⟩:=h; rfl
  ·exact h.elim
  ·exact h
  ·exact h.elim
 | ep b i o=>
  rw[VR] at h
  split at h
  ·obtain ⟨_,k,_,rfl⟩:=h; rfl
  ·exact h.elim
  ·exact h
  ·exact h.elim
 | ip cs=>rw[VR] at h; obtain ⟨_,_,_,rfl,_⟩:=h; rfl
 | imm els clip=>rw[VR] at h; obtain ⟨_,_,_,_,rfl,_⟩:=h; rfl
 | sl b o n clip=>
  rw[VR] at h
  split at h
  ·obtain ⟨_,_,_,rfl,_⟩:=h; rfl
  ·obtain ⟨_,_,_,rfl,_⟩:=h; rfl
  ·exact h.elim
  ·exact h
  ·exact h.elim
 | agg _=>simp[A.cell] at hc
 | tup _=>simp[A.cell] at hc
 | fn f a b=>rw[VR] at h; obtain ⟨_,_,rfl,_⟩:=h; rfl
 | ifc t x=>rw[VR] at h; obtain ⟨_,rfl,_⟩:=h; rfl
 | nq _=>simp[A.cell] at hc
 | yld b=>
  rw[VR] at h
  split at h
  ·obtain ⟨_,_,rfl⟩:=h; rfl
  ·exact h.elim
  ·exact h
  ·exact h.elim
 | mr b=>
  rw[VR] at h
  split at h
  ·obtain ⟨_,_,rfl⟩:=h; rfl
  ·exact h.elim
  ·exact h
  ·exact h.elim
 | mv k ks vs=>rw[VR] at h; obtain ⟨_,_,_,rfl,_⟩:=h; rfl
theorem uR {c:Value} (h:c.oneCell'=true):c.cells=#[c]:=by cases c<;>first | rfl | simp[Value.oneCell'] at h
theorem mm {a:A} {c:Value} {cs:List A} (ha:a.cells? = some cs) (h:VR H g w a c):bl H g w cs c.cells.toList/\(∀ x∈c.cells.toList,x.oneCell'=true)/\∀ x∈cs,x.cell=true:=by
 have one:∀ {x:A} {d:Value},x.cell=true->VR H g w x d->bl H g w [x] d.cells.toList/\(∀ y∈d.cells.toList,y.oneCell'=true)/\∀ y∈[x],y.cell=true:=fun {x d} hx hv=>by
  have h1:=q9 hx hv
  rw[uR h1]
  refine⟨?_,by simp[h1],by simp[hx]⟩
  rw[bl]; exact⟨d,[],rfl,hv,u3⟩
 cases a with
 | any=>simp[A.cells?] at ha
 | tup _=>simp[A.cells?] at ha
 | agg as=>
  simp only[A.cells?,cond_eq_ite] at ha
  split at ha
  ·rename_i hall
   cases ha
   rw[VR] at h
   obtain ⟨ds,rfl,h2⟩:=h
   refine⟨h2,fun x hx=>?_,SJ.1 hall⟩
   obtain ⟨i,hi,rfl⟩:=Tu hx
   have hl:=h2.length
   obtain ⟨d,hd,hv⟩:=h2.get (i:=i) (Sx (by simp only[Value.cells] at hi; omega))
   have hd':(Value.agg ds).cells.toList[i]? = some d:=hd
   rw[Sx hi] at hd'
   cases hd'
   exact q9 (SJ.1 hall _ (Tb _)) hv
  ·cases ha
 | v x=>
  simp only[A.cells?,cond_eq_ite] at ha
  split at ha
  ·rename_i hx; cases ha; exact one hx h
  ·cases ha
 | nq _=>simp[A.cells?] at ha
 | _=>simp only[A.cells?,Ta] at ha; subst ha; exact one rfl h
theorem vv {t:TypeId} {cs:List A} {ds:List Value} {a:A} (hj:join P t cs=some a) (h:bl H g w cs ds):∃ c,VR H g w a c/\(if lA P t=true then c=.agg ds.toArray else ds=[c]):=by
 unfold Go.Proofs.Ytebkhfhcipnfgaa.join at hj
 cases hA:lA P t
 ·rw[hA] at hj
  simp only[SA] at hj
  split at hj
  ·cases hj
   rw[bl] at h
   obtain ⟨d,ds',rfl,h1,h2⟩:=h
   rw[bl] at h2
   subst h2
   exact⟨d,h1,r8⟩
  ·cases hj
 ·rw[hA] at hj
  simp only[SC,Ta] at hj
  subst hj
  exact⟨.agg ds.toArray,by rw[VR]; exact⟨_,rfl,by simpa using h⟩,r8⟩
theorem tY (t:TypeId) {d:TypeDesc} (hu:P.underlying t=some d) (w:World):(isAgg t).run P w=.ok (lA P t) w:=by
 unfold isAgg lA
 rw[Tf,SN hu w,hu]
 cases d<;>rfl
theorem ln {t:TypeId} {n:Nat} (h:cz P t=some n):∃ d,P.underlying t=some d:=by
 unfold cz at h
 cases hu:P.underlying t with
 | none=>rw[hu] at h; cases h
 | some d=>exact⟨d,rfl⟩
theorem gb {t:TypeId} {n:Nat} (h:cz P t=some n):∃ i,P.info? t=some i/\i.size=n:=by
 obtain ⟨d,hu⟩:=ln h
 unfold cz at h
 rw[hu] at h
 cases hi:P.info? t with
 | none=>rw[hi] at h; cases h
 | some i=>rw[hi] at h; exact⟨i,rfl,by simpa using h⟩
theorem dJ {t:TypeId} {n:Nat} (h:cz P t=some n) (w:World):(sizeOf t).run P w=.ok n w:=by
 obtain ⟨i,hi,rfl⟩:=gb h
 simp[sizeOf,typeInfo,hi]
theorem xb {t:TypeId} {n:Nat} (hs:cz P t=some n) {d:TypeDesc} (hu:P.underlying t=some d) {k off:Nat} {ds:List Value} (hl:ds.length=n) (hc:w.rangeAt k off ds) {c:Value} (h:if lA P t=true then c=.agg ds.toArray else ds=[c]) :
  (loadVar t ⟨k,off,none⟩).run P w=.ok c w:=by
 have hc':(loadCells ⟨k,off,none⟩ ds.length).run P w=.ok ds.toArray w:=
  VK (P:=P) w ⟨k,off,none⟩ ds (fun j v hv=>by rw[TX]; exact hc j v hv)
 unfold loadVar
 rw[Tf,tY t hu w]
 cases hA:lA P t
 ·rw[hA] at h
  simp at h
  subst h
  have:=hc 0 c rfl
  simp only[Ub] at this
  simp[load,Sem.run,this]
 ·rw[hA] at h
  simp at h
  subst h
  simp[dJ hs,<-hl,hc']
end
section
open Go.RowKit
variable {P:Program} {H:ar} {g:Gh} {w0 w:World}
theorem bn {α β:Type} {x:Option α} {f:α->Option β} {y:β} (h:x.bind f=some y):∃ a,x=some a/\f a=some y:=by
 cases x with
 | none=>cases h
 | some a=>exact⟨a,rfl,h⟩
theorem bp {α:Type} {b:Bool} {x y:α}:(bif b then x else y)=if b=true then x else y:=by cases b<;>rfl
theorem dN {α:Type} {b:Bool} {x:Option α} {y:α} (h:(bif b then none else x)=some y):b=false/\x=some y:=by cases b<;>simp_all
theorem bc {α:Type} {b:Bool} {x:Option α} {y:α} (h:(bif b then x else none)=some y):b=true/\x=some y:=by cases b<;>simp_all
theorem bt.drop {k off:Nat} {ds:List Value} (h:bt H g w k off ds) (n:Nat):bt H g w k (off+n) (ds.drop n):=fun j v hj=>by
 rw[TL] at hj
 rw[Us]
 exact h (n+j) v hj
theorem bt.take {k off:Nat} {ds:List Value} (h:bt H g w k off ds) (n:Nat):bt H g w k off (ds.take n):=fun j v hj=>by
 rw[SS] at hj
 split at hj
 ·exact h j v hj
 ·cases hj
theorem bt.range {k off:Nat} {ds:List Value} (h:bt H g w k off ds):w.rangeAt k off ds:=fun j v hj=>(h j v hj).1
theorem jz {es:Nat}:∀ {ds:List (List Value)},(∀ d∈ds,d.length=es)->∀ {j:Nat} {d:List Value},ds[j]? = some d->∀ i,i<es->ds.flatten[j*es+i]? = d[i]?
 | [],_,j,d,h,i,_=>by simp at h
 | x :: xs,hl,j,d,h,i,hi=>by
  have hx:=hl x r8
  cases j with
  | zero=>simp at h; subst h; simp[Uy,hx,hi]
  | succ j=>
   have:=jz (ds:=xs) (fun d hd=>hl d (by simp[hd])) (j:=j) (d:=d) (by simpa using h) i hi
   rw[TR,S3 (by rw[hx,TB]; omega),hx,<-this]
   congr 1
   rw[TB]; omega
theorem bH {es:Nat}:∀ {ds:List (List Value)},(∀ d∈ds,d.length=es)->ds.flatten.length=ds.length*es
 | [],_=>r8
 | x :: xs,hl=>by
  rw[TR,SX,hl x r8,bH (fun d hd=>hl d (by simp[hd])),SW,TB]; omega
theorem bt.elem {k off es:Nat} {ds:List (List Value)} (h:bt H g w k off ds.flatten) (hl:∀ d∈ds,d.length=es) {j:Nat} {d:List Value} (hd:ds[j]? = some d):bt H g w k (off+j*es) d:=fun i v hi=>by
 have hdl:d.length=es:=hl d (S1 hd)
 have hi':i<es:=by rw[<-hdl]; exact(SB.1 hi).1
 rw[Us]
 exact h (j*es+i) v (by rw[jz hl hd i hi']; exact hi)
theorem bt.sub {k off es:Nat} {ds:List (List Value)} (h:bt H g w k off ds.flatten) (hl:∀ d∈ds,d.length=es) (l m:Nat):bt H g w k (off+l*es) ((ds.drop l).take m).flatten:=fun i v hi=>by
 have hl2:∀ d∈(ds.drop l).take m,d.length=es:=fun d hd=>hl d (S4 (S2 hd))
 have hlen:=(SB.1 hi).1
 rw[bH hl2] at hlen
 have hes:0<es:=by rcases Vi es with h0 | h0; (rw[h0] at hlen; simp at hlen); exact h0
 have hq:i / es<((ds.drop l).take m).length:=Vx (by rw[TU]; exact hlen)
 have hdm:=Vy i es
 have hr:=UF i hes
 obtain ⟨d,hd⟩:∃ d,((ds.drop l).take m)[i / es]? = some d:=⟨_,Sx hq⟩
 have e1:=jz hl2 hd (i % es) hr
 have e2:i / es*es+i % es=i:=by rw[TU]; exact hdm
 rw[e2,hi] at e1
 have hd2:ds[l+i / es]? = some d:=by
  rw[SS] at hd
  split at hd
  ·rwa [TL] at hd
  ·cases hd
 have e3:=jz hl hd2 (i % es) hr
 have:=h ((l+i / es)*es+i % es) v (by rw[e3,<-e1])
 rwa [show off+((l+i / es)*es+i % es)=off+l*es+i by rw[TB]; omega] at this
theorem n0 {a:A} {c:Value} {j:Nat} (h:idx a=some j) (hv:VR H g w a c):∃ k n,c=.int k n/\0<=n/\n.toNat=j:=by
 unfold idx at h
 split at h
 ·rename_i k n
  replace h:=bc h
  obtain ⟨h1,h2⟩:=h
  rw[VR] at hv
  exact⟨k,n,hv,by simpa using h1,by simpa using h2⟩
 ·cases h
theorem p6 (hr:Rel H g w0 w) {t:TypeId} {x y:A} {c:Value} (h:ml P t x H=some y) (hx:VR H g w x c):∃ d,(Instr.loadAt t c).run P w=.ok d w/\VR H g w y d:=by
 unfold ml at h
 replace h:=bn h
 obtain ⟨n,hn,h⟩:=h
 replace h:=dN h
 obtain ⟨_,h⟩:=h
 obtain ⟨dd,hu⟩:=ln hn
 have fin:∀ {k off:Nat} {cs:List A} {ds:List Value},c=.pointer (some ⟨k,off,none⟩)->bl H g w cs ds->cs.length=n->w.rangeAt k off ds->join P t cs=some y->∃ d,(Instr.loadAt t c).run P w=.ok d w/\VR H g w y d:=by
  intro k off cs ds hc hv hl hcells hj
  obtain ⟨d,h1,h2⟩:=vv hj hv
  refine⟨d,?_,h1⟩
  subst hc
  simp only[Instr.loadAt,Instr.sureAddr,Tf,UO,S7]
  exact xb hn hu (hv.length.trans hl) hcells h2
 have seg:∀ {k:Nat} {arr:Array Value} {ty:TypeId} (o:Nat) (ds:List Value),w.heap[k]? = some (.cells arr ty (0,0))->(∀ (j:Nat) v,ds[j]? = some v->arr[o+j]? = some v)->w.rangeAt k o ds:=fun {k arr ty} o ds hk hd j v hj=>by
  rw[Ud w k (o+j) arr ty (0,0) hk]; exact hd j v hj
 split at h
 ·rename_i b o
  split at h
  ·rename_i cs hb
   replace h:=bc h
   obtain ⟨h1,h2⟩:=h
   have h1:=SF h1
   rw[VR,hb] at hx
   obtain ⟨k,hk,rfl⟩:=hx
   obtain ⟨k',arr,ty,hk',ha,hv⟩:=hr.blk b _ hb
   rw[hk] at hk'; cases hk'
   refine fin rfl ((hv.drop o).take n) r9 (seg o _ ha fun j v hj=>?_) h2
   rw[SS] at hj
   split at hj
   ·rw[TL] at hj; simpa using hj
   ·cases hj
  ·cases h
 ·rename_i b i o
  split at h
  ·rename_i es els hb
   split at h
   ·rename_i cs hi
    rw[VR,hb] at hx
    obtain ⟨hlt,k,hk,rfl⟩:=hx
    obtain ⟨ds,hv,hl,hrow⟩:=hr.blk b _ hb
    obtain ⟨k',arr,ty,hk',ha,hcell⟩:=hrow o3
    rw[hk] at hk'; cases hk'
    obtain ⟨d,hd,hvd⟩:=hv.get hi
    rw[bp] at h
    split at h
    rotate_left
    ·replace h:=bc h
     obtain ⟨h1,h2⟩:=h
     simp only[Sz,U7] at h1
     obtain ⟨rfl,h1⟩:=h1
     have hcs:cs.length=es:=by rw[<-hvd.length]; exact hl d (S1 hd)
     refine fin rfl ((hv.drop i).take (n / cs.length)).flat h1 (seg _ _ ha fun j v hj=>?_) h2
     refine hcell _ v ?_
     have e1:ds.flatten=(ds.take i).flatten++(ds.drop i).flatten:=So
     have e2:(ds.take i).flatten.length=i*es:=by
      have h3:=hv.length
      rw[bH (es:=es) (fun d hd=>hl d (S2 hd)),Tz,Ug o3]
     have e3:(ds.drop i).flatten=((ds.drop i).take (n / cs.length)).flatten++((ds.drop i).drop (n / cs.length)).flatten:=So
     rw[e1,S3 o3,e2,e3]
     rw[SP (by
      have:=(SB.1 hj).1
      omega)]
     rw[<-hj]; congr 1; omega
    rename_i h1
    have h2:=h
    have h1:=SF h1
    refine fin rfl ((hvd.drop o).take n) r9 (seg _ _ ha fun j v hj=>?_) h2
    rw[SS] at hj
    split at hj
    ·rw[TL] at hj
     have hdl:d.length=es:=hl d (S1 hd)
     have hoj:o+j<es:=by rw[<-hdl]; exact(SB.1 hj).1
     have:=hcell (i*es+(o+j)) v (by rw[jz hl hd _ hoj]; exact hj)
     rwa [<-Us] at this
    ·cases hj
   ·cases h
  ·cases h
 ·rename_i cs
  replace h:=bc h
  obtain ⟨h1,h2⟩:=h
  have h1:=SF h1
  rw[VR] at hx
  obtain ⟨k,off,ds,rfl,hc,hv⟩:=hx
  exact fin rfl (hv.take n) r9 (hc.take n).range h2
 ·cases h
theorem qO {x y:A} {i:Nat} {c:Value} (h:mi x i=some y) (hx:VR H g w x c):∃ d,(Instr.extract c i).run P w=.ok d w/\VR H g w y d:=by
 unfold mi at h
 split at h
 ·rw[VR] at hx
  obtain ⟨ds,rfl,hv⟩:=hx
  obtain ⟨d,hd,hvd⟩:=hv.get h
  have hd':ds[i]? = some d:=by simpa using hd
  exact⟨d,by simp[Instr.extract,hd'],hvd⟩
 ·cases h
theorem xl {t:TypeId} {n off:Nat} (hs:cz P t=some n) {ds:Array Value} {c:Value} (h:if lA P t=true then c=.agg ((ds.toList.drop off).take n).toArray else (ds.toList.drop off).take n=[c]) :
  (part t ds off).run P w=.ok c w:=by
 obtain ⟨d,hu⟩:=ln hs
 unfold part
 rw[Tf,tY t hu w]
 cases hA:lA P t
 ·rw[hA] at h
  simp at h
  have:ds[off]? = some c:=by
   have h0:((ds.toList.drop off).take n)[0]? = some c:=by rw[h]; rfl
   rw[SS] at h0
   split at h0
   ·simpa using h0
   ·cases h0
  simp[this]
 ·rw[hA] at h
  simp at h
  subst h
  simp[dJ hs]
  apply Uz
  simp[List.take_drop,VW]
theorem uL {t:TypeId} {x y:A} {i:Nat} {c:Value} (h:xZ P t x i=some y) (hx:VR H g w x c):∃ d,(Instr.field t c i).run P w=.ok d w/\VR H g w y d:=by
 unfold xZ at h
 split at h
 ·rename_i fs cs hu
  replace h:=bn h
  obtain ⟨f,hf,h⟩:=h
  replace h:=bn h
  obtain ⟨n,hn,h⟩:=h
  replace h:=bc h
  obtain ⟨h1,h2⟩:=h
  have h1:=SF h1
  rw[VR] at hx
  obtain ⟨ds,rfl,hv⟩:=hx
  obtain ⟨d,h3,h4⟩:=vv h2 ((hv.drop f.offset).take n)
  refine⟨d,?_,h3⟩
  unfold Instr.field
  rw[Tf,SN hu w]
  simp[hf,asAgg]
  exact xl hn h4
 ·cases h
theorem uM {t:TypeId} {x i y:A} {c e:Value} (h:yb P t x i=some y) (hx:VR H g w x c) (hi:VR H g w i e):∃ d,(Instr.index t c e).run P w=.ok d w/\VR H g w y d:=by
 unfold yb at h
 replace h:=bn h
 obtain ⟨j,hj,h⟩:=h
 obtain ⟨ik,n,rfl,hn0,rfl⟩:=n0 hj hi
 split at h
 ·rename_i len el cs hu
  replace h:=bn h
  obtain ⟨m,hm,h⟩:=h
  replace h:=bc h
  obtain ⟨h1,h2⟩:=h
  simp only[Sz,SG] at h1
  rw[VR] at hx
  obtain ⟨ds,rfl,hv⟩:=hx
  obtain ⟨d,h3,h4⟩:=vv h2 ((hv.drop (n.toNat*m)).take m)
  refine⟨d,?_,h3⟩
  have hlt:n<(len:Int):=o3
  unfold Instr.index
  simp[asIntOf,SN hu,hn0,hlt,dJ hm]
  exact xl hm h4
 ·rename_i s hu
  cases hb:s[n.toNat]? with
  | none=>rw[hb] at h; cases h
  | some b=>
   rw[hb] at h
   cases h
   rw[VR] at hx
   subst hx
   refine⟨.int .u8 b.toNat,?_,s6⟩
   unfold Instr.index
   simp[asIntOf,SN hu,hn0,hb]
 ·cases h
theorem ui {b o:Nat} (h:fY H (.ptr b o)=true):∃ cs,H[b]? = some (.box cs):=by
 unfold fY at h; cases hb:H[b]? with
 | none=>simp[hb] at h
 | some B=>cases B<;>simp[hb] at h ⊢
theorem xu {b i o:Nat} (h:fY H (.ep b i o)=true):∃ es els,H[b]? = some (.row true es els):=by
 unfold fY at h; cases hb:H[b]? with
 | none=>simp[hb] at h
 | some B=>cases B with
  | row wr _ _=>cases wr<;>simp[hb] at h ⊢
  | _=>simp[hb] at h
theorem Du {b o n:Nat} {cl:Bool} (h:fY H (.sl b o n cl)=true):∃ wr es els,H[b]? = some (.row wr es els):=by
 unfold fY at h; cases hb:H[b]? with
 | none=>simp[hb] at h
 | some B=>cases B<;>simp[hb] at h ⊢
theorem pA {t:TypeId} {x y:A} {i:Nat} {c:Value} (h:fo P t x i H=some y) (hx:VR H g w x c) :
  ∃ d,(Instr.fieldAt t c i).run P w=.ok d w/\VR H g w y d:=by
 unfold fo at h
 replace h:=bc h
 obtain ⟨hok,h⟩:=h
 split at h
 ·rename_i fs hu
  replace h:=bn h
  obtain ⟨f,hf,h⟩:=h
  replace h:=bn h
  obtain ⟨n,hn,h⟩:=h
  replace h:=dN h
  obtain ⟨hn0,h⟩:=h
  have hn0:n≠0:=by simpa using hn0
  have fin:∀ {k off:Nat},c=.pointer (some ⟨k,off,none⟩)->(Instr.fieldAt t c i).run P w=.ok (.pointer (some ⟨k,off+f.offset,none⟩)) w:=fun {k off} hc=>by
   subst hc
   unfold Instr.fieldAt
   rw[Tf,SN hu w]
   simp[hf,Instr.sureAddr,fieldPlace,dJ hn,hn0,TX]
  split at h
  ·rename_i b o
   cases h
   obtain ⟨cs,hb⟩:=ui hok
   rw[VR,hb] at hx
   obtain ⟨k,hk,rfl⟩:=hx
   exact⟨_,fin rfl,by rw[VR,hb]; exact⟨k,hk,rfl⟩⟩
  ·rename_i b j o
   cases h
   obtain ⟨es,els,hb⟩:=xu hok
   rw[VR,hb] at hx
   obtain ⟨hlt,k,hk,rfl⟩:=hx
   exact⟨_,fin rfl,by rw[VR,hb]; exact⟨hlt,k,hk,by rw[Us]⟩⟩
  ·cases h
   rw[VR] at hx
   obtain ⟨k,off,ds,rfl,hc,hv⟩:=hx
   exact⟨_,fin rfl,by rw[VR]; exact⟨k,_,_,rfl,hc.drop _,hv.drop _⟩⟩
  ·cases h
 ·cases h
theorem yc {x y:A} {c:Value} {t ty:TypeId} (h:qP P t x H=some y) (hx:VR H g w x c):∃ d,(Builtin.len_ #[t] ty #[c]).run P w=.ok d w/\VR H g w y d:=by
 unfold qP at h
 replace h:=bc h
 obtain ⟨hok,h⟩:=h
 split at h
 ·rename_i s hu
  cases h
  rw[VR] at hx
  subst hx
  exact⟨_,by simp[Builtin.len_,SN hu,goInt]; rfl,s6⟩
 ·rename_i e els cl hu
  cases h
  rw[VR] at hx
  obtain ⟨a,cap,ds,es,rfl,_⟩:=hx
  exact⟨_,by simp[Builtin.len_,SN hu,goInt]; rfl,s6⟩
 ·rename_i e b o n cl hu
  cases h
  obtain ⟨wr,es,els,hb⟩:=Du hok
  rw[VR,hb] at hx
  cases wr
  ·obtain ⟨_,a,cap,rfl,_⟩:=hx
   exact⟨_,by simp[Builtin.len_,SN hu,goInt]; rfl,s6⟩
  ·obtain ⟨_,a,cap,rfl,_⟩:=hx
   exact⟨_,by simp[Builtin.len_,SN hu,goInt]; rfl,s6⟩
 ·cases h
theorem bf.lens {els:List (List A)} {ds:List (List Value)} (h:bf H g w els ds) {es j n:Nat} (hl:∀ d∈ds,d.length=es) {cs:List A} (hj:els[j]? = some cs) (hn:cs.length=n):es=n:=by
 obtain ⟨d,hd,hv⟩:=h.get hj
 rw[<-hl d (S1 hd),hv.length,hn]
theorem pB (hr:Rel H g w0 w) {t:TypeId} {x i y:A} {c e:Value} (h:cQ P t x i H=some y) (hx:VR H g w x c) (hi:VR H g w i e):∃ d,(Instr.indexAt t c e).run P w=.ok d w/\VR H g w y d:=by
 unfold cQ at h
 replace h:=bn h
 obtain ⟨j,hj,h⟩:=h
 obtain ⟨ik,n,rfl,hn0,rfl⟩:=n0 hj hi
 replace h:=bc h
 obtain ⟨hok,h⟩:=h
 split at h
 ·rename_i el hu
  replace h:=bn h
  obtain ⟨m,hm,h⟩:=h
  have fin:∀ {k off len cap:Nat},c=.slice (some ⟨k,off,none⟩) len cap->n.toNat<len->(Instr.indexAt t c (.int ik n)).run P w=.ok (.pointer (some ⟨k,off+n.toNat*m,none⟩)) w:=fun {k off len cap} hc hlt=>by
   subst hc
   have:n<(len:Int):=o3
   unfold Instr.indexAt
   simp[asIntOf,SN hu,hn0,this,dJ hm,TX]
  split at h
  ·rename_i els cl
   replace h:=bn h
   obtain ⟨cs,hcs,h⟩:=h
   replace h:=bc h
   obtain ⟨h1,h⟩:=h
   cases h
   have h1:cs.length=m:=by simpa using h1
   rw[VR] at hx
   obtain ⟨a,cap,ds,es,rfl,h2,h3,h4,h5,h6⟩:=hx
   have hlt:n.toNat<els.length:=(SB.1 hcs).1
   obtain ⟨k,off,rfl,hc⟩:=h5 o3
   obtain rfl:=h6.lens h4 hcs h1
   obtain ⟨d,hd,hv⟩:=h6.get hcs
   exact⟨_,fin rfl hlt,by rw[VR]; exact⟨k,_,d,rfl,hc.elem h4 hd,hv⟩⟩
  ·rename_i b o len cl
   replace h:=bc h
   obtain ⟨hlt,h⟩:=h
   have hlt:=SF hlt
   rw[VR] at hx
   split at h
   ·rename_i es els hb
    replace h:=bc h
    obtain ⟨h1,h⟩:=h
    cases h
    obtain rfl:es=m:=by simpa using h1
    rw[hb] at hx
    obtain ⟨h2,a,cap,rfl,h3,h4,h5,_⟩:=hx
    obtain ⟨k,hk,rfl⟩:=h5 o3
    refine⟨_,fin rfl hlt,?_⟩
    rw[VR,hb]
    exact⟨o3,k,hk,by rw[TB]; rfl⟩
   ·rename_i es els hb
    replace h:=bc h
    obtain ⟨h1,h⟩:=h
    obtain rfl:es=m:=by simpa using h1
    rw[hb] at hx
    obtain ⟨h2,a,cap,rfl,h3,h4,h5,_⟩:=hx
    obtain ⟨k,off,rfl,hc⟩:=h5 o3
    cases hcs:els[o+n.toNat]? with
    | none=>rw[hcs] at h; cases h
    | some cs=>
     rw[hcs] at h
     cases h
     obtain ⟨hga,hgl⟩:=hr.blk b _ hb
     obtain ⟨d,hd,hv⟩:=hga.get hcs
     refine⟨_,fin rfl hlt,?_⟩
     rw[VR]
     refine⟨k,_,d,rfl,hc.elem (fun d hd=>hgl d (S4 (S2 hd))) ?_,hv⟩
     rw[SS,SH hlt,TL]; exact hd
   ·cases h
  ·cases h
 ·rename_i len el hu
  replace h:=bn h
  obtain ⟨m,hm,h⟩:=h
  replace h:=dN h
  obtain ⟨hlt,h⟩:=h
  have hlt:n.toNat<len:=by simpa using hlt
  have fin:∀ {k off:Nat},c=.pointer (some ⟨k,off,none⟩)->(Instr.indexAt t c (.int ik n)).run P w=.ok (.pointer (some ⟨k,off+n.toNat*m,none⟩)) w:=fun {k off} hc=>by
   subst hc
   have:n<(len:Int):=o3
   unfold Instr.indexAt
   simp[asIntOf,SN hu,hn0,this,dJ hm,TX,Instr.sureAddr]
  split at h
  ·rename_i b o
   cases h
   obtain ⟨cs,hb⟩:=ui hok
   rw[VR,hb] at hx
   obtain ⟨k,hk,rfl⟩:=hx
   exact⟨_,fin rfl,by rw[VR,hb]; exact⟨k,hk,rfl⟩⟩
  ·rename_i b q o
   obtain ⟨es,els,hb⟩:=xu hok
   simp only[hb] at h
   rw[VR,hb] at hx
   obtain ⟨hq,k,hk,rfl⟩:=hx
   rw[bp] at h
   split at h
   ·rename_i hc
    simp only[Sz,U7,SG] at hc
    obtain ⟨⟨rfl,rfl⟩,hlt2⟩:=hc
    cases h
    exact⟨_,fin rfl,by rw[VR,hb]; exact⟨hlt2,k,hk,by rw[TB]; simp⟩⟩
   ·cases h
    exact⟨_,fin rfl,by rw[VR,hb]; exact⟨hq,k,hk,by rw[Us]⟩⟩
  ·cases h
   rw[VR] at hx
   obtain ⟨k,off,ds,rfl,hc,hv⟩:=hx
   exact⟨_,fin rfl,by rw[VR]; exact⟨k,_,_,rfl,hc.drop _,hv.drop _⟩⟩
  ·cases h
 ·cases h
theorem ya {t:TypeId} {x y:A} {c:Value} (h:D7 P t x=some y) (hx:VR H g w x c):∃ d,(Instr.makeInterface t c).run P w=.ok d w/\VR H g w y d:=by
 unfold D7 at h
 split at h
 ·cases h
 ·cases h
 ·rename_i d hn hu
  cases h
  refine⟨.iface t c,?_,by rw[VR]; exact⟨c,rfl,hx⟩⟩
  unfold Instr.makeInterface
  rw[Tf,SN hu w]
  cases d<;>first | rfl | exact absurd rfl (hn _)
theorem wF (op:BinOp) (t:TypeId) (x y:Operand) (a b:Value):eqGuard op t x y a b=eqGuard op t (rep (IA x)) (rep (IA y)) a b:=by
 unfold eqGuard
 cases x<;>cases y<;>rfl
theorem pH {q:TypeId->Value->Value->Option Bool} {d:Nat} (hq:∀ t x y r,q t x y=some r->∀ w,(Op.equalIn d t x y).run P w=.ok r w) (xs ys:Array Value):∀ (fs:List Field) (r:Bool),rj P q xs ys fs=some r->∀ w,(Op.eqFields d xs ys fs).run P w=.ok r w
 | [],r,h,w=>by cases h; simp[Op.eqFields]
 | [f],r,h,w=>by
  unfold rj at h
  rw[bp] at h
  unfold Op.eqFields
  split at h
  ·rename_i hn
   cases h
   have hn:f.name = "_" := by simpa using hn
   simp[hn,Op.eqFields]
  ·rename_i hn
   have hn:f.name ≠ "_" := by simpa using hn
   obtain ⟨a,ha,h⟩:=bn h
   obtain ⟨b,hb,h⟩:=bn h
   rw[SH hn]
   simp only[Tf,dA ha w,dA hb w,hq _ _ _ _ h w,S7]
   cases r<;>simp[Op.eqFields]
 | f :: g :: fs,r,h,w=>by
  unfold rj at h
  rw[bp] at h
  unfold Op.eqFields
  split at h
  ·rename_i hn
   have hn:f.name = "_" := by simpa using hn
   rw[SI (by simp[hn])]
   exact pH hq xs ys (g :: fs) r h w
  ·rename_i hn
   have hn:f.name ≠ "_" := by simpa using hn
   obtain ⟨a,ha,h⟩:=bn h
   obtain ⟨b,hb,h⟩:=bn h
   obtain ⟨r1,h1,h⟩:=bn h
   rw[SH hn]
   simp only[Tf,dA ha w,dA hb w,hq _ _ _ _ h1 w,S7]
   cases hf:rj P q xs ys (g :: fs) with
   | none=>rw[hf] at h; cases h
   | some r2=>
    rw[hf] at h; cases h
    have:=pH hq xs ys (g :: fs) r2 hf w
    cases r1<;>simp[this]
theorem tJ {q:TypeId->Value->Value->Option Bool} {d:Nat} (hq:∀ t x y r,q t x y=some r->∀ w,(Op.equalIn d t x y).run P w=.ok r w) (e:TypeId) (c:Nat) (xs ys:Array Value):∀ (is:List Nat) (r:Bool),tI P q e c xs ys is=some r->∀ w,(Op.eqItems d e c xs ys is).run P w=.ok r w
 | [],r,h,w=>by cases h; simp[Op.eqItems]
 | [i],r,h,w=>by
  unfold tI at h
  unfold Op.eqItems
  obtain ⟨a,ha,h⟩:=bn h
  obtain ⟨b,hb,h⟩:=bn h
  simp only[Tf,dA ha w,dA hb w,hq _ _ _ _ h w,S7]
  cases r<;>simp[Op.eqItems]
 | i :: j :: is,r,h,w=>by
  unfold tI at h
  unfold Op.eqItems
  obtain ⟨a,ha,h⟩:=bn h
  obtain ⟨b,hb,h⟩:=bn h
  obtain ⟨r1,h1,h⟩:=bn h
  simp only[Tf,dA ha w,dA hb w,hq _ _ _ _ h1 w,S7]
  cases hf:tI P q e c xs ys (j :: is) with
  | none=>rw[hf] at h; cases h
  | some r2=>
   rw[hf] at h; cases h
   have:=tJ hq e c xs ys (j :: is) r2 hf w
   cases r1<;>simp[this]
theorem zD (D:Nat):∀ (d:Nat) (t:TypeId) (x y:Value) (r:Bool),JE P d t x y=some r->∀ w,(Op.equalIn (D+d) t x y).run P w=.ok r w
 | 0,_,_,_,_,h,_=>by cases h
 | d+1,t,x,y,r,h,w=>by
  have ih:=zD D d
  unfold JE at h
  split at h
  ·rename_i k0 k a k' b hu
   obtain ⟨hk,h⟩:=bc h
   cases h
   have hk:k=k':=by simpa using hk
   subst hk
   simp[Op.equalIn,SN hu]
  ·rename_i a b hu
   cases h
   simp[Op.equalIn,SN hu]
  ·rename_i a b hu
   cases h
   simp[Op.equalIn,SN hu]
  ·rename_i fs xs ys hu
   obtain ⟨hs,h⟩:=dN h
   have hfs:P.fieldsOf t=fs:=by simp[Program.fieldsOf,hu]
   exact(run_equalIn_struct w (D+d) t xs ys (by rw[hfs]; exact hu) hs).trans (pH ih xs ys _ r h w)
  ·rename_i n e xs ys hu
   obtain ⟨i,hi,h⟩:=bn h
   exact(run_equalIn_array w (D+d) xs ys hu hi).trans (tJ ih e (P.cellsOf e) xs ys _ r h w)
  ·cases h
theorem xV {op:BinOp} {t:TypeId} {x y z:A} {c d:Value} {p q:Operand} (h:jE P op t (IA p) (IA q) x y=some z) (hx:VR H g w x c) (hy:VR H g w y d) :
  ∃ e,(do eqGuard op t p q c d; binOp op t c d:Sem Value).run P w=.ok e w/\VR H g w z e:=by
 unfold jE at h
 have eqs:∀ {r:Bool} {xs ys:List A} (op:BinOp),tK P t (.agg xs) (.agg ys)=some r->VR H g w (.agg xs) c->VR H g w (.agg ys) d->∃ cs ds,c=.agg cs/\d=.agg ds/\(eqGuard op t p q c d).run P w=.ok () w/\(Op.equalIn 10000 t c d).run P w=.ok r w:=by
  intro r xs ys op h hx hy
  unfold tK at h
  obtain ⟨hg,h⟩:=dN h
  obtain ⟨a,ha,h⟩:=bn h
  obtain ⟨b,hb,h⟩:=bn h
  obtain rfl:=mQ _ ha hx
  obtain rfl:=mQ _ hb hy
  rw[VR] at hx hy
  obtain ⟨cs,rfl,_⟩:=hx
  obtain ⟨ds,rfl,_⟩:=hy
  exact⟨cs,ds,rfl,rfl,run_eqGuard_agg w op t p q cs ds hg,zD 9980 20 t _ _ r h w⟩
 split at h
 ·cases hr:tK P t (.agg _) (.agg _) with
  | none=>rw[hr] at h; cases h
  | some r=>
   rw[hr] at h; cases h
   obtain ⟨cs,ds,rfl,rfl,h1,h2⟩:=eqs .eql hr hx hy
   exact⟨.bool r,by simp only[Tf,h1,S7,run_eql_struct,h2],s6⟩
 ·cases hr:tK P t (.agg _) (.agg _) with
  | none=>rw[hr] at h; cases h
  | some r=>
   rw[hr] at h; cases h
   obtain ⟨cs,ds,rfl,rfl,h1,h2⟩:=eqs .neq hr hx hy
   exact⟨.bool (!r),by simp only[Tf,h1,S7,run_neq_struct,h2],s6⟩
 replace h:=bn h
 obtain ⟨a,ha,h⟩:=h
 replace h:=bn h
 obtain ⟨b,hb,h⟩:=h
 obtain rfl:=mQ x ha hx
 obtain rfl:=mQ y hb hy
 rw[<-wF] at h
 cases he:cj P (do eqGuard op t p q c d; binOp op t c d:Sem Value) with
 | none=>rw[he] at h; cases h
 | some e=>rw[he] at h; cases h; exact⟨e,dA he w,oa e⟩
theorem Aw {op:UnOp} {x z:A} {c:Value} (h:kC P op x=some z) (hx:VR H g w x c):∃ e,(Op.unary op c).run P w=.ok e w/\VR H g w z e:=by
 unfold kC at h
 replace h:=bn h
 obtain ⟨a,ha,h⟩:=h
 obtain rfl:=mQ x ha hx
 cases he:cj P (Op.unary op c) with
 | none=>rw[he] at h; cases h
 | some e=>rw[he] at h; cases h; exact⟨e,dA he w,oa e⟩
theorem tH (hr:Rel H g w0 w) {x:A} {els:List (List A)} {c:Value} (h:els? H x=some els) (hx:VR H g w x c):(∃ s,c=.string s/\x=.v (.string s))∨∃ a cap ds es,c=.slice a els.length cap/\els.length<=cap/\(∀ d∈ds,d.length=es)/\bf H g w els ds/\(0<els.length->∃ k off,a=some ⟨k,off,none⟩/\w.rangeAt k off ds.flatten):=by
 unfold els? at h
 split at h
 ·cases h
  rw[VR] at hx
  obtain ⟨a,cap,ds,es,rfl,h2,h3,h4,h5,h6⟩:=hx
  exact .inr ⟨a,cap,ds,es,rfl,h2,h4,h6,fun hp=>let ⟨k,off,e1,e2⟩:=h5 hp; ⟨k,off,e1,e2.range⟩⟩
 ·rename_i b o n cl
  split at h
  ·rename_i wr es els' hb
   cases h
   rw[VR,hb] at hx
   cases wr
   ·obtain ⟨h2,a,cap,rfl,h3,h4,h5,_⟩:=hx
    obtain ⟨hga,hgl⟩:=hr.blk b _ hb
    have hlen:((els'.drop o).take n).length=n:=r9
    refine .inr ⟨a,cap,((g.ga b).drop o).take n,es,by rw[hlen],o3,fun d hd=>hgl d (S4 (S2 hd)),(hga.drop o).take n,fun hp=>?_⟩
    obtain ⟨k,off,e1,e2⟩:=h5 o3
    exact⟨k,off,e1,e2.range⟩
   ·obtain ⟨h2,a,cap,rfl,h3,h4,h5,_⟩:=hx
    obtain ⟨ds,hv,hl,hrow⟩:=hr.blk b _ hb
    have hlen:((els'.drop o).take n).length=n:=r9
    refine .inr ⟨a,cap,(ds.drop o).take n,es,by rw[hlen],o3,fun d hd=>hl d (S4 (S2 hd)),(hv.drop o).take n,fun hp=>?_⟩
    obtain ⟨k,hk,rfl⟩:=h5 o3
    obtain ⟨k',arr,ty,hk',ha,hcell⟩:=hrow o3
    rw[hk] at hk'; cases hk'
    have hall:w.rangeAt k 0 ds.flatten:=fun j v hj=>by
     rw[Ud w k (0+j) arr ty (0,0) ha,Th]; exact hcell j v hj
    refine⟨k,_,rfl,fun j v hj=>?_⟩
    have hw:bt [] ⟨fun _=>none,fun _=>[],fun _ _=>True,fun _=>Gt⟩ w k 0 ds.flatten:=fun j v hj=>⟨hall j v hj,trivial,fun b hb=>by cases hb⟩
    have:=(hw.sub hl o n j v hj).1
    rwa [Th] at this
  ·cases h
 ·exact .inl ⟨_,by rw[VR] at hx; exact hx,rfl⟩
 ·cases h
theorem wx:∀ {els:List (List A)} {l:List UInt8} {ds:List (List Value)},bytesOf els=some l->bf H g w els ds->∃ ns:List Int,ds=ns.map (fun n=>[.int .u8 n])/\l=ns.map (fun n=>n.toNat.toUInt8)
 | [],_,_,h,hv=>by simp only[bytesOf,Ta] at h; rw[bf] at hv; exact⟨[],by simp[hv],by simp[<-h]⟩
 | e :: r,l,ds,h,hv=>by
  unfold bytesOf at h
  split at h
  ·rename_i heq; cases heq
  ·rename_i n r' heq
   cases heq
   cases hr:bytesOf r with
   | none=>rw[hr] at h; cases h
   | some l'=>
    rw[hr] at h
    cases h
    rw[bf] at hv
    obtain ⟨d,ds',rfl,h1,h2⟩:=hv
    obtain ⟨ns,rfl,rfl⟩:=wx hr h2
    rw[bl] at h1
    obtain ⟨x,xs,rfl,h3,h4⟩:=h1
    rw[VR] at h3
    rw[bl] at h4
    exact⟨n :: ns,by simp[h3,h4],r8⟩
  ·cases h
theorem foldl_push (ns:List Int):∀ r:ByteArray,ns.foldl (fun r n=>r.push (UInt8.ofNat n.toNat)) r=⟨r.data++(ns.map (fun n=>n.toNat.toUInt8)).toArray⟩:=by
 induction ns with
 | nil=>intro r; simp
 | cons n ns ih=>
  intro r
  rw[V5,ih]
  simp[ByteArray.push]
end
section
open Go.RowKit
variable {P:Program} {H:ar} {g:Gh} {w0 w:World}
theorem mV {a:A} {c:Value} {j y:Nat} (h:idx a=some j) (hv:VR H g w a c) (hy:j<=y) (code:BoundsCode):(Instr.sliceBound c y code).run P w=.ok j w:=by
 obtain ⟨k,n,rfl,h0,rfl⟩:=n0 h hv
 have:0<=n/\n<=(y:Int):=⟨h0,o3⟩
 simp[Instr.sliceBound,asIntOf,this]
def G2 (H:ar) (g:Gh) (w:World):Option A->Option Value->Prop
 | none,none=>True
 | some a,some c=>VR H g w a c
 | _,_=>False
def NX (cap h:Nat):Option A->Prop
 | none=>h<=cap
 | some m=>idx m=some h/\h<=cap
def rW (cap h:Nat):Option A->Nat
 | none=>cap
 | some _=>h
theorem gj {lo hi:Option A} {clo chi cmx:Option Value} {mx:Option A} {len cap h l:Nat} (isS:Bool) (hlo:G2 H g w lo clo) (hhi:G2 H g w hi chi) (hmx:G2 H g w mx cmx)
  (e1:jX len hi=some h) (e2:jX 0 lo=some l) (hl:l<=h) (hm:NX cap h mx) (hhm:mx=none∨hi.isSome=true) :
  (Instr.sliceBounds isS len cap clo chi cmx).run P w=.ok (l,h,rW cap h mx) w:=by
 have hlo':(clo=none/\l=0)∨∃ v,clo=some v/\∀ code,(Instr.sliceBound v h code).run P w=.ok l w:=by
  cases lo with
  | none=>cases clo with
   | none=>simp only[jX,Ta] at e2; exact .inl ⟨rfl,e2.symm⟩
   | some _=>exact hlo.elim
  | some a=>cases clo with
   | none=>exact hlo.elim
   | some v=>exact .inr ⟨v,rfl,fun code=>mV e2 hlo hl code⟩
 clear hlo e2
 unfold Instr.sliceBounds
 cases mx with
 | none=>cases cmx with
  | some _=>exact hmx.elim
  | none=>
   cases hi with
   | none=>cases chi with
    | some _=>exact hhi.elim
    | none=>
     simp only[jX,Ta] at e1
     subst e1
     rcases hlo' with ⟨rfl,rfl⟩ | ⟨v,rfl,hv⟩
     ·simp[rW]
     ·simp[Result.andThen,hv,rW]
   | some a=>cases chi with
    | none=>exact hhi.elim
    | some v=>
     have hb:=fun code=>mV (P:=P) e1 hhi (show h<=cap from hm) code
     rcases hlo' with ⟨rfl,rfl⟩ | ⟨v,rfl,hv⟩
     ·simp[Result.andThen,hb,rW]
     ·simp[Result.andThen,hb,hv,rW]
 | some m=>cases cmx with
  | none=>exact hmx.elim
  | some mv=>
   have hb1:=fun code=>mV (P:=P) hm.1 hmx hm.2 code
   cases hi with
   | none=>simp at hhm
   | some a=>cases chi with
    | none=>exact hhi.elim
    | some v=>
     have hb:=fun code=>mV (P:=P) e1 hhi (Sy h) code
     rcases hlo' with ⟨rfl,rfl⟩ | ⟨v,rfl,hv⟩
     ·simp[Result.andThen,hb,hb1,rW]
     ·simp[Result.andThen,hb,hb1,hv,rW]
theorem il {t e:TypeId} (hu:P.underlying t=some (.slice e)) {a:Option Addr} {len cap l h m z:Nat} {clo chi cmx:Option Value} (hb:(Instr.sliceBounds true len cap clo chi cmx).run P w=.ok (l,h,m) w) (hz:cz P e=some z) :
  (Instr.sliceAt t (.slice a len cap) clo chi cmx).run P w=.ok (.slice (if m=l then a else a.map (·.add (l*z))) (h - l) (m - l)) w:=by
 unfold Instr.sliceAt
 rw[Tf,SN hu w]
 unfold Instr.slice
 simp[SN hu,hb,dJ hz,Result.andThen]
theorem qg {t e:TypeId} {n:Nat} (hu:P.underlying t=some (.array n e)) {a:Addr} {l h m z:Nat} {clo chi cmx:Option Value} (hb:(Instr.sliceBounds false n n clo chi cmx).run P w=.ok (l,h,m) w) (hz:cz P e=some z) :
  (Instr.sliceAt t (.pointer (some a)) clo chi cmx).run P w=.ok (.slice (some (if m=l then a else a.add (l*z))) (h - l) (m - l)) w:=by
 unfold Instr.sliceAt
 rw[Tf,SN hu w]
 simp[Instr.sureAddr,hb,dJ hz,Result.andThen]
theorem uN (hr:Rel H g w0 w) {t:TypeId} {x y:A} {lo hi mx:Option A} {c:Value} {clo chi cmx:Option Value} (h:eb P t x lo hi mx H=some y) (hx:VR H g w x c) (hlo:G2 H g w lo clo) (hhi:G2 H g w hi chi) (hmx:G2 H g w mx cmx) (hhm:mx=none∨hi.isSome=true) :
  ∃ d,(Instr.sliceAt t c clo chi cmx).run P w=.ok d w/\VR H g w y d:=by
 unfold eb at h
 split at h
 ·rename_i s hu
  replace h:=dN h
  obtain ⟨hm,h⟩:=h
  obtain rfl:mx=none:=by cases mx<;>simp at hm ⊢
  replace h:=bn h
  obtain ⟨hh,e1,h⟩:=h
  replace h:=bn h
  obtain ⟨l,e2,h⟩:=h
  replace h:=bc h
  obtain ⟨h1,h⟩:=h
  simp only[Sz,SG] at h1
  cases h
  rw[VR] at hx
  subst hx
  have hb:=gj (P:=P) (cap:=s.size) false hlo hhi hmx e1 e2 h1.1 h1.2 (.inl rfl)
  cases cmx with
  | some _=>exact hmx.elim
  | none=>
   refine⟨.string (s.extract l hh),?_,s6⟩
   unfold Instr.sliceAt
   rw[Tf,SN hu w]
   unfold Instr.slice
   simp[SN hu,hb,Result.andThen]
 ·rename_i e els cl hu
  replace h:=bn h
  obtain ⟨z,hz,h⟩:=h
  replace h:=bn h
  obtain ⟨hh,e1,h⟩:=h
  replace h:=bn h
  obtain ⟨l,e2,h⟩:=h
  replace h:=bc h
  obtain ⟨h1,h⟩:=h
  simp only[Sz,SG,TK,Tw] at h1
  obtain ⟨⟨h1,h2⟩,h3⟩:=h1
  rw[VR] at hx
  obtain ⟨a,cap,ds,es,rfl,g1,g2,g3,g4,g5⟩:=hx
  have hlenn:((els.drop l).take (hh - l)).length=hh - l:=r9
  have fin:∀ (m:Nat) (b:Bool),hh<=m->m<=cap->(b=true->m=hh)->VR H g w (.imm ((els.drop l).take (hh - l)) b) (.slice (if m=l then a else a.map (·.add (l*z))) (hh - l) (m - l)):=fun m b hm1 hm2 hb=>by
   rw[VR]
   refine⟨_,m - l,(ds.drop l).take (hh - l),es,by rw[hlenn],o3,fun hb'=>by rw[hlenn,hb hb'],fun d hd=>g3 d (S4 (S2 hd)),fun hp=>?_,(g5.drop l).take _⟩
   have hll:l<hh:=o3
   obtain ⟨k,off,rfl,hc⟩:=g4 o3
   rw[SI o3]
   refine⟨k,off+l*es,?_,hc.sub g3 l (hh - l)⟩
   rcases h3 with rfl | h3
   ·simp[TX]
   ·have hlt:l<els.length:=by omega
    rw[Sx hlt] at h3
    simp only[Tw] at h3
    obtain rfl:=g5.lens g3 (Sx hlt) h3
    simp[TX]
  split at h
  ·cases h
   have hb:=gj (P:=P) (cap:=cap) true hlo hhi hmx e1 e2 h1 (show hh<=cap by omega) (.inl rfl)
   refine⟨_,il hu hb hz,fin cap _ o3 (Sy _) (fun hc=>?_)⟩
   simp only[Sz,Tw] at hc
   have:=g2 hc.1; omega
  ·rename_i m
   replace h:=bn h
   obtain ⟨m',hm',h⟩:=h
   replace h:=bc h
   obtain ⟨hmh,h⟩:=h
   obtain rfl:m'=hh:=by simpa using hmh
   cases h
   have hb:=gj (P:=P) (cap:=cap) true hlo hhi hmx e1 e2 h1 ⟨hm',o3⟩ hhm
   exact⟨_,il hu hb hz,fin m' _ (Sy _) o3 (fun _=>rfl)⟩
 ·rename_i e b o n cl hu
  replace h:=bn h
  obtain ⟨z,hz,h⟩:=h
  replace h:=bn h
  obtain ⟨hh,e1,h⟩:=h
  replace h:=bn h
  obtain ⟨l,e2,h⟩:=h
  replace h:=bc h
  obtain ⟨h1,h⟩:=h
  simp only[Sz,SG] at h1
  obtain ⟨⟨h1,h2⟩,h3⟩:=h1
  obtain ⟨wr,els,hb⟩:∃ wr els,H[b]? = some (.row wr z els):=by
   cases hb:H[b]? with
   | none=>simp[hb] at h3
   | some B=>cases B with
    | row wr es els=>simp[hb] at h3; subst h3; exact⟨wr,els,rfl⟩
    | _=>simp[hb] at h3
  rw[VR,hb] at hx
  have main:∀ (a:Option Addr) (cap:Nat),c=.slice a n cap->n<=cap->(cl=true->cap=n)->(∀ (m:Nat) (q:Bool),hh<=m->m<=cap->(q=true->m=hh)->(q=false->m=cap)->VR H g w (.sl b (o+l) (hh - l) q) (.slice (if m=l then a else a.map (·.add (l*z))) (hh - l) (m - l)))->∃ d,(Instr.sliceAt t c clo chi cmx).run P w=.ok d w/\VR H g w y d:=by
   intro a cap hc hn hcl fin
   subst hc
   split at h
   ·cases h
    have hb:=gj (P:=P) (cap:=cap) true hlo hhi hmx e1 e2 h1 (show hh<=cap by omega) (.inl rfl)
    refine⟨_,il hu hb hz,fin cap _ o3 (Sy _) (fun hc=>?_) (fun _=>rfl)⟩
    simp only[Sz,Tw] at hc
    have:=hcl hc.1; omega
   ·rename_i m
    replace h:=bn h
    obtain ⟨m',hm',h⟩:=h
    replace h:=bc h
    obtain ⟨hmh,h⟩:=h
    obtain rfl:m'=hh:=by simpa using hmh
    cases h
    have hb:=gj (P:=P) (cap:=cap) true hlo hhi hmx e1 e2 h1 ⟨hm',o3⟩ hhm
    exact⟨_,il hu hb hz,fin m' _ (Sy _) o3 (fun _=>rfl) (fun h=>by cases h)⟩
  cases wr
  ·obtain ⟨g0,a,cap,rfl,g1,g2,g3,g4⟩:=hx
   refine main a cap rfl g1 g2 fun m q hm1 hm2 hq hq2=>?_
   rw[VR,hb]
   refine⟨o3,_,m - l,rfl,o3,fun hc=>by rw[hq hc],fun hp=>?_,fun hc ho hn hlt=>?_⟩
   ·obtain ⟨k,off,rfl,hcell⟩:=g3 o3
    rw[SI o3]
    refine⟨k,off+l*z,by simp[TX],?_⟩
    have hga:=(hr.blk b _ hb).2
    have:=hcell.sub (fun d hd=>hga d (S4 (S2 hd))) l (hh - l)
    have e3:((((g.ga b).drop o).take n).drop l).take (hh - l)=((g.ga b).drop (o+l)).take (hh - l):=by
     rw[List.drop_take,VI,List.take_take]; congr 1; omega
    rwa [e3] at this
   ·obtain rfl:l=0:=by omega
    obtain rfl:o=0:=o3
    have hmc:=hq2 hc
    subst hmc
    by_cases hcl:cl=true
    ·have:=g2 hcl; omega
    ·obtain ⟨k,arr,ty,k1,k2,k3,k4⟩:=g4 (by simpa using hcl) rfl o3 o3
     refine⟨k,arr,ty,k1,?_,k3,by simpa using k4⟩
     rw[k2]; split<;>simp[TX]
  ·obtain ⟨g0,a,cap,rfl,g1,g2,g3,g4⟩:=hx
   refine main a cap rfl g1 g2 fun m q hm1 hm2 hq hq2=>?_
   rw[VR,hb]
   refine⟨o3,_,m - l,rfl,o3,fun hc=>by rw[hq hc],fun hp=>?_,fun hc ho hn hlt=>?_⟩
   ·obtain ⟨k,hk,rfl⟩:=g3 o3
    rw[SI o3]
    exact⟨k,hk,by simp[TX,TB]⟩
   ·obtain rfl:l=0:=by omega
    obtain rfl:o=0:=o3
    have hmc:=hq2 hc
    subst hmc
    by_cases hcl:cl=true
    ·have:=g2 hcl; omega
    ·obtain ⟨k,arr,ty,k1,k2,k3,k4⟩:=g4 (by simpa using hcl) rfl o3 o3
     refine⟨k,arr,ty,k1,?_,k3,by simpa using k4⟩
     rw[k2]; split<;>simp[TX]
 ·rename_i n e cs hu
  replace h:=bn h
  obtain ⟨z,hz,h⟩:=h
  replace h:=bn h
  obtain ⟨hh,e1,h⟩:=h
  replace h:=bn h
  obtain ⟨l,e2,h⟩:=h
  replace h:=bc h
  obtain ⟨h1,h⟩:=h
  simp only[Sz,SG,Tn] at h1
  obtain ⟨⟨⟨⟨h1,h2⟩,h3⟩,h4⟩,h5⟩:=h1
  obtain rfl:mx=none:=by cases mx<;>simp at h4 ⊢
  cases h
  rw[VR] at hx
  obtain ⟨k,off,ds,rfl,hc,hv⟩:=hx
  have hb:(Instr.sliceBounds false n n clo chi cmx).run P w=.ok (l,hh,n) w:=gj (P:=P) (cap:=n) false hlo hhi hmx e1 e2 h1 h2 (.inl rfl)
  cases cmx with
  | some _=>exact hmx.elim
  | none=>
   refine⟨_,qg hu hb hz,?_⟩
   have hdl:=hv.length
   have htl:(ds.take (n*z)).length=n*z:=H6
   have htc:(cs.take (n*z)).length=n*z:=H6
   have hck:∀ {α:Type} (q:Nat) (xs:List α),q*z<=xs.length->chunk z q xs=chunk z q (xs.take (q*z)):=by
    intro α q
    induction q with
    | zero=>intro xs _; rfl
    | succ q ih=>
     intro xs hq
     rw[TB,V7] at hq
     rw[chunk,chunk,ih (xs.drop z) r9,List.take_take,List.drop_take,Ug (by rw[TB]; omega)]
     congr 3
     rw[TB]; omega
   have hlenn:(((chunk z n cs).drop l).take (hh - l)).length=hh - l:=by simp[gH]; omega
   rw[VR]
   refine⟨_,n - l,((chunk z n (ds.take (n*z))).drop l).take (hh - l),z,by rw[hlenn],o3,fun hb'=>by rw[hlenn]; have:=(U7 ▸ hb':hh=n); omega,fun d hd=>jx htl d (S4 (S2 hd)),fun hp=>?_,?_⟩
   ·rw[hlenn] at hp
    rw[SI o3]
    refine⟨k,off+l*z,by simp[TX],?_⟩
    refine bt.sub (es:=z) ?_ (jx htl) l (hh - l)
    rw[ll htl]
    exact hc.take _
   ·rw[hck n cs h3]
    exact(((hv.take (n*z)).chunk n).drop l).take _
 ·rename_i n e b q o hu
  replace h:=bn h
  obtain ⟨z,hz,h⟩:=h
  replace h:=bn h
  obtain ⟨hh,e1,h⟩:=h
  replace h:=bn h
  obtain ⟨l,e2,h⟩:=h
  replace h:=bc h
  obtain ⟨h1,h⟩:=h
  simp only[Sz,SG,Tn] at h1
  obtain ⟨⟨⟨⟨h1,h2⟩,h4⟩,h5⟩,h6⟩:=h1
  obtain rfl:o=0:=by simpa [U7] using h5
  obtain rfl:mx=none:=by cases mx<;>simp at h4 ⊢
  cases h
  obtain ⟨els,hbk,hq⟩:∃ els,H[b]? = some (.row true z els)/\q+n<=els.length:=by
   split at h6
   ·rename_i es els hbk
    simp only[Sz,SG,U7] at h6
    obtain ⟨rfl,h6⟩:=h6
    exact⟨els,hbk,h6⟩
   ·cases h6
  rw[VR,hbk] at hx
  obtain ⟨hqe,k,hk,rfl⟩:=hx
  have hb:(Instr.sliceBounds false n n clo chi cmx).run P w=.ok (l,hh,n) w:=gj (P:=P) (cap:=n) false hlo hhi hmx e1 e2 h1 h2 (.inl rfl)
  cases cmx with
  | some _=>exact hmx.elim
  | none=>
   refine⟨_,qg hu hb hz,?_⟩
   rw[VR,hbk]
   refine⟨o3,_,n - l,rfl,o3,fun hb'=>by have:=(U7 ▸ hb':hh=n); omega,fun hp=>⟨k,hk,?_⟩,fun hb' _ hn _=>by
    have hne:hh≠n:=fun q=>by rw[q,Vz] at hb'; cases hb'
    omega⟩
   rw[SI o3]
   simp[TX,TB]
 ·cases h
theorem mF (hr:Rel H g w0 w) {w':World} {arr:Array Value} {ty:TypeId} {fr:Nat×Nat} (ha:w'.heap[w.heap.size]? = some (.cells arr ty fr)) {ds:List Value} (hd:∀ (j:Nat) v,ds[j]? = some v->arr[j]? = some v):bt H g w' w.heap.size 0 ds:=fun j v hj=>by
 refine⟨?_,hr.out _ _ (Sy _),fun b hb=>absurd (hr.dom b _ hb).2.2 (UI _)⟩
 rw[Th,Ud w' _ j arr ty fr ha]
 exact hd j v hj
theorem AF {x:A} {els:List (List A)} (h:wD H x=some els):els? H x=some els/\∀ s,x≠.v (.string s):=by
 cases x<;>simp only[wD] at h<;>first | exact⟨h,r8⟩ | cases h
theorem mD {α β:Type} (f:α->β) (l:List α):(l.map fun n=>[f n]).flatten=l.map f:=by
 induction l with
 | nil=>rfl
 | cons n l ih=>simp[ih]
theorem qN (hr:Rel H g w0 w) {s t:TypeId} {x y:A} {c:Value} (h:aW P s t x H=some y) (hx:VR H g w x c):∃ d w',(convert s t c).run P w=.ok d w'/\Below w.heap.size w w'/\VR H g w' y d:=by
 unfold aW at h
 split at h
 ·rename_i e hs hd
  split at h
  ·rename_i he hz
   replace h:=bn h
   obtain ⟨els,h1,h⟩:=h
   cases hb:bytesOf els with
   | none=>rw[hb] at h; cases h
   | some l=>
    rw[hb] at h
    cases h
    refine⟨.string ⟨l.toArray⟩,w,?_,Below.refl _ _,s6⟩
    have h1':=AF h1
    rcases tH hr h1'.1 hx with ⟨s',rfl,rfl⟩ | ⟨a,cap,ds,es,rfl,h2,h3,h4,h5⟩
    ·exact absurd rfl (h1'.2 s')
    ·obtain ⟨ns,rfl,rfl⟩:=wx hb h4
     have hl:els.length=ns.length:=by have:=h4.length; simpa using this.symm
     simp only[convert,Tf,SN hs,SN hd,SN he,S7]
     cases a with
     | none=>
      have hn:ns=[]:=by
       by_cases hp:0<els.length
       ·obtain ⟨k,off,e1,_⟩:=h5 hp; cases e1
       ·exact SV o3
      subst hn
      simp[Conv.bytesToString]
      rfl
     | some a=>
      have hl2:(loadCells a els.length).run P w=.ok (ns.map (Value.int .u8)).toArray w:=by
       by_cases hp:0<els.length
       ·obtain ⟨k,off,e1,hc⟩:=h5 hp
        cases e1
        rw[mD] at hc
        have:=VK (P:=P) w ⟨k,off,none⟩ (ns.map (Value.int .u8)) (fun j v hv=>by rw[TX]; exact hc j v hv)
        rwa [Uq,<-hl] at this
       ·have hn:ns=[]:=SV o3
        subst hn
        rw[hl]
        rfl
      rw[run_bytesToString w a _ cap ns hl2,foldl_push]
      simp
  ·cases h
 ·rename_i e s' hs hd
  split at h
  ·rename_i he
   cases h
   rw[VR] at hx
   subst hx
   have hr':=run_bytes_of_string (P:=P) w s t e s' hs hd he
   have hb:Below w.heap.size w (w.drew.alloc (.cells (bytesRow s' (grownCap w s'.size 0 e)) e ((bytesRow s' (grownCap w s'.size 0 e)).size,(bytesRow s' (grownCap w s'.size 0 e)).size+1))):=((Below.refl _ w).drew).alloc (Sy _) _
   refine⟨_,_,hr',hb,?_⟩
   rw[VR]
   have hlen:(s'.data.toList.map fun c=>[A.v (.int .u8 c.toNat)]).length=s'.size:=by rw[Uq,UQ]; rfl
   refine⟨_,_,s'.data.toList.map fun c=>[.int .u8 c.toNat],1,by rw[hlen],by rw[hlen]; exact VJ w _ _ _,fun h=>(by cases h),r8,fun _=>⟨w.heap.size,0,rfl,?_⟩,?_⟩
   ·refine mF hr (Ue w.drew _) fun j v hj=>?_
    rw[mD] at hj
    unfold bytesRow
    rw[Uc]
    ·simpa using hj
    ·have:=(SB.1 hj).1
     simpa using this
   ·refine b9.2 ⟨r8,fun i a d ha hd=>?_⟩
    simp only[Td,Te] at ha hd
    obtain ⟨b,hb,rfl⟩:=ha
    obtain ⟨b',hb',rfl⟩:=hd
    rw[hb] at hb'; cases hb'
    rw[bl]; exact⟨_,[],rfl,s6,u3⟩
  ·cases h
 ·replace h:=bn h
  obtain ⟨v,hv,h⟩:=h
  obtain rfl:=mQ _ hv hx
  cases he:cj P (convert s t c) with
  | none=>rw[he] at h; cases h
  | some e=>rw[he] at h; cases h; exact⟨e,w,dA he w,Below.refl _ _,oa e⟩
theorem sy (vs:List Value):∀ (off:Nat) (cs:Array Value),off+vs.length<=cs.size->((vs.zipIdx 0).foldl (fun cs p=>cs.setIfInBounds (off+p.2) p.1) cs).toList=bk cs.toList off vs:=by
 have gen:∀ (vs:List Value) (n off:Nat) (cs:Array Value),off+n+vs.length<=cs.size->((vs.zipIdx n).foldl (fun cs p=>cs.setIfInBounds (off+p.2) p.1) cs).toList=bk cs.toList (off+n) vs:=by
  intro vs
  induction vs with
  | nil=>intro n off cs _; simp[bk]
  | cons v vs ih=>
   intro n off cs h
   rw[List.zipIdx_cons,V5,ih (n+1) off _ (by simp at h ⊢; omega)]
   simp only[bk,Array.toList_setIfInBounds,SW]
   have hlt:off+n<cs.toList.length:=by simp at h ⊢; omega
   rw[show off+(n+1)=off+n+1 by omega,List.take_succ_eq_append_getElem (by simp; simp at hlt; omega)]
   simp only[List.getElem_set_self]
   rw[List.take_set_of_le (Sy _),Tt,Tt]
   rw[List.drop_set_of_lt o3]
   have e:off+n+1+vs.length=off+n+(vs.length+1):=o3
   rw[e]
   simp
 intro off cs h
 exact gen vs 0 off cs (by simpa using h)
theorem zG {place:Nat->Option (Nat×Nat)}:∀ {parts:List (Nat×A)} {vparts:List (Nat×Value)} {cs ds:List A} {arr:Array Value},tP place cs parts=some ds->bl H g w cs arr.toList ->
  (∀ i:Nat,(∀ p,parts[i]? = some p->∃ q,vparts[i]? = some q/\q.1=p.1/\VR H g w p.2 q.2))->vparts.length=parts.length->∃ arr',Instr.fill place arr vparts=some arr'/\bl H g w ds arr'.toList
 | [],vparts,cs,ds,arr,h,hv,hp,hl=>by
  simp only[tP,Ta] at h
  subst h
  have:vparts=[]:=SV (by simpa using hl)
  subst this
  exact⟨arr,rfl,hv⟩
 | (i,x) :: r,vparts,cs,ds,arr,h,hv,hp,hl=>by
  cases vparts with
  | nil=>simp at hl
  | cons q vr=>
   obtain ⟨q',hq,e1,hx⟩:=hp 0 (i,x) rfl
   simp at hq
   subst hq
   simp only[tP] at h
   replace h:=bn h
   obtain ⟨p,hpl,h⟩:=h
   replace h:=bn h
   obtain ⟨xs,hxs,h⟩:=h
   replace h:=bc h
   obtain ⟨hc,h⟩:=h
   simp only[Sz,Tw,SG] at hc
   obtain ⟨hvs,_,_⟩:=mm hxs hx
   have hvl:=hvs.length
   have hal:=hv.length
   obtain ⟨qi,qv⟩:=q
   simp only at e1
   subst e1
   have hsz:qv.cells.size=p.2:=by simpa [hc.1] using hvl
   have hfit:p.1+qv.cells.size<=arr.size:=by simp at hal; omega
   have hset:(qv.cells.zipIdx.foldl (fun cs (c,j)=>cs.setIfInBounds (p.1+j) c) arr).toList=bk arr.toList p.1 qv.cells.toList:=by
    have:=sy qv.cells.toList p.1 arr (by simpa using hfit)
    rw[<-this,<-UU]
    simp
   obtain ⟨arr',h1,h2⟩:=zG (place:=place) (arr:=qv.cells.zipIdx.foldl (fun cs (c,j)=>cs.setIfInBounds (p.1+j) c) arr) (vparts:=vr) h (by rw[hset]; exact hv.bk hvs p.1) (fun j p' hj=>by have:=hp (j+1) p' (by simpa using hj); simpa using this) (by simpa using hl)
   refine⟨arr',?_,h2⟩
   unfold Instr.fill
   rw[hpl]
   obtain ⟨p1,p2⟩:=p
   simp only at hsz hfit ⊢
   rw[SI (by simp[hsz]; omega)]
   exact h1
theorem fC {t:TypeId} {z:List A} (h:gB P t=some z):∃ i v,P.info? t=some i/\i.zero=some v/\z=v.cells.toList.map xH:=by
 unfold gB at h
 cases hi:P.info? t with
 | none=>rw[hi] at h; cases h
 | some i=>
  rw[hi] at h
  simp only[Sw] at h
  cases hz:i.zero with
  | none=>rw[hz] at h; cases h
  | some v=>rw[hz] at h; cases h; exact⟨i,v,rfl,hz,rfl⟩
def mf (H:ar) (g:Gh) (w:World) (parts:List (Nat×A)) (vparts:List (Nat×Value)):Prop:=vparts.length=parts.length/\∀ (i:Nat) p,parts[i]? = some p->∃ q,vparts[i]? = some q/\q.1=p.1/\VR H g w p.2 q.2
theorem uK {t:TypeId} {parts:List (Nat×A)} {vparts:Array (Nat×Value)} {y:A} (h:uJ P t parts=some y) (hp:mf H g w parts vparts.toList):∃ d,(Instr.build t vparts).run P w=.ok d w/\VR H g w y d:=by
 unfold uJ at h
 replace h:=bn h
 obtain ⟨z,hz,h⟩:=h
 replace h:=bn h
 obtain ⟨place,hpl,h⟩:=h
 obtain ⟨it,v,hi,hv,rfl⟩:=fC hz
 cases hf:tP place (v.cells.toList.map xH) parts with
 | none=>rw[hf] at h; cases h
 | some ds=>
  rw[hf] at h
  cases h
  obtain ⟨arr,h1,h2⟩:=zG (arr:=v.cells) hf (ij _) (fun i p hi=>hp.2 i p hi) hp.1
  refine⟨.agg arr,run_build w t vparts arr ?_,by rw[VR]; exact⟨arr,rfl,h2⟩⟩
  unfold z8 at hpl
  unfold Program.built
  rw[hi]
  split at hpl
  ·rename_i fs hu
   rw[hu]
   cases hm:(fs.toList.mapM fun f=>(P.info? f.type).map fun i=>(f.offset,i.size)) with
   | none=>rw[hm] at hpl; cases hpl
   | some places=>
    rw[hm] at hpl
    cases hpl
    simp only[hv,hm]
    exact h1
  ·rename_i n e hu
   rw[hu]
   cases hie:P.info? e with
   | none=>rw[hie] at hpl; cases hpl
   | some ie=>
    rw[hie] at hpl
    cases hpl
    simp only[hv,hie]
    exact h1
  ·cases hpl
end
section
open Go.RowKit
variable {P:Program} {H:ar} {g:Gh} {w0 w:World}
def Gh.put (g:Gh) (b:Nat) (k:Option Nat) (γ:List (List Value)):Gh:={ g with mu:=fun c=>if c=b then k else g.mu c,ga:=fun c=>if c=b then γ else g.ga c }
theorem Gh.bq (g:Gh) (b:Nat) (k:Option Nat) (γ:List (List Value)):(g.put b k γ).mu b=k:=by simp[Gh.put]
theorem Gh.fM (g:Gh) (b:Nat) (k:Option Nat) (γ:List (List Value)):(g.put b k γ).ga b=γ:=by simp[Gh.put]
theorem Gh.ay (g:Gh) {b c:Nat} (k:Option Nat) (γ:List (List Value)) (h:c≠b):(g.put b k γ).mu c=g.mu c:=by simp[Gh.put,h]
theorem Gh.dK (g:Gh) {b c:Nat} (k:Option Nat) (γ:List (List Value)) (h:c≠b):(g.put b k γ).ga c=g.ga c:=by simp[Gh.put,h]
def Step (H:ar) (g:Gh) (w0 w:World) (lo:Nat) (r:Result Value) (y:A) (H':ar):Prop:=
 ∃ d w' g',r=.ok d w'/\Rel H' g' w0 w'/\Ext H g w H' g' w'/\VR H' g' w' y d/\H.length<=H'.length/\(∀ b,b<lo->b<H.length->H'[b]? = H[b]?)/\g'.S=g.S
theorem dt {k:Nat} {o:Obj} {w w':World} (hb:Below w.heap.size w w') (h:w.heap[k]? = some o):w'.heap[k]? = some o:=(hb.block k (SE.1 h).1).trans h
theorem Rel.push (hr:Rel H g w0 w) {w':World} (hb:Below w.heap.size w w') (B:aD) (ko:Option Nat) (γ:List (List Value)) (hk:∀ k,ko=some k->k=w.heap.size/\w.heap.size<w'.heap.size)
  (hB:Ext H g w (H++[B]) (g.put H.length ko γ) w'->kX (H++[B]) (g.put H.length ko γ) w' H.length B):Rel (H++[B]) (g.put H.length ko γ) w0 w'/\Ext H g w (H++[B]) (g.put H.length ko γ) w':=by
 have old:∀ {b k},(g.put H.length ko γ).mu b=some k->k<w.heap.size->b≠H.length/\g.mu b=some k:=fun {b k} h hlt=>by
  by_cases e:b=H.length
  ·subst e; rw[Gh.bq] at h; have:=(hk k h).1; omega
  ·exact⟨e,by rwa [Gh.ay _ _ _ e] at h⟩
 have he:Ext H g w (H++[B]) (g.put H.length ko γ) w':=by
  refine⟨fun k o v hs hc=>?_,fun b B' hB'=>⟨B',?_,?_⟩,fun k o ho=>(hb.block k (SE.1 ho).1).trans ho,hb.size,fun k arr cl hs hm=>?_,fun k hk' _=>hb.block k hk',fun b k h=>?_⟩
  rotate_right 1
  ·by_cases e:b=H.length
   ·subst e; rw[Gh.bq] at h; exact .inr (Vj (hk k h).1.symm)
   ·exact .inl ⟨b,by rwa [Gh.ay _ _ _ e] at h⟩
  ·have hlt:=Uo w ⟨k,o,none⟩ hc
   refine⟨(hb.cell (p:=⟨k,o,none⟩) hlt).trans hc,hs.1,fun b hbk=>?_⟩
   obtain ⟨_,h2⟩:=old hbk hlt
   obtain ⟨es,els,h3,h4⟩:=hs.2 b h2
   exact⟨es,els,by rw[SP (SB.1 h3).1]; exact h3,h4⟩
  ·rw[SP (SB.1 hB').1]; exact hB'
  ·have hne:b≠H.length:=by have:=(SB.1 hB').1; omega
   cases B' with
   | box _=>exact Gh.ay _ _ _ hne
   | row wr es els=>cases wr with
    | true=>exact⟨rfl,rfl,Gh.ay _ _ _ hne,fun k arr ty hk' ha=>⟨arr,dt hb ha,Sy _⟩⟩
    | false=>exact⟨rfl,⟨[],by rw[Gh.dK _ _ _ hne]; simp⟩,(hr.blk b _ hB').len,Sy _,fun _=>⟨Gh.ay _ _ _ hne,fun k arr ty hk' ha=>⟨arr,dt hb ha,Sy _⟩⟩⟩
   | rng _=>exact⟨Gh.ay _ _ _ hne,rfl⟩
   | mp _ _ _=>exact Gh.ay _ _ _ hne
   | dead=>trivial
   | hole=>trivial
  ·have hlt:=(SE.1 hm).1
   refine⟨(hb.block k hlt).trans hm,hs.1,fun b hbk=>?_⟩
   obtain ⟨_,h2⟩:=old hbk hlt
   obtain ⟨es,els,h3,h4⟩:=hs.2 b h2
   exact⟨es,els,by rw[SP (SB.1 h3).1]; exact h3,h4⟩
 refine⟨⟨hr.below.trans (hb.mono hr.below.size),fun b k hbk=>?_,fun b c k h1 h2=>?_,hr.xk he,hr.vD he,fun b B' hB'=>?_⟩,he⟩
 ·by_cases e:b=H.length
  ·subst e; rw[Gh.bq] at hbk
   obtain ⟨rfl,h2⟩:=hk k hbk
   exact⟨r8,hr.below.size,h2⟩
  ·rw[Gh.ay _ _ _ e] at hbk
   obtain ⟨h1,h2,h3⟩:=hr.dom b k hbk
   exact⟨r9,h2,SQ h3 hb.size⟩
 ·by_cases e:b=H.length
  ·by_cases e':c=H.length
   ·rw[e,e']
   ·subst e
    rw[Gh.bq] at h1
    rw[Gh.ay _ _ _ e'] at h2
    have:=(hk k h1).1; have:=(hr.dom c k h2).2.2; omega
  ·by_cases e':c=H.length
   ·subst e'
    rw[Gh.bq] at h2
    rw[Gh.ay _ _ _ e] at h1
    have:=(hk k h2).1; have:=(hr.dom b k h1).2.2; omega
   ·rw[Gh.ay _ _ _ e] at h1
    rw[Gh.ay _ _ _ e'] at h2
    exact hr.inj b c k h1 h2
 ·by_cases e:b=H.length
  ·subst e
   rw[S3 (Sy _)] at hB'
   simp at hB'
   subst hB'
   exact hB he
  ·have hlt:b<H.length:=by have:=(SB.1 hB').1; simp at this; omega
   rw[SP hlt] at hB'
   have h:=hr.blk b B' hB'
   cases B' with
   | box cs=>obtain ⟨k,arr,ty,h1,h2,h3⟩:=h; exact⟨k,arr,ty,(Gh.ay _ _ _ e).trans h1,dt hb h2,bl.ext he _ _ h3⟩
   | row wr es els=>cases wr with
    | true=>
     obtain ⟨ds,h1,h2,h3⟩:=h
     exact⟨ds,bf.ext he _ _ h1,h2,fun hp=>let ⟨k,arr,ty,e1,e2,e3⟩:=h3 hp; ⟨k,arr,ty,(Gh.ay _ _ _ e).trans e1,dt hb e2,e3⟩⟩
    | false=>
     obtain ⟨h1,h2⟩:=h
     refine⟨?_,?_⟩
     ·rw[Gh.dK _ _ _ e]; exact bf.ext he _ _ h1
     ·rw[Gh.dK _ _ _ e]; exact h2
   | rng st=>obtain ⟨k,h1,h2⟩:=h; exact⟨k,(Gh.ay _ _ _ e).trans h1,dt hb h2⟩
   | mp _ _ _=>obtain ⟨k,arr,cl,h1,h2,h3,h4⟩:=h; exact⟨k,arr,cl,(Gh.ay _ _ _ e).trans h1,dt hb h2,h3,bl.ext he _ _ h4⟩
   | dead=>exact(Gh.ay _ _ _ e).trans h
   | hole=>exact(Gh.ay _ _ _ e).trans h
theorem dG (H:ar) (B:aD):(H++[B])[H.length]? = some B:=r8
theorem ic (H:ar) (B:aD) (lo:Nat):∀ b,b<lo->b<H.length->(H++[B])[b]? = H[b]?:=fun _ _ h=>SP h
theorem xX (hr:Rel H g w0 w) {t:TypeId} {x y:A} {H':ar} {c:Value} (lo:Nat) (h:xW x H=some (y,H')) (hx:VR H g w x c):Step H g w0 w lo ((Instr.box t c).run P w) y H':=by
 unfold xW at h
 cases hc:x.cells? with
 | none=>rw[hc] at h; cases h
 | some cs=>
  rw[hc] at h
  cases h
  obtain ⟨hv,_,_⟩:=mm hc hx
  have hb:Below w.heap.size w (w.alloc (.cells c.cells t)):=(Below.refl _ w).alloc (Sy _) _
  obtain ⟨h1,h2⟩:=hr.push hb (.box cs) (some w.heap.size) [] (fun k hk=>by cases hk; exact⟨rfl,r8⟩) (fun he=>⟨w.heap.size,c.cells,t,Gh.bq _ _ _ _,Ue w _,bl.ext he _ _ hv⟩)
  refine⟨.pointer (some ⟨w.heap.size,0,none⟩),_,_,by simp[Instr.box,newVar,newRow,newObj]; rfl,h1,h2,?_,r8,ic _ _ _,rfl⟩
  rw[VR,dG]; exact⟨w.heap.size,Gh.bq _ _ _ _,rfl⟩
theorem uH (hr:Rel H g w0 w) {t:TypeId} {y:A} {H':ar} (lo:Nat) (h:kY P t H=some (y,H')):Step H g w0 w lo ((Instr.alloc t true (.tuple #[])).run P w) y H':=by
 unfold kY at h
 cases hz:gB P t with
 | none=>rw[hz] at h; cases h
 | some cs=>
  rw[hz] at h
  cases h
  obtain ⟨i,z,hi,hzz,rfl⟩:=fC hz
  have hb:Below w.heap.size w (w.alloc (.cells z.cells t)):=(Below.refl _ w).alloc (Sy _) _
  obtain ⟨h1,h2⟩:=hr.push hb (.box (z.cells.toList.map xH)) (some w.heap.size) [] (fun k hk=>by cases hk; exact⟨rfl,r8⟩) (fun he=>⟨w.heap.size,z.cells,t,Gh.bq _ _ _ _,Ue w _,ij _⟩)
  refine⟨.pointer (some ⟨w.heap.size,0,none⟩),_,_,by simp[Instr.alloc,zeroValue,typeInfo,hi,hzz,newVar,newRow,newObj]; rfl,h1,h2,?_,r8,ic _ _ _,rfl⟩
  rw[VR,dG]; exact⟨w.heap.size,Gh.bq _ _ _ _,rfl⟩
theorem su (hr:Rel H g w0 w) {t:TypeId} {cs:List A} {y:A} {H':ar} {arr:Array Value} {ty:TypeId} (h:rowOf P t cs H=some (y,H')) (hv:bl H g w cs arr.toList) :
  Rel H' (g.put H.length (some w.heap.size) []) w0 (w.alloc (.cells arr ty))/\Ext H g w H' (g.put H.length (some w.heap.size) []) (w.alloc (.cells arr ty))/\VR H' (g.put H.length (some w.heap.size) []) (w.alloc (.cells arr ty)) y (.pointer (some ⟨w.heap.size,0,none⟩))/\H.length<=H'.length/\∀ lo b,b<lo->b<H.length->H'[b]? = H[b]?:=by
 unfold rowOf at h
 split at h
 ·rename_i n e hu
  replace h:=bn h
  obtain ⟨es,hes,h⟩:=h
  replace h:=dN h
  obtain ⟨h0,h⟩:=h
  cases h
  simp only[TE,Ui,U7] at h0
  obtain ⟨⟨h1,h2⟩,h3⟩:=h0
  have h2:n≠0:=fun e=>by rw[e] at h2; cases h2
  have hb:Below w.heap.size w (w.alloc (.cells arr ty)):=(Below.refl _ w).alloc (Sy _) _
  have hal:arr.toList.length=n*es:=by rw[hv.length,h3]
  obtain ⟨r1,r2⟩:=hr.push hb (.row true es (chunk es n cs)) (some w.heap.size) [] (fun k hk=>by cases hk; exact⟨rfl,r8⟩) (fun he=>⟨chunk es n arr.toList,(bl.ext he _ _ hv).chunk n,jx hal,fun _=>⟨w.heap.size,arr,ty,Gh.bq _ _ _ _,Ue w _,fun j v hj=>by
   rw[ll hal] at hj; simpa using hj⟩⟩)
  refine⟨r1,r2,?_,r8,fun lo=>ic _ _ _⟩
  rw[VR,dG]
  exact⟨by rw[gH]; omega,w.heap.size,Gh.bq _ _ _ _,r8⟩
 ·cases h
theorem wc (hr:Rel H g w0 w) {t:TypeId} {x y:A} {H':ar} {c:Value} (lo:Nat) (h:tC P t x H=some (y,H')) (hx:VR H g w x c):Step H g w0 w lo ((Instr.box t c).run P w) y H':=by
 unfold tC at h
 cases hc:x.cells? with
 | none=>rw[hc] at h; cases h
 | some cs=>
  rw[hc] at h
  obtain ⟨hv,_,_⟩:=mm hc hx
  obtain ⟨r1,r2,r3,r4,r5⟩:=su (P:=P) hr (ty:=t) h hv
  exact⟨.pointer (some ⟨w.heap.size,0,none⟩),_,_,by simp[Instr.box,newVar,newRow,newObj]; rfl,r1,r2,r3,r4,r5 lo,rfl⟩
theorem sQ (hr:Rel H g w0 w) {t:TypeId} {y:A} {H':ar} (lo:Nat) (h:jF P t H=some (y,H')):Step H g w0 w lo ((Instr.alloc t true (.tuple #[])).run P w) y H':=by
 unfold jF at h
 cases hz:gB P t with
 | none=>rw[hz] at h; cases h
 | some cs=>
  rw[hz] at h
  obtain ⟨i,z,hi,hzz,rfl⟩:=fC hz
  obtain ⟨r1,r2,r3,r4,r5⟩:=su (P:=P) hr (arr:=z.cells) (ty:=t) h (ij _)
  exact⟨.pointer (some ⟨w.heap.size,0,none⟩),_,_,by simp[Instr.alloc,zeroValue,typeInfo,hi,hzz,newVar,newRow,newObj]; rfl,r1,r2,r3,r4,r5 lo,rfl⟩
theorem pU {α:Type} (arr:Array α) (o:Nat) (xs:List α):arr.size<=(bk arr.toList o xs).toArray.size:=by
 unfold bk
 simp
 omega
theorem Rel.write (hr:Rel H g w0 w) {b k:Nat} {arr arr':Array Value} {ty:TypeId} (hk:g.mu b=some k) (ha:w.heap[k]? = some (.cells arr ty (0,0))) {B B':aD} (hB:H[b]? = some B)
  (hkind:(∃ cs cs',B=.box cs/\B'=.box cs')∨∃ es els els',B=.row true es els/\B'=.row true es els'/\els'.length=els.length/\arr.size<=arr'.size)
  (hB':Ext H g w (H.set b B') g (w.setRow k arr')->(w.setRow k arr').heap[k]? = some (.cells arr' ty (0,0))->kX (H.set b B') g (w.setRow k arr') b B'):Rel (H.set b B') g w0 (w.setRow k arr')/\Ext H g w (H.set b B') g (w.setRow k arr'):=by
 have hlt:b<H.length:=(SB.1 hB).1
 have hnew:(w.setRow k arr').heap[k]? = some (.cells arr' ty (0,0)):=setRow_heap w k arr arr' ty (0,0) ha
 have hoth:∀ j,j≠k->(w.setRow k arr').heap[j]? = w.heap[j]?:=fun j hj=>setRow_other w k j arr' hj
 have hnot:∀ {o:Nat},¬ dP H g k o:=fun {o} hs=>by
  obtain ⟨es,els,h1,_⟩:=hs.2 b hk
  rw[hB] at h1
  rcases hkind with ⟨cs,cs',rfl,_⟩ | ⟨es',els1,els',rfl,_⟩<;>cases h1
 have he:Ext H g w (H.set b B') g (w.setRow k arr'):=by
  refine⟨fun k' o v hs hc=>?_,fun c C hC=>?_,fun k' o ho=>(hoth k' (fun e=>by subst e; rw[ha] at ho; cases ho)).trans ho,by simp[World.setRow],fun k' marr cl hs hm=>?_,fun k' _ hn=>hoth k' (fun e=>hn b (e ▸ hk)),fun c k' h=>.inl ⟨c,h⟩⟩
  ·have hne:k'≠k:=fun e=>hnot (e ▸ hs)
   refine⟨(Ul (a:=⟨k',o,none⟩) (hoth k' hne)).trans hc,hs.1,fun c hck=>?_⟩
   obtain ⟨es,els,h1,h2⟩:=hs.2 c hck
   have hcb:c≠b:=fun e=>by subst e; rw[hk] at hck; exact hne (by cases hck; rfl)
   exact⟨es,els,by rw[SO (TF hcb)]; exact h1,h2⟩
  ·by_cases e:c=b
   ·subst e
    rw[hB] at hC; cases hC
    refine⟨B',by rw[SY hlt],?_⟩
    rcases hkind with ⟨cs,cs',rfl,rfl⟩ | ⟨es,els,els',rfl,rfl,hl,hsz'⟩
    ·rfl
    ·exact⟨rfl,hl,rfl,fun k' arr1 ty1 hk1 ha1=>by rw[hk] at hk1; cases hk1; rw[ha] at ha1; cases ha1; exact⟨arr',hnew,hsz'⟩⟩
   ·refine⟨C,by rw[SO (TF e)]; exact hC,?_⟩
    cases C with
    | box _=>rfl
    | row wr es els=>cases wr with
     | true=>exact⟨rfl,rfl,rfl,fun k' arr1 ty1 hk1 ha1=>⟨arr1,(hoth k' (fun e2=>e (hr.inj c b k (e2 ▸ hk1) hk))).trans ha1,Sy _⟩⟩
     | false=>exact⟨rfl,⟨[],r8⟩,(hr.blk c _ hC).len,Sy _,fun _=>⟨rfl,fun k' arr1 ty1 hk1 ha1=>⟨arr1,(hoth k' (fun e2=>e (hr.inj c b k (e2 ▸ hk1) hk))).trans ha1,Sy _⟩⟩⟩
    | rng _=>exact⟨rfl,rfl⟩
    | mp _ _ _=>rfl
    | dead=>trivial
    | hole=>trivial
  ·have hne:k'≠k:=fun e=>by subst e; rw[ha] at hm; cases hm
   refine⟨(hoth k' hne).trans hm,hs.1,fun c hck=>?_⟩
   obtain ⟨es,els,h1,h2⟩:=hs.2 c hck
   have hcb:c≠b:=fun e=>by subst e; rw[hk] at hck; exact hne (by cases hck; rfl)
   exact⟨es,els,by rw[SO (TF hcb)]; exact h1,h2⟩
 have hsz:(w.setRow k arr').heap.size=w.heap.size:=by simp[World.setRow]
 have hkb:=(hr.dom b k hk).2.1
 refine⟨⟨hr.below.trans ⟨rfl,rfl,rfl,by rw[hsz]; exact Sy _,fun j hj=>hoth j o3⟩,fun c j hcj=>⟨by simpa using (hr.dom c j hcj).1,(hr.dom c j hcj).2.1,by rw[hsz]; exact(hr.dom c j hcj).2.2⟩,hr.inj,hr.xk he,hr.vD he,fun c C hC=>?_⟩,he⟩
 by_cases e:c=b
 ·subst e
  rw[SY hlt] at hC; cases hC
  exact hB' he hnew
 ·rw[SO (TF e)] at hC
  have h:=hr.blk c C hC
  have hmu:∀ {j},g.mu c=some j->j≠k:=fun {j} hj e2=>e (hr.inj c b k (e2 ▸ hj) hk)
  cases C with
  | box cs=>obtain ⟨j,arr1,ty1,h1,h2,h3⟩:=h; exact⟨j,arr1,ty1,h1,(hoth j (hmu h1)).trans h2,bl.ext he _ _ h3⟩
  | row wr es els=>cases wr with
   | true=>
    obtain ⟨ds,h1,h2,h3⟩:=h
    exact⟨ds,bf.ext he _ _ h1,h2,fun hp=>let ⟨j,arr1,ty1,e1,e2,e3⟩:=h3 hp; ⟨j,arr1,ty1,e1,(hoth j (hmu e1)).trans e2,e3⟩⟩
   | false=>exact⟨bf.ext he _ _ h.1,h.2⟩
  | rng st=>obtain ⟨j,h1,h2⟩:=h; exact⟨j,h1,(hoth j (hmu h1)).trans h2⟩
  | mp _ _ _=>obtain ⟨j,arr1,cl,h1,h2,h3,h4⟩:=h; exact⟨j,arr1,cl,h1,(hoth j (hmu h1)).trans h2,h3,bl.ext he _ _ h4⟩
  | dead=>exact h
  | hole=>exact h
theorem lD (H:ar) (B:aD) {lo b:Nat} (hb:lo<=b):∀ c,c<lo->c<H.length->(H.set b B)[c]? = H[c]?:=fun _ hc _=>SO o3
theorem lL {t:TypeId} {n k o:Nat} {c:Value} {arr:Array Value} {ty:TypeId} (hs:cz P t=some n) (hn:c.cells.size=n) (ha:w.heap[k]? = some (.cells arr ty (0,0))) (hfit:o+n<=arr.size) (h1:∀ x∈c.cells.toList,x.oneCell'=true) :
  (Instr.storeAt t (.pointer (some ⟨k,o,none⟩)) c).run P w=.ok () (w.setRow k (bk arr.toList o c.cells.toList).toArray):=by
 have:=VO P k o ty c.cells.toList 0 arr w ha (by simpa [hn] using hfit) h1
 simp only[Ub] at this
 simp only[Instr.storeAt,Instr.sureAddr,Tf,UO,S7,storeVar,dJ hs]
 rw[SI (by simp[hn])]
 rw[this]
 simp[bk]
theorem iq {α:Type} (cs xs:List α) (o:Nat) (h:o+xs.length<=cs.length):(bk cs o xs).length=cs.length:=by
 simp[bk]; omega
theorem gr {α:Type} (cs xs:List α) (o j:Nat) (h:o+xs.length<=cs.length):(bk cs o xs)[j]? = if o<=j/\j<o+xs.length then xs[j - o]? else cs[j]?:=by
 unfold bk
 rw[Tt,Uy,Tz,Ug o3]
 by_cases h1:j<o
 ·rw[SH h1,SI o3,SS,SH h1]
 ·rw[SI h1,Uy]
  by_cases h2:j<o+xs.length
  ·rw[SH o3,SH o3]
  ·rw[SI o3,SI o3,TL]
   congr 1; omega
theorem sE {α:Type} (x l xs:List α) (n:Nat):bk (x++l) (x.length+n) xs=x++bk l n xs:=by
 unfold bk
 rw[Us,List.take_length_add_append,List.drop_length_add_append]
 simp
theorem rA {es:Nat}:∀ {ds:List (List Value)} {i:Nat} {d d':List Value},(∀ d∈ds,d.length=es)->ds[i]? = some d->∀ o xs,o+xs.length<=es->d'=bk d o xs->(ds.set i d').flatten=bk ds.flatten (i*es+o) xs
 | [],i,d,d',_,h,_,_,_,_=>by simp at h
 | x :: r,i,d,d',hl,h,o,xs,hf,hd=>by
  have hx:=hl x r8
  cases i with
  | zero=>
   simp at h; subst h; subst hd
   simp only[List.set_cons_zero,TR,VX,Th,bk]
   rw[VF o3,VE o3]
   simp
  | succ i=>
   have ih:=rA (ds:=r) (i:=i) (d:=d) (d':=d') (fun d hd=>hl d (by simp[hd])) (by simpa using h) o xs hf hd
   have e:(i+1)*es+o=x.length+(i*es+o):=by rw[hx,TB]; omega
   rw[List.set_cons_succ,TR,TR,ih,e,sE]
theorem fL {es:Nat} {ds:List (List Value)} (hl:∀ d∈ds,d.length=es) {m:Nat} (hm:m<=ds.length):(ds.take m).flatten.length=m*es:=by
 rw[bH (fun d hd=>hl d (S2 hd)),Tz,Ug hm]
theorem mE {es:Nat}:∀ {ds:List (List Value)} (o:Nat) {xs:List (List Value)},(∀ d∈ds,d.length=es)->(∀ d∈xs,d.length=es)->o+xs.length<=ds.length->(bk ds o xs).flatten=bk ds.flatten (o*es) xs.flatten
 | ds,0,xs,hl,hx,h=>by
  have:ds=ds.take xs.length++ds.drop xs.length:=(T3 _ _).symm
  have h1:(ds.take xs.length).flatten.length=xs.length*es:=fL hl o3
  simp only[bk,We,TN,Th,VX,Ur]
  congr 1
  have e:ds.flatten=(ds.take xs.length).flatten++(ds.drop xs.length).flatten:=So
  rw[e,List.drop_append,h1,bH hx]
  simp[h1]
 | [],o+1,xs,hl,hx,h=>by simp at h
 | d :: r,o+1,xs,hl,hx,h=>by
  have ih:=mE (ds:=r) o (xs:=xs) (fun d hd=>hl d (by simp[hd])) hx (by simp at h; omega)
  have e1:bk (d :: r) (o+1) xs=d :: bk r o xs:=by
   simp only[bk,Wp,Tg]
   rw[show o+1+xs.length=o+xs.length+1 by omega,Wq]
  rw[e1,TR,ih,TR]
  have e2:(o+1)*es=d.length+o*es:=by rw[hl d r8,TB]; omega
  rw[e2,sE]
theorem uO (hr:Rel H g w0 w) {t:TypeId} {a x:A} {H':ar} {lo:Nat} {ca cx:Value} (h:iL P t a x H lo=some H') (ha:VR H g w a ca) (hx:VR H g w x cx) :
  ∃ w',(Instr.storeAt t ca cx).run P w=.ok () w'/\Rel H' g w0 w'/\Ext H g w H' g w'/\H.length<=H'.length/\∀ b,b<lo->b<H.length->H'[b]? = H[b]?:=by
 unfold iL at h
 replace h:=bn h
 obtain ⟨n,hn,h⟩:=h
 replace h:=bn h
 obtain ⟨xs,hxs,h⟩:=h
 replace h:=dN h
 obtain ⟨h0,h⟩:=h
 simp only[TE,Ui,Tw] at h0
 obtain ⟨hvs,h1,_⟩:=mm hxs hx
 have hsz:cx.cells.size=n:=by have:=hvs.length; simp at this; omega
 split at h
 ·rename_i b o
  split at h
  ·rename_i cs hb
   replace h:=bc h
   obtain ⟨hc,h⟩:=h
   simp only[Sz,SG] at hc
   cases h
   rw[VR,hb] at ha
   obtain ⟨k,hk,rfl⟩:=ha
   obtain ⟨k',arr,ty,hk',har,hv⟩:=hr.blk b _ hb
   rw[hk] at hk'; cases hk'
   have hal:arr.size=cs.length:=by simpa using hv.length
   have hrun:=lL (P:=P) hn hsz har (o:=o) o3 h1
   obtain ⟨r1,r2⟩:=hr.write hk har (arr':=(bk arr.toList o cx.cells.toList).toArray) (B':=.box (bk cs o xs)) hb (.inl ⟨_,_,rfl,rfl⟩) (fun he hnew=>⟨k,_,ty,hk,hnew,bl.ext he _ _ (by simpa using hv.bk hvs o)⟩)
   exact⟨_,hrun,r1,r2,r8,lD _ _ hc.1⟩
  ·cases h
 ·rename_i b i o
  split at h
  ·rename_i es els hb
   split at h
   ·rename_i cs hi
    rw[VR,hb] at ha
    obtain ⟨hlt,k,hk,rfl⟩:=ha
    obtain ⟨ds,hv,hl,hrow⟩:=hr.blk b _ hb
    obtain ⟨k',arr,ty,hk',har,hcell⟩:=hrow o3
    rw[hk] at hk'; cases hk'
    obtain ⟨d,hd,hvd⟩:=hv.get hi
    have hdl:d.length=es:=hl d (S1 hd)
    have hcl:cs.length=es:=by rw[<-hvd.length]; exact hdl
    have hfl:=bH hl
    have hvl:=hv.length
    have hbound:i*es+es<=ds.length*es:=by
     have:=Um es (show i+1<=ds.length by omega)
     rw[TB] at this; omega
    have hal:ds.flatten.length<=arr.size:=by
     by_cases hz:ds.flatten.length=0
     ·omega
     ·have:=hcell (ds.flatten.length - 1) _ (Sx o3)
      have:=(SE.1 this).1
      omega
    have hxl:cx.cells.toList.length=n:=by simpa using hsz
    rw[bp] at h
    split at h
    rotate_left
    ·replace h:=bc h
     obtain ⟨hc,h⟩:=h
     simp only[Sz,SG,U7] at hc
     obtain ⟨⟨⟨hlo,rfl⟩,hq⟩,hfit⟩:=hc
     cases h
     have hxq:cx.cells.toList.length=n / es*es:=o3
     have hq2:i*es+n / es*es<=ds.length*es:=by
      have:=Um es (show i+n / es<=ds.length by omega)
      rwa [TB] at this
     have hrun:=lL (P:=P) hn hsz har (o:=i*es+0) o3 h1
     have hcl2:=jx (es:=es) hxq
     obtain ⟨r1,r2⟩:=hr.write hk har (arr':=(bk arr.toList (i*es+0) cx.cells.toList).toArray) (B':=.row true es (bk els i (chunk es (n / es) xs))) hb (.inr ⟨es,els,_,rfl,rfl,by rw[iq _ _ _ (by rw[gH]; omega)],pU _ _ _⟩) (fun he hnew=>by
      refine⟨bk ds i (chunk es (n / es) cx.cells.toList),?_,?_,fun _=>⟨k,_,ty,hk,hnew,fun j v hj=>?_⟩⟩
      ·have hv2:=bf.ext he _ _ hv
       have hx2:=bf.ext he _ _ (hvs.chunk (es:=es) (n / es))
       exact hv2.bk hx2 i
      ·intro d' hd'
       unfold bk at hd'
       rcases TP.1 hd' with hd' | hd'
       ·rcases TP.1 hd' with hd' | hd'
        ·exact hl d' (S2 hd')
        ·exact hcl2 d' hd'
       ·exact hl d' (S4 hd')
      ·rw[mE i hl hcl2 (by rw[gH]; omega),ll hxq] at hj
       rw[gr _ _ _ _ o3] at hj
       have:(bk arr.toList (i*es+0) cx.cells.toList).toArray[j]? = (bk arr.toList (i*es+0) cx.cells.toList)[j]?:=r8
       rw[this,gr _ _ _ _ r9]
       simp only[Ub]
       split
       ·rename_i hin; rw[SH hin] at hj; exact hj
       ·rename_i hin; rw[SI hin] at hj
        have:=hcell j v hj
        simpa using this)
     exact⟨_,hrun,r1,r2,r8,lD _ _ hlo⟩
    rename_i hc
    simp only[Sz,SG] at hc
    cases h
    have hrun:=lL (P:=P) hn hsz har (o:=i*es+o) o3 h1
    obtain ⟨r1,r2⟩:=hr.write hk har (arr':=(bk arr.toList (i*es+o) cx.cells.toList).toArray) (B':=.row true es (els.set i (bk cs o xs))) hb (.inr ⟨es,els,_,rfl,rfl,r8,pU _ _ _⟩) (fun he hnew=>by
     refine⟨ds.set i (bk d o cx.cells.toList),?_,?_,fun _=>⟨k,_,ty,hk,hnew,fun j v hj=>?_⟩⟩
     ·have hv2:=bf.ext he _ _ hv
      have hvd2:=bl.ext he _ _ (hvd.bk hvs o)
      obtain ⟨g1,g2⟩:=b9.1 hv2
      refine b9.2 ⟨by simp[g1],fun j a' d' ha' hd'=>?_⟩
      by_cases e:j=i
      ·subst e
       rw[SY o3] at ha'
       rw[SY o3] at hd'
       cases ha'; cases hd'; exact hvd2
      ·rw[SO (TF e)] at ha' hd'
       exact g2 j a' d' ha' hd'
     ·intro d' hd'
      rcases VS hd' with h' | rfl
      ·exact hl d' h'
      ·rw[iq _ _ _ o3]; exact hdl
     ·rw[rA hl hd o cx.cells.toList o3 rfl] at hj
      rw[gr _ _ _ _ o3] at hj
      have:(bk arr.toList (i*es+o) cx.cells.toList).toArray[j]? = (bk arr.toList (i*es+o) cx.cells.toList)[j]?:=r8
      rw[this,gr _ _ _ _ r9]
      split
      ·rename_i hin; rw[SH hin] at hj; exact hj
      ·rename_i hin; rw[SI hin] at hj
       have:=hcell j v hj
       simpa using this)
    exact⟨_,hrun,r1,r2,r8,lD _ _ hc.1⟩
   ·cases h
  ·cases h
 ·cases h
end
section
open Go.RowKit
variable {P:Program} {H:ar} {g:Gh} {w0 w:World}
theorem jy {t e:TypeId} (h:jI P t=some e):P.underlying t=some (.slice e):=by
 unfold jI at h
 split at h
 ·rename_i hu; cases h; exact hu
 ·cases h
theorem m9 (z:Array Value) (len:Nat) (hz:0<z.size):(madeCells z (len*z.size)).toList=(List.replicate len z.toList).flatten:=by
 have hl:∀ d∈List.replicate len z.toList,d.length=z.size:=fun d hd=>by rw[(UX.1 hd).2]; simp
 apply TY
 intro j
 by_cases hj:j<len*z.size
 ·have hq:j / z.size<len:=Vx (by rw[TU]; exact hj)
  have e:=jz hl (j:=j / z.size) (d:=z.toList) (by rw[Up,SH hq]) (j % z.size) (UF _ hz)
  rw[show j / z.size*z.size+j % z.size=j by rw[TU]; exact Vy _ _] at e
  rw[e]
  have hm:=UF j hz
  have:(madeCells z (len*z.size))[j]? = some (z[j % z.size]!):=by simp[madeCells,hj]
  rw[Tc,this]
  simp[hm]
 ·rw[TM (by simp[madeCells]; omega),TM (by rw[bH hl]; simp; omega)]
theorem wN {es:Nat}:∀ {parts:List (Nat×A)} {vparts:List (Nat×Value)} {els els':List (List A)} {ds:List (List Value)} {arr:Array Value},lK els parts=some els'->arr.toList=ds.flatten->bf H g w els ds->(∀ d∈ds,d.length=es) ->
  (∀ p∈parts,p.1<els.length/\∃ xs,p.2.cells? = some xs/\xs.length=es)->mf H g w parts vparts->∃ arr' ds',Instr.fill (fun i=>some (i*es,es)) arr vparts=some arr'/\arr'.toList=ds'.flatten/\bf H g w els' ds'/\(∀ d∈ds',d.length=es)
 | [],vparts,els,els',ds,arr,h,ha,hv,hl,_,hp=>by
  simp only[lK,Ta] at h
  subst h
  have:vparts=[]:=SV (by simpa using hp.1)
  subst this
  exact⟨arr,ds,rfl,ha,hv,hl⟩
 | (i,x) :: r,vparts,els,els',ds,arr,h,ha,hv,hl,hc,hp=>by
  cases vparts with
  | nil=>simp[mf] at hp
  | cons q vr=>
   obtain ⟨q',hq,e1,hx⟩:=hp.2 0 (i,x) rfl
   simp at hq
   subst hq
   obtain ⟨hi,xs,hxs,hxl⟩:=hc (i,x) r8
   simp only[lK,hxs,Sw] at h
   obtain ⟨hvs,_,_⟩:=mm hxs hx
   have hvl:=hvs.length
   have hel:=hv.length
   obtain ⟨qi,qv⟩:=q
   simp only at e1 hi
   subst e1
   have hsz:qv.cells.size=es:=by simpa [hxl] using hvl
   obtain ⟨d,hd,_⟩:=hv.get (i:=qi) (Sx hi)
   have hdl:d.length=es:=hl d (S1 hd)
   have hfl:=bH hl
   have hfit:qi*es+qv.cells.size<=arr.size:=by
    have e2:arr.size=ds.length*es:=by rw[<-hfl,<-ha]; simp
    have:=Um es (show qi+1<=ds.length by omega)
    rw[TB] at this; omega
   have hsp:qv.cells.toList=bk d 0 qv.cells.toList:=by
    unfold bk
    rw[We,TN,U1 r9,TG]
   have hset:(qv.cells.zipIdx.foldl (fun cs (c,j)=>cs.setIfInBounds (qi*es+j) c) arr).toList=(ds.set qi qv.cells.toList).flatten:=by
    have:=sy qv.cells.toList (qi*es) arr (by simpa using hfit)
    rw[rA hl hd 0 qv.cells.toList r9 hsp,<-ha,Ub,<-this,<-UU]
    simp
   obtain ⟨arr',ds',h1,h2,h3,h4⟩:=wN (els:=els.set qi xs) (ds:=ds.set qi qv.cells.toList) (arr:=qv.cells.zipIdx.foldl (fun cs (c,j)=>cs.setIfInBounds (qi*es+j) c) arr) (vparts:=vr) h hset
    (by
     obtain ⟨g1,g2⟩:=b9.1 hv
     refine b9.2 ⟨by simp[g1],fun j a' d' ha' hd'=>?_⟩
     by_cases e:j=qi
     ·subst e
      rw[SY o3] at ha'
      rw[SY o3] at hd'
      cases ha'; cases hd'; exact hvs
     ·rw[SO (TF e)] at ha' hd'
      exact g2 j a' d' ha' hd')
    (fun d' hd'=>by
     rcases VS hd' with h' | rfl
     ·exact hl d' h'
     ·simpa using hsz)
    (fun p hpm=>by have:=hc p (by simp[hpm]); simpa using this) ⟨by simpa using hp.1,fun j p' hj=>by have:=hp.2 (j+1) p' (by simpa using hj); simpa using this⟩
   refine⟨arr',ds',?_,h2,h3,h4⟩
   unfold Instr.fill
   simp only
   rw[SI (by simp[hsz]; omega)]
   exact h1
theorem lP {t:TypeId} {len:Nat} {parts:List (Nat×A)} {vparts:Array (Nat×Value)} {y:A} (h:aG P t len parts=some y) (hp:mf H g w parts vparts.toList) :
  ∃ e es els arr' ds,y=.imm els true/\jI P t=some e/\cz P e=some es/\es≠0/\(Instr.buildSlice t len vparts).run P w=.ok (.slice (some ⟨w.heap.size,0,none⟩) len len) (w.alloc (.cells arr' e))/\els.length=len/\arr'.toList=ds.flatten/\bf H g w els ds/\∀ d∈ds,d.length=es:=by
 unfold aG at h
 replace h:=bn h
 obtain ⟨e,he,h⟩:=h
 have hu:=jy he
 replace h:=bn h
 obtain ⟨es,hes,h⟩:=h
 replace h:=bn h
 obtain ⟨z,hz,h⟩:=h
 replace h:=dN h
 obtain ⟨h0,h⟩:=h
 replace h:=bc h
 obtain ⟨hc,h⟩:=h
 simp only[TE,Ui,Tw,SG,UR] at h0
 obtain ⟨⟨h0,h1⟩,h2⟩:=h0
 obtain ⟨it,v,hi,hv,rfl⟩:=fC hz
 obtain ⟨it',hi',hsz⟩:=gb hes
 rw[hi] at hi'; cases hi'
 have hvs:v.cells.size=es:=by simpa using h1
 cases hse:lK (List.replicate len (v.cells.toList.map xH)) parts with
 | none=>rw[hse] at h; cases h
 | some els=>
  rw[hse] at h
  cases h
  have hz0:0<v.cells.size:=o3
  have hall:∀ p∈parts,p.1<(List.replicate len (v.cells.toList.map xH)).length/\∃ xs,p.2.cells? = some xs/\xs.length=es:=fun p hpm=>by
   have:=SJ.1 hc p hpm
   simp only[Sz,SG] at this
   refine⟨by simpa using this.1,?_⟩
   have h3:=this.2
   split at h3
   ·rename_i xs hx; exact⟨xs,hx,by simpa using h3⟩
   ·cases h3
  have hrep:bf H g w (List.replicate len (v.cells.toList.map xH)) (List.replicate len v.cells.toList):=b9.2 ⟨r8,fun i a d ha hd=>by
   rw[Up] at ha hd
   split at ha
   ·rename_i hlt; rw[SH hlt] at hd; cases ha; cases hd; exact ij _
   ·cases ha⟩
  obtain ⟨arr',ds',f1,f2,f3,f4⟩:=wN (es:=es) (arr:=madeCells v.cells (len*es)) hse (by rw[<-hvs]; exact m9 _ _ hz0) hrep (fun d hd=>by rw[(UX.1 hd).2]; simpa using hvs) hall hp
  have hb:Below w.heap.size w (w.alloc (.cells arr' e)):=(Below.refl _ w).alloc (Sy _) _
  have hlen:els.length=len:=by
   have gen:∀ (parts:List (Nat×A)) (els els':List (List A)),lK els parts=some els'->els'.length=els.length:=by
    intro parts
    induction parts with
    | nil=>intro els els' h; simp only[lK,Ta] at h; rw[h]
    | cons p r ih=>
     intro els els' h
     obtain ⟨i,x⟩:=p
     simp only[lK] at h
     obtain ⟨xs,_,h⟩:=bn h
     rw[ih _ _ h]; simp
   rw[gen _ _ _ hse]; simp
  refine⟨e,es,els,arr',ds',rfl,he,hes,h0,?_,hlen,f2,f3,f4⟩
  unfold Instr.buildSlice
  have hsz':(sizeOf e).run P w=.ok es w:=dJ hes w
  have hbig:¬ (16777216<len*es):=o3
  by_cases hle:len*es=0
  ·rw[hle] at f1
   rw[show madeCells v.cells 0=#[] by simp[madeCells]] at f1
   simp[SN hu,hsz',hle,show Array.range 0=#[] from rfl,f1,newRow,newObj]
   rfl
  ·unfold madeCells at f1
   simp[SN hu,hsz',hle,hbig,zeroValue,typeInfo,hi,hv,f1,newRow,newObj]
   rfl
theorem oz (hr:Rel H g w0 w) {t:TypeId} {len:Nat} {parts:List (Nat×A)} {vparts:Array (Nat×Value)} {y:A} (h:aG P t len parts=some y) (hp:mf H g w parts vparts.toList) :
  ∃ d w',(Instr.buildSlice t len vparts).run P w=.ok d w'/\Below w.heap.size w w'/\VR H g w' y d:=by
 obtain ⟨e,es,els,arr',ds',rfl,_,_,_,hrun,hlen,f2,f3,f4⟩:=lP h hp
 have hb:Below w.heap.size w (w.alloc (.cells arr' e)):=(Below.refl _ w).alloc (Sy _) _
 refine⟨_,_,hrun,hb,?_⟩
 rw[VR]
 have he:=Ext.below hr hb
 refine⟨_,len,ds',es,by rw[hlen],o3,fun _=>hlen.symm,f4,fun _=>⟨w.heap.size,0,rfl,?_⟩,bf.ext he _ _ f3⟩
 exact mF hr (Ue w _) fun j v hj=>by rw[<-f2] at hj; simpa using hj
theorem qk (hr:Rel H g w0 w) {t:TypeId} {len:Nat} {parts:List (Nat×A)} {vparts:Array (Nat×Value)} {y:A} {H':ar} (lo:Nat) (h:pz P t len parts H=some (y,H')) (hp:mf H g w parts vparts.toList) :
  Step H g w0 w lo ((Instr.buildSlice t len vparts).run P w) y H':=by
 unfold pz at h
 obtain ⟨e0,h1,h⟩:=bn h
 obtain ⟨es0,h2,h⟩:=bn h
 obtain ⟨y0,h3,h⟩:=bn h
 obtain ⟨e,es,els,arr',ds',rfl,g1,g2,g3,hrun,hlen,f2,f3,f4⟩:=lP h3 hp
 rw[h1] at g1; cases g1
 rw[h2] at g2; cases g2
 simp only[Ta,Vp] at h
 obtain ⟨rfl,rfl⟩:=h
 have hb:Below w.heap.size w (w.alloc (.cells arr' e0)):=(Below.refl _ w).alloc (Sy _) _
 obtain ⟨k1,k2⟩:=hr.push hb (.row true es0 els) (some w.heap.size) [] (fun k hk=>by cases hk; exact⟨rfl,by show w.heap.size<(w.heap.push _).size; rw[Array.size_push]; exact Nat.lt_succ_self _⟩) (fun he=>⟨ds',bf.ext he _ _ f3,f4,fun _=>⟨w.heap.size,arr',e0,Gh.bq _ _ _ _,Ue w _,fun j v hj=>by rw[<-f2] at hj; simpa using hj⟩⟩)
 refine⟨_,_,_,hrun,k1,k2,?_,r8,fun b _ hb=>SP hb,rfl⟩
 rw[VR,dG]
 exact⟨r8,_,len,by rw[hlen],o3,fun _=>hlen.symm,fun _=>⟨w.heap.size,Gh.bq _ _ _ _,r8⟩,fun h=>by cases h⟩
theorem Fw {x:A} {c:Value} (h:VR H g w x c):VR H g w (vJ x) c:=by
 cases x with
 | imm els cl=>
  simp only[vJ]
  rw[VR] at h ⊢
  obtain ⟨a,cap,ds,es,h1,h2,_,h4,h5,h6⟩:=h
  exact⟨a,cap,ds,es,h1,h2,fun h=>(by cases h),h4,h5,h6⟩
 | _=>exact h
theorem pq:∀ {cs:List A} {ds:List Value},bl H g w cs ds->bl H g w (cs.map vJ) ds
 | [],_,h=>h
 | a :: as,_,h=>by
  rw[bl] at h
  obtain ⟨d,ds',rfl,h1,h2⟩:=h
  rw[TS,bl]
  exact⟨d,ds',rfl,Fw h1,pq h2⟩
theorem qQ (hr:Rel H g w0 w) {t:TypeId} {n c y:A} {cn cc:Value} {H':ar} (h:gG P t n c H=some (y,H')) (hn:VR H g w n cn) (hc:VR H g w c cc):H'=H/\∃ d w',(Instr.makeSlice t cn cc).run P w=.ok d w'/\Below w.heap.size w w'/\VR H g w' y d:=by
 unfold gG at h
 obtain ⟨e,he,h⟩:=bn h
 have hu:=jy he
 obtain ⟨es,hes,h⟩:=bn h
 obtain ⟨by_,hby,h⟩:=bn h
 obtain ⟨z,hz,h⟩:=bn h
 obtain ⟨ni,hni,h⟩:=bn h
 obtain ⟨ci,hci,h⟩:=bn h
 obtain ⟨h0,h⟩:=dN h
 simp only[TE,Ui,Tw,SG,UR] at h0
 obtain ⟨⟨⟨⟨h0,h1⟩,h2⟩,h3⟩,h4⟩:=h0
 cases h
 obtain ⟨it,v,hi,hv,rfl⟩:=fC hz
 obtain ⟨it',hi',hsz⟩:=gb hes
 rw[hi] at hi'; cases hi'
 have hvs:v.cells.size=es:=by simpa using h1
 have hbv:it.bytes=by_:=by unfold jv at hby; rw[hi] at hby; simpa using hby
 obtain ⟨kn,zn,rfl,hn0,rfl⟩:=n0 hni hn
 obtain ⟨kc,zc,rfl,hc0,rfl⟩:=n0 hci hc
 unfold db at h2 h3
 have hbz:(it.bytes:Int)*zc<=281474976710656:=by
  have:((zc.toNat*by_:Nat):Int)<=140737488355328:=o3
  rw[UY,Vf hc0,Wv,<-hbv] at this
  omega
 have hrun:=run_make (P:=P) w t e it v hu hi hv kn kc zn zc hn0 o3 hbz o3
 have hb:Below w.heap.size w (w.alloc (.cells (madeCells v.cells (zc.toNat*it.size)) e)):=(Below.refl _ w).alloc (Sy _) _
 rw[hsz] at hrun hb
 have hz0:0<v.cells.size:=o3
 refine⟨rfl,_,_,hrun,hb,?_⟩
 rw[VR]
 refine⟨_,zc.toNat,List.replicate zn.toNat v.cells.toList,es,r8,r9,fun h=>(by cases h),fun d hd=>by rw[(UX.1 hd).2]; simpa using hvs,fun _=>⟨w.heap.size,0,rfl,?_⟩,b9.2 ⟨r8,fun i a d ha hd=>?_⟩⟩
 ·exact mF hr (Ue w _) fun j x hj=>by rw[<-Tc,<-hvs,m9 _ _ hz0,<-h4]; exact hj
 ·rw[Up] at ha hd
  split at ha
  ·rename_i hlt; rw[SH hlt] at hd; cases ha; cases hd; exact pq (ij _)
  ·cases ha
theorem jG {ck:Bool} (hr:Rel H g w0 w) {t:TypeId} {n c y:A} {cn cc:Value} {H':ar} (lo:Nat) (h:dV ck P t n c H=some (y,H')) (hn:VR H g w n cn) (hc:VR H g w c cc):Step H g w0 w lo ((Instr.makeSlice t cn cc).run P w) y H':=by
 unfold dV at h
 replace h:=bn h
 obtain ⟨e,he,h⟩:=h
 have hu:=jy he
 replace h:=bn h
 obtain ⟨es,hes,h⟩:=h
 replace h:=bn h
 obtain ⟨by_,hby,h⟩:=h
 replace h:=bn h
 obtain ⟨z,hz,h⟩:=h
 replace h:=bn h
 obtain ⟨ni,hni,h⟩:=h
 replace h:=bn h
 obtain ⟨ci,hci,h⟩:=h
 replace h:=dN h
 obtain ⟨h0,h⟩:=h
 simp only[TE,Ui,Tw,SG,UR] at h0
 obtain ⟨⟨⟨⟨h0,h1⟩,h2⟩,h3⟩,h4⟩:=h0
 obtain ⟨it,v,hi,hv,rfl⟩:=fC hz
 obtain ⟨it',hi',hsz⟩:=gb hes
 rw[hi] at hi'; cases hi'
 have hvs:v.cells.size=es:=by simpa using h1
 have hbv:it.bytes=by_:=by unfold jv at hby; rw[hi] at hby; simpa using hby
 obtain ⟨kn,zn,rfl,hn0,rfl⟩:=n0 hni hn
 obtain ⟨kc,zc,rfl,hc0,rfl⟩:=n0 hci hc
 unfold db at h2 h3
 have hbz:(it.bytes:Int)*zc<=281474976710656:=by
  have:((zc.toNat*by_:Nat):Int)<=140737488355328:=o3
  rw[UY,Vf hc0,Wv,<-hbv] at this
  omega
 have hrun:=run_make (P:=P) w t e it v hu hi hv kn kc zn zc hn0 o3 hbz o3
 have hb:Below w.heap.size w (w.alloc (.cells (madeCells v.cells (zc.toNat*it.size)) e)):=(Below.refl _ w).alloc (Sy _) _
 rw[hsz] at hrun hb
 have hz0:0<v.cells.size:=o3
 rw[bp] at h
 split at h
 ·rename_i hnc
  have hnc:zn.toNat=zc.toNat:=by simpa using hnc
  cases h
  obtain ⟨r1,r2⟩:=hr.push hb (.row true es (List.replicate zn.toNat (bif ck then v.cells.toList.map xH else (v.cells.toList.map xH).map vJ))) (some w.heap.size) [] (fun k hk=>by cases hk; exact⟨rfl,r8⟩) (fun he'=>by
   refine⟨List.replicate zn.toNat v.cells.toList,b9.2 ⟨r8,fun i a d ha hd=>?_⟩,fun d hd=>by rw[(UX.1 hd).2]; simpa using hvs,fun _=>⟨w.heap.size,_,e,Gh.bq _ _ _ _,Ue w _,fun j x hj=>?_⟩⟩
   ·rw[Up] at ha hd
    split at ha
    ·rename_i hlt; rw[SH hlt] at hd; cases ha; cases hd; cases ck; exact pq (ij _); exact ij _
    ·cases ha
   ·rw[<-Tc,<-hvs,m9 _ _ hz0,<-hnc]; exact hj)
  refine⟨_,_,_,hrun,r1,r2,?_,r8,ic _ _ _,rfl⟩
  rw[VR,dG]
  refine⟨r8,_,zc.toNat,rfl,o3,fun _=>o3,fun _=>⟨w.heap.size,Gh.bq _ _ _ _,r8⟩,fun _ _ _ hlt=>o3⟩
 ·rw[bp] at h
  split at h
  ·rename_i hn00
   have hn00:zn.toNat=0:=by simpa using hn00
   cases h
   obtain ⟨r1,r2⟩:=hr.push hb (.row false es []) (some w.heap.size) [] (fun k hk=>by cases hk; exact⟨rfl,r8⟩) (fun he'=>by
    refine⟨?_,?_⟩
    ·rw[Gh.fM,bf]
    ·rw[Gh.fM]; simp)
   refine⟨_,_,_,hrun,r1,r2,?_,r8,ic _ _ _,rfl⟩
   rw[VR,dG]
   refine⟨r8,_,zc.toNat,by rw[hn00],o3,fun h=>(by cases h),fun h=>absurd h r8,fun _ _ _ _=>⟨w.heap.size,_,e,Gh.bq _ _ _ _,rfl,Ue w _,by rw[size_madeCells]; exact Sy _⟩⟩
  ·cases h
end
end Go.Proofs.Ytebkhfhcipnfgaa
