/-
 A slice that the call itself has built, by 'append': its elements read by a reader of laid values; what an append makes of it, as one run, and as a law for both walks.
-/
import Derived.Below
import Derived.ChangeArms
import Derived.Deep.Slices
import Derived.RangeFuncNested
import Derived.RangeFuncCalls
import Derived.RangeFuncLeaves
import Derived.OrdersIn
import Derived.TacticsIn
import Derived.Maps.AppendAt
import Derived.OwnWalkIn
import Derived.OwnWalk
namespace Go.Proofs.Ytdmgdjnadbakfaa
section
open Go.RowKit
def kq:Obj->Bool
 | .cells ..=>true
 | .map ..=>true
 | _=>false
def ft (B:Nat) (w w':World):Prop:=∀ (k:Nat) (o:Obj),k<B->w.heap[k]? = some o->kq o=true->w'.heap[k]? = some o
theorem ft.eE {B n:Nat} {w w':World} (h:Below B w w') (hn:n<=B):ft n w w':=fun k _ hk ho _=>(h.block k (Nat.lt_of_lt_of_le hk hn)).trans ho
theorem ft.mono {B n:Nat} {w w':World} (h:ft B w w') (hn:n<=B):ft n w w':=fun k o hk=>h k o (Nat.lt_of_lt_of_le hk hn)
theorem ft.refl (B:Nat) (w:World):ft B w w:=fun _ _ _ h _=>h
theorem ft.trans {B:Nat} {a b c:World} (h:ft B a b) (k:ft B b c):ft B a c:=fun i o hi ho hd=>k i o hi (h i o hi ho hd) hd
def eD (T:Nat->Prop) (w w':World):Prop:=∀ (k:Nat) (o:Obj),T k->w.heap[k]? = some o->kq o=true->w'.heap[k]? = some o
theorem eD.refl (T:Nat->Prop) (w:World):eD T w w:=fun _ _ _ h _=>h
theorem eD.trans {T:Nat->Prop} {a b c:World} (h:eD T a b) (k:eD T b c):eD T a c:=fun i o hi ho hd=>k i o hi (h i o hi ho hd) hd
theorem eD.sub {T T':Nat->Prop} {a b:World} (h:eD T a b) (hs:∀ k,T' k->T k):eD T' a b:=fun i o hi ho hd=>h i o (hs i hi) ho hd
theorem eD.keeps {T:Nat->Prop} {B:Nat} {a b:World} (h:eD T a b) (hs:∀ k,k<B->T k):ft B a b:=fun i o hi ho hd=>h i o (hs i hi) ho hd
theorem eD.alloc (T:Nat->Prop) (w:World) (o:Obj):eD T w (w.alloc o):=fun k _ _ h _=>(Below.heap_alloc w o k (Array.getElem?_eq_some_iff.1 h).1).trans h
theorem eD.eE {T:Nat->Prop} {w w':World} (h:Below w.heap.size w w'):eD T w w':=fun k _ _ ho _=>(h.block k (Array.getElem?_eq_some_iff.1 ho).1).trans ho
theorem ft.alloc (B:Nat) (w:World) (o:Obj):ft B w (w.alloc o):=fun k _ _ h _=>(Below.heap_alloc w o k (Array.getElem?_eq_some_iff.1 h).1).trans h
theorem yh {B:Nat} {w w':World} (h:ft B w w') {a:Addr} {v:Value} (hb:a.block<B) (hc:w.cell? a=some v):w'.cell? a=some v:=by
 have hx:∃ o,w.heap[a.block]? = some o/\kq o=true:=by
  unfold World.cell? at hc
  cases ho:w.heap[a.block]? with
  | none=>simp[ho] at hc
  | some o=>cases o<;>simp[ho] at hc<;>exact⟨_,rfl,rfl⟩
 obtain ⟨o,ho,hd⟩:=hx
 rw[<-hc]
 exact World.cell?_of_block ((h _ o hb ho hd).trans ho.symm)
structure zk (α:Type) where
 k:Nat
 rd:Nat->World->List Value->α->Prop
 len:∀ {B:Nat} {w:World} {cs:List Value} {a:α},rd B w cs a->cs.length=k
 mono:∀ {B B':Nat} {w:World} {cs:List Value} {a:α},B<=B'->rd B w cs a->rd B' w cs a
 stab:∀ {B:Nat} {w w':World} {cs:List Value} {a:α},ft B w w'->rd B w cs a->rd B w' cs a
def LK:zk Int:={ k:=1,rd:=fun _ _ cs n=>cs=[.int .i64 n]/\-9223372036854775808<=n/\n<=9223372036854775807,len:=fun h=>by rw[h.1]; rfl,mono:=fun _ h=>h,stab:=fun _ h=>h }
def jr {α:Type} (L:zk α) (B:Nat) (w:World) (b off i:Nat) (x:α):Prop :=
 ∃ vs:List Value,L.rd B w vs x/\∀ j,j<L.k->w.cell? ⟨b,off+i*L.k+j,none⟩=vs[j]?
def fH {α:Type} (L:zk α) (B:Nat) (w:World) (v:Value) (l:List α):Prop :=
 ∃ a cap,v=.slice a l.length cap/\l.length<=cap/\cap<=maxLen/\(0<l.length->∃ b off,a=some ⟨b,off,none⟩/\b<B/\∀ i (h:i<l.length),jr L B w b off i l[i])
theorem jr.mono {α:Type} {L:zk α} {B B':Nat} {w:World} {b off i:Nat} {x:α} (hB:B<=B') (h:jr L B w b off i x):jr L B' w b off i x:=by
 obtain ⟨vs,h1,h2⟩:=h
 exact⟨vs,L.mono hB h1,h2⟩
theorem jr.stab {α:Type} {L:zk α} {B:Nat} {w w':World} {b off i:Nat} {x:α} (hb:b<B) (hw:ft B w w') (h:jr L B w b off i x):jr L B w' b off i x:=by
 obtain ⟨vs,h1,h2⟩:=h
 exact⟨vs,L.stab hw h1,fun j hj=>by
  have hlt:j<vs.length:=by rw[L.len h1]; exact hj
  have h3:=h2 j hj
  rw[List.getElem?_eq_getElem hlt] at h3 ⊢
  exact yh hw hb h3⟩
theorem fH.mono {α:Type} {L:zk α} {B B':Nat} {w:World} {v:Value} {l:List α} (hB:B<=B') (h:fH L B w v l):fH L B' w v l:=by
 obtain ⟨a,cap,e,h1,h2,h3⟩:=h
 exact⟨a,cap,e,h1,h2,fun hp=>let ⟨b,off,e',hb,h4⟩:=h3 hp; ⟨b,off,e',Nat.lt_of_lt_of_le hb hB,fun i hi=>(h4 i hi).mono hB⟩⟩
theorem fH.stab {α:Type} {L:zk α} {B:Nat} {w w':World} {v:Value} {l:List α} (hw:ft B w w') (h:fH L B w v l):fH L B w' v l:=by
 obtain ⟨a,cap,e,h1,h2,h3⟩:=h
 exact⟨a,cap,e,h1,h2,fun hp=>let ⟨b,off,e',hb,h4⟩:=h3 hp; ⟨b,off,e',hb,fun i hi=>(h4 i hi).stab hb hw⟩⟩
theorem fH.nil {α:Type} (L:zk α) (B:Nat) (w:World):fH L B w (.slice none 0 0) []:=⟨none,0,rfl,Nat.le_refl _,by simp[maxLen],fun h=>by simp at h⟩
theorem jr.one {α:Type} {L:zk α} {B:Nat} {w:World} {b off i:Nat} {x:α} {v:Value} (h:jr L B w b off i x) (hk:L.k=1) (hv:∀ vs,L.rd B w vs x->vs=[v]):w.cell? ⟨b,off+i,none⟩=some v:=by
 obtain ⟨vs,h1,h2⟩:=h
 have:=h2 0 (by omega)
 rw[hv vs h1,hk] at this
 simpa using this
theorem jr.int {B:Nat} {w:World} {b off i:Nat} {x:Int} (h:jr LK B w b off i x):w.cell? ⟨b,off+i,none⟩=some (.int .i64 x)/\-9223372036854775808<=x/\x<=9223372036854775807:=by
 refine⟨h.one rfl (fun vs hv=>hv.1),?_⟩
 obtain ⟨vs,h1,_⟩:=h
 exact h1.2
end
section
open Go.RowKit
structure cb (B:Nat) (W W':World):Prop where
 os:W'.os=W.os
 tape:W'.tape=W.tape
 output:W'.output=W.output
 size:W.heap.size<=W'.heap.size
 low:∀ (k:Nat),k<B->k<W.heap.size->W'.heap[k]? = W.heap[k]?
 data:∀ (k:Nat) (o:Obj),W.heap[k]? = some o->kq o=true->W'.heap[k]? = some o
theorem cb.refl (B:Nat) (W:World):cb B W W:=⟨rfl,rfl,rfl,Nat.le_refl _,fun _ _ _=>rfl,fun _ _ h _=>h⟩
theorem cb.trans {B:Nat} {X Y Z:World} (h:cb B X Y) (k:cb B Y Z):cb B X Z :=
 ⟨k.os.trans h.os,k.tape.trans h.tape,k.output.trans h.output,Nat.le_trans h.size k.size,fun i hi hs=>(k.low i hi (Nat.lt_of_lt_of_le hs h.size)).trans (h.low i hi hs),fun i o hi ho=>k.data i o (h.data i o hi ho) ho⟩
theorem cb.mono {B B':Nat} {W W':World} (h:cb B W W') (hB:B'<=B):cb B' W W':=⟨h.os,h.tape,h.output,h.size,fun k hk=>h.low k (Nat.lt_of_lt_of_le hk hB),h.data⟩
theorem cb.alloc (B:Nat) (W:World) (o:Obj):cb B W (W.alloc o) :=
 ⟨rfl,rfl,rfl,by simp,fun k _ hs=>Below.heap_alloc W o k hs,fun k _ hk _=>(Below.heap_alloc W o k (Array.getElem?_eq_some_iff.1 hk).1).trans hk⟩
theorem cb.putObj {B:Nat} {W:World} {l:Nat} {o:Obj} (o':Obj) (hB:B<=l) (hl:W.heap[l]? = some o) (ho:kq o=false):cb B W (W.putObj l o') :=
 ⟨rfl,rfl,rfl,by simp,fun k hk _=>World.putObj_heap_other (by omega),fun k _ hk hd=>by
  by_cases e:k=l
  ·subst e; rw[hl] at hk; cases hk; rw[ho] at hd; cases hd
  ·exact(World.putObj_heap_other e).trans hk⟩
theorem cb.eE {B:Nat} {W W':World} (h:Below W.heap.size W W'):cb B W W' :=
 ⟨h.os,h.tape,h.output,h.size,fun k _ hs=>h.block k hs,fun k _ hk _=>(h.block k (Array.getElem?_eq_some_iff.1 hk).1).trans hk⟩
theorem cb.drew (B:Nat) (W:World):cb B W W.drew:=⟨rfl,rfl,rfl,Nat.le_refl _,fun _ _ _=>rfl,fun _ _ h _=>h⟩
def Calm (B:Nat) (I:World->Prop):Prop:=∀ W W',I W->cb B W W'->I W'
theorem Calm.and {B:Nat} {I J:World->Prop} (h:Calm B I) (k:Calm B J):Calm B fun W=>I W/\J W:=fun W W' hs hc=>⟨h W W' hs.1 hc,k W W' hs.2 hc⟩
theorem Calm.pure (B:Nat) (p:Prop):Calm B fun _=>p:=fun _ _ h _=>h
theorem Calm.ex {α:Type} {B:Nat} {I:α->World->Prop} (h:∀ x,Calm B (I x)):Calm B fun W=>∃ x,I x W:=fun W W' ⟨x,hx⟩ hc=>⟨x,h x W W' hx hc⟩
theorem Calm.block {B:Nat} (b:Nat) (o:Obj) (hd:kq o=true):Calm B fun W=>W.heap[b]? = some o:=fun _ _ h hc=>hc.data b o h hd
theorem Calm.cell {B:Nat} (a:Addr) (v:Value):Calm B fun W=>W.cell? a=some v:=fun W W' h hc=>by
 have h1:W.cell? a=some v:=h
 obtain ⟨o,ho,hc1⟩:=cells_of_cell h1
 have h2:=hc.data _ _ ho (by cases o<;>first | rfl | (cases hc1))
 show W'.cell? a=some v
 rw[<-h1]
 exact World.cell?_of_block (h2.trans ho.symm)
theorem Calm.below {B n₀:Nat} {w:World} (hn:n₀<=w.heap.size) (hB:n₀<=B):Calm B fun W=>Below n₀ w W:=fun W W' h hc =>
 h.trans ⟨hc.os,hc.tape,hc.output,hc.size,fun k hk=>hc.low k (by omega) (by have:=h.size; omega)⟩
theorem cb.keeps {B n:Nat} {W W':World} (h:cb B W W'):ft n W W':=fun k o _ hk ho=>h.data k o hk ho
theorem Calm.slice {α:Type} (L:zk α) {B:Nat} (n:Nat) (v:Value) (l:List α):Calm B fun W=>fH L n W v l:=fun _ _ h hc=>h.stab hc.keeps
structure eu (B:Nat) (W W':World):Prop where
 size:W.heap.size<=W'.heap.size
 same:∀ (k:Nat) (o:Obj),B<=k->W.heap[k]? = some o->kq o=false->W'.heap[k]? = some o
theorem eu.refl (B:Nat) (W:World):eu B W W:=⟨Nat.le_refl _,fun _ _ _ h _=>h⟩
theorem eu.trans {B:Nat} {X Y Z:World} (h:eu B X Y) (k:eu B Y Z):eu B X Z:=⟨Nat.le_trans h.size k.size,fun i o hB hi ho=>k.same i o hB (h.same i o hB hi ho) ho⟩
theorem eu.mono {B B':Nat} {W W':World} (h:eu B W W') (hB:B<=B'):eu B' W W':=⟨h.size,fun k o hk=>h.same k o (Nat.le_trans hB hk)⟩
theorem eu.eE {B:Nat} {W W':World} (h:Below W.heap.size W W'):eu B W W':=⟨h.size,fun k _ _ hk _=>(h.block k (Array.getElem?_eq_some_iff.1 hk).1).trans hk⟩
theorem eu.alloc (B:Nat) (W:World) (o:Obj):eu B W (W.alloc o):=⟨by simp,fun k _ _ hk _=>(Below.heap_alloc W o k (Array.getElem?_eq_some_iff.1 hk).1).trans hk⟩
theorem eu.drew (B:Nat) (W:World):eu B W W.drew:=⟨Nat.le_refl _,fun _ _ _ h _=>h⟩
theorem eu.grown {B:Nat} {W W':World} {row:Option Nat} (hg:W.grownBy W' row) (hrow:∀ j,row=some j->j<B∨∃ o,W.heap[j]? = some o/\kq o=true):eu B W W' :=
 ⟨hg.size,fun k o hB hk ho=>(hg.block k (Array.getElem?_eq_some_iff.1 hk).1 (fun e=>by
  rcases hrow k e.symm with h | ⟨o',h1,h2⟩
  ·omega
  ·rw[hk] at h1; cases h1; rw[ho] at h2; cases h2)).trans hk⟩
def qT (F:Fence):Prop:=F.depth=none/\∀ f,F.fn f
theorem qT.inRound {F:Fence} (h:qT F) (l:Nat):qT (F.inRound l):=h
theorem ft.putObj (B:Nat) {X:World} {l:Nat} {o:Obj} (o':Obj) (hl:X.heap[l]? = some o) (ho:kq o=false):ft B X (X.putObj l o'):=fun k o'' _ hk hd=>by
 by_cases e:k=l
 ·subst e; rw[hl] at hk; cases hk; rw[ho] at hd; cases hd
 ·exact(World.putObj_heap_other e).trans hk
theorem eD.putObj (T:Nat->Prop) {X:World} {l:Nat} {o:Obj} (o':Obj) (hl:X.heap[l]? = some o) (ho:kq o=false):eD T X (X.putObj l o'):=fun k o'' _ hk hd=>by
 by_cases e:k=l
 ·subst e; rw[hl] at hk; cases hk; rw[ho] at hd; cases hd
 ·exact(World.putObj_heap_other e).trans hk
variable {F:Fence} {n:Nat} {P:Program}
def Marks (B:Nat) (W:World) (ds:List Deferred):Prop:=∃ rs:List Nat,ds=rs.map (fun r=>{ target:=.collected r,args:=#[] })/\rs.Nodup/\∀ r∈rs,B<=r/\W.heap[r]? = some (.deferred (some []))
theorem Marks.nil (B:Nat) (W:World):Marks B W []:=⟨[],rfl,List.nodup_nil,fun _ h=>by cases h⟩
theorem Marks.cons {B D:Nat} {W:World} {ds:List Deferred} (h:Marks B W ds) (hD:B<=D) (hW:W.heap[D]? = some (.deferred (some []))) (hn:∀ r,(⟨.collected r,#[]⟩:Deferred)∈ds->r≠D):Marks B W ({ target:=.collected D,args:=#[] } :: ds):=by
 obtain ⟨rs,rfl,h2,h3⟩:=h
 refine⟨D :: rs,rfl,List.nodup_cons.2 ⟨fun hm=>hn D (List.mem_map.2 ⟨D,hm,rfl⟩) rfl,h2⟩,fun r hr=>?_⟩
 rcases List.mem_cons.1 hr with rfl | hr
 ·exact⟨hD,hW⟩
 ·exact h3 r hr
theorem Marks.lt {B:Nat} {W:World} {ds:List Deferred} (h:Marks B W ds) {r:Nat} (hr:(⟨.collected r,#[]⟩:Deferred)∈ds):r<W.heap.size:=by
 obtain ⟨rs,rfl,h2,h3⟩:=h
 obtain ⟨q,hq,e⟩:=List.mem_map.1 hr
 cases e
 exact(Array.getElem?_eq_some_iff.1 (h3 _ hq).2).1
theorem Marks.kept {B C:Nat} {W W':World} {ds:List Deferred} (h:Marks B W ds) (hk:eu C W W') (hC:C<=B):Marks B W' ds:=by
 obtain ⟨rs,e,h2,h3⟩:=h
 exact⟨rs,e,h2,fun r hr=>⟨(h3 r hr).1,hk.same r _ (Nat.le_trans hC (h3 r hr).1) (h3 r hr).2 rfl⟩⟩
theorem Marks.below {B C:Nat} {W W':World} {ds:List Deferred} (h:Marks B W ds) (hk:Below C W W') (hC:W.heap.size<=C):Marks B W' ds:=by
 obtain ⟨rs,e,h2,h3⟩:=h
 refine⟨rs,e,h2,fun r hr=>⟨(h3 r hr).1,(hk.block r ?_).trans (h3 r hr).2⟩⟩
 have:=(Array.getElem?_eq_some_iff.1 (h3 r hr).2).1
 omega
end
section
def xK (F:Fence) (n:Nat) (P:Program) (o:Oper) (ev:Operand->Value) (w:World) (R:Value->World->Prop):Prop :=
 match (execOp ev o).run P w with
 | .ok (.value v) w'=>R v w'
 | .ok .skip w'=>R undef w'
 | .ok (.enter f args) w'=>CallsIn F (n - 1) P f args w' fun
   | .returned v,w''=>R v w''
   | _,_=>False
 | .ok (.row row args) w'=>RowsIn F (n - 1) P row args w' R
 | .ok (.round l f tmps assign body) w'=>RoundIn F (n - 1) P l f tmps assign body w' fun
   | .returned v,w''=>R v w''
   | _,_=>False
 | _=>False
theorem xK.mono {F:Fence} {n:Nat} {P:Program} {o:Oper} {ev:Operand->Value} {w:World} {R R':Value->World->Prop} (h:xK F n P o ev w R) (hr:∀ v w',R v w'->R' v w'):xK F n P o ev w R':=by
 unfold xK at *
 generalize (execOp ev o).run P w=r at *
 cases r with
 | ok x w' =>
  cases x<;>simp only at h ⊢<;>first
   | exact hr _ _ h
   | exact h.mono fun e w'' he=>by cases e<;>first | exact hr _ _ he | exact he
   | exact h.mono fun v w'' he=>hr _ _ he
 | halt x w'=>exact h
def slot (a:Act) (t:Nat):Value:=a.tmps.getD t undef
def cg (ops:Array Oper) (i:Nat):Option Nat:=(ops[i]?).bind (·.dst)
def fp (ops:Array Oper) (i j:Nat):Bool:=((Region.before ops).getD i 0).testBit j
def ma (o:Oper):Bool:=match o.op with | .select ..=>false | .defer _=>false | _=>true
def tj (ops:Array Oper) (N:Nat):Bool :=
 (List.range ops.size).all fun i=>match ops[i]? with
  | none=>true
  | some o=>ma o&&(match o.dst with | some d=>decide (d<N) | none=>true) &&
   (o.after.all fun e=>!Region.binds .any e || decide (e.on<i)) &&
   ((List.range ops.size).all fun j=>i==j || o.dst.isNone || cg ops j != o.dst) &&
   ((List.range ops.size).all fun j=>match cg ops j with
    | none=>true
    | some t=>!(o.looksAt ops).contains t || i==j || fp ops i j || fp ops j i) &&
   !fp ops i i
def eH (_ops:Array Oper) (listed:Array Bool) (i:Nat):Prop:=listed.getD i false=true
variable {F:Fence} {n:Nat} {P:Program} {ops:Array Oper} {Q:Exit->Act->World->Prop}
inductive nN (ops:Array Oper):Nat->Nat->Prop
 | edge {i:Nat} {o:Oper} {e:Edge} (ho:ops[i]? = some o) (he:e∈o.after) (hb:Region.binds .any e=true):nN ops i e.on
 | thru {i j:Nat} {o:Oper} {e:Edge} (ho:ops[i]? = some o) (he:e∈o.after) (hb:Region.binds .any e=true) (h:nN ops e.on j):nN ops i j
theorem rb (acc:Array Nat) (hacc:∀ i j,(acc.getD i 0).testBit j=true->nN ops i j) {i:Nat} {o:Oper} (ho:ops[i]? = some o) :
  ∀ (l:List Edge) (s:Nat),(∀ e∈l,e∈o.after)->(∀ j,s.testBit j=true->nN ops i j)->∀ j,(l.foldl (fun s e=>if Region.binds .any e then s ||| 2 ^ e.on ||| acc.getD e.on 0 else s) s).testBit j=true->nN ops i j
 | [],s,_,hs,j,h=>hs j h
 | e :: l,s,hl,hs,j,h=>by
  rw[List.foldl_cons] at h
  refine rb acc hacc ho l _ (fun e he=>hl e (by simp[he])) (fun j hj=>?_) j h
  split at hj
  ·rename_i hb
   rw[Nat.testBit_or,Nat.testBit_or,Bool.or_eq_true,Bool.or_eq_true] at hj
   rcases hj with (hj | hj) | hj
   ·exact hs j hj
   ·rw[Nat.testBit_two_pow] at hj
    obtain rfl:e.on=j:=by simpa using hj
    exact .edge ho (hl e (by simp)) hb
   ·exact .thru ho (hl e (by simp)) hb (hacc _ _ hj)
  ·exact hs j hj
theorem fJ (i j:Nat) (h:fp ops i j=true):nN ops i j:=by
 unfold fp Region.before at h
 rw[<-Array.foldl_toList] at h
 have key:∀ (l:List Oper) (k:Nat) (acc:Array Nat),(∀ m,l[m]? = ops[k+m]?)->acc.size=k->(∀ i j,(acc.getD i 0).testBit j=true->nN ops i j) ->
   ∀ i j,((l.foldl (fun acc o=>acc.push (o.after.foldl (fun s e=>if Region.binds .any e then s ||| 2 ^ e.on ||| acc.getD e.on 0 else s) 0)) acc).getD i 0).testBit j=true->nN ops i j:=by
  intro l
  induction l with
  | nil=>intro k acc _ _ hacc i j h; exact hacc i j h
  | cons o l ih =>
   intro k acc hl hk hacc i j h
   refine ih (k+1) _ (fun m=>by have:=hl (m+1); simpa [Nat.add_assoc,Nat.add_comm 1 m] using this) (by simp[hk]) (fun i j hij=>?_) i j h
   have ho:ops[k]? = some o:=by simpa using (hl 0).symm
   by_cases e:i=acc.size
   ·subst e
    rw[hk]
    have e2:∀ X:Nat,(acc.push X).getD acc.size 0=X:=fun X=>by simp
    rw[e2,<-Array.foldl_toList] at hij
    exact rb acc hacc ho _ 0 (fun e he=>Array.mem_toList_iff.1 he) (fun j hj=>by simp at hj) j hij
   ·refine hacc i j ?_
    have:(acc.push (o.after.foldl (fun s e=>if Region.binds .any e then s ||| 2 ^ e.on ||| acc.getD e.on 0 else s) 0)).getD i 0=acc.getD i 0:=by
     simp only[Array.getD_eq_getD_getElem?,Array.getElem?_push,if_neg e]
    rw[this] at hij; exact hij
 exact key ops.toList 0 #[] (by simp) rfl (fun i j h=>by simp at h) i j h
theorem kI {listed:Array Bool} (hcl:∀ i o,ops[i]? = some o->eH ops listed i->∀ e∈o.after,Region.binds .any e=true->eH ops listed e.on)
  (i j:Nat) (hi:∃ o,ops[i]? = some o/\∀ e∈o.after,Region.binds .any e=true->eH ops listed e.on) (h:fp ops i j=true):eH ops listed j:=by
 have hw:=fJ i j h
 clear h
 induction hw with
 | edge ho he hb =>
  obtain ⟨o',ho',hall⟩:=hi
  rw[ho] at ho'; cases ho'
  exact hall _ he hb
 | thru ho he hb hw ih =>
  obtain ⟨o',ho',hall⟩:=hi
  rw[ho] at ho'; cases ho'
  refine ih ?_
  have hc:=hall _ he hb
  cases hw with
  | edge ho2 _ _=>exact⟨_,ho2,hcl _ _ ho2 hc⟩
  | thru ho2 _ _ _=>exact⟨_,ho2,hcl _ _ ho2 hc⟩
theorem filter_lt {α:Type} (p q:α->Bool):∀ l:List α,(∀ x∈l,q x=true->p x=true)->(∃ x∈l,p x=true/\q x=false)->(l.filter q).length<(l.filter p).length
 | [],_,⟨x,hx,_⟩=>by cases hx
 | y :: l,h,⟨x,hx,hp,hq⟩=>by
  have hle:(l.filter q).length<=(l.filter p).length:=by
   clear hx hp hq
   induction l with
   | nil=>simp
   | cons z l ih =>
    have hz:=h z (by simp)
    have:=ih (fun x hx=>h x (by rcases List.mem_cons.1 hx with rfl | hx; simp; simp[hx]))
    simp only[List.filter_cons]
    cases hqz:q z<;>cases hpz:p z<;>simp<;>first | omega | skip
    rw[hz hqz] at hpz; cases hpz
  have hy:=h y (by simp)
  simp only[List.filter_cons]
  rcases List.mem_cons.1 hx with rfl | hx
  ·rw[hp,hq]; simp; omega
  ·have:=filter_lt p q l (fun x hx=>h x (by simp[hx])) ⟨x,hx,hp,hq⟩
   cases hqy:q y<;>cases hpy:p y<;>simp<;>first | omega | skip
   rw[hy hqy] at hpy; cases hpy
def Ay (ops:Array Oper) (listed:Array Bool):Nat:=((List.range ops.size).filter fun i=>!listed.getD i true).length
theorem fi {a:Act} {d:Nat} {v:Value} (h:d<a.tmps.size):slot (a.put (some d) v) d=v:=by
 simp[slot,Act.put,h]
theorem dL {a:Act} {dst:Option Nat} {t:Nat} {v:Value} (h:dst≠some t):slot (a.put dst v) t=slot a t:=by
 cases dst with
 | none=>rfl
 | some d =>
  have hne:d≠t:=fun e=>h (by rw[e])
  simp[slot,Act.put,Array.getElem?_setIfInBounds_ne hne]
theorem kv (hWF:qT F) {i:Nat} {o:Oper} (ho:ops[i]? = some o) (hp:ma o=true) {a:Act} {w:World} {K:Act->World->Prop} {R:Value->World->Prop}
  (h:if Region.wanted o (yielded ops a.tmps)=true then xK F n P o a.eval w R else R undef w) (hK:∀ v w',R v w'->K (a.put o.dst v) w'):wpOpIn F n P ops Q i K a w:=by
 unfold wpOpIn
 simp only[ho]
 split
 ·rename_i hw
  rw[if_pos hw] at h
  refine⟨fun f _=>hWF.2 f,?_⟩
  rw[Oper.semAt_eq _ _ _ (fun c hc=>by unfold ma at hp; rw[hc] at hp; cases hp)]
  unfold xK at h
  generalize (execOp a.eval o).run P w=r at *
  have hd:F.depth.isSome=true->1<=n:=fun hs=>by rw[hWF.1] at hs; cases hs
  cases r with
  | ok x w' =>
   cases x<;>simp only[Oper.uponIn] at h ⊢<;>first
    | exact hK _ _ h
    | exact⟨hd,h.mono fun e w'' he=>by cases e<;>first | exact hK _ _ he | exact he.elim⟩
    | exact⟨hd,h.mono fun v w'' he=>hK _ _ he⟩
    | exact h.elim
  | halt x w'=>exact h.elim
 ·rename_i hw
  rw[if_neg hw] at h
  exact⟨fun f _=>hWF.2 f,hK _ _ h⟩
def rA (ops:Array Oper) (k:Nat):Array Bool:=((List.range ops.size).map fun i=>decide (i<k)).toArray
def fm (ops:Array Oper) (m:Nat):Bool:=decide (m<=ops.size)&&((List.range ops.size).all fun i=>decide (i<m) || (List.range m).all fun j=>fp ops i j)&&(List.range (ops.size+1)).all fun k=>decide (k<m) || (Region.ready .any ops (rA ops k)==if k<ops.size then [k] else [])
theorem tV {listed:Array Bool} {k:Nat} (hls:listed.size=ops.size) (hc:∀ i,i<ops.size->(eH ops listed i↔i<k)):listed=rA ops k:=by
 refine Array.ext (by simp[rA,hls]) fun i h1 h2=>?_
 have:=hc i (by omega)
 unfold eH at this
 simp only[rA,List.getElem_toArray,List.getElem_map,List.getElem_range]
 have e:listed.getD i false=listed[i]:=by simp[h1]
 rw[e] at this
 cases h:listed[i] with
 | true=>rw[h] at this; simpa using this.1 rfl
 | false=>rw[h] at this; simp at this; simp; exact this
theorem pz {m:Nat} (ht:fm ops m=true) :
  ∀ (r k:Nat),k+r=ops.size->m<=k->∀ (fuel:Nat) (listed:Array Bool) (a:Act) (w:World),r<=fuel->listed.size=ops.size->(∀ i,i<ops.size->(eH ops listed i↔i<k)) ->
   wpListIn F n P ops Q (ops.toList.drop k) a w->wpAnyIn F n P .any ops Q fuel listed a w:=by
 have hready:∀ k,k<=ops.size->m<=k->Region.ready .any ops (rA ops k)=if k<ops.size then [k] else []:=fun k hk hm=>by
  simp only[fm,Bool.and_eq_true] at ht
  have:=List.all_eq_true.1 ht.2 k (List.mem_range.2 (by omega))
  simp only[Bool.or_eq_true,decide_eq_true_eq,beq_iff_eq] at this
  exact this.resolve_left (by omega)
 intro r
 induction r with
 | zero =>
  intro k hk hm fuel listed a w _ hls hc h
  have e:=tV hls hc
  have hr:Region.ready .any ops listed=[]:=by rw[e,hready k (by omega) hm,if_neg (by omega)]
  rw[List.drop_of_length_le (by simp; omega)] at h
  exact wpAnyIn_done hr h fuel
 | succ r ih =>
  intro k hk hm fuel listed a w hf hls hc h
  have e:=tV hls hc
  have hr:Region.ready .any ops listed=[k]:=by rw[e,hready k (by omega) hm,if_pos (by omega)]
  obtain ⟨fuel,rfl⟩:∃ f,fuel=f+1:=⟨fuel - 1,by omega⟩
  have hlt:k<ops.toList.length:=by simp; omega
  rw[List.drop_eq_getElem_cons hlt] at h
  have ho:ops[k]? = some ops.toList[k]:=by rw[Array.getElem_toList]; exact Array.getElem?_eq_getElem _
  refine wpAnyIn_all hr (by simp) fun i hi=>?_
  obtain rfl:i=k:=by simpa using hi
  unfold wpOpIn
  simp only[ho]
  have next:∀ a w,wpListIn F n P ops Q (ops.toList.drop (i+1)) a w->wpAnyIn F n P .any ops Q fuel (listed.setIfInBounds i true) a w:=fun a w h'=>by
   refine ih (i+1) (by omega) (by omega) fuel _ a w (by omega) (by simpa using hls) (fun j hj=>?_) h'
   by_cases e:j=i
   ·subst e; unfold eH; simp[hls,hj]
   ·have:=hc j hj
    unfold eH at this ⊢
    rw[getD_set_ne false (Ne.symm e),this]; omega
  unfold wpListIn at h
  split
  ·rename_i hw; rw[if_pos hw] at h; exact Oper.wpIn_mono next h
  ·rename_i hw; rw[if_neg hw] at h; exact⟨h.1,next _ _ h.2⟩
def LW (F:Fence) (n:Nat) (P:Program) (ops:Array Oper) (Q:Exit->Act->World->Prop) (a:Act) (w:World):Prop:=∀ t,wpOpsIn F n P ops Q (Region.schedule (P.follows .mixedOrders) ops t) a { w with drawn:=w.drawn+1 }
theorem LW.wpIn {id:Nat} {a:Act} {w:World} (h:LW F n P ops Q a w):(Code.region id ops true).wpIn F n P Q a w:=wpIn_region_draw h
theorem Bp {a:Act} {w:World} (hm:P.follows .mixedOrders=true) (h:wpAnyIn F n P .any ops Q ops.size (Array.replicate ops.size false) a { w with drawn:=w.drawn+1 }):LW F n P ops Q a w:=fun t=>by
 simp only[Region.schedule,hm,Bool.true_or,if_true]
 exact wpAnyIn_sound ops.size t _ a _ h
theorem Bd {a0:Act} {w0:World} (hWF:qT F) (hm:P.follows .mixedOrders=true) (N m:Nat) (hN:a0.tmps.size=N) (gP:tj ops N=true) (chkt:fm ops m=true)
  (S:World->Prop) (Ext:World->World->Prop) (V:Nat->Value->World->Prop) (hV:∀ i v w w',V i v w->Ext w w'->V i v w') (hS:S w0.drew)
  (hstep:∀ i o,i<m->ops[i]? = some o->∀ (a:Act) (w:World),S w ->
   (∀ t∈o.looksAt ops,∀ j,cg ops j=some t->fp ops i j=true->V j (slot a t) w) ->
   (∀ t∈o.looksAt ops,(∀ j,cg ops j=some t->fp ops i j=false)->slot a t=slot a0 t)->a.tmps.size=N ->
   if Region.wanted o (yielded ops a.tmps)=true then xK F n P o a.eval w (fun v w'=>V i v w'/\S w'/\Ext w w') else V i undef w/\S w/\Ext w w)
  (hend:∀ (a:Act) (w:World),S w->a.defers=a0.defers->a.tmps.size=N->(∀ i t,i<m->cg ops i=some t->V i (slot a t) w)->(∀ t,(∀ i,i<m->cg ops i≠some t)->slot a t=slot a0 t) ->
   (∀ i o,i<m->ops[i]? = some o->o.dst=none->∃ v,V i v w)->wpListIn F n P ops Q (ops.toList.drop m) a w) :
  LW F n P ops Q a0 w0:=by
 have chk1:∀ i o,ops[i]? = some o->ma o=true/\(∀ d,o.dst=some d->d<N)/\(∀ e∈o.after,Region.binds .any e=true->e.on<i)/\(∀ j d,i≠j->o.dst=some d->cg ops j≠some d) ∧
   (∀ j t,cg ops j=some t->t∈o.looksAt ops->i=j∨fp ops i j=true∨fp ops j i=true)/\fp ops i i=false:=by
  intro i o ho
  have hi:i<ops.size:=(Array.getElem?_eq_some_iff.1 ho).1
  have h:=List.all_eq_true.1 gP i (List.mem_range.2 hi)
  simp only[ho,Bool.and_eq_true] at h
  obtain ⟨⟨⟨⟨⟨h1,h2⟩,h3⟩,h4⟩,h5⟩,h6⟩:=h
  refine⟨h1,fun d hd=>by rw[hd] at h2; simpa using h2,fun e he hb=>?_,fun j d hij hd hj=>?_,fun j t hj ht=>?_,by simpa using h6⟩
  ·have:=Array.all_eq_true_iff_forall_mem.1 h3 e he
   rw[hb] at this; simpa using this
  ·have hjs:j<ops.size:=by
    unfold cg at hj
    cases hx:ops[j]? with
    | none=>rw[hx] at hj; cases hj
    | some _=>exact(Array.getElem?_eq_some_iff.1 hx).1
   have:=List.all_eq_true.1 h4 j (List.mem_range.2 hjs)
   rw[hd,hj] at this
   simp at this
   exact hij this
  ·have hjs:j<ops.size:=by
    unfold cg at hj
    cases hx:ops[j]? with
    | none=>rw[hx] at hj; cases hj
    | some _=>exact(Array.getElem?_eq_some_iff.1 hx).1
   have:=List.all_eq_true.1 h5 j (List.mem_range.2 hjs)
   rw[hj] at this
   simp[ht] at this
   rcases this with (h | h) | h
   ·exact .inl h
   ·exact .inr (.inl h)
   ·exact .inr (.inr h)
 have hm2:m<=ops.size:=by simp only[fm,Bool.and_eq_true,decide_eq_true_eq] at chkt; exact chkt.1.1
 have main:∀ (fuel:Nat) (listed:Array Bool) (a:Act) (w:World),Ay ops listed<=fuel->listed.size=ops.size->S w->a.defers=a0.defers->a.tmps.size=N ->
   (∀ i o,ops[i]? = some o->eH ops listed i->∀ e∈o.after,Region.binds .any e=true->eH ops listed e.on)->(∀ i,m<=i->i<ops.size->¬ eH ops listed i) ->
   (∀ i t,i<m->cg ops i=some t->eH ops listed i->V i (slot a t) w)->(∀ t,(∀ i,i<m->cg ops i=some t->¬ eH ops listed i)->slot a t=slot a0 t) ->
   (∀ i o,i<m->ops[i]? = some o->o.dst=none->eH ops listed i->∃ v,V i v w)->wpAnyIn F n P .any ops Q fuel listed a w:=by
  have getD_eq:∀ (listed:Array Bool) (i:Nat),i<listed.size->listed.getD i true=listed.getD i false:=fun listed i hi=>by simp[hi]
  intro fuel
  induction fuel with
  | zero =>
   intro listed a w hu hls hSw hdf hsz hcl hnt hv hno hns
   have all:∀ i,i<ops.size->eH ops listed i:=fun i hi=>by
    cases hc:listed.getD i false with
    | true=>exact hc
    | false =>
     have hmem:i∈(List.range ops.size).filter (fun i=>!listed.getD i true):=List.mem_filter.2 ⟨List.mem_range.2 hi,by rw[getD_eq _ _ (by omega),hc]; rfl⟩
     have:=List.length_pos_of_mem hmem
     unfold Ay at hu; omega
   have hmm:m=ops.size:=Nat.le_antisymm hm2 (Nat.le_of_not_lt fun h=>hnt m (Nat.le_refl _) h (all m h))
   exact pz chkt 0 ops.size (by omega) hm2 0 listed a w (Nat.le_refl _) hls (fun i hi=>⟨fun _=>hi,fun _=>all i hi⟩)
    (by rw[<-hmm]; exact hend a w hSw hdf hsz (fun i t hi h=>hv i t hi h (all i (by omega))) (fun t h=>hno t (fun i hi hi2=>absurd hi2 (h i hi))) (fun i o hi ho hd=>hns i o hi ho hd (all i (by omega))))
  | succ fuel ih =>
   intro listed a w hu hls hSw hdf hsz hcl hnt hv hno hns
   by_cases hall:∀ i,i<m->eH ops listed i
   ·refine pz chkt (ops.size - m) m (by omega) (Nat.le_refl _) (fuel+1) listed a w ?_ hls (fun i hi=>⟨fun h=>Nat.lt_of_not_le fun hle=>hnt i hle hi h,fun h=>hall i h⟩)
     (hend a w hSw hdf hsz (fun i t hi h=>hv i t hi h (hall i hi)) (fun t h=>hno t (fun i hi hi2=>absurd hi2 (h i hi))) (fun i o hi ho hd=>hns i o hi ho hd (hall i hi)))
    refine Nat.le_trans ?_ hu
    unfold Ay
    have:((List.range ops.size).filter fun i=>decide (m<=i)).length=ops.size - m:=by
     rw[<-List.countP_eq_length_filter]
     have:∀ s,(List.range s).countP (fun i=>decide (m<=i))=s - m:=by
      intro s
      induction s with
      | zero=>simp
      | succ s ih=>rw[List.range_succ,List.countP_append,ih]; simp[List.countP_cons]; split<;>omega
     exact this _
    rw[<-this]
    rw[<-List.countP_eq_length_filter,<-List.countP_eq_length_filter]
    refine List.countP_mono_left fun i hi h=>?_
    have hi:=List.mem_range.1 hi
    have hn:=hnt i (by simpa using h) hi
    unfold eH at hn
    rw[getD_eq _ _ (by omega)]
    simpa using hn
   ·simp only[Classical.not_forall] at hall
    obtain ⟨i0,hi0,hni0⟩:=hall
    refine⟨fun hrd=>?_,fun i hi=>?_⟩
    ·exfalso
     have:∀ i,i<m->eH ops listed i:=by
      intro i
      induction i using Nat.strongRecOn with
      | _ i ih2 =>
       intro hi
       cases hc:listed.getD i false with
       | true=>exact hc
       | false =>
        have:i∈Region.ready .any ops listed:=by
         refine mem_ready.2 ⟨by rw[getD_eq _ _ (by omega)]; exact hc,_,Array.getElem?_eq_getElem (by omega),fun e he hb=>?_⟩
         have hlt:=(chk1 i _ (Array.getElem?_eq_getElem (by omega))).2.2.1 e he hb
         exact ih2 e.on hlt (by omega)
        rw[hrd] at this; cases this
     exact hni0 (this i0 hi0)
    obtain ⟨hun,o,ho,hall⟩:=mem_ready.1 hi
    have his:i<ops.size:=(Array.getElem?_eq_some_iff.1 ho).1
    have him:i<m:=Nat.lt_of_not_le fun hle=>by
     simp only[fm,Bool.and_eq_true] at chkt
     have h1:=List.all_eq_true.1 chkt.1.2 i (List.mem_range.2 his)
     simp only[Bool.or_eq_true,decide_eq_true_eq] at h1
     have h2:=List.all_eq_true.1 (h1.resolve_left (by omega)) i0 (List.mem_range.2 hi0)
     exact hni0 (kI hcl i i0 ⟨o,ho,hall⟩ h2)
    obtain ⟨c1,c2,c3,c4,c5,c6⟩:=chk1 i o ho
    have hnot:¬ eH ops listed i:=by unfold eH; rw[<-getD_eq _ _ (by omega),hun]; simp
    have hdst:∀ t,o.dst=some t->cg ops i=some t:=fun t h=>by unfold cg; rw[ho]; exact h
    refine kv hWF ho c1 (hstep i o him ho a w hSw (fun t ht j hj hb=>?_) (fun t ht hj=>hno t fun j hjm hjt hcj=>?_) hsz) ?_
    ·have hcj:=kI hcl i j ⟨o,ho,hall⟩ hb
     have hjs:j<ops.size:=by
      unfold cg at hj
      cases hx:ops[j]? with
      | none=>rw[hx] at hj; cases hj
      | some _=>exact(Array.getElem?_eq_some_iff.1 hx).1
     exact hv j t (Nat.lt_of_not_le fun hle=>hnt j hle hjs hcj) hj hcj
    ·rcases c5 j t hjt ht with rfl | h | h
     ·exact hnot hcj
     ·rw[hj j hjt] at h; cases h
     ·cases hoj:ops[j]? with
      | none=>unfold cg at hjt; rw[hoj] at hjt; cases hjt
      | some oj=>exact hnot (kI hcl j i ⟨oj,hoj,hcl j oj hoj hcj⟩ h)
    ·rintro v w' ⟨hv1,hS1,hE1⟩
     have come_set:∀ k,eH ops (listed.setIfInBounds i true) k↔k=i∨eH ops listed k:=fun k=>by
      unfold eH
      by_cases e:k=i
      ·subst e; simp[hls,his]
      ·rw[getD_set_ne false (Ne.symm e)]; simp[e]
     refine ih _ _ _ ?_ (by simpa using hls) hS1 ?_ ?_ ?_ ?_ ?_ ?_ ?_
     ·have:=filter_lt (fun k=>!listed.getD k true) (fun k=>!(listed.setIfInBounds i true).getD k true) (List.range ops.size) (fun x hx hq=>by
       by_cases e:i=x
       ·subst e; rw[hun]; rfl
       ·rw[getD_set_ne true e] at hq; exact hq) ⟨i,List.mem_range.2 his,by rw[hun]; rfl,by simp[hls,his]⟩
      unfold Ay at *; omega
     ·cases hd:o.dst<;>simp[Act.put,hdf]
     ·cases hd:o.dst<;>simp[Act.put,hsz]
     ·intro k ok hok hk e he hb
      rw[come_set]
      rcases (come_set k).1 hk with rfl | hk
      ·rw[ho] at hok; cases hok
       exact .inr (hall e he hb)
      ·exact .inr (hcl k ok hok hk e he hb)
     ·intro k hk hks hc
      rcases (come_set k).1 hc with rfl | hc
      ·omega
      ·exact hnt k hk hks hc
     ·intro k t hkm hkt hk
      rcases (come_set k).1 hk with rfl | hk
      ·have hd:o.dst=some t:=by unfold cg at hkt; rw[ho] at hkt; exact hkt
       rw[hd,fi (by rw[hsz]; exact c2 t hd)]
       exact hv1
      ·have hne:k≠i:=fun e=>hnot (e ▸ hk)
       rw[dL (fun hd=>c4 k t (Ne.symm hne) hd hkt)]
       exact hV k _ _ _ (hv k t hkm hkt hk) hE1
     ·intro t ht
      rw[dL (fun hd=>ht i him (hdst t hd) ((come_set i).2 (.inl rfl)))]
      exact hno t fun k hkm hk hck=>ht k hkm hk ((come_set k).2 (.inr hck))
     ·intro k ok hkm hok hd hk
      rcases (come_set k).1 hk with rfl | hk
      ·exact⟨v,hv1⟩
      ·obtain ⟨u,hu⟩:=hns k ok hkm hok hd hk
       exact⟨u,hV k _ _ _ hu hE1⟩
 have h0:∀ i,¬ eH ops (Array.replicate ops.size false) i:=fun i hc=>by
  unfold eH at hc
  by_cases h:i<ops.size<;>simp[Array.getD,h] at hc
 refine Bp hm (main _ _ _ _ ?_ (by simp) hS rfl hN ?_ ?_ ?_ ?_ ?_)
 ·unfold Ay
  exact Nat.le_trans (List.length_filter_le _ _) (by simp)
 ·intro i o _ hc; exact absurd hc (h0 i)
 ·intro i _ _ hc; exact h0 i hc
 ·intro i t _ _ hc; exact absurd hc (h0 i)
 ·intro t _; rfl
 ·intro i o _ _ _ hc; exact absurd hc (h0 i)
end
section
open Go.RowKit
def gp {α:Type} (L:zk α) (e:TypeId) (base B:Nat) (w:World) (v:Value) (l:List α):Prop :=
 ∃ xs,w.ownsRow base e L.k v l.length xs/\∀ i (h:i<l.length),∃ vs,L.rd B w vs l[i]/\∀ j,j<L.k->xs[i*L.k+j]? = vs[j]?
variable {α:Type} {L:zk α} {e:TypeId} {base B:Nat} {w:World} {v:Value} {l:List α}
theorem gp.nil (L:zk α) (e:TypeId) (base B:Nat) (w:World):gp L e base B w (.slice none 0 0) [] :=
 ⟨[],World.ownsRow_nil w base e L.k,fun i h=>by simp at h⟩
theorem gp.made (L:zk α) (e:TypeId) (base B:Nat) (w:World) (cur:Array Value) (cap:Nat) (hb:base<=w.heap.size) (hm:cap<=maxLen) (hs:cur.size=cap*L.k) :
  gp L e base B (w.alloc (.cells cur e)) (.slice (some ⟨w.heap.size,0,none⟩) 0 cap) [] :=
 ⟨[],World.ownsRow_made w cur cap hb hm hs,fun i h=>by simp at h⟩
theorem gp.kept {w':World} (h:gp L e base B w v l) (hb:Below w.heap.size w w') (hB:B<=w.heap.size):gp L e base B w' v l:=by
 obtain ⟨xs,h1,h2⟩:=h
 refine⟨xs,h1.kept (row:=none) ⟨hb.os,hb.tape,hb.output,hb.size,fun k hk _=>hb.block k hk⟩ (by cases v.ownBlock<;>simp),fun i hi=>?_⟩
 obtain ⟨vs,h3,h4⟩:=h2 i hi
 exact⟨vs,L.stab (ft.eE hb hB) h3,h4⟩
theorem gp.other {w':World} {row:Option Nat} (h:gp L e base B w v l) (hg:w.grownBy w' row) (hB:B<=w.heap.size) (hr:∀ k,row=some k->B<=k) (hne:v.ownBlock=none∨v.ownBlock≠row):gp L e base B w' v l:=by
 obtain ⟨xs,h1,h2⟩:=h
 refine⟨xs,h1.kept hg hne,fun i hi=>?_⟩
 obtain ⟨vs,h3,h4⟩:=h2 i hi
 exact⟨vs,L.stab (ft.eE ((Below.refl _ _).grown hg hB hr) (Nat.le_refl _)) h3,h4⟩
theorem gp.alloc (h:gp L e base B w v l) (hB:B<=w.heap.size) (o:Obj):gp L e base B (w.alloc o) v l :=
 h.kept ((Below.refl _ _).alloc (Nat.le_refl _) _) hB
theorem gp.drew (h:gp L e base B w v l) (hB:B<=w.heap.size):gp L e base B w.drew v l :=
 h.kept (Below.refl _ _).drew hB
theorem gp.lt (h:gp L e base B w v l):∀ k,v.ownBlock=some k->base<=k/\k<w.heap.size:=let ⟨_,h1,_⟩:=h; h1.lt
theorem we (b off j:Nat):(⟨b,off,none⟩:Addr).add j=⟨b,off+j,none⟩:=by unfold Addr.add; split<;>simp_all
theorem gp.slice (h:gp L e base B w v l) {B':Nat} (hB:B<=B') (hw:w.heap.size<=B'):fH L B' w v l:=by
 obtain ⟨xs,h1,h2⟩:=h
 have hlt:=h1.lt
 have hcs:=fun g hg=>h1.cells (g:=g) hg
 obtain ⟨hl,h3⟩:=h1
 rcases h3 with ⟨rfl,hn⟩ | ⟨g,cap,cur,rfl,hb,hg,hc,hm,hs,ht⟩
 ·obtain rfl:l=[]:=List.eq_nil_of_length_eq_zero hn
  exact fH.nil _ _ _
 ·refine⟨_,cap,rfl,hc,hm,fun _=>⟨g,0,rfl,Nat.lt_of_lt_of_le (hlt g rfl).2 hw,fun i hi=>?_⟩⟩
  obtain ⟨vs,h4,h5⟩:=h2 i hi
  refine⟨vs,L.mono hB h4,fun j hj=>?_⟩
  have hlv:j<vs.length:=by rw[L.len h4]; exact hj
  rw[<-h5 j hj]
  have h6:=h5 j hj
  rw[List.getElem?_eq_getElem hlv] at h6
  have:=hcs g rfl _ _ h6
  rw[we,Nat.zero_add] at this
  rw[Nat.zero_add,this,h6]
theorem fH.cells {B':Nat} {x:Value} {ys:List α} (hone:∀ vs y,L.rd B' w vs y->∀ u∈vs,u.oneCell'=true) (hk:0<L.k) (hx:fH L B' w x ys) (hp:0<ys.length) :
  ∃ (ad:Addr) (c:Nat) (news:List Value),x=.slice (some ad) ys.length c/\news.length=ys.length*L.k/\(∀ j u,news[j]? = some u->w.cell? (ad.add j)=some u)/\(∀ u∈news,u.oneCell'=true) ∧
   ∀ i (h:i<ys.length),∃ vs,L.rd B' w vs ys[i]/\∀ j,j<L.k->news[i*L.k+j]? = vs[j]?:=by
 obtain ⟨a,cap,rfl,hc,hm,h3⟩:=hx
 obtain ⟨b,off,rfl,hb,h4⟩:=h3 hp
 have key:∀ t,t<ys.length*L.k->∃ u,w.cell? ⟨b,off+t,none⟩=some u/\u.oneCell'=true:=fun t ht=>by
  have hi:t / L.k<ys.length:=Nat.div_lt_of_lt_mul (by rw[Nat.mul_comm]; exact ht)
  have hj:=Nat.mod_lt t hk
  obtain ⟨vs,h5,h6⟩:=h4 _ hi
  have hlv:t % L.k<vs.length:=by rw[L.len h5]; exact hj
  have h7:=h6 _ hj
  rw[List.getElem?_eq_getElem hlv] at h7
  have e1:off+t / L.k*L.k+t % L.k=off+t:=by have:=Nat.div_add_mod t L.k; rw[Nat.mul_comm] at this; omega
  rw[e1] at h7
  exact⟨_,h7,hone _ _ h5 _ (List.getElem_mem _)⟩
 have at_:∀ j,j<ys.length*L.k->((List.range (ys.length*L.k)).map fun t=>(w.cell? ⟨b,off+t,none⟩).getD undef)[j]? = w.cell? ⟨b,off+j,none⟩:=fun j hj=>by
  obtain ⟨u,h5,_⟩:=key j hj
  rw[List.getElem?_map,List.getElem?_range hj,Option.map_some,h5]
  rfl
 refine⟨_,cap,(List.range (ys.length*L.k)).map fun t=>(w.cell? ⟨b,off+t,none⟩).getD undef,rfl,by simp,fun j u hu=>?_,fun u hu=>?_,fun i hi=>?_⟩
 ·have hj:j<ys.length*L.k:=by have:=(List.getElem?_eq_some_iff.1 hu).1; simpa using this
  rw[at_ j hj] at hu
  rw[we]; exact hu
 ·obtain ⟨t,ht,rfl⟩:=List.mem_map.1 hu
  obtain ⟨u,h5,h6⟩:=key t (List.mem_range.1 ht)
  rw[h5]; exact h6
 ·obtain ⟨vs,h5,h6⟩:=h4 i hi
  refine⟨vs,h5,fun j hj=>?_⟩
  have:i*L.k+j<ys.length*L.k:=by
   have:=Nat.mul_le_mul_right L.k (show i+1<=ys.length from hi)
   rw[Nat.add_mul] at this; omega
  rw[at_ _ this,<-h6 j hj,Nat.add_assoc]
end
end Go.Proofs.Ytdmgdjnadbakfaa
