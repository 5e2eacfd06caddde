/-
 A range over a function: a contract for iterators ('Iter') and one law for the statement, within an outermost frame and within a round.
 The iterator is told of the rounds what they keep ('Kp', its own choice); the caller's invariant I speaks of data (cells, maps) and of blocks below the loop's start.
-/
import Derived.RangeFuncNested
import Derived.RangeFuncCalls
import Derived.RangeFuncLeaves
import Derived.Test.YtdmgdjnadbakfaaLay
namespace Go.Proofs.Ytdmgdjnadbakfaa
open Go.RowKit
structure CalmFrom (B:Nat) (W W':World):Prop where
 os:W'.os=W.os
 tape:W'.tape=W.tape
 output:W'.output=W.output
 size:W.heap.size<=W'.heap.size
 low:∀ (k:Nat),k<B->k<W.heap.size->W'.heap[k]? = W.heap[k]?
 data:∀ (k:Nat) (o:Obj),W.heap[k]? = some o->isData o=true->W'.heap[k]? = some o
theorem CalmFrom.refl (B:Nat) (W:World):CalmFrom B W W:=⟨rfl,rfl,rfl,Nat.le_refl _,fun _ _ _=>rfl,fun _ _ h _=>h⟩
theorem CalmFrom.trans {B:Nat} {X Y Z:World} (h:CalmFrom B X Y) (k:CalmFrom B Y Z):CalmFrom B X Z :=
 ⟨k.os.trans h.os,k.tape.trans h.tape,k.output.trans h.output,Nat.le_trans h.size k.size,fun i hi hs=>(k.low i hi (Nat.lt_of_lt_of_le hs h.size)).trans (h.low i hi hs),fun i o hi ho=>k.data i o (h.data i o hi ho) ho⟩
theorem CalmFrom.mono {B B':Nat} {W W':World} (h:CalmFrom B W W') (hB:B'<=B):CalmFrom B' W W':=⟨h.os,h.tape,h.output,h.size,fun k hk=>h.low k (Nat.lt_of_lt_of_le hk hB),h.data⟩
theorem CalmFrom.alloc (B:Nat) (W:World) (o:Obj):CalmFrom B W (W.alloc o) :=
 ⟨rfl,rfl,rfl,by simp,fun k _ hs=>Below.heap_alloc W o k hs,fun k _ hk _=>(Below.heap_alloc W o k (Array.getElem?_eq_some_iff.1 hk).1).trans hk⟩
theorem CalmFrom.putObj {B:Nat} {W:World} {l:Nat} {o:Obj} (o':Obj) (hB:B<=l) (hl:W.heap[l]? = some o) (ho:isData o=false):CalmFrom B W (W.putObj l o') :=
 ⟨rfl,rfl,rfl,by simp,fun k hk _=>World.putObj_heap_other (by omega),fun k _ hk hd=>by
  by_cases e:k=l
  ·subst e; rw[hl] at hk; cases hk; rw[ho] at hd; cases hd
  ·exact(World.putObj_heap_other e).trans hk⟩
theorem CalmFrom.of_below {B:Nat} {W W':World} (h:Below W.heap.size W W'):CalmFrom B W W' :=
 ⟨h.os,h.tape,h.output,h.size,fun k _ hs=>h.block k hs,fun k _ hk _=>(h.block k (Array.getElem?_eq_some_iff.1 hk).1).trans hk⟩
theorem CalmFrom.drew (B:Nat) (W:World):CalmFrom B W W.drew:=⟨rfl,rfl,rfl,Nat.le_refl _,fun _ _ _=>rfl,fun _ _ h _=>h⟩
def Calm (B:Nat) (I:World->Prop):Prop:=∀ W W',I W->CalmFrom B W W'->I W'
theorem Calm.and {B:Nat} {I J:World->Prop} (h:Calm B I) (k:Calm B J):Calm B fun W=>I W/\J W:=fun W W' hs hc=>⟨h W W' hs.1 hc,k W W' hs.2 hc⟩
theorem Calm.pure (B:Nat) (p:Prop):Calm B fun _=>p:=fun _ _ h _=>h
theorem Calm.ex {α:Type} {B:Nat} {I:α->World->Prop} (h:∀ x,Calm B (I x)):Calm B fun W=>∃ x,I x W:=fun W W' ⟨x,hx⟩ hc=>⟨x,h x W W' hx hc⟩
theorem Calm.block {B:Nat} (b:Nat) (o:Obj) (hd:isData o=true):Calm B fun W=>W.heap[b]? = some o:=fun _ _ h hc=>hc.data b o h hd
theorem Calm.cell {B:Nat} (a:Addr) (v:Value):Calm B fun W=>W.cell? a=some v:=fun W W' h hc=>by
 have h1:W.cell? a=some v:=h
 obtain ⟨o,ho,hc1⟩:=cells_of_cell h1
 have h2:=hc.data _ _ ho (by cases o<;>first | rfl | (cases hc1))
 show W'.cell? a=some v
 rw[<-h1]
 exact World.cell?_of_block (h2.trans ho.symm)
theorem Calm.below {B n₀:Nat} {w:World} (hn:n₀<=w.heap.size) (hB:n₀<=B):Calm B fun W=>Below n₀ w W:=fun W W' h hc =>
 h.trans ⟨hc.os,hc.tape,hc.output,hc.size,fun k hk=>hc.low k (by omega) (by have:=h.size; omega)⟩
theorem CalmFrom.keeps {B n:Nat} {W W':World} (h:CalmFrom B W W'):Keeps n W W':=fun k o _ hk ho=>h.data k o hk ho
theorem Calm.slice {α:Type} (L:Lay α) {B:Nat} (n:Nat) (v:Value) (l:List α):Calm B fun W=>SliceOf L n W v l:=fun _ _ h hc=>h.stab hc.keeps
structure KeepRec (B:Nat) (W W':World):Prop where
 size:W.heap.size<=W'.heap.size
 same:∀ (k:Nat) (o:Obj),B<=k->W.heap[k]? = some o->isData o=false->W'.heap[k]? = some o
theorem KeepRec.refl (B:Nat) (W:World):KeepRec B W W:=⟨Nat.le_refl _,fun _ _ _ h _=>h⟩
theorem KeepRec.trans {B:Nat} {X Y Z:World} (h:KeepRec B X Y) (k:KeepRec B Y Z):KeepRec B X Z:=⟨Nat.le_trans h.size k.size,fun i o hB hi ho=>k.same i o hB (h.same i o hB hi ho) ho⟩
theorem KeepRec.mono {B B':Nat} {W W':World} (h:KeepRec B W W') (hB:B<=B'):KeepRec B' W W':=⟨h.size,fun k o hk=>h.same k o (Nat.le_trans hB hk)⟩
theorem KeepRec.of_below {B:Nat} {W W':World} (h:Below W.heap.size W W'):KeepRec B W W':=⟨h.size,fun k _ _ hk _=>(h.block k (Array.getElem?_eq_some_iff.1 hk).1).trans hk⟩
theorem KeepRec.alloc (B:Nat) (W:World) (o:Obj):KeepRec B W (W.alloc o):=⟨by simp,fun k _ _ hk _=>(Below.heap_alloc W o k (Array.getElem?_eq_some_iff.1 hk).1).trans hk⟩
theorem KeepRec.drew (B:Nat) (W:World):KeepRec B W W.drew:=⟨Nat.le_refl _,fun _ _ _ h _=>h⟩
theorem KeepRec.grown {B:Nat} {W W':World} {row:Option Nat} (hg:W.grownBy W' row) (hrow:∀ j,row=some j->j<B∨∃ o,W.heap[j]? = some o/\isData o=true):KeepRec B W W' :=
 ⟨hg.size,fun k o hB hk ho=>(hg.block k (Array.getElem?_eq_some_iff.1 hk).1 (fun e=>by
  rcases hrow k e.symm with h | ⟨o',h1,h2⟩
  ·omega
  ·rw[hk] at h1; cases h1; rw[ho] at h2; cases h2)).trans hk⟩
def WideF (F:Fence):Prop:=F.depth=none/\∀ f,F.fn f
theorem WideF.inRound {F:Fence} (h:WideF F) (l:Nat):WideF (F.inRound l):=h
theorem Keeps.putObj (B:Nat) {X:World} {l:Nat} {o:Obj} (o':Obj) (hl:X.heap[l]? = some o) (ho:isData o=false):Keeps B X (X.putObj l o'):=fun k o'' _ hk hd=>by
 by_cases e:k=l
 ·subst e; rw[hl] at hk; cases hk; rw[ho] at hd; cases hd
 ·exact(World.putObj_heap_other e).trans hk
theorem KeepsOn.putObj (T:Nat->Prop) {X:World} {l:Nat} {o:Obj} (o':Obj) (hl:X.heap[l]? = some o) (ho:isData o=false):KeepsOn T X (X.putObj l o'):=fun k o'' _ hk hd=>by
 by_cases e:k=l
 ·subst e; rw[hl] at hk; cases hk; rw[ho] at hd; cases hd
 ·exact(World.putObj_heap_other e).trans hk
variable {F:Fence} {n:Nat} {P:Program}
def Marks (B:Nat) (W:World) (ds:List Deferred):Prop:=∃ rs:List Nat,ds=rs.map (fun r=>{ target:=.collected r,args:=#[] })/\rs.Nodup/\∀ r∈rs,B<=r/\W.heap[r]? = some (.deferred (some []))
theorem Marks.nil (B:Nat) (W:World):Marks B W []:=⟨[],rfl,List.nodup_nil,fun _ h=>by cases h⟩
theorem Marks.cons {B D:Nat} {W:World} {ds:List Deferred} (h:Marks B W ds) (hD:B<=D) (hW:W.heap[D]? = some (.deferred (some []))) (hn:∀ r,(⟨.collected r,#[]⟩:Deferred)∈ds->r≠D):Marks B W ({ target:=.collected D,args:=#[] } :: ds):=by
 obtain ⟨rs,rfl,h2,h3⟩:=h
 refine⟨D :: rs,rfl,List.nodup_cons.2 ⟨fun hm=>hn D (List.mem_map.2 ⟨D,hm,rfl⟩) rfl,h2⟩,fun r hr=>?_⟩
 rcases List.mem_cons.1 hr with rfl | hr
 ·exact⟨hD,hW⟩
 ·exact h3 r hr
theorem Marks.lt {B:Nat} {W:World} {ds:List Deferred} (h:Marks B W ds) {r:Nat} (hr:(⟨.collected r,#[]⟩:Deferred)∈ds):r<W.heap.size:=by
 obtain ⟨rs,rfl,h2,h3⟩:=h
 obtain ⟨q,hq,e⟩:=List.mem_map.1 hr
 cases e
 exact(Array.getElem?_eq_some_iff.1 (h3 _ hq).2).1
theorem Marks.kept {B C:Nat} {W W':World} {ds:List Deferred} (h:Marks B W ds) (hk:KeepRec C W W') (hC:C<=B):Marks B W' ds:=by
 obtain ⟨rs,e,h2,h3⟩:=h
 exact⟨rs,e,h2,fun r hr=>⟨(h3 r hr).1,hk.same r _ (Nat.le_trans hC (h3 r hr).1) (h3 r hr).2 rfl⟩⟩
theorem Marks.below {B C:Nat} {W W':World} {ds:List Deferred} (h:Marks B W ds) (hk:Below C W W') (hC:W.heap.size<=C):Marks B W' ds:=by
 obtain ⟨rs,e,h2,h3⟩:=h
 refine⟨rs,e,h2,fun r hr=>⟨(h3 r hr).1,(hk.block r ?_).trans (h3 r hr).2⟩⟩
 have:=(Array.getElem?_eq_some_iff.1 (h3 r hr).2).1
 omega
end Go.Proofs.Ytdmgdjnadbakfaa
