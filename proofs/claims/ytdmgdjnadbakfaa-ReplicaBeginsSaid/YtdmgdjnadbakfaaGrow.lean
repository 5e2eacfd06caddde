/-
 A slice that the call itself has built, by 'append': its elements read by a reader of laid values; what an append makes of it, as one run, and as a law for both walks.
-/
import Derived.Maps.AppendAt
import Derived.OwnWalkIn
import Derived.OwnWalk
import Derived.Test.YtdmgdjnadbakfaaLay
namespace Go.Proofs.Ytdmgdjnadbakfaa
open Go.RowKit
def Grows {α:Type} (L:Lay α) (e:TypeId) (base B:Nat) (w:World) (v:Value) (l:List α):Prop :=
 ∃ xs,w.ownsRow base e L.k v l.length xs/\∀ i (h:i<l.length),∃ vs,L.rd B w vs l[i]/\∀ j,j<L.k->xs[i*L.k+j]? = vs[j]?
variable {α:Type} {L:Lay α} {e:TypeId} {base B:Nat} {w:World} {v:Value} {l:List α}
theorem Grows.nil (L:Lay α) (e:TypeId) (base B:Nat) (w:World):Grows L e base B w (.slice none 0 0) [] :=
 ⟨[],World.ownsRow_nil w base e L.k,fun i h=>by simp at h⟩
theorem Grows.made (L:Lay α) (e:TypeId) (base B:Nat) (w:World) (cur:Array Value) (cap:Nat) (hb:base<=w.heap.size) (hm:cap<=maxLen) (hs:cur.size=cap*L.k) :
  Grows L e base B (w.alloc (.cells cur e)) (.slice (some ⟨w.heap.size,0,none⟩) 0 cap) [] :=
 ⟨[],World.ownsRow_made w cur cap hb hm hs,fun i h=>by simp at h⟩
theorem Grows.kept {w':World} (h:Grows L e base B w v l) (hb:Below w.heap.size w w') (hB:B<=w.heap.size):Grows L e base B w' v l:=by
 obtain ⟨xs,h1,h2⟩:=h
 refine⟨xs,h1.kept (row:=none) ⟨hb.os,hb.tape,hb.output,hb.size,fun k hk _=>hb.block k hk⟩ (by cases v.ownBlock<;>simp),fun i hi=>?_⟩
 obtain ⟨vs,h3,h4⟩:=h2 i hi
 exact⟨vs,L.stab (Keeps.of_below hb hB) h3,h4⟩
theorem Grows.other {w':World} {row:Option Nat} (h:Grows L e base B w v l) (hg:w.grownBy w' row) (hB:B<=w.heap.size) (hr:∀ k,row=some k->B<=k) (hne:v.ownBlock=none∨v.ownBlock≠row):Grows L e base B w' v l:=by
 obtain ⟨xs,h1,h2⟩:=h
 refine⟨xs,h1.kept hg hne,fun i hi=>?_⟩
 obtain ⟨vs,h3,h4⟩:=h2 i hi
 exact⟨vs,L.stab (Keeps.of_below ((Below.refl _ _).grown hg hB hr) (Nat.le_refl _)) h3,h4⟩
theorem Grows.alloc (h:Grows L e base B w v l) (hB:B<=w.heap.size) (o:Obj):Grows L e base B (w.alloc o) v l :=
 h.kept ((Below.refl _ _).alloc (Nat.le_refl _) _) hB
theorem Grows.drew (h:Grows L e base B w v l) (hB:B<=w.heap.size):Grows L e base B w.drew v l :=
 h.kept (Below.refl _ _).drew hB
theorem Grows.lt (h:Grows L e base B w v l):∀ k,v.ownBlock=some k->base<=k/\k<w.heap.size:=let ⟨_,h1,_⟩:=h; h1.lt
theorem addr_add (b off j:Nat):(⟨b,off,none⟩:Addr).add j=⟨b,off+j,none⟩:=by unfold Addr.add; split<;>simp_all
theorem Grows.slice (h:Grows L e base B w v l) {B':Nat} (hB:B<=B') (hw:w.heap.size<=B'):SliceOf L B' w v l:=by
 obtain ⟨xs,h1,h2⟩:=h
 have hlt:=h1.lt
 have hcs:=fun g hg=>h1.cells (g:=g) hg
 obtain ⟨hl,h3⟩:=h1
 rcases h3 with ⟨rfl,hn⟩ | ⟨g,cap,cur,rfl,hb,hg,hc,hm,hs,ht⟩
 ·obtain rfl:l=[]:=List.eq_nil_of_length_eq_zero hn
  exact SliceOf.nil _ _ _
 ·refine⟨_,cap,rfl,hc,hm,fun _=>⟨g,0,rfl,Nat.lt_of_lt_of_le (hlt g rfl).2 hw,fun i hi=>?_⟩⟩
  obtain ⟨vs,h4,h5⟩:=h2 i hi
  refine⟨vs,L.mono hB h4,fun j hj=>?_⟩
  have hlv:j<vs.length:=by rw[L.len h4]; exact hj
  rw[<-h5 j hj]
  have h6:=h5 j hj
  rw[List.getElem?_eq_getElem hlv] at h6
  have:=hcs g rfl _ _ h6
  rw[addr_add,Nat.zero_add] at this
  rw[Nat.zero_add,this,h6]
theorem SliceOf.cells {B':Nat} {x:Value} {ys:List α} (hone:∀ vs y,L.rd B' w vs y->∀ u∈vs,u.oneCell'=true) (hk:0<L.k) (hx:SliceOf L B' w x ys) (hp:0<ys.length) :
  ∃ (ad:Addr) (c:Nat) (news:List Value),x=.slice (some ad) ys.length c/\news.length=ys.length*L.k/\(∀ j u,news[j]? = some u->w.cell? (ad.add j)=some u)/\(∀ u∈news,u.oneCell'=true) ∧
   ∀ i (h:i<ys.length),∃ vs,L.rd B' w vs ys[i]/\∀ j,j<L.k->news[i*L.k+j]? = vs[j]?:=by
 obtain ⟨a,cap,rfl,hc,hm,h3⟩:=hx
 obtain ⟨b,off,rfl,hb,h4⟩:=h3 hp
 have key:∀ t,t<ys.length*L.k->∃ u,w.cell? ⟨b,off+t,none⟩=some u/\u.oneCell'=true:=fun t ht=>by
  have hi:t / L.k<ys.length:=Nat.div_lt_of_lt_mul (by rw[Nat.mul_comm]; exact ht)
  have hj:=Nat.mod_lt t hk
  obtain ⟨vs,h5,h6⟩:=h4 _ hi
  have hlv:t % L.k<vs.length:=by rw[L.len h5]; exact hj
  have h7:=h6 _ hj
  rw[List.getElem?_eq_getElem hlv] at h7
  have e1:off+t / L.k*L.k+t % L.k=off+t:=by have:=Nat.div_add_mod t L.k; rw[Nat.mul_comm] at this; omega
  rw[e1] at h7
  exact⟨_,h7,hone _ _ h5 _ (List.getElem_mem _)⟩
 have at_:∀ j,j<ys.length*L.k->((List.range (ys.length*L.k)).map fun t=>(w.cell? ⟨b,off+t,none⟩).getD undef)[j]? = w.cell? ⟨b,off+j,none⟩:=fun j hj=>by
  obtain ⟨u,h5,_⟩:=key j hj
  rw[List.getElem?_map,List.getElem?_range hj,Option.map_some,h5]
  rfl
 refine⟨_,cap,(List.range (ys.length*L.k)).map fun t=>(w.cell? ⟨b,off+t,none⟩).getD undef,rfl,by simp,fun j u hu=>?_,fun u hu=>?_,fun i hi=>?_⟩
 ·have hj:j<ys.length*L.k:=by have:=(List.getElem?_eq_some_iff.1 hu).1; simpa using this
  rw[at_ j hj] at hu
  rw[addr_add]; exact hu
 ·obtain ⟨t,ht,rfl⟩:=List.mem_map.1 hu
  obtain ⟨u,h5,h6⟩:=key t (List.mem_range.1 ht)
  rw[h5]; exact h6
 ·obtain ⟨vs,h5,h6⟩:=h4 i hi
  refine⟨vs,h5,fun j hj=>?_⟩
  have:i*L.k+j<ys.length*L.k:=by
   have:=Nat.mul_le_mul_right L.k (show i+1<=ys.length from hi)
   rw[Nat.add_mul] at this; omega
  rw[at_ _ this,<-h6 j hj,Nat.add_assoc]
end Go.Proofs.Ytdmgdjnadbakfaa
