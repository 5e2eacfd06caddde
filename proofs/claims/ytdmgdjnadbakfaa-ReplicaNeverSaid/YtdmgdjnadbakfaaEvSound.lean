/-
 One operation of the interpreter, and regions in the text's order: as the model's.
-/
import Derived.Test.YtdmgdjnadbakfaaEv
import Derived.Test.YtdmgdjnadbakfaaGrow
import Derived.Deep.MidRow
import Derived.DeepKeys
import Derived.Laws.StructEq
import Derived.Laws.Tables
import Derived.Laws.IdiomStrings
import Derived.Laws.BytesString
import Derived.Laws.Slices
import Derived.Laws.MakeOwn
import Derived.TacticsIn
import Derived.Lib.SliceRun
namespace Go.Proofs.Ytdmgdjnadbakfaa
section
open Go.RowKit
structure Gh where
 mu:Nat->Option Nat
 ga:Nat->List (List Value)
 S:Nat->Nat->Prop
 lr:Nat->Loop
def FF:Loop:={ state:=.ready,pending:=none,fn:=0,tmps:=#[],params:=#[],assign:=.skip,body:=.skip,defers:=0 }
def Fb.code:Fb->Code
 | .exit id=>.exit id
 | .goto l=>.goto l
 | .ret=>.ret
def iQ (r:Loop):cp->Loop
 | .ready=>{ r with state:=.ready,pending:=none }
 | .busy=>{ r with state:=.busy,pending:=none }
 | .done j=>{ r with state:=.done,pending:=some j.code }
def eX (H:ay) (g:Gh) (k o:Nat):Prop:=g.S k o/\∀ b,g.mu b=some k->∃ es els,H[b]? = some (.row false es els)/\o<es*els.length
def bB (H:ay) (g:Gh) (w:World) (k off:Nat) (ds:List Value):Prop:=∀ j v,ds[j]? = some v->w.cell? ⟨k,off+j,none⟩=some v/\eX H g k (off+j)
mutual
def VR (H:ay) (g:Gh) (w:World):A->Value->Prop
 | .any,_=>True
 | .v x,c=>c=x
 | .ptr b o,c=>match H[b]? with
  | some (.box _)=>∃ k,g.mu b=some k/\c=.pointer (some ⟨k,o,none⟩)
  | some .hole=>False
  | some _=>c.oneCell'=true
  | none=>False
 | .ep b i o,c=>match H[b]? with
  | some (.row true es els)=>i<els.length/\∃ k,g.mu b=some k/\c=.pointer (some ⟨k,i*es+o,none⟩)
  | some .hole=>False
  | some _=>c.oneCell'=true
  | none=>False
 | .ip cs,c=>∃ k off ds,c=.pointer (some ⟨k,off,none⟩)/\bB H g w k off ds/\bp H g w cs ds
 | .imm els clip,c=>∃ a cap ds es,c=.slice a els.length cap/\els.length<=cap/\(clip=true->cap=els.length)/\(∀ d∈ds,d.length=es)/\(0<els.length->∃ k off,a=some ⟨k,off,none⟩/\bB H g w k off ds.flatten)/\bn H g w els ds
 | .sl b o n clip,c=>match H[b]? with
  | some (.row true es els)=>o+n<=els.length/\∃ a cap,c=.slice a n cap/\n<=cap/\(clip=true->cap=n)/\(0<n->∃ k,g.mu b=some k/\a=some ⟨k,o*es,none⟩)
  | some (.row false es els)=>o+n<=els.length/\∃ a cap,c=.slice a n cap/\n<=cap/\(clip=true->cap=n)/\(0<n->∃ k off,a=some ⟨k,off,none⟩/\bB H g w k off (((g.ga b).drop o).take n).flatten) ∧
    (clip=false->o=0->n=els.length->n<cap->∃ k arr ty,g.mu b=some k/\a=some ⟨k,0,none⟩/\w.heap[k]? = some (.cells arr ty (0,0))/\cap*es<=arr.size)
  | some .hole=>False
  | some _=>c.oneCell'=true
  | none=>False
 | .agg cs,c=>∃ ds,c=.agg ds/\bp H g w cs ds.toList
 | .tup cs,c=>∃ ds,c=.tuple ds/\bp H g w cs ds.toList
 | .fn f a b,c=>∃ ds es,c=.func f ds es/\bp H g w a ds.toList/\bp H g w b es.toList
 | .ifc t x,c=>∃ d,c=.iface t d/\VR H g w x d
 | .yld b,c=>match H[b]? with
  | some (.rng _)=>∃ k,g.mu b=some k/\c=.func (.yield k) #[] #[]
  | some .hole=>False
  | some _=>c.oneCell'=true
  | none=>False
 | .nq els,c=>∃ b,c=.bool b/\(b=true->els=[])
 | .mr b,c=>match H[b]? with
  | some (.mp ..)=>∃ k,g.mu b=some k/\c=.map (some k)
  | some .hole=>False
  | some _=>c.oneCell'=true
  | none=>False
 | .mv k ks vs,c=>∃ r arr cl,c=.map (some r)/\eX H g r 0/\w.heap[r]? = some (.map arr cl)/\arr.toList.map (·.key)=ks.map (.int k)/\bp H g w vs (arr.toList.map (·.val))
def bp (H:ay) (g:Gh) (w:World):List A->List Value->Prop
 | [],ds=>ds=[]
 | a :: as,ds=>∃ d ds',ds=d :: ds'/\VR H g w a d/\bp H g w as ds'
def bn (H:ay) (g:Gh) (w:World):List (List A)->List (List Value)->Prop
 | [],ds=>ds=[]
 | a :: as,ds=>∃ d ds',ds=d :: ds'/\bp H g w a d/\bn H g w as ds'
end
def lF (H:ay) (g:Gh) (w:World) (b:Nat):aD->Prop
 | .box cs=>∃ k arr ty,g.mu b=some k/\w.heap[k]? = some (.cells arr ty (0,0))/\bp H g w cs arr.toList
 | .row true es els=>∃ ds,bn H g w els ds/\(∀ d∈ds,d.length=es)/\(0<els.length->∃ (k:Nat) (arr:Array Value) (ty:TypeId),g.mu b=some k/\w.heap[k]? = some (.cells arr ty (0,0))/\∀ (j:Nat) (v:Value),ds.flatten[j]? = some v->arr[j]? = some v)
 | .row false es els=>bn H g w els (g.ga b)/\(∀ d∈g.ga b,d.length=es)
 | .rng st=>∃ k,g.mu b=some k/\w.heap[k]? = some (.loop (iQ (g.lr b) st))
 | .dead=>g.mu b=none
 | .hole=>g.mu b=none
 | .mp k ks vs=>∃ r arr cl,g.mu b=some r/\w.heap[r]? = some (.map arr cl)/\arr.toList.map (·.key)=ks.map (.int k)/\bp H g w vs (arr.toList.map (·.val))
structure Rel (H:ay) (g:Gh) (w0 w:World):Prop where
 below:Below w0.heap.size w0 w
 dom:∀ b k,g.mu b=some k->b<H.length/\w0.heap.size<=k/\k<w.heap.size
 inj:∀ b c k,g.mu b=some k->g.mu c=some k->b=c
 out:∀ k o,w.heap.size<=k->g.S k o
 own:∀ b k o,g.mu b=some k->g.S k o
 blk:∀ b B,H[b]? = some B->lF H g w b B
def BT (g:Gh) (w:World) (g':Gh) (w':World) (b:Nat):aD->aD->Prop
 | .box _,.box _=>g'.mu b=g.mu b
 | .row true es els,.row true es' els'=>es'=es/\els'.length=els.length/\g'.mu b=g.mu b
 | .row false es els,.row false es' els'=>es'=es/\(∃ r,g'.ga b=g.ga b++r)/\(g.ga b).length=els.length/\els.length<=els'.length/\(els'.length=els.length->g'.mu b=g.mu b/\∀ k arr ty,g.mu b=some k->w.heap[k]? = some (.cells arr ty (0,0))->∃ arr',w'.heap[k]? = some (.cells arr' ty (0,0))/\arr.size<=arr'.size)
 | .rng _,.rng _=>g'.mu b=g.mu b/\g'.lr b=g.lr b
 | .mp ..,.mp ..=>g'.mu b=g.mu b
 | .hole,_=>True
 | _,.dead=>True
 | _,_=>False
structure vU (H:ay) (g:Gh) (w:World) (H':ay) (g':Gh) (w':World):Prop where
 cell:∀ k o v,eX H g k o->w.cell? ⟨k,o,none⟩=some v->w'.cell? ⟨k,o,none⟩=some v/\eX H' g' k o
 blk:∀ (b:Nat) (B:aD),H[b]? = some B->∃ B',H'[b]? = some B'/\BT g w g' w' b B B'
 map:∀ k arr cl,eX H g k 0->w.heap[k]? = some (.map arr cl)->w'.heap[k]? = some (.map arr cl)/\eX H' g' k 0
structure Ext (H:ay) (g:Gh) (w:World) (H':ay) (g':Gh) (w':World):Prop where
 cell:∀ k o v,eX H g k o->w.cell? ⟨k,o,none⟩=some v->w'.cell? ⟨k,o,none⟩=some v/\eX H' g' k o
 blk:∀ (b:Nat) (B:aD),H[b]? = some B->∃ B',H'[b]? = some B'/\BT g w g' w' b B B'
 kept:∀ (k:Nat) (x:Option (List Deferred)),w.heap[k]? = some (.deferred x)->w'.heap[k]? = some (.deferred x)
 size:w.heap.size<=w'.heap.size
 map:∀ k arr cl,eX H g k 0->w.heap[k]? = some (.map arr cl)->w'.heap[k]? = some (.map arr cl)/\eX H' g' k 0
 obj:∀ k,k<w.heap.size->(∀ b,g.mu b≠some k)->w'.heap[k]? = w.heap[k]?
 fresh:∀ b k,g'.mu b=some k->(∃ c,g.mu c=some k)∨w.heap.size<=k
variable {H H':ay} {g g':Gh} {w0 w w':World}
theorem bp.length:∀ {cs:List A} {ds:List Value},bp H g w cs ds->ds.length=cs.length
 | [],_,h=>by rw[bp] at h; subst h; rfl
 | a :: as,_,h=>by rw[bp] at h; obtain ⟨d,ds',rfl,_,h2⟩:=h; simp[bp.length h2]
theorem bn.length:∀ {cs:List (List A)} {ds:List (List Value)},bn H g w cs ds->ds.length=cs.length
 | [],_,h=>by rw[bn] at h; subst h; rfl
 | a :: as,_,h=>by rw[bn] at h; obtain ⟨d,ds',rfl,_,h2⟩:=h; simp[bn.length h2]
theorem bB.eZ (he:vU H g w H' g' w') {k off:Nat} {ds:List Value} (h:bB H g w k off ds):bB H' g' w' k off ds:=fun j v hj=>let ⟨h1,h2⟩:=h j v hj; he.cell _ _ _ h2 h1
mutual
theorem VR.eZ (he:vU H g w H' g' w'):∀ (a:A) (c:Value),VR H g w a c->VR H' g' w' a c
 | .any,_,_=>by rw[VR]; trivial
 | .v x,c,h=>by rw[VR] at h ⊢; exact h
 | .ptr b o,c,h=>by
  rw[VR] at h ⊢
  cases hb:H[b]? with
  | none=>rw[hb] at h; exact h.elim
  | some B =>
   obtain ⟨B',hB',ht⟩:=he.blk b B hb
   rw[hb] at h; rw[hB']
   cases B with
   | box _=>cases B' with
    | box _=>obtain ⟨k,h1,h2⟩:=h; exact⟨k,(show g'.mu b=g.mu b from ht).trans h1,h2⟩
    | row wr _ _=>exact False.elim ht
    | rng _=>exact False.elim ht
    | mp _ _ _=>exact False.elim ht
    | dead=>obtain ⟨k,h1,h2⟩:=h; subst h2; rfl
    | hole=>exact False.elim ht
   | row wr _ _=>cases B' with
    | box _=>cases wr<;>exact False.elim ht
    | row _ _ _=>exact h
    | rng _=>cases wr<;>exact False.elim ht
    | mp _ _ _=>cases wr<;>exact False.elim ht
    | dead=>exact h
    | hole=>cases wr<;>exact False.elim ht
   | rng _=>cases B'<;>first | exact h | (exact False.elim ht)
   | mp _ _ _=>cases B'<;>first | exact h | (exact False.elim ht)
   | dead=>cases B'<;>first | exact h | (exact False.elim ht)
   | hole=>exact False.elim h
 | .ep b i o,c,h=>by
  rw[VR] at h ⊢
  cases hb:H[b]? with
  | none=>rw[hb] at h; exact h.elim
  | some B =>
   obtain ⟨B',hB',ht⟩:=he.blk b B hb
   rw[hb] at h; rw[hB']
   cases B with
   | box _=>cases B' with
    | box _=>exact h
    | row wr _ _=>exact False.elim ht
    | rng _=>exact False.elim ht
    | mp _ _ _=>exact False.elim ht
    | dead=>exact h
    | hole=>exact False.elim ht
   | row wr es els=>cases wr with
    | true=>cases B' with
     | box _=>exact False.elim ht
     | row wr' es' els'=>cases wr' with
      | true =>
       obtain ⟨e1,e2,e3⟩:=ht
       obtain ⟨h0,k,h1,h2⟩:=h
       subst e1
       exact⟨by omega,k,e3.trans h1,h2⟩
      | false=>exact False.elim ht
     | rng _=>exact False.elim ht
     | mp _ _ _=>exact False.elim ht
     | dead=>obtain ⟨_,k,h1,h2⟩:=h; subst h2; rfl
     | hole=>exact False.elim ht
    | false=>cases B' with
     | box _=>exact False.elim ht
     | row wr' es' els'=>cases wr' with
      | true=>exact False.elim ht
      | false=>exact h
     | rng _=>exact False.elim ht
     | mp _ _ _=>exact False.elim ht
     | dead=>exact h
     | hole=>exact False.elim ht
   | rng _=>cases B'<;>first | exact h | (exact False.elim ht)
   | mp _ _ _=>cases B'<;>first | exact h | (exact False.elim ht)
   | dead=>cases B'<;>first | exact h | (exact False.elim ht)
   | hole=>exact False.elim h
 | .ip cs,c,h=>by
  rw[VR] at h ⊢
  obtain ⟨k,off,ds,h1,h2,h3⟩:=h
  exact⟨k,off,ds,h1,h2.eZ he,bp.eZ he cs ds h3⟩
 | .imm els clip,c,h=>by
  rw[VR] at h ⊢
  obtain ⟨a,cap,ds,es,h1,h2,h3,h4,h5,h6⟩:=h
  exact⟨a,cap,ds,es,h1,h2,h3,h4,fun hp=>let ⟨k,off,e1,e2⟩:=h5 hp; ⟨k,off,e1,e2.eZ he⟩,bn.eZ he els ds h6⟩
 | .sl b o n clip,c,h=>by
  rw[VR] at h ⊢
  cases hb:H[b]? with
  | none=>rw[hb] at h; exact h.elim
  | some B =>
   obtain ⟨B',hB',ht⟩:=he.blk b B hb
   rw[hb] at h; rw[hB']
   cases B with
   | box _=>cases B' with
    | box _=>exact h
    | row wr _ _=>exact False.elim ht
    | rng _=>exact False.elim ht
    | mp _ _ _=>exact False.elim ht
    | dead=>exact h
    | hole=>exact False.elim ht
   | row wr es els=>cases wr with
    | true=>cases B' with
     | box _=>exact False.elim ht
     | row wr' es' els'=>cases wr' with
      | true =>
       obtain ⟨e1,e2,e3⟩:=ht
       obtain ⟨h0,a,cap,h1,h2,h3,h4⟩:=h
       subst e1
       exact⟨by omega,a,cap,h1,h2,h3,fun hp=>let ⟨k,g1,g2⟩:=h4 hp; ⟨k,e3.trans g1,g2⟩⟩
      | false=>exact False.elim ht
     | rng _=>exact False.elim ht
     | mp _ _ _=>exact False.elim ht
     | dead=>obtain ⟨_,a,cap,h1,_⟩:=h; subst h1; rfl
     | hole=>exact False.elim ht
    | false=>cases B' with
     | box _=>exact False.elim ht
     | row wr' es' els'=>cases wr' with
      | true=>exact False.elim ht
      | false =>
       obtain ⟨e1,⟨r,e2⟩,e3,e4,e5⟩:=ht
       obtain ⟨h0,a,cap,h1,h2,h3,h4,h5⟩:=h
       subst e1
       refine⟨by omega,a,cap,h1,h2,h3,fun hp=>?_,fun hc ho hn hlt=>?_⟩
       ·obtain ⟨k,off,g1,g2⟩:=h4 hp
        refine⟨k,off,g1,?_⟩
        have:((g'.ga b).drop o).take n=((g.ga b).drop o).take n:=by
         rw[e2,List.drop_append_of_le_length (by omega),List.take_append_of_le_length (by simp; omega)]
        rw[this]
        exact g2.eZ he
       ·have hel:els'.length=els.length:=by omega
        obtain ⟨k,arr,ty,g1,g2,g3,g4⟩:=h5 hc ho (by omega) hlt
        obtain ⟨m1,m2⟩:=e5 hel
        obtain ⟨arr',m3,m4⟩:=m2 k arr ty g1 g3
        exact⟨k,arr',ty,m1.trans g1,g2,m3,by omega⟩
     | rng _=>exact False.elim ht
     | mp _ _ _=>exact False.elim ht
     | dead=>obtain ⟨_,a,cap,h1,_⟩:=h; subst h1; rfl
     | hole=>exact False.elim ht
   | rng _=>cases B'<;>first | exact h | (exact False.elim ht)
   | mp _ _ _=>cases B'<;>first | exact h | (exact False.elim ht)
   | dead=>cases B'<;>first | exact h | (exact False.elim ht)
   | hole=>exact False.elim h
 | .agg cs,c,h=>by
  rw[VR] at h ⊢
  obtain ⟨ds,h1,h2⟩:=h
  exact⟨ds,h1,bp.eZ he cs _ h2⟩
 | .tup cs,c,h=>by
  rw[VR] at h ⊢
  obtain ⟨ds,h1,h2⟩:=h
  exact⟨ds,h1,bp.eZ he cs _ h2⟩
 | .fn f a b,c,h=>by
  rw[VR] at h ⊢
  obtain ⟨ds,es,h1,h2,h3⟩:=h
  exact⟨ds,es,h1,bp.eZ he a _ h2,bp.eZ he b _ h3⟩
 | .ifc t x,c,h=>by
  rw[VR] at h ⊢
  obtain ⟨d,h1,h2⟩:=h
  exact⟨d,h1,VR.eZ he x d h2⟩
 | .yld b,c,h=>by
  rw[VR] at h ⊢
  cases hb:H[b]? with
  | none=>rw[hb] at h; exact h.elim
  | some B =>
   obtain ⟨B',hB',ht⟩:=he.blk b B hb
   rw[hb] at h; rw[hB']
   cases B with
   | rng st=>cases B' with
    | rng st'=>obtain ⟨k,h1,h2⟩:=h; exact⟨k,(show g'.mu b=g.mu b from ht.1).trans h1,h2⟩
    | dead=>obtain ⟨k,h1,h2⟩:=h; subst h2; rfl
    | hole=>exact False.elim ht
    | box _=>exact False.elim ht
    | row _ _ _=>exact False.elim ht
    | mp _ _ _=>exact False.elim ht
   | row wr _ _=>cases wr<;>cases B'<;>first | exact h | (exact False.elim ht)
   | dead=>cases B'<;>first | exact h | (exact False.elim ht)
   | box _=>cases B'<;>first | exact h | (exact False.elim ht)
   | mp _ _ _=>cases B'<;>first | exact h | (exact False.elim ht)
   | hole=>exact False.elim h
 | .nq els,c,h=>by rw[VR] at h ⊢; exact h
 | .mr b,c,h=>by
  rw[VR] at h ⊢
  cases hb:H[b]? with
  | none=>rw[hb] at h; exact h.elim
  | some B =>
   obtain ⟨B',hB',ht⟩:=he.blk b B hb
   rw[hb] at h; rw[hB']
   cases B with
   | mp _ _ _=>cases B' with
    | mp _ _ _=>obtain ⟨k,h1,h2⟩:=h; exact⟨k,(show g'.mu b=g.mu b from ht).trans h1,h2⟩
    | dead=>obtain ⟨k,h1,h2⟩:=h; subst h2; rfl
    | hole=>exact False.elim ht
    | box _=>exact False.elim ht
    | row _ _ _=>exact False.elim ht
    | rng _=>exact False.elim ht
   | row wr _ _=>cases wr<;>cases B'<;>first | exact h | (exact False.elim ht)
   | dead=>cases B'<;>first | exact h | (exact False.elim ht)
   | box _=>cases B'<;>first | exact h | (exact False.elim ht)
   | rng _=>cases B'<;>first | exact h | (exact False.elim ht)
   | hole=>exact False.elim h
 | .mv k ks vs,c,h=>by
  rw[VR] at h ⊢
  obtain ⟨r,arr,cl,h1,h2,h3,h4,h5⟩:=h
  obtain ⟨e1,e2⟩:=he.map r arr cl h2 h3
  exact⟨r,arr,cl,h1,e2,e1,h4,bp.eZ he vs _ h5⟩
theorem bp.eZ (he:vU H g w H' g' w'):∀ (cs:List A) (ds:List Value),bp H g w cs ds->bp H' g' w' cs ds
 | [],_,h=>by rw[bp] at h ⊢; exact h
 | a :: as,_,h=>by
  rw[bp] at h ⊢
  obtain ⟨d,ds',h1,h2,h3⟩:=h
  exact⟨d,ds',h1,VR.eZ he a d h2,bp.eZ he as ds' h3⟩
theorem bn.eZ (he:vU H g w H' g' w'):∀ (cs:List (List A)) (ds:List (List Value)),bn H g w cs ds->bn H' g' w' cs ds
 | [],_,h=>by rw[bn] at h ⊢; exact h
 | a :: as,_,h=>by
  rw[bn] at h ⊢
  obtain ⟨d,ds',h1,h2,h3⟩:=h
  exact⟨d,ds',h1,bp.eZ he a d h2,bn.eZ he as ds' h3⟩
end
theorem Ext.Kk (he:Ext H g w H' g' w'):vU H g w H' g' w':=⟨he.cell,he.blk,he.map⟩
theorem bB.ext (he:Ext H g w H' g' w') {k off:Nat} {ds:List Value} (h:bB H g w k off ds):bB H' g' w' k off ds:=h.eZ he.Kk
theorem VR.ext (he:Ext H g w H' g' w') (a:A) (c:Value) (h:VR H g w a c):VR H' g' w' a c:=VR.eZ he.Kk a c h
theorem bp.ext (he:Ext H g w H' g' w') (cs:List A) (ds:List Value) (h:bp H g w cs ds):bp H' g' w' cs ds:=bp.eZ he.Kk cs ds h
theorem bn.ext (he:Ext H g w H' g' w') (cs:List (List A)) (ds:List (List Value)) (h:bn H g w cs ds):bn H' g' w' cs ds:=bn.eZ he.Kk cs ds h
theorem lF.len {b es:Nat} {els:List (List A)} (h:lF H g w b (.row false es els)):(g.ga b).length=els.length:=h.1.length
theorem Rel.yV (hr:Rel H g w0 w) (he:Ext H g w H' g' w') (hS:g'.S=g.S:=by rfl):∀ k o,w'.heap.size<=k->g'.S k o:=fun k o hk=>by rw[hS]; exact hr.out k o (Nat.le_trans he.size hk)
theorem Rel.xi (hr:Rel H g w0 w) (he:Ext H g w H' g' w') (hS:g'.S=g.S:=by rfl):∀ b k o,g'.mu b=some k->g'.S k o:=fun b k o h=>by
 rw[hS]
 rcases he.fresh b k h with ⟨c,hc⟩ | hl
 ·exact hr.own c k o hc
 ·exact hr.out k o hl
theorem Ext.below (hr:Rel H g w0 w) (hb:Below w.heap.size w w'):Ext H g w H g w':=by
 refine⟨fun k o v hs hc=>⟨(hb.cell (p:=⟨k,o,none⟩) (World.block_lt_of_cell? w _ hc)).trans hc,hs⟩,fun b B hB=>⟨B,hB,?_⟩,fun k o ho=>(hb.block k (Array.getElem?_eq_some_iff.1 ho).1).trans ho,hb.size,fun k arr cl hs hm=>⟨(hb.block k (Array.getElem?_eq_some_iff.1 hm).1).trans hm,hs⟩,fun k hk _=>hb.block k hk,fun b k h=>.inl ⟨b,h⟩⟩
 cases B with
 | box _=>rfl
 | mp _ _ _=>rfl
 | row wr es els=>cases wr with
  | true=>exact⟨rfl,rfl,rfl⟩
  | false=>exact⟨rfl,⟨[],by simp⟩,(hr.blk b _ hB).len,Nat.le_refl _,fun _=>⟨rfl,fun k arr ty hk ha=>⟨arr,(hb.block k (hr.dom b k hk).2.2).trans ha,Nat.le_refl _⟩⟩⟩
 | rng _=>exact⟨rfl,rfl⟩
 | dead=>trivial
 | hole=>trivial
theorem lF.below {b:Nat} {B:aD} (hr:Rel H g w0 w) (hb:Below w.heap.size w w') (h:lF H g w b B):lF H g w' b B:=by
 have he:=Ext.below hr hb
 cases B with
 | box cs=>obtain ⟨k,arr,ty,h1,h2,h3⟩:=h; exact⟨k,arr,ty,h1,(hb.block k (hr.dom b k h1).2.2).trans h2,bp.ext he _ _ h3⟩
 | row wr es els=>cases wr with
  | true =>
   obtain ⟨ds,h1,h2,h3⟩:=h
   exact⟨ds,bn.ext he _ _ h1,h2,fun hp=>let ⟨k,arr,ty,e1,e2,e3⟩:=h3 hp; ⟨k,arr,ty,e1,(hb.block k (hr.dom b k e1).2.2).trans e2,e3⟩⟩
  | false=>exact⟨bn.ext he _ _ h.1,h.2⟩
 | rng st=>obtain ⟨k,h1,h2⟩:=h; exact⟨k,h1,(hb.block k (hr.dom b k h1).2.2).trans h2⟩
 | mp _ _ _=>obtain ⟨k,arr,cl,h1,h2,h3,h4⟩:=h; exact⟨k,arr,cl,h1,(hb.block k (hr.dom b k h1).2.2).trans h2,h3,bp.ext he _ _ h4⟩
 | dead=>exact h
 | hole=>exact h
theorem Rel.eE (hr:Rel H g w0 w) (hb:Below w.heap.size w w'):Rel H g w0 w' :=
 ⟨hr.below.trans (hb.mono hr.below.size),fun b k hk=>⟨(hr.dom b k hk).1,(hr.dom b k hk).2.1,Nat.lt_of_lt_of_le (hr.dom b k hk).2.2 hb.size⟩,hr.inj,fun k o hk=>hr.out k o (Nat.le_trans hb.size hk),hr.own,fun b B hB=>(hr.blk b B hB).below hr hb⟩
theorem Rel.wo (hr:Rel H g w0 w) {B:Nat} (hc:cb B w w'):vU H g w H g w':=by
 refine⟨fun k o v hs h=>⟨Calm.cell (B:=B) ⟨k,o,none⟩ v w w' h hc,hs⟩,fun b Bk hB=>⟨Bk,hB,?_⟩,fun k arr cl hs hm=>⟨hc.data _ _ hm rfl,hs⟩⟩
 cases Bk with
 | box _=>rfl
 | mp _ _ _=>rfl
 | row wr es els=>cases wr with
  | true=>exact⟨rfl,rfl,rfl⟩
  | false=>exact⟨rfl,⟨[],by simp⟩,(hr.blk b _ hB).len,Nat.le_refl _,fun _=>⟨rfl,fun k arr ty hk ha=>⟨arr,hc.data _ _ ha rfl,Nat.le_refl _⟩⟩⟩
 | rng _=>exact⟨rfl,rfl⟩
 | dead=>trivial
 | hole=>trivial
theorem Rel.calm (hr:Rel H g w0 w) {B:Nat} (hB:w0.heap.size<=B) (hc:cb B w w') (hl:∀ (k:Nat) (o:Loop),w.heap[k]? = some (.loop o)->w'.heap[k]? = some (.loop o)):Rel H g w0 w':=by
 have he:=hr.wo hc
 refine⟨Calm.below (Nat.le_refl _) hB w w' hr.below hc,fun b k hk=>⟨(hr.dom b k hk).1,(hr.dom b k hk).2.1,Nat.lt_of_lt_of_le (hr.dom b k hk).2.2 hc.size⟩,hr.inj,fun k o hk=>hr.out k o (Nat.le_trans hc.size hk),hr.own,fun b Bk hBk=>?_⟩
 have h:=hr.blk b Bk hBk
 cases Bk with
 | box cs=>obtain ⟨k,arr,ty,h1,h2,h3⟩:=h; exact⟨k,arr,ty,h1,hc.data _ _ h2 rfl,bp.eZ he _ _ h3⟩
 | row wr es els=>cases wr with
  | true =>
   obtain ⟨ds,h1,h2,h3⟩:=h
   exact⟨ds,bn.eZ he _ _ h1,h2,fun hp=>let ⟨k,arr,ty,e1,e2,e3⟩:=h3 hp; ⟨k,arr,ty,e1,hc.data _ _ e2 rfl,e3⟩⟩
  | false=>exact⟨bn.eZ he _ _ h.1,h.2⟩
 | rng st=>obtain ⟨k,h1,h2⟩:=h; exact⟨k,h1,hl k _ h2⟩
 | mp _ _ _=>obtain ⟨k,arr,cl,h1,h2,h3,h4⟩:=h; exact⟨k,arr,cl,h1,hc.data _ _ h2 rfl,h3,bp.eZ he _ _ h4⟩
 | dead=>exact h
 | hole=>exact h
theorem Ext.calm {H0:ay} {g0:Gh} {ws:World} (he:Ext H0 g0 ws H g w) (hr:Rel H g w0 w) {B:Nat} (hB:ws.heap.size<=B) (hc:cb B w w'):Ext H0 g0 ws H g w':=by
 have h0:=hr.wo hc
 refine⟨fun k o v hs h=>?_,fun b Bk hBk=>?_,fun k o ho=>?_,Nat.le_trans he.size hc.size,fun k arr cl hs hm=>let ⟨c1,s1⟩:=he.map k arr cl hs hm; h0.map k arr cl s1 c1,fun k hk hn=>(hc.low k (by omega) (Nat.lt_of_lt_of_le hk he.size)).trans (he.obj k hk hn),he.fresh⟩
 ·obtain ⟨c1,s1⟩:=he.cell k o v hs h
  exact h0.cell k o v s1 c1
 ·obtain ⟨B',hB',ht⟩:=he.blk b Bk hBk
  refine⟨B',hB',?_⟩
  cases Bk with
  | row wr es els=>cases wr with
   | false=>cases B' with
    | row wr' es' els'=>cases wr' with
     | false =>
      obtain ⟨e1,e2,e3,e4,e5⟩:=ht
      refine⟨e1,e2,e3,e4,fun hl=>⟨(e5 hl).1,fun k arr ty hk ha=>?_⟩⟩
      obtain ⟨arr',q1,q2⟩:=(e5 hl).2 k arr ty hk ha
      exact⟨arr',hc.data _ _ q1 rfl,q2⟩
     | true=>exact ht
    | _=>exact ht
   | true=>cases B' with
    | row wr' es' els'=>cases wr'<;>exact ht
    | _=>exact ht
  | _=>cases B'<;>exact ht
 ·have hk:=he.kept k o ho
  have hlt:=(Array.getElem?_eq_some_iff.1 ho).1
  exact(hc.low k (by omega) (Array.getElem?_eq_some_iff.1 hk).1).trans hk
end
section
open Go.RowKit
variable {P:Program} {H:ay} {g:Gh} {w0 w:World}
theorem ed {α:Type} {P:Program}:∀ {s:Sem α} {a:α},dh P s=some a->∀ w,s.run P w=.ok a w
 | .pure a,_,h,w=>by simp only[dh,Option.some.injEq] at h; subst h; rfl
 | .program k,a,h,w=>by simp only[dh] at h; exact ed (s:=k P) h w
 | .mark _ k,a,h,w=>by simp only[dh] at h; exact ed (s:=k) h w
 | .load ..,_,h,_ | .store ..,_,h,_ | .new ..,_,h,_ | .shape ..,_,h,_ | .freeze ..,_,h,_ | .frozen ..,_,h,_ | .getObj ..,_,h,_ | .setObj ..,_,h,_ | .choose ..,_,h,_ | .sys ..,_,h,_ | .halt _,_,h,_=>by cases h
theorem dE:∀ {cs:List A} {ds:List Value},bp H g w cs ds↔ds.length=cs.length/\∀ (i:Nat) a d,cs[i]? = some a->ds[i]? = some d->VR H g w a d
 | [],ds=>by
  rw[bp]
  exact⟨fun h=>by subst h; simp,fun h=>by simpa using h.1⟩
 | a :: as,ds=>by
  rw[bp]
  constructor
  ·rintro ⟨d,ds',rfl,h1,h2⟩
   obtain ⟨h3,h4⟩:=dE.1 h2
   refine⟨by simp[h3],fun i x y hx hy=>?_⟩
   cases i with
   | zero=>simp at hx hy; subst hx; subst hy; exact h1
   | succ i=>exact h4 i x y (by simpa using hx) (by simpa using hy)
  ·rintro ⟨h1,h2⟩
   cases ds with
   | nil=>simp at h1
   | cons d ds'=>exact⟨d,ds',rfl,h2 0 a d rfl rfl,dE.2 ⟨by simpa using h1,fun i x y hx hy=>h2 (i+1) x y (by simpa using hx) (by simpa using hy)⟩⟩
theorem cV:∀ {cs:List (List A)} {ds:List (List Value)},bn H g w cs ds↔ds.length=cs.length/\∀ (i:Nat) a d,cs[i]? = some a->ds[i]? = some d->bp H g w a d
 | [],ds=>by
  rw[bn]
  exact⟨fun h=>by subst h; simp,fun h=>by simpa using h.1⟩
 | a :: as,ds=>by
  rw[bn]
  constructor
  ·rintro ⟨d,ds',rfl,h1,h2⟩
   obtain ⟨h3,h4⟩:=cV.1 h2
   refine⟨by simp[h3],fun i x y hx hy=>?_⟩
   cases i with
   | zero=>simp at hx hy; subst hx; subst hy; exact h1
   | succ i=>exact h4 i x y (by simpa using hx) (by simpa using hy)
  ·rintro ⟨h1,h2⟩
   cases ds with
   | nil=>simp at h1
   | cons d ds'=>exact⟨d,ds',rfl,h2 0 a d rfl rfl,cV.2 ⟨by simpa using h1,fun i x y hx hy=>h2 (i+1) x y (by simpa using hx) (by simpa using hy)⟩⟩
theorem bp.get {cs:List A} {ds:List Value} (h:bp H g w cs ds) {i:Nat} {a:A} (ha:cs[i]? = some a):∃ d,ds[i]? = some d/\VR H g w a d:=by
 obtain ⟨h1,h2⟩:=dE.1 h
 have hi:i<ds.length:=by rw[h1]; exact(List.getElem?_eq_some_iff.1 ha).1
 exact⟨ds[i],List.getElem?_eq_getElem hi,h2 i a _ ha (List.getElem?_eq_getElem hi)⟩
theorem bn.get {cs:List (List A)} {ds:List (List Value)} (h:bn H g w cs ds) {i:Nat} {a:List A} (ha:cs[i]? = some a):∃ d,ds[i]? = some d/\bp H g w a d:=by
 obtain ⟨h1,h2⟩:=cV.1 h
 have hi:i<ds.length:=by rw[h1]; exact(List.getElem?_eq_some_iff.1 ha).1
 exact⟨ds[i],List.getElem?_eq_getElem hi,h2 i a _ ha (List.getElem?_eq_getElem hi)⟩
theorem bp.drop {cs:List A} {ds:List Value} (h:bp H g w cs ds) (n:Nat):bp H g w (cs.drop n) (ds.drop n):=by
 obtain ⟨h1,h2⟩:=dE.1 h
 exact dE.2 ⟨by simp[h1],fun i a d ha hd=>h2 (n+i) a d (by simpa using ha) (by simpa using hd)⟩
theorem bp.take {cs:List A} {ds:List Value} (h:bp H g w cs ds) (n:Nat):bp H g w (cs.take n) (ds.take n):=by
 obtain ⟨h1,h2⟩:=dE.1 h
 refine dE.2 ⟨by simp[h1],fun i a d ha hd=>?_⟩
 rw[List.getElem?_take] at ha hd
 split at ha
 ·rename_i hlt; rw[if_pos hlt] at hd; exact h2 _ _ _ ha hd
 ·cases ha
theorem bp.append {cs cs':List A} {ds ds':List Value} (h:bp H g w cs ds) (h':bp H g w cs' ds'):bp H g w (cs++cs') (ds++ds'):=by
 obtain ⟨h1,h2⟩:=dE.1 h
 obtain ⟨h3,h4⟩:=dE.1 h'
 refine dE.2 ⟨by simp[h1,h3],fun i a d ha hd=>?_⟩
 rw[List.getElem?_append] at ha hd
 rw[h1] at hd
 split at ha
 ·rename_i hlt; rw[if_pos hlt] at hd; exact h2 _ _ _ ha hd
 ·rename_i hlt; rw[if_neg hlt] at hd; exact h4 _ _ _ ha hd
theorem bn.drop {cs:List (List A)} {ds:List (List Value)} (h:bn H g w cs ds) (n:Nat):bn H g w (cs.drop n) (ds.drop n):=by
 obtain ⟨h1,h2⟩:=cV.1 h
 exact cV.2 ⟨by simp[h1],fun i a d ha hd=>h2 (n+i) a d (by simpa using ha) (by simpa using hd)⟩
theorem bn.take {cs:List (List A)} {ds:List (List Value)} (h:bn H g w cs ds) (n:Nat):bn H g w (cs.take n) (ds.take n):=by
 obtain ⟨h1,h2⟩:=cV.1 h
 refine cV.2 ⟨by simp[h1],fun i a d ha hd=>?_⟩
 rw[List.getElem?_take] at ha hd
 split at ha
 ·rename_i hlt; rw[if_pos hlt] at hd; exact h2 _ _ _ ha hd
 ·cases ha
theorem bn.append {cs cs':List (List A)} {ds ds':List (List Value)} (h:bn H g w cs ds) (h':bn H g w cs' ds'):bn H g w (cs++cs') (ds++ds'):=by
 obtain ⟨h1,h2⟩:=cV.1 h
 obtain ⟨h3,h4⟩:=cV.1 h'
 refine cV.2 ⟨by simp[h1,h3],fun i a d ha hd=>?_⟩
 rw[List.getElem?_append] at ha hd
 rw[h1] at hd
 split at ha
 ·rename_i hlt; rw[if_pos hlt] at hd; exact h2 _ _ _ ha hd
 ·rename_i hlt; rw[if_neg hlt] at hd; exact h4 _ _ _ ha hd
theorem bp.bo {cs xs:List A} {ds ys:List Value} (h:bp H g w cs ds) (h':bp H g w xs ys) (o:Nat):bp H g w (bo cs o xs) (bo ds o ys):=by
 unfold Go.Proofs.Ytdmgdjnadbakfaa.bo
 rw[h'.length]
 exact((h.take o).append h').append (h.drop _)
theorem bn.bo {cs xs:List (List A)} {ds ys:List (List Value)} (h:bn H g w cs ds) (h':bn H g w xs ys) (o:Nat):bn H g w (bo cs o xs) (bo ds o ys):=by
 unfold Go.Proofs.Ytdmgdjnadbakfaa.bo
 rw[h'.length]
 exact((h.take o).append h').append (h.drop _)
theorem gH {α:Type} (es:Nat):∀ (q:Nat) (xs:List α),(chunk es q xs).length=q
 | 0,_=>rfl
 | q+1,xs=>by rw[chunk,List.length_cons,gH es q]
theorem jE {α:Type} {es:Nat}:∀ {q:Nat} {xs:List α},xs.length=q*es->∀ d∈chunk es q xs,d.length=es
 | 0,_,_,d,hd=>by cases hd
 | q+1,xs,h,d,hd=>by
  rw[Nat.add_mul,Nat.one_mul] at h
  rcases List.mem_cons.1 hd with rfl | hd
  ·simp; omega
  ·exact jE (by simp; omega) d hd
theorem lQ {α:Type} {es:Nat}:∀ {q:Nat} {xs:List α},xs.length=q*es->(chunk es q xs).flatten=xs
 | 0,xs,h=>by
  have:xs=[]:=List.eq_nil_of_length_eq_zero (by simpa using h)
  subst this; rfl
 | q+1,xs,h=>by
  rw[Nat.add_mul,Nat.one_mul] at h
  rw[chunk,List.flatten_cons,lQ (by simp; omega)]
  exact List.take_append_drop _ _
theorem bp.chunk {es:Nat}:∀ (q:Nat) {cs:List A} {ds:List Value},bp H g w cs ds->bn H g w (chunk es q cs) (chunk es q ds)
 | 0,_,_,_=>by rw[Go.Proofs.Ytdmgdjnadbakfaa.chunk,Go.Proofs.Ytdmgdjnadbakfaa.chunk,bn]
 | q+1,cs,ds,h=>by
  rw[Go.Proofs.Ytdmgdjnadbakfaa.chunk,Go.Proofs.Ytdmgdjnadbakfaa.chunk,bn]
  exact⟨_,_,rfl,h.take es,bp.chunk q (h.drop es)⟩
theorem bn.flat:∀ {els:List (List A)} {ds:List (List Value)},bn H g w els ds->bp H g w els.flatten ds.flatten
 | [],_,h=>by rw[bn] at h; subst h; rw[List.flatten_nil,bp]; rfl
 | a :: els,_,h=>by
  rw[bn] at h
  obtain ⟨d,ds',rfl,h1,h2⟩:=h
  rw[List.flatten_cons,List.flatten_cons]
  exact h1.append (bn.flat h2)
theorem Df (x:Value):VR H g w (yT x) x:=by
 unfold yT
 split
 ·rw[VR]; exact⟨none,0,[],0,rfl,Nat.le_refl _,fun _=>rfl,by simp,by simp,by rw[bn]⟩
 ·rw[VR]
theorem jh (l:List Value):bp H g w (l.map yT) l :=
 dE.2 ⟨by simp,fun i a d ha hd=>by rw[List.getElem?_map,hd] at ha; cases ha; exact Df d⟩
theorem ow (x:Value):VR H g w (yU x) x:=by
 unfold yU
 split
 ·rename_i cs; rw[VR]; exact⟨cs,rfl,jh _⟩
 ·exact Df _
mutual
theorem nk:∀ (a:A) {v c:Value},a.qd=some v->VR H g w a c->c=v
 | .any,_,_,h,_=>by simp[A.qd] at h
 | .v x,_,_,h,hr=>by simp[A.qd] at h; rw[VR] at hr; rw[hr,h]
 | .ptr ..,_,_,h,_=>by simp[A.qd] at h
 | .ep ..,_,_,h,_=>by simp[A.qd] at h
 | .ip _,_,_,h,_=>by simp[A.qd] at h
 | .imm ..,_,_,h,_=>by simp[A.qd] at h
 | .sl ..,_,_,h,_=>by simp[A.qd] at h
 | .agg cs,_,_,h,hr=>by
  simp[A.qd] at h
  obtain ⟨l,hl,rfl⟩:=h
  rw[VR] at hr
  obtain ⟨ds,rfl,h2⟩:=hr
  have:=Aw cs hl h2
  rw[<-this]
 | .tup _,_,_,h,_=>by simp[A.qd] at h
 | .fn (.func f) [] [],_,_,h,hr=>by
  simp[A.qd] at h
  subst h
  rw[VR] at hr
  obtain ⟨ds,es,rfl,h1,h2⟩:=hr
  rw[bp] at h1 h2
  have e1:ds=#[]:=by cases ds; simp_all
  have e2:es=#[]:=by cases es; simp_all
  rw[e1,e2]
 | .fn (.func _) (_ :: _) _,_,_,h,_=>by simp[A.qd] at h
 | .fn (.func _) [] (_ :: _),_,_,h,_=>by simp[A.qd] at h
 | .fn (.method _) _ _,_,_,h,_=>by simp[A.qd] at h
 | .fn (.methodOf ..) _ _,_,_,h,_=>by simp[A.qd] at h
 | .fn (.via ..) _ _,_,_,h,_=>by simp[A.qd] at h
 | .fn (.yield _) _ _,_,_,h,_=>by simp[A.qd] at h
 | .ifc t x,_,_,h,hr=>by
  simp[A.qd] at h
  obtain ⟨v,hv,rfl⟩:=h
  rw[VR] at hr
  obtain ⟨d,rfl,h2⟩:=hr
  rw[nk x hv h2]
theorem Aw:∀ (cs:List A) {l ds:List Value},Bg cs=some l->bp H g w cs ds->ds=l
 | [],_,_,h,hr=>by simp[Bg] at h; rw[bp] at hr; rw[hr,<-h]
 | a :: as,_,_,h,hr=>by
  rw[Bg] at h
  cases hx:a.qd with
  | none=>rw[hx] at h; cases h
  | some x =>
   rw[hx] at h
   cases hl:Bg as with
   | none=>rw[hl] at h; cases h
   | some l =>
    rw[hl] at h
    cases h
    rw[bp] at hr
    obtain ⟨d,ds',rfl,h1,h2⟩:=hr
    rw[nk a hx h1,Aw as hl h2]
end
theorem rh {a:A} {c:Value} (hc:a.cell=true) (h:VR H g w a c):c.oneCell'=true:=by
 cases a with
 | any=>simp[A.cell] at hc
 | v x=>rw[VR] at h; rw[h]; simpa [A.cell] using hc
 | ptr b o =>
  rw[VR] at h
  split at h
  ·obtain ⟨k,_,rfl⟩:=h; rfl
  ·exact h.elim
  ·exact h
  ·exact h.elim
 | ep b i o =>
  rw[VR] at h
  split at h
  ·obtain ⟨_,k,_,rfl⟩:=h; rfl
  ·exact h.elim
  ·exact h
  ·exact h.elim
 | ip cs=>rw[VR] at h; obtain ⟨_,_,_,rfl,_⟩:=h; rfl
 | imm els clip=>rw[VR] at h; obtain ⟨_,_,_,_,rfl,_⟩:=h; rfl
 | sl b o n clip =>
  rw[VR] at h
  split at h
  ·obtain ⟨_,_,_,rfl,_⟩:=h; rfl
  ·obtain ⟨_,_,_,rfl,_⟩:=h; rfl
  ·exact h.elim
  ·exact h
  ·exact h.elim
 | agg _=>simp[A.cell] at hc
 | tup _=>simp[A.cell] at hc
 | fn f a b=>rw[VR] at h; obtain ⟨_,_,rfl,_⟩:=h; rfl
 | ifc t x=>rw[VR] at h; obtain ⟨_,rfl,_⟩:=h; rfl
 | nq _=>simp[A.cell] at hc
 | yld b =>
  rw[VR] at h
  split at h
  ·obtain ⟨_,_,rfl⟩:=h; rfl
  ·exact h.elim
  ·exact h
  ·exact h.elim
 | mr b =>
  rw[VR] at h
  split at h
  ·obtain ⟨_,_,rfl⟩:=h; rfl
  ·exact h.elim
  ·exact h
  ·exact h.elim
 | mv k ks vs=>rw[VR] at h; obtain ⟨_,_,_,rfl,_⟩:=h; rfl
theorem uT {c:Value} (h:c.oneCell'=true):c.cells=#[c]:=by cases c<;>first | rfl | simp[Value.oneCell'] at h
theorem mL {a:A} {c:Value} {cs:List A} (ha:a.cells? = some cs) (h:VR H g w a c):bp H g w cs c.cells.toList/\(∀ x∈c.cells.toList,x.oneCell'=true)/\∀ x∈cs,x.cell=true:=by
 have one:∀ {x:A} {d:Value},x.cell=true->VR H g w x d->bp H g w [x] d.cells.toList/\(∀ y∈d.cells.toList,y.oneCell'=true)/\∀ y∈[x],y.cell=true:=fun {x d} hx hv=>by
  have h1:=rh hx hv
  rw[uT h1]
  refine⟨?_,by simp[h1],by simp[hx]⟩
  rw[bp]; exact⟨d,[],rfl,hv,by rw[bp]⟩
 cases a with
 | any=>simp[A.cells?] at ha
 | tup _=>simp[A.cells?] at ha
 | agg as =>
  simp only[A.cells?,cond_eq_ite] at ha
  split at ha
  ·rename_i hall
   cases ha
   rw[VR] at h
   obtain ⟨ds,rfl,h2⟩:=h
   refine⟨h2,fun x hx=>?_,List.all_eq_true.1 hall⟩
   obtain ⟨i,hi,rfl⟩:=List.getElem_of_mem hx
   have hl:=h2.length
   obtain ⟨d,hd,hv⟩:=h2.get (i:=i) (List.getElem?_eq_getElem (by simp only[Value.cells] at hi; omega))
   have hd':(Value.agg ds).cells.toList[i]? = some d:=hd
   rw[List.getElem?_eq_getElem hi] at hd'
   cases hd'
   exact rh (List.all_eq_true.1 hall _ (List.getElem_mem _)) hv
  ·cases ha
 | v x =>
  simp only[A.cells?,cond_eq_ite] at ha
  split at ha
  ·rename_i hx; cases ha; exact one hx h
  ·cases ha
 | nq _=>simp[A.cells?] at ha
 | _=>simp only[A.cells?,Option.some.injEq] at ha; subst ha; exact one rfl h
theorem vu {t:TypeId} {cs:List A} {ds:List Value} {a:A} (hj:join P t cs=some a) (h:bp H g w cs ds):∃ c,VR H g w a c/\(if lY P t=true then c=.agg ds.toArray else ds=[c]):=by
 unfold Go.Proofs.Ytdmgdjnadbakfaa.join at hj
 cases hA:lY P t
 ·rw[hA] at hj
  simp only[cond_false] at hj
  split at hj
  ·cases hj
   rw[bp] at h
   obtain ⟨d,ds',rfl,h1,h2⟩:=h
   rw[bp] at h2
   subst h2
   exact⟨d,h1,by simp⟩
  ·cases hj
 ·rw[hA] at hj
  simp only[cond_true,Option.some.injEq] at hj
  subst hj
  exact⟨.agg ds.toArray,by rw[VR]; exact⟨_,rfl,by simpa using h⟩,by simp⟩
theorem ua (t:TypeId) {d:TypeDesc} (hu:P.underlying t=some d) (w:World):(isAgg t).run P w=.ok (lY P t) w:=by
 unfold isAgg lY
 rw[Sem.run_bind,run_underlying hu w,hu]
 cases d<;>rfl
theorem lT {t:TypeId} {n:Nat} (h:db P t=some n):∃ d,P.underlying t=some d:=by
 unfold db at h
 cases hu:P.underlying t with
 | none=>rw[hu] at h; cases h
 | some d=>exact⟨d,rfl⟩
theorem fX {t:TypeId} {n:Nat} (h:db P t=some n):∃ i,P.info? t=some i/\i.size=n:=by
 obtain ⟨d,hu⟩:=lT h
 unfold db at h
 rw[hu] at h
 cases hi:P.info? t with
 | none=>rw[hi] at h; cases h
 | some i=>rw[hi] at h; exact⟨i,rfl,by simpa using h⟩
theorem er {t:TypeId} {n:Nat} (h:db P t=some n) (w:World):(sizeOf t).run P w=.ok n w:=by
 obtain ⟨i,hi,rfl⟩:=fX h
 simp[sizeOf,typeInfo,hi]
theorem xd {t:TypeId} {n:Nat} (hs:db P t=some n) {d:TypeDesc} (hu:P.underlying t=some d) {k off:Nat} {ds:List Value} (hl:ds.length=n) (hc:w.rangeAt k off ds) {c:Value} (h:if lY P t=true then c=.agg ds.toArray else ds=[c]) :
  (loadVar t ⟨k,off,none⟩).run P w=.ok c w:=by
 have hc':(loadCells ⟨k,off,none⟩ ds.length).run P w=.ok ds.toArray w :=
  run_loadCells_list (P:=P) w ⟨k,off,none⟩ ds (fun j v hv=>by rw[Addr.add_mid]; exact hc j v hv)
 unfold loadVar
 rw[Sem.run_bind,ua t hu w]
 cases hA:lY P t
 ·rw[hA] at h
  simp at h
  subst h
  have:=hc 0 c rfl
  simp only[Nat.add_zero] at this
  simp[load,Sem.run,this]
 ·rw[hA] at h
  simp at h
  subst h
  simp[er hs,<-hl,hc']
end
section
open Go.RowKit
variable {P:Program} {H:ay} {g:Gh} {w0 w:World}
theorem bt {α β:Type} {x:Option α} {f:α->Option β} {y:β} (h:x.bind f=some y):∃ a,x=some a/\f a=some y:=by
 cases x with
 | none=>cases h
 | some a=>exact⟨a,rfl,h⟩
theorem br {α:Type} {b:Bool} {x y:α}:(bif b then x else y)=if b=true then x else y:=by cases b<;>rfl
theorem eK {α:Type} {b:Bool} {x:Option α} {y:α} (h:(bif b then none else x)=some y):b=false/\x=some y:=by cases b<;>simp_all
theorem bf {α:Type} {b:Bool} {x:Option α} {y:α} (h:(bif b then x else none)=some y):b=true/\x=some y:=by cases b<;>simp_all
theorem bB.drop {k off:Nat} {ds:List Value} (h:bB H g w k off ds) (n:Nat):bB H g w k (off+n) (ds.drop n):=fun j v hj=>by
 rw[List.getElem?_drop] at hj
 rw[Nat.add_assoc]
 exact h (n+j) v hj
theorem bB.take {k off:Nat} {ds:List Value} (h:bB H g w k off ds) (n:Nat):bB H g w k off (ds.take n):=fun j v hj=>by
 rw[List.getElem?_take] at hj
 split at hj
 ·exact h j v hj
 ·cases hj
theorem bB.range {k off:Nat} {ds:List Value} (h:bB H g w k off ds):w.rangeAt k off ds:=fun j v hj=>(h j v hj).1
theorem jK {es:Nat}:∀ {ds:List (List Value)},(∀ d∈ds,d.length=es)->∀ {j:Nat} {d:List Value},ds[j]? = some d->∀ i,i<es->ds.flatten[j*es+i]? = d[i]?
 | [],_,j,d,h,i,_=>by simp at h
 | x :: xs,hl,j,d,h,i,hi=>by
  have hx:=hl x (by simp)
  cases j with
  | zero=>simp at h; subst h; simp[List.getElem?_append,hx,hi]
  | succ j =>
   have:=jK (ds:=xs) (fun d hd=>hl d (by simp[hd])) (j:=j) (d:=d) (by simpa using h) i hi
   rw[List.flatten_cons,List.getElem?_append_right (by rw[hx,Nat.add_mul]; omega),hx,<-this]
   congr 1
   rw[Nat.add_mul]; omega
theorem b6 {es:Nat}:∀ {ds:List (List Value)},(∀ d∈ds,d.length=es)->ds.flatten.length=ds.length*es
 | [],_=>by simp
 | x :: xs,hl=>by
  rw[List.flatten_cons,List.length_append,hl x (by simp),b6 (fun d hd=>hl d (by simp[hd])),List.length_cons,Nat.add_mul]; omega
theorem bB.elem {k off es:Nat} {ds:List (List Value)} (h:bB H g w k off ds.flatten) (hl:∀ d∈ds,d.length=es) {j:Nat} {d:List Value} (hd:ds[j]? = some d):bB H g w k (off+j*es) d:=fun i v hi=>by
 have hdl:d.length=es:=hl d (List.mem_of_getElem? hd)
 have hi':i<es:=by rw[<-hdl]; exact(List.getElem?_eq_some_iff.1 hi).1
 rw[Nat.add_assoc]
 exact h (j*es+i) v (by rw[jK hl hd i hi']; exact hi)
theorem bB.sub {k off es:Nat} {ds:List (List Value)} (h:bB H g w k off ds.flatten) (hl:∀ d∈ds,d.length=es) (l m:Nat):bB H g w k (off+l*es) ((ds.drop l).take m).flatten:=fun i v hi=>by
 have hl2:∀ d∈(ds.drop l).take m,d.length=es:=fun d hd=>hl d (List.mem_of_mem_drop (List.mem_of_mem_take hd))
 have hlen:=(List.getElem?_eq_some_iff.1 hi).1
 rw[b6 hl2] at hlen
 have hes:0<es:=by rcases Nat.eq_zero_or_pos es with h0 | h0; (rw[h0] at hlen; simp at hlen); exact h0
 have hq:i / es<((ds.drop l).take m).length:=Nat.div_lt_of_lt_mul (by rw[Nat.mul_comm]; exact hlen)
 have hdm:=Nat.div_add_mod i es
 have hr:=Nat.mod_lt i hes
 obtain ⟨d,hd⟩:∃ d,((ds.drop l).take m)[i / es]? = some d:=⟨_,List.getElem?_eq_getElem hq⟩
 have e1:=jK hl2 hd (i % es) hr
 have e2:i / es*es+i % es=i:=by rw[Nat.mul_comm]; exact hdm
 rw[e2,hi] at e1
 have hd2:ds[l+i / es]? = some d:=by
  rw[List.getElem?_take] at hd
  split at hd
  ·rwa [List.getElem?_drop] at hd
  ·cases hd
 have e3:=jK hl hd2 (i % es) hr
 have:=h ((l+i / es)*es+i % es) v (by rw[e3,<-e1])
 rwa [show off+((l+i / es)*es+i % es)=off+l*es+i by rw[Nat.add_mul]; omega] at this
theorem oe {a:A} {c:Value} {j:Nat} (h:idx a=some j) (hv:VR H g w a c):∃ k n,c=.int k n/\0<=n/\n.toNat=j:=by
 unfold idx at h
 split at h
 ·rename_i k n
  replace h:=bf h
  obtain ⟨h1,h2⟩:=h
  rw[VR] at hv
  exact⟨k,n,hv,by simpa using h1,by simpa using h2⟩
 ·cases h
theorem qm (hr:Rel H g w0 w) {t:TypeId} {x y:A} {c:Value} (h:nQ P t x H=some y) (hx:VR H g w x c):∃ d,(Instr.loadAt t c).run P w=.ok d w/\VR H g w y d:=by
 unfold nQ at h
 replace h:=bt h
 obtain ⟨n,hn,h⟩:=h
 replace h:=eK h
 obtain ⟨_,h⟩:=h
 obtain ⟨dd,hu⟩:=lT hn
 have fin:∀ {k off:Nat} {cs:List A} {ds:List Value},c=.pointer (some ⟨k,off,none⟩)->bp H g w cs ds->cs.length=n->w.rangeAt k off ds->join P t cs=some y->∃ d,(Instr.loadAt t c).run P w=.ok d w/\VR H g w y d:=by
  intro k off cs ds hc hv hl hcells hj
  obtain ⟨d,h1,h2⟩:=vu hj hv
  refine⟨d,?_,h1⟩
  subst hc
  simp only[Instr.loadAt,Instr.sureAddr,Sem.run_bind,Sem.run_pure,Result.andThen_ok]
  exact xd hn hu (hv.length.trans hl) hcells h2
 have seg:∀ {k:Nat} {arr:Array Value} {ty:TypeId} (o:Nat) (ds:List Value),w.heap[k]? = some (.cells arr ty (0,0))->(∀ (j:Nat) v,ds[j]? = some v->arr[o+j]? = some v)->w.rangeAt k o ds:=fun {k arr ty} o ds hk hd j v hj=>by
  rw[cell_of_row w k (o+j) arr ty (0,0) hk]; exact hd j v hj
 split at h
 ·rename_i b o
  split at h
  ·rename_i cs hb
   replace h:=bf h
   obtain ⟨h1,h2⟩:=h
   have h1:=of_decide_eq_true h1
   rw[VR,hb] at hx
   obtain ⟨k,hk,rfl⟩:=hx
   obtain ⟨k',arr,ty,hk',ha,hv⟩:=hr.blk b _ hb
   rw[hk] at hk'; cases hk'
   refine fin rfl ((hv.drop o).take n) (by simp; omega) (seg o _ ha fun j v hj=>?_) h2
   rw[List.getElem?_take] at hj
   split at hj
   ·rw[List.getElem?_drop] at hj; simpa using hj
   ·cases hj
  ·cases h
 ·rename_i b i o
  split at h
  ·rename_i es els hb
   split at h
   ·rename_i cs hi
    rw[VR,hb] at hx
    obtain ⟨hlt,k,hk,rfl⟩:=hx
    obtain ⟨ds,hv,hl,hrow⟩:=hr.blk b _ hb
    obtain ⟨k',arr,ty,hk',ha,hcell⟩:=hrow (by omega)
    rw[hk] at hk'; cases hk'
    obtain ⟨d,hd,hvd⟩:=hv.get hi
    rw[br] at h
    split at h
    rotate_left
    ·replace h:=bf h
     obtain ⟨h1,h2⟩:=h
     simp only[Bool.and_eq_true,Nat.beq_eq] at h1
     obtain ⟨rfl,h1⟩:=h1
     have hcs:cs.length=es:=by rw[<-hvd.length]; exact hl d (List.mem_of_getElem? hd)
     refine fin rfl ((hv.drop i).take (n / cs.length)).flat h1 (seg _ _ ha fun j v hj=>?_) h2
     refine hcell _ v ?_
     have e1:ds.flatten=(ds.take i).flatten++(ds.drop i).flatten:=by rw[<-List.flatten_append,List.take_append_drop]
     have e2:(ds.take i).flatten.length=i*es:=by
      have h3:=hv.length
      rw[b6 (es:=es) (fun d hd=>hl d (List.mem_of_mem_take hd)),List.length_take,Nat.min_eq_left (by omega)]
     have e3:(ds.drop i).flatten=((ds.drop i).take (n / cs.length)).flatten++((ds.drop i).drop (n / cs.length)).flatten:=by rw[<-List.flatten_append,List.take_append_drop]
     rw[e1,List.getElem?_append_right (by omega),e2,e3]
     rw[List.getElem?_append_left (by
      have:=(List.getElem?_eq_some_iff.1 hj).1
      omega)]
     rw[<-hj]; congr 1; omega
    rename_i h1
    have h2:=h
    have h1:=of_decide_eq_true h1
    refine fin rfl ((hvd.drop o).take n) (by simp; omega) (seg _ _ ha fun j v hj=>?_) h2
    rw[List.getElem?_take] at hj
    split at hj
    ·rw[List.getElem?_drop] at hj
     have hdl:d.length=es:=hl d (List.mem_of_getElem? hd)
     have hoj:o+j<es:=by rw[<-hdl]; exact(List.getElem?_eq_some_iff.1 hj).1
     have:=hcell (i*es+(o+j)) v (by rw[jK hl hd _ hoj]; exact hj)
     rwa [<-Nat.add_assoc] at this
    ·cases hj
   ·cases h
  ·cases h
 ·rename_i cs
  replace h:=bf h
  obtain ⟨h1,h2⟩:=h
  have h1:=of_decide_eq_true h1
  rw[VR] at hx
  obtain ⟨k,off,ds,rfl,hc,hv⟩:=hx
  exact fin rfl (hv.take n) (by simp; omega) (hc.take n).range h2
 ·cases h
theorem qW {x y:A} {i:Nat} {c:Value} (h:aI x i=some y) (hx:VR H g w x c):∃ d,(Instr.extract c i).run P w=.ok d w/\VR H g w y d:=by
 unfold aI at h
 split at h
 ·rw[VR] at hx
  obtain ⟨ds,rfl,hv⟩:=hx
  obtain ⟨d,hd,hvd⟩:=hv.get h
  have hd':ds[i]? = some d:=by simpa using hd
  exact⟨d,by simp[Instr.extract,hd'],hvd⟩
 ·cases h
theorem xj {t:TypeId} {n off:Nat} (hs:db P t=some n) {ds:Array Value} {c:Value} (h:if lY P t=true then c=.agg ((ds.toList.drop off).take n).toArray else (ds.toList.drop off).take n=[c]) :
  (part t ds off).run P w=.ok c w:=by
 obtain ⟨d,hu⟩:=lT hs
 unfold part
 rw[Sem.run_bind,ua t hu w]
 cases hA:lY P t
 ·rw[hA] at h
  simp at h
  have:ds[off]? = some c:=by
   have h0:((ds.toList.drop off).take n)[0]? = some c:=by rw[h]; rfl
   rw[List.getElem?_take] at h0
   split at h0
   ·simpa using h0
   ·cases h0
  simp[this]
 ·rw[hA] at h
  simp at h
  subst h
  simp[er hs]
  apply Array.ext'
  simp[List.take_drop,Nat.add_comm]
theorem uL {t:TypeId} {x y:A} {i:Nat} {c:Value} (h:xX P t x i=some y) (hx:VR H g w x c):∃ d,(Instr.field t c i).run P w=.ok d w/\VR H g w y d:=by
 unfold xX at h
 split at h
 ·rename_i fs cs hu
  replace h:=bt h
  obtain ⟨f,hf,h⟩:=h
  replace h:=bt h
  obtain ⟨n,hn,h⟩:=h
  replace h:=bf h
  obtain ⟨h1,h2⟩:=h
  have h1:=of_decide_eq_true h1
  rw[VR] at hx
  obtain ⟨ds,rfl,hv⟩:=hx
  obtain ⟨d,h3,h4⟩:=vu h2 ((hv.drop f.offset).take n)
  refine⟨d,?_,h3⟩
  unfold Instr.field
  rw[Sem.run_bind,run_underlying hu w]
  simp[hf,asAgg]
  exact xj hn h4
 ·cases h
theorem uN {t:TypeId} {x i y:A} {c e:Value} (h:uM P t x i=some y) (hx:VR H g w x c) (hi:VR H g w i e):∃ d,(Instr.index t c e).run P w=.ok d w/\VR H g w y d:=by
 unfold uM at h
 replace h:=bt h
 obtain ⟨j,hj,h⟩:=h
 obtain ⟨ik,n,rfl,hn0,rfl⟩:=oe hj hi
 split at h
 ·rename_i len el cs hu
  replace h:=bt h
  obtain ⟨m,hm,h⟩:=h
  replace h:=bf h
  obtain ⟨h1,h2⟩:=h
  simp only[Bool.and_eq_true,decide_eq_true_eq] at h1
  rw[VR] at hx
  obtain ⟨ds,rfl,hv⟩:=hx
  obtain ⟨d,h3,h4⟩:=vu h2 ((hv.drop (n.toNat*m)).take m)
  refine⟨d,?_,h3⟩
  have hlt:n<(len:Int):=by omega
  unfold Instr.index
  simp[asIntOf,run_underlying hu,hn0,hlt,er hm]
  exact xj hm h4
 ·rename_i s hu
  cases hb:s[n.toNat]? with
  | none=>rw[hb] at h; cases h
  | some b =>
   rw[hb] at h
   cases h
   rw[VR] at hx
   subst hx
   refine⟨.int .u8 b.toNat,?_,by rw[VR]⟩
   unfold Instr.index
   simp[asIntOf,run_underlying hu,hn0,hb]
 ·cases h
theorem ur {b o:Nat} (h:fo H (.ptr b o)=true):∃ cs,H[b]? = some (.box cs):=by
 unfold fo at h; cases hb:H[b]? with
 | none=>simp[hb] at h
 | some B=>cases B<;>simp[hb] at h ⊢
theorem xr {b i o:Nat} (h:fo H (.ep b i o)=true):∃ es els,H[b]? = some (.row true es els):=by
 unfold fo at h; cases hb:H[b]? with
 | none=>simp[hb] at h
 | some B=>cases B with
  | row wr _ _=>cases wr<;>simp[hb] at h ⊢
  | _=>simp[hb] at h
theorem Dl {b o n:Nat} {cl:Bool} (h:fo H (.sl b o n cl)=true):∃ wr es els,H[b]? = some (.row wr es els):=by
 unfold fo at h; cases hb:H[b]? with
 | none=>simp[hb] at h
 | some B=>cases B<;>simp[hb] at h ⊢
theorem pH {t:TypeId} {x y:A} {i:Nat} {c:Value} (h:fy P t x i H=some y) (hx:VR H g w x c) :
  ∃ d,(Instr.fieldAt t c i).run P w=.ok d w/\VR H g w y d:=by
 unfold fy at h
 replace h:=bf h
 obtain ⟨hok,h⟩:=h
 split at h
 ·rename_i fs hu
  replace h:=bt h
  obtain ⟨f,hf,h⟩:=h
  replace h:=bt h
  obtain ⟨n,hn,h⟩:=h
  replace h:=eK h
  obtain ⟨hn0,h⟩:=h
  have hn0:n≠0:=by simpa using hn0
  have fin:∀ {k off:Nat},c=.pointer (some ⟨k,off,none⟩)->(Instr.fieldAt t c i).run P w=.ok (.pointer (some ⟨k,off+f.offset,none⟩)) w:=fun {k off} hc=>by
   subst hc
   unfold Instr.fieldAt
   rw[Sem.run_bind,run_underlying hu w]
   simp[hf,Instr.sureAddr,fieldPlace,er hn,hn0,Addr.add_mid]
  split at h
  ·rename_i b o
   cases h
   obtain ⟨cs,hb⟩:=ur hok
   rw[VR,hb] at hx
   obtain ⟨k,hk,rfl⟩:=hx
   exact⟨_,fin rfl,by rw[VR,hb]; exact⟨k,hk,rfl⟩⟩
  ·rename_i b j o
   cases h
   obtain ⟨es,els,hb⟩:=xr hok
   rw[VR,hb] at hx
   obtain ⟨hlt,k,hk,rfl⟩:=hx
   exact⟨_,fin rfl,by rw[VR,hb]; exact⟨hlt,k,hk,by rw[Nat.add_assoc]⟩⟩
  ·cases h
   rw[VR] at hx
   obtain ⟨k,off,ds,rfl,hc,hv⟩:=hx
   exact⟨_,fin rfl,by rw[VR]; exact⟨k,_,_,rfl,hc.drop _,hv.drop _⟩⟩
  ·cases h
 ·cases h
theorem xZ {x y:A} {c:Value} {t ty:TypeId} (h:bM P t x H=some y) (hx:VR H g w x c):∃ d,(Builtin.len_ #[t] ty #[c]).run P w=.ok d w/\VR H g w y d:=by
 unfold bM at h
 replace h:=bf h
 obtain ⟨hok,h⟩:=h
 split at h
 ·rename_i s hu
  cases h
  rw[VR] at hx
  subst hx
  exact⟨_,by simp[Builtin.len_,run_underlying hu,goInt]; rfl,by rw[VR]⟩
 ·rename_i e els cl hu
  cases h
  rw[VR] at hx
  obtain ⟨a,cap,ds,es,rfl,_⟩:=hx
  exact⟨_,by simp[Builtin.len_,run_underlying hu,goInt]; rfl,by rw[VR]⟩
 ·rename_i e b o n cl hu
  cases h
  obtain ⟨wr,es,els,hb⟩:=Dl hok
  rw[VR,hb] at hx
  cases wr
  ·obtain ⟨_,a,cap,rfl,_⟩:=hx
   exact⟨_,by simp[Builtin.len_,run_underlying hu,goInt]; rfl,by rw[VR]⟩
  ·obtain ⟨_,a,cap,rfl,_⟩:=hx
   exact⟨_,by simp[Builtin.len_,run_underlying hu,goInt]; rfl,by rw[VR]⟩
 ·cases h
theorem bn.lens {els:List (List A)} {ds:List (List Value)} (h:bn H g w els ds) {es j n:Nat} (hl:∀ d∈ds,d.length=es) {cs:List A} (hj:els[j]? = some cs) (hn:cs.length=n):es=n:=by
 obtain ⟨d,hd,hv⟩:=h.get hj
 rw[<-hl d (List.mem_of_getElem? hd),hv.length,hn]
theorem pI (hr:Rel H g w0 w) {t:TypeId} {x i y:A} {c e:Value} (h:ax P t x i H=some y) (hx:VR H g w x c) (hi:VR H g w i e):∃ d,(Instr.indexAt t c e).run P w=.ok d w/\VR H g w y d:=by
 unfold ax at h
 replace h:=bt h
 obtain ⟨j,hj,h⟩:=h
 obtain ⟨ik,n,rfl,hn0,rfl⟩:=oe hj hi
 replace h:=bf h
 obtain ⟨hok,h⟩:=h
 split at h
 ·rename_i el hu
  replace h:=bt h
  obtain ⟨m,hm,h⟩:=h
  have fin:∀ {k off len cap:Nat},c=.slice (some ⟨k,off,none⟩) len cap->n.toNat<len->(Instr.indexAt t c (.int ik n)).run P w=.ok (.pointer (some ⟨k,off+n.toNat*m,none⟩)) w:=fun {k off len cap} hc hlt=>by
   subst hc
   have:n<(len:Int):=by omega
   unfold Instr.indexAt
   simp[asIntOf,run_underlying hu,hn0,this,er hm,Addr.add_mid]
  split at h
  ·rename_i els cl
   replace h:=bt h
   obtain ⟨cs,hcs,h⟩:=h
   replace h:=bf h
   obtain ⟨h1,h⟩:=h
   cases h
   have h1:cs.length=m:=by simpa using h1
   rw[VR] at hx
   obtain ⟨a,cap,ds,es,rfl,h2,h3,h4,h5,h6⟩:=hx
   have hlt:n.toNat<els.length:=(List.getElem?_eq_some_iff.1 hcs).1
   obtain ⟨k,off,rfl,hc⟩:=h5 (by omega)
   obtain rfl:=h6.lens h4 hcs h1
   obtain ⟨d,hd,hv⟩:=h6.get hcs
   exact⟨_,fin rfl hlt,by rw[VR]; exact⟨k,_,d,rfl,hc.elem h4 hd,hv⟩⟩
  ·rename_i b o len cl
   replace h:=bf h
   obtain ⟨hlt,h⟩:=h
   have hlt:=of_decide_eq_true hlt
   rw[VR] at hx
   split at h
   ·rename_i es els hb
    replace h:=bf h
    obtain ⟨h1,h⟩:=h
    cases h
    obtain rfl:es=m:=by simpa using h1
    rw[hb] at hx
    obtain ⟨h2,a,cap,rfl,h3,h4,h5⟩:=hx
    obtain ⟨k,hk,rfl⟩:=h5 (by omega)
    refine⟨_,fin rfl hlt,?_⟩
    rw[VR,hb]
    exact⟨by omega,k,hk,by rw[Nat.add_mul]; rfl⟩
   ·rename_i es els hb
    replace h:=bf h
    obtain ⟨h1,h⟩:=h
    obtain rfl:es=m:=by simpa using h1
    rw[hb] at hx
    obtain ⟨h2,a,cap,rfl,h3,h4,h5,_⟩:=hx
    obtain ⟨k,off,rfl,hc⟩:=h5 (by omega)
    cases hcs:els[o+n.toNat]? with
    | none=>rw[hcs] at h; cases h
    | some cs =>
     rw[hcs] at h
     cases h
     obtain ⟨hga,hgl⟩:=hr.blk b _ hb
     obtain ⟨d,hd,hv⟩:=hga.get hcs
     refine⟨_,fin rfl hlt,?_⟩
     rw[VR]
     refine⟨k,_,d,rfl,hc.elem (fun d hd=>hgl d (List.mem_of_mem_drop (List.mem_of_mem_take hd))) ?_,hv⟩
     rw[List.getElem?_take,if_pos hlt,List.getElem?_drop]; exact hd
   ·cases h
  ·cases h
 ·rename_i len el hu
  replace h:=bt h
  obtain ⟨m,hm,h⟩:=h
  replace h:=eK h
  obtain ⟨hlt,h⟩:=h
  have hlt:n.toNat<len:=by simpa using hlt
  have fin:∀ {k off:Nat},c=.pointer (some ⟨k,off,none⟩)->(Instr.indexAt t c (.int ik n)).run P w=.ok (.pointer (some ⟨k,off+n.toNat*m,none⟩)) w:=fun {k off} hc=>by
   subst hc
   have:n<(len:Int):=by omega
   unfold Instr.indexAt
   simp[asIntOf,run_underlying hu,hn0,this,er hm,Addr.add_mid,Instr.sureAddr]
  split at h
  ·rename_i b o
   cases h
   obtain ⟨cs,hb⟩:=ur hok
   rw[VR,hb] at hx
   obtain ⟨k,hk,rfl⟩:=hx
   exact⟨_,fin rfl,by rw[VR,hb]; exact⟨k,hk,rfl⟩⟩
  ·rename_i b q o
   obtain ⟨es,els,hb⟩:=xr hok
   simp only[hb] at h
   rw[VR,hb] at hx
   obtain ⟨hq,k,hk,rfl⟩:=hx
   rw[br] at h
   split at h
   ·rename_i hc
    simp only[Bool.and_eq_true,Nat.beq_eq,decide_eq_true_eq] at hc
    obtain ⟨⟨rfl,rfl⟩,hlt2⟩:=hc
    cases h
    exact⟨_,fin rfl,by rw[VR,hb]; exact⟨hlt2,k,hk,by rw[Nat.add_mul]; simp⟩⟩
   ·cases h
    exact⟨_,fin rfl,by rw[VR,hb]; exact⟨hq,k,hk,by rw[Nat.add_assoc]⟩⟩
  ·cases h
   rw[VR] at hx
   obtain ⟨k,off,ds,rfl,hc,hv⟩:=hx
   exact⟨_,fin rfl,by rw[VR]; exact⟨k,_,_,rfl,hc.drop _,hv.drop _⟩⟩
  ·cases h
 ·cases h
theorem xY {t:TypeId} {x y:A} {c:Value} (h:B9 P t x=some y) (hx:VR H g w x c):∃ d,(Instr.makeInterface t c).run P w=.ok d w/\VR H g w y d:=by
 unfold B9 at h
 split at h
 ·cases h
 ·cases h
 ·rename_i d hn hu
  cases h
  refine⟨.iface t c,?_,by rw[VR]; exact⟨c,rfl,hx⟩⟩
  unfold Instr.makeInterface
  rw[Sem.run_bind,run_underlying hu w]
  cases d<;>first | rfl | exact absurd rfl (hn _)
theorem wC (op:BinOp) (t:TypeId) (x y:Operand) (a b:Value):eqGuard op t x y a b=eqGuard op t (rep (Hm x)) (rep (Hm y)) a b:=by
 unfold eqGuard
 cases x<;>cases y<;>rfl
theorem pS {q:TypeId->Value->Value->Option Bool} {d:Nat} (hq:∀ t x y r,q t x y=some r->∀ w,(Op.equalIn d t x y).run P w=.ok r w) (xs ys:Array Value):∀ (fs:List Field) (r:Bool),rm P q xs ys fs=some r->∀ w,(Op.eqFields d xs ys fs).run P w=.ok r w
 | [],r,h,w=>by cases h; simp[Op.eqFields]
 | [f],r,h,w=>by
  unfold rm at h
  rw[br] at h
  unfold Op.eqFields
  split at h
  ·rename_i hn
   cases h
   have hn:f.name = "_" := by simpa using hn
   simp[hn,Op.eqFields]
  ·rename_i hn
   have hn:f.name ≠ "_" := by simpa using hn
   obtain ⟨a,ha,h⟩:=bt h
   obtain ⟨b,hb,h⟩:=bt h
   rw[if_pos hn]
   simp only[Sem.run_bind,ed ha w,ed hb w,hq _ _ _ _ h w,Result.andThen_ok]
   cases r<;>simp[Op.eqFields]
 | f :: g :: fs,r,h,w=>by
  unfold rm at h
  rw[br] at h
  unfold Op.eqFields
  split at h
  ·rename_i hn
   have hn:f.name = "_" := by simpa using hn
   rw[if_neg (by simp[hn])]
   exact pS hq xs ys (g :: fs) r h w
  ·rename_i hn
   have hn:f.name ≠ "_" := by simpa using hn
   obtain ⟨a,ha,h⟩:=bt h
   obtain ⟨b,hb,h⟩:=bt h
   obtain ⟨r1,h1,h⟩:=bt h
   rw[if_pos hn]
   simp only[Sem.run_bind,ed ha w,ed hb w,hq _ _ _ _ h1 w,Result.andThen_ok]
   cases hf:rm P q xs ys (g :: fs) with
   | none=>rw[hf] at h; cases h
   | some r2 =>
    rw[hf] at h; cases h
    have:=pS hq xs ys (g :: fs) r2 hf w
    cases r1<;>simp[this]
theorem tN {q:TypeId->Value->Value->Option Bool} {d:Nat} (hq:∀ t x y r,q t x y=some r->∀ w,(Op.equalIn d t x y).run P w=.ok r w) (e:TypeId) (c:Nat) (xs ys:Array Value):∀ (is:List Nat) (r:Bool),tM P q e c xs ys is=some r->∀ w,(Op.eqItems d e c xs ys is).run P w=.ok r w
 | [],r,h,w=>by cases h; simp[Op.eqItems]
 | [i],r,h,w=>by
  unfold tM at h
  unfold Op.eqItems
  obtain ⟨a,ha,h⟩:=bt h
  obtain ⟨b,hb,h⟩:=bt h
  simp only[Sem.run_bind,ed ha w,ed hb w,hq _ _ _ _ h w,Result.andThen_ok]
  cases r<;>simp[Op.eqItems]
 | i :: j :: is,r,h,w=>by
  unfold tM at h
  unfold Op.eqItems
  obtain ⟨a,ha,h⟩:=bt h
  obtain ⟨b,hb,h⟩:=bt h
  obtain ⟨r1,h1,h⟩:=bt h
  simp only[Sem.run_bind,ed ha w,ed hb w,hq _ _ _ _ h1 w,Result.andThen_ok]
  cases hf:tM P q e c xs ys (j :: is) with
  | none=>rw[hf] at h; cases h
  | some r2 =>
   rw[hf] at h; cases h
   have:=tN hq e c xs ys (j :: is) r2 hf w
   cases r1<;>simp[this]
theorem zL (D:Nat):∀ (d:Nat) (t:TypeId) (x y:Value) (r:Bool),IA P d t x y=some r->∀ w,(Op.equalIn (D+d) t x y).run P w=.ok r w
 | 0,_,_,_,_,h,_=>by cases h
 | d+1,t,x,y,r,h,w=>by
  have ih:=zL D d
  unfold IA at h
  split at h
  ·rename_i k0 k a k' b hu
   obtain ⟨hk,h⟩:=bf h
   cases h
   have hk:k=k':=by simpa using hk
   subst hk
   simp[Op.equalIn,run_underlying hu]
  ·rename_i a b hu
   cases h
   simp[Op.equalIn,run_underlying hu]
  ·rename_i a b hu
   cases h
   simp[Op.equalIn,run_underlying hu]
  ·rename_i fs xs ys hu
   obtain ⟨hs,h⟩:=eK h
   have hfs:P.fieldsOf t=fs:=by simp[Program.fieldsOf,hu]
   exact(run_equalIn_struct w (D+d) t xs ys (by rw[hfs]; exact hu) hs).trans (pS ih xs ys _ r h w)
  ·rename_i n e xs ys hu
   obtain ⟨i,hi,h⟩:=bt h
   exact(run_equalIn_array w (D+d) xs ys hu hi).trans (tN ih e (P.cellsOf e) xs ys _ r h w)
  ·cases h
theorem xU {op:BinOp} {t:TypeId} {x y z:A} {c d:Value} {p q:Operand} (h:lL P op t (Hm p) (Hm q) x y=some z) (hx:VR H g w x c) (hy:VR H g w y d) :
  ∃ e,(do eqGuard op t p q c d; binOp op t c d:Sem Value).run P w=.ok e w/\VR H g w z e:=by
 unfold lL at h
 have eqs:∀ {r:Bool} {xs ys:List A} (op:BinOp),tP P t (.agg xs) (.agg ys)=some r->VR H g w (.agg xs) c->VR H g w (.agg ys) d->∃ cs ds,c=.agg cs/\d=.agg ds/\(eqGuard op t p q c d).run P w=.ok () w/\(Op.equalIn 10000 t c d).run P w=.ok r w:=by
  intro r xs ys op h hx hy
  unfold tP at h
  obtain ⟨hg,h⟩:=eK h
  obtain ⟨a,ha,h⟩:=bt h
  obtain ⟨b,hb,h⟩:=bt h
  obtain rfl:=nk _ ha hx
  obtain rfl:=nk _ hb hy
  rw[VR] at hx hy
  obtain ⟨cs,rfl,_⟩:=hx
  obtain ⟨ds,rfl,_⟩:=hy
  exact⟨cs,ds,rfl,rfl,run_eqGuard_agg w op t p q cs ds hg,zL 9980 20 t _ _ r h w⟩
 split at h
 ·cases hr:tP P t (.agg _) (.agg _) with
  | none=>rw[hr] at h; cases h
  | some r =>
   rw[hr] at h; cases h
   obtain ⟨cs,ds,rfl,rfl,h1,h2⟩:=eqs .eql hr hx hy
   exact⟨.bool r,by simp only[Sem.run_bind,h1,Result.andThen_ok,run_eql_struct,h2],by rw[VR]⟩
 ·cases hr:tP P t (.agg _) (.agg _) with
  | none=>rw[hr] at h; cases h
  | some r =>
   rw[hr] at h; cases h
   obtain ⟨cs,ds,rfl,rfl,h1,h2⟩:=eqs .neq hr hx hy
   exact⟨.bool (!r),by simp only[Sem.run_bind,h1,Result.andThen_ok,run_neq_struct,h2],by rw[VR]⟩
 replace h:=bt h
 obtain ⟨a,ha,h⟩:=h
 replace h:=bt h
 obtain ⟨b,hb,h⟩:=h
 obtain rfl:=nk x ha hx
 obtain rfl:=nk y hb hy
 rw[<-wC] at h
 cases he:dh P (do eqGuard op t p q c d; binOp op t c d:Sem Value) with
 | none=>rw[he] at h; cases h
 | some e=>rw[he] at h; cases h; exact⟨e,ed he w,ow e⟩
theorem AH {op:UnOp} {x z:A} {c:Value} (h:jS P op x=some z) (hx:VR H g w x c):∃ e,(Op.unary op c).run P w=.ok e w/\VR H g w z e:=by
 unfold jS at h
 replace h:=bt h
 obtain ⟨a,ha,h⟩:=h
 obtain rfl:=nk x ha hx
 cases he:dh P (Op.unary op c) with
 | none=>rw[he] at h; cases h
 | some e=>rw[he] at h; cases h; exact⟨e,ed he w,ow e⟩
theorem tL (hr:Rel H g w0 w) {x:A} {els:List (List A)} {c:Value} (h:els? H x=some els) (hx:VR H g w x c):(∃ s,c=.string s/\x=.v (.string s))∨∃ a cap ds es,c=.slice a els.length cap/\els.length<=cap/\(∀ d∈ds,d.length=es)/\bn H g w els ds/\(0<els.length->∃ k off,a=some ⟨k,off,none⟩/\w.rangeAt k off ds.flatten):=by
 unfold els? at h
 split at h
 ·cases h
  rw[VR] at hx
  obtain ⟨a,cap,ds,es,rfl,h2,h3,h4,h5,h6⟩:=hx
  exact .inr ⟨a,cap,ds,es,rfl,h2,h4,h6,fun hp=>let ⟨k,off,e1,e2⟩:=h5 hp; ⟨k,off,e1,e2.range⟩⟩
 ·rename_i b o n cl
  split at h
  ·rename_i wr es els' hb
   cases h
   rw[VR,hb] at hx
   cases wr
   ·obtain ⟨h2,a,cap,rfl,h3,h4,h5,_⟩:=hx
    obtain ⟨hga,hgl⟩:=hr.blk b _ hb
    have hlen:((els'.drop o).take n).length=n:=by simp; omega
    refine .inr ⟨a,cap,((g.ga b).drop o).take n,es,by rw[hlen],by omega,fun d hd=>hgl d (List.mem_of_mem_drop (List.mem_of_mem_take hd)),(hga.drop o).take n,fun hp=>?_⟩
    obtain ⟨k,off,e1,e2⟩:=h5 (by omega)
    exact⟨k,off,e1,e2.range⟩
   ·obtain ⟨h2,a,cap,rfl,h3,h4,h5⟩:=hx
    obtain ⟨ds,hv,hl,hrow⟩:=hr.blk b _ hb
    have hlen:((els'.drop o).take n).length=n:=by simp; omega
    refine .inr ⟨a,cap,(ds.drop o).take n,es,by rw[hlen],by omega,fun d hd=>hl d (List.mem_of_mem_drop (List.mem_of_mem_take hd)),(hv.drop o).take n,fun hp=>?_⟩
    obtain ⟨k,hk,rfl⟩:=h5 (by omega)
    obtain ⟨k',arr,ty,hk',ha,hcell⟩:=hrow (by omega)
    rw[hk] at hk'; cases hk'
    have hall:w.rangeAt k 0 ds.flatten:=fun j v hj=>by
     rw[cell_of_row w k (0+j) arr ty (0,0) ha,Nat.zero_add]; exact hcell j v hj
    refine⟨k,_,rfl,fun j v hj=>?_⟩
    have hw:bB [] ⟨fun _=>none,fun _=>[],fun _ _=>True,fun _=>FF⟩ w k 0 ds.flatten:=fun j v hj=>⟨hall j v hj,trivial,fun b hb=>by cases hb⟩
    have:=(hw.sub hl o n j v hj).1
    rwa [Nat.zero_add] at this
  ·cases h
 ·exact .inl ⟨_,by rw[VR] at hx; exact hx,rfl⟩
 ·cases h
theorem wm:∀ {els:List (List A)} {l:List UInt8} {ds:List (List Value)},bytesOf els=some l->bn H g w els ds->∃ ns:List Int,ds=ns.map (fun n=>[.int .u8 n])/\l=ns.map (fun n=>n.toNat.toUInt8)
 | [],_,_,h,hv=>by simp only[bytesOf,Option.some.injEq] at h; rw[bn] at hv; exact⟨[],by simp[hv],by simp[<-h]⟩
 | e :: r,l,ds,h,hv=>by
  unfold bytesOf at h
  split at h
  ·rename_i heq; cases heq
  ·rename_i n r' heq
   cases heq
   cases hr:bytesOf r with
   | none=>rw[hr] at h; cases h
   | some l' =>
    rw[hr] at h
    cases h
    rw[bn] at hv
    obtain ⟨d,ds',rfl,h1,h2⟩:=hv
    obtain ⟨ns,rfl,rfl⟩:=wm hr h2
    rw[bp] at h1
    obtain ⟨x,xs,rfl,h3,h4⟩:=h1
    rw[VR] at h3
    rw[bp] at h4
    exact⟨n :: ns,by simp[h3,h4],by simp⟩
  ·cases h
theorem foldl_push (ns:List Int):∀ r:ByteArray,ns.foldl (fun r n=>r.push (UInt8.ofNat n.toNat)) r=⟨r.data++(ns.map (fun n=>n.toNat.toUInt8)).toArray⟩:=by
 induction ns with
 | nil=>intro r; simp
 | cons n ns ih =>
  intro r
  rw[List.foldl_cons,ih]
  simp[ByteArray.push]
end
section
open Go.RowKit
variable {P:Program} {H:ay} {g:Gh} {w0 w:World}
theorem nv {a:A} {c:Value} {j y:Nat} (h:idx a=some j) (hv:VR H g w a c) (hy:j<=y) (code:BoundsCode):(Instr.sliceBound c y code).run P w=.ok j w:=by
 obtain ⟨k,n,rfl,h0,rfl⟩:=oe h hv
 have:0<=n/\n<=(y:Int):=⟨h0,by omega⟩
 simp[Instr.sliceBound,asIntOf,this]
def Ga (H:ay) (g:Gh) (w:World):Option A->Option Value->Prop
 | none,none=>True
 | some a,some c=>VR H g w a c
 | _,_=>False
def L4 (cap h:Nat):Option A->Prop
 | none=>h<=cap
 | some m=>idx m=some h/\h<=cap
def sc (cap h:Nat):Option A->Nat
 | none=>cap
 | some _=>h
theorem gi {lo hi:Option A} {clo chi cmx:Option Value} {mx:Option A} {len cap h l:Nat} (isS:Bool) (hlo:Ga H g w lo clo) (hhi:Ga H g w hi chi) (hmx:Ga H g w mx cmx)
  (e1:ku len hi=some h) (e2:ku 0 lo=some l) (hl:l<=h) (hm:L4 cap h mx) (hhm:mx=none∨hi.isSome=true) :
  (Instr.sliceBounds isS len cap clo chi cmx).run P w=.ok (l,h,sc cap h mx) w:=by
 have hlo':(clo=none/\l=0)∨∃ v,clo=some v/\∀ code,(Instr.sliceBound v h code).run P w=.ok l w:=by
  cases lo with
  | none=>cases clo with
   | none=>simp only[ku,Option.some.injEq] at e2; exact .inl ⟨rfl,e2.symm⟩
   | some _=>exact hlo.elim
  | some a=>cases clo with
   | none=>exact hlo.elim
   | some v=>exact .inr ⟨v,rfl,fun code=>nv e2 hlo hl code⟩
 clear hlo e2
 unfold Instr.sliceBounds
 cases mx with
 | none=>cases cmx with
  | some _=>exact hmx.elim
  | none =>
   cases hi with
   | none=>cases chi with
    | some _=>exact hhi.elim
    | none =>
     simp only[ku,Option.some.injEq] at e1
     subst e1
     rcases hlo' with ⟨rfl,rfl⟩ | ⟨v,rfl,hv⟩
     ·simp[sc]
     ·simp[Result.andThen,hv,sc]
   | some a=>cases chi with
    | none=>exact hhi.elim
    | some v =>
     have hb:=fun code=>nv (P:=P) e1 hhi (show h<=cap from hm) code
     rcases hlo' with ⟨rfl,rfl⟩ | ⟨v,rfl,hv⟩
     ·simp[Result.andThen,hb,sc]
     ·simp[Result.andThen,hb,hv,sc]
 | some m=>cases cmx with
  | none=>exact hmx.elim
  | some mv =>
   have hb1:=fun code=>nv (P:=P) hm.1 hmx hm.2 code
   cases hi with
   | none=>simp at hhm
   | some a=>cases chi with
    | none=>exact hhi.elim
    | some v =>
     have hb:=fun code=>nv (P:=P) e1 hhi (Nat.le_refl h) code
     rcases hlo' with ⟨rfl,rfl⟩ | ⟨v,rfl,hv⟩
     ·simp[Result.andThen,hb,hb1,sc]
     ·simp[Result.andThen,hb,hb1,hv,sc]
theorem ij {t e:TypeId} (hu:P.underlying t=some (.slice e)) {a:Option Addr} {len cap l h m z:Nat} {clo chi cmx:Option Value} (hb:(Instr.sliceBounds true len cap clo chi cmx).run P w=.ok (l,h,m) w) (hz:db P e=some z) :
  (Instr.sliceAt t (.slice a len cap) clo chi cmx).run P w=.ok (.slice (if m=l then a else a.map (·.add (l*z))) (h - l) (m - l)) w:=by
 unfold Instr.sliceAt
 rw[Sem.run_bind,run_underlying hu w]
 unfold Instr.slice
 simp[run_underlying hu,hb,er hz,Result.andThen]
theorem qu {t e:TypeId} {n:Nat} (hu:P.underlying t=some (.array n e)) {a:Addr} {l h m z:Nat} {clo chi cmx:Option Value} (hb:(Instr.sliceBounds false n n clo chi cmx).run P w=.ok (l,h,m) w) (hz:db P e=some z) :
  (Instr.sliceAt t (.pointer (some a)) clo chi cmx).run P w=.ok (.slice (some (if m=l then a else a.add (l*z))) (h - l) (m - l)) w:=by
 unfold Instr.sliceAt
 rw[Sem.run_bind,run_underlying hu w]
 simp[Instr.sureAddr,hb,er hz,Result.andThen]
theorem uO (hr:Rel H g w0 w) {t:TypeId} {x y:A} {lo hi mx:Option A} {c:Value} {clo chi cmx:Option Value} (h:ef P t x lo hi mx H=some y) (hx:VR H g w x c) (hlo:Ga H g w lo clo) (hhi:Ga H g w hi chi) (hmx:Ga H g w mx cmx) (hhm:mx=none∨hi.isSome=true) :
  ∃ d,(Instr.sliceAt t c clo chi cmx).run P w=.ok d w/\VR H g w y d:=by
 unfold ef at h
 split at h
 ·rename_i s hu
  replace h:=eK h
  obtain ⟨hm,h⟩:=h
  obtain rfl:mx=none:=by cases mx<;>simp at hm ⊢
  replace h:=bt h
  obtain ⟨hh,e1,h⟩:=h
  replace h:=bt h
  obtain ⟨l,e2,h⟩:=h
  replace h:=bf h
  obtain ⟨h1,h⟩:=h
  simp only[Bool.and_eq_true,decide_eq_true_eq] at h1
  cases h
  rw[VR] at hx
  subst hx
  have hb:=gi (P:=P) (cap:=s.size) false hlo hhi hmx e1 e2 h1.1 h1.2 (.inl rfl)
  cases cmx with
  | some _=>exact hmx.elim
  | none =>
   refine⟨.string (s.extract l hh),?_,by rw[VR]⟩
   unfold Instr.sliceAt
   rw[Sem.run_bind,run_underlying hu w]
   unfold Instr.slice
   simp[run_underlying hu,hb,Result.andThen]
 ·rename_i e els cl hu
  replace h:=bt h
  obtain ⟨z,hz,h⟩:=h
  replace h:=bt h
  obtain ⟨hh,e1,h⟩:=h
  replace h:=bt h
  obtain ⟨l,e2,h⟩:=h
  replace h:=bf h
  obtain ⟨h1,h⟩:=h
  simp only[Bool.and_eq_true,decide_eq_true_eq,Bool.or_eq_true,beq_iff_eq] at h1
  obtain ⟨⟨h1,h2⟩,h3⟩:=h1
  rw[VR] at hx
  obtain ⟨a,cap,ds,es,rfl,g1,g2,g3,g4,g5⟩:=hx
  have hlenn:((els.drop l).take (hh - l)).length=hh - l:=by simp; omega
  have fin:∀ (m:Nat) (b:Bool),hh<=m->m<=cap->(b=true->m=hh)->VR H g w (.imm ((els.drop l).take (hh - l)) b) (.slice (if m=l then a else a.map (·.add (l*z))) (hh - l) (m - l)):=fun m b hm1 hm2 hb=>by
   rw[VR]
   refine⟨_,m - l,(ds.drop l).take (hh - l),es,by rw[hlenn],by omega,fun hb'=>by rw[hlenn,hb hb'],fun d hd=>g3 d (List.mem_of_mem_drop (List.mem_of_mem_take hd)),fun hp=>?_,(g5.drop l).take _⟩
   have hll:l<hh:=by omega
   obtain ⟨k,off,rfl,hc⟩:=g4 (by omega)
   rw[if_neg (by omega)]
   refine⟨k,off+l*es,?_,hc.sub g3 l (hh - l)⟩
   rcases h3 with rfl | h3
   ·simp[Addr.add_mid]
   ·have hlt:l<els.length:=by omega
    rw[List.getElem?_eq_getElem hlt] at h3
    simp only[beq_iff_eq] at h3
    obtain rfl:=g5.lens g3 (List.getElem?_eq_getElem hlt) h3
    simp[Addr.add_mid]
  split at h
  ·cases h
   have hb:=gi (P:=P) (cap:=cap) true hlo hhi hmx e1 e2 h1 (show hh<=cap by omega) (.inl rfl)
   refine⟨_,ij hu hb hz,fin cap _ (by omega) (Nat.le_refl _) (fun hc=>?_)⟩
   simp only[Bool.and_eq_true,beq_iff_eq] at hc
   have:=g2 hc.1; omega
  ·rename_i m
   replace h:=bt h
   obtain ⟨m',hm',h⟩:=h
   replace h:=bf h
   obtain ⟨hmh,h⟩:=h
   obtain rfl:m'=hh:=by simpa using hmh
   cases h
   have hb:=gi (P:=P) (cap:=cap) true hlo hhi hmx e1 e2 h1 ⟨hm',by omega⟩ hhm
   exact⟨_,ij hu hb hz,fin m' _ (Nat.le_refl _) (by omega) (fun _=>rfl)⟩
 ·rename_i e b o n cl hu
  replace h:=bt h
  obtain ⟨z,hz,h⟩:=h
  replace h:=bt h
  obtain ⟨hh,e1,h⟩:=h
  replace h:=bt h
  obtain ⟨l,e2,h⟩:=h
  replace h:=bf h
  obtain ⟨h1,h⟩:=h
  simp only[Bool.and_eq_true,decide_eq_true_eq] at h1
  obtain ⟨⟨h1,h2⟩,h3⟩:=h1
  obtain ⟨wr,els,hb⟩:∃ wr els,H[b]? = some (.row wr z els):=by
   cases hb:H[b]? with
   | none=>simp[hb] at h3
   | some B=>cases B with
    | row wr es els=>simp[hb] at h3; subst h3; exact⟨wr,els,rfl⟩
    | _=>simp[hb] at h3
  rw[VR,hb] at hx
  have main:∀ (a:Option Addr) (cap:Nat),c=.slice a n cap->n<=cap->(cl=true->cap=n)->(∀ (m:Nat) (q:Bool),hh<=m->m<=cap->(q=true->m=hh)->(q=false->m=cap)->VR H g w (.sl b (o+l) (hh - l) q) (.slice (if m=l then a else a.map (·.add (l*z))) (hh - l) (m - l)))->∃ d,(Instr.sliceAt t c clo chi cmx).run P w=.ok d w/\VR H g w y d:=by
   intro a cap hc hn hcl fin
   subst hc
   split at h
   ·cases h
    have hb:=gi (P:=P) (cap:=cap) true hlo hhi hmx e1 e2 h1 (show hh<=cap by omega) (.inl rfl)
    refine⟨_,ij hu hb hz,fin cap _ (by omega) (Nat.le_refl _) (fun hc=>?_) (fun _=>rfl)⟩
    simp only[Bool.and_eq_true,beq_iff_eq] at hc
    have:=hcl hc.1; omega
   ·rename_i m
    replace h:=bt h
    obtain ⟨m',hm',h⟩:=h
    replace h:=bf h
    obtain ⟨hmh,h⟩:=h
    obtain rfl:m'=hh:=by simpa using hmh
    cases h
    have hb:=gi (P:=P) (cap:=cap) true hlo hhi hmx e1 e2 h1 ⟨hm',by omega⟩ hhm
    exact⟨_,ij hu hb hz,fin m' _ (Nat.le_refl _) (by omega) (fun _=>rfl) (fun h=>by cases h)⟩
  cases wr
  ·obtain ⟨g0,a,cap,rfl,g1,g2,g3,g4⟩:=hx
   refine main a cap rfl g1 g2 fun m q hm1 hm2 hq hq2=>?_
   rw[VR,hb]
   refine⟨by omega,_,m - l,rfl,by omega,fun hc=>by rw[hq hc],fun hp=>?_,fun hc ho hn hlt=>?_⟩
   ·obtain ⟨k,off,rfl,hcell⟩:=g3 (by omega)
    rw[if_neg (by omega)]
    refine⟨k,off+l*z,by simp[Addr.add_mid],?_⟩
    have hga:=(hr.blk b _ hb).2
    have:=hcell.sub (fun d hd=>hga d (List.mem_of_mem_drop (List.mem_of_mem_take hd))) l (hh - l)
    have e3:((((g.ga b).drop o).take n).drop l).take (hh - l)=((g.ga b).drop (o+l)).take (hh - l):=by
     rw[List.drop_take,List.drop_drop,List.take_take]; congr 1; omega
    rwa [e3] at this
   ·obtain rfl:l=0:=by omega
    obtain rfl:o=0:=by omega
    have hmc:=hq2 hc
    subst hmc
    by_cases hcl:cl=true
    ·have:=g2 hcl; omega
    ·obtain ⟨k,arr,ty,k1,k2,k3,k4⟩:=g4 (by simpa using hcl) rfl (by omega) (by omega)
     refine⟨k,arr,ty,k1,?_,k3,by simpa using k4⟩
     rw[k2]; split<;>simp[Addr.add_mid]
  ·obtain ⟨g0,a,cap,rfl,g1,g2,g3⟩:=hx
   refine main a cap rfl g1 g2 fun m q hm1 hm2 hq hq2=>?_
   rw[VR,hb]
   refine⟨by omega,_,m - l,rfl,by omega,fun hc=>by rw[hq hc],fun hp=>?_⟩
   obtain ⟨k,hk,rfl⟩:=g3 (by omega)
   rw[if_neg (by omega)]
   exact⟨k,hk,by simp[Addr.add_mid,Nat.add_mul]⟩
 ·rename_i n e cs hu
  replace h:=bt h
  obtain ⟨z,hz,h⟩:=h
  replace h:=bt h
  obtain ⟨hh,e1,h⟩:=h
  replace h:=bt h
  obtain ⟨l,e2,h⟩:=h
  replace h:=bf h
  obtain ⟨h1,h⟩:=h
  simp only[Bool.and_eq_true,decide_eq_true_eq,Bool.not_eq_true'] at h1
  obtain ⟨⟨⟨⟨h1,h2⟩,h3⟩,h4⟩,h5⟩:=h1
  obtain rfl:mx=none:=by cases mx<;>simp at h4 ⊢
  cases h
  rw[VR] at hx
  obtain ⟨k,off,ds,rfl,hc,hv⟩:=hx
  have hb:(Instr.sliceBounds false n n clo chi cmx).run P w=.ok (l,hh,n) w:=gi (P:=P) (cap:=n) false hlo hhi hmx e1 e2 h1 h2 (.inl rfl)
  cases cmx with
  | some _=>exact hmx.elim
  | none =>
   refine⟨_,qu hu hb hz,?_⟩
   have hdl:=hv.length
   have htl:(ds.take (n*z)).length=n*z:=by rw[List.length_take]; omega
   have htc:(cs.take (n*z)).length=n*z:=by rw[List.length_take]; omega
   have hck:∀ {α:Type} (q:Nat) (xs:List α),q*z<=xs.length->chunk z q xs=chunk z q (xs.take (q*z)):=by
    intro α q
    induction q with
    | zero=>intro xs _; rfl
    | succ q ih =>
     intro xs hq
     rw[Nat.add_mul,Nat.one_mul] at hq
     rw[chunk,chunk,ih (xs.drop z) (by simp; omega),List.take_take,List.drop_take,Nat.min_eq_left (by rw[Nat.add_mul]; omega)]
     congr 3
     rw[Nat.add_mul]; omega
   have hlenn:(((chunk z n cs).drop l).take (hh - l)).length=hh - l:=by simp[gH]; omega
   rw[VR]
   refine⟨_,n - l,((chunk z n (ds.take (n*z))).drop l).take (hh - l),z,by rw[hlenn],by omega,fun hb'=>by rw[hlenn]; have:=(Nat.beq_eq ▸ hb':hh=n); omega,fun d hd=>jE htl d (List.mem_of_mem_drop (List.mem_of_mem_take hd)),fun hp=>?_,?_⟩
   ·rw[hlenn] at hp
    rw[if_neg (by omega)]
    refine⟨k,off+l*z,by simp[Addr.add_mid],?_⟩
    refine bB.sub (es:=z) ?_ (jE htl) l (hh - l)
    rw[lQ htl]
    exact hc.take _
   ·rw[hck n cs h3]
    exact(((hv.take (n*z)).chunk n).drop l).take _
 ·rename_i n e b q o hu
  replace h:=bt h
  obtain ⟨z,hz,h⟩:=h
  replace h:=bt h
  obtain ⟨hh,e1,h⟩:=h
  replace h:=bt h
  obtain ⟨l,e2,h⟩:=h
  replace h:=bf h
  obtain ⟨h1,h⟩:=h
  simp only[Bool.and_eq_true,decide_eq_true_eq,Bool.not_eq_true'] at h1
  obtain ⟨⟨⟨⟨h1,h2⟩,h4⟩,h5⟩,h6⟩:=h1
  obtain rfl:o=0:=by simpa [Nat.beq_eq] using h5
  obtain rfl:mx=none:=by cases mx<;>simp at h4 ⊢
  cases h
  obtain ⟨els,hbk,hq⟩:∃ els,H[b]? = some (.row true z els)/\q+n<=els.length:=by
   split at h6
   ·rename_i es els hbk
    simp only[Bool.and_eq_true,decide_eq_true_eq,Nat.beq_eq] at h6
    obtain ⟨rfl,h6⟩:=h6
    exact⟨els,hbk,h6⟩
   ·cases h6
  rw[VR,hbk] at hx
  obtain ⟨hqe,k,hk,rfl⟩:=hx
  have hb:(Instr.sliceBounds false n n clo chi cmx).run P w=.ok (l,hh,n) w:=gi (P:=P) (cap:=n) false hlo hhi hmx e1 e2 h1 h2 (.inl rfl)
  cases cmx with
  | some _=>exact hmx.elim
  | none =>
   refine⟨_,qu hu hb hz,?_⟩
   rw[VR,hbk]
   refine⟨by omega,_,n - l,rfl,by omega,fun hb'=>by have:=(Nat.beq_eq ▸ hb':hh=n); omega,fun hp=>⟨k,hk,?_⟩⟩
   rw[if_neg (by omega)]
   simp[Addr.add_mid,Nat.add_mul]
 ·cases h
theorem mU (hr:Rel H g w0 w) {w':World} {arr:Array Value} {ty:TypeId} {fr:Nat×Nat} (ha:w'.heap[w.heap.size]? = some (.cells arr ty fr)) {ds:List Value} (hd:∀ (j:Nat) v,ds[j]? = some v->arr[j]? = some v):bB H g w' w.heap.size 0 ds:=fun j v hj=>by
 refine⟨?_,hr.out _ _ (Nat.le_refl _),fun b hb=>absurd (hr.dom b _ hb).2.2 (Nat.lt_irrefl _)⟩
 rw[Nat.zero_add,cell_of_row w' _ j arr ty fr ha]
 exact hd j v hj
theorem AP {x:A} {els:List (List A)} (h:wz H x=some els):els? H x=some els/\∀ s,x≠.v (.string s):=by
 cases x<;>simp only[wz] at h<;>first | exact⟨h,by simp⟩ | cases h
theorem mR {α β:Type} (f:α->β) (l:List α):(l.map fun n=>[f n]).flatten=l.map f:=by
 induction l with
 | nil=>rfl
 | cons n l ih=>simp[ih]
theorem qV (hr:Rel H g w0 w) {s t:TypeId} {x y:A} {c:Value} (h:cd P s t x H=some y) (hx:VR H g w x c):∃ d w',(convert s t c).run P w=.ok d w'/\Below w.heap.size w w'/\VR H g w' y d:=by
 unfold cd at h
 split at h
 ·rename_i e hs hd
  split at h
  ·rename_i he hz
   replace h:=bt h
   obtain ⟨els,h1,h⟩:=h
   cases hb:bytesOf els with
   | none=>rw[hb] at h; cases h
   | some l =>
    rw[hb] at h
    cases h
    refine⟨.string ⟨l.toArray⟩,w,?_,Below.refl _ _,by rw[VR]⟩
    have h1':=AP h1
    rcases tL hr h1'.1 hx with ⟨s',rfl,rfl⟩ | ⟨a,cap,ds,es,rfl,h2,h3,h4,h5⟩
    ·exact absurd rfl (h1'.2 s')
    ·obtain ⟨ns,rfl,rfl⟩:=wm hb h4
     have hl:els.length=ns.length:=by have:=h4.length; simpa using this.symm
     simp only[convert,Sem.run_bind,run_underlying hs,run_underlying hd,run_underlying he,Result.andThen_ok]
     cases a with
     | none =>
      have hn:ns=[]:=by
       by_cases hp:0<els.length
       ·obtain ⟨k,off,e1,_⟩:=h5 hp; cases e1
       ·exact List.eq_nil_of_length_eq_zero (by omega)
      subst hn
      simp[Conv.bytesToString]
      rfl
     | some a =>
      have hl2:(loadCells a els.length).run P w=.ok (ns.map (Value.int .u8)).toArray w:=by
       by_cases hp:0<els.length
       ·obtain ⟨k,off,e1,hc⟩:=h5 hp
        cases e1
        rw[mR] at hc
        have:=run_loadCells_list (P:=P) w ⟨k,off,none⟩ (ns.map (Value.int .u8)) (fun j v hv=>by rw[Addr.add_mid]; exact hc j v hv)
        rwa [List.length_map,<-hl] at this
       ·have hn:ns=[]:=List.eq_nil_of_length_eq_zero (by omega)
        subst hn
        rw[hl]
        rfl
      rw[run_bytesToString w a _ cap ns hl2,foldl_push]
      simp
  ·cases h
 ·rename_i e s' hs hd
  split at h
  ·rename_i he
   cases h
   rw[VR] at hx
   subst hx
   have hr':=run_bytes_of_string (P:=P) w s t e s' hs hd he
   have hb:Below w.heap.size w (w.drew.alloc (.cells (bytesRow s' (grownCap w s'.size 0 e)) e ((bytesRow s' (grownCap w s'.size 0 e)).size,(bytesRow s' (grownCap w s'.size 0 e)).size+1))):=((Below.refl _ w).drew).alloc (Nat.le_refl _) _
   refine⟨_,_,hr',hb,?_⟩
   rw[VR]
   have hlen:(s'.data.toList.map fun c=>[A.v (.int .u8 c.toNat)]).length=s'.size:=by rw[List.length_map,Array.length_toList]; rfl
   refine⟨_,_,s'.data.toList.map fun c=>[.int .u8 c.toNat],1,by rw[hlen],by rw[hlen]; exact grownCap_ge w _ _ _,fun h=>(by cases h),by simp,fun _=>⟨w.heap.size,0,rfl,?_⟩,?_⟩
   ·refine mU hr (heap_alloc_new w.drew _) fun j v hj=>?_
    rw[mR] at hj
    unfold bytesRow
    rw[Array.getElem?_append_left]
    ·simpa using hj
    ·have:=(List.getElem?_eq_some_iff.1 hj).1
     simpa using this
   ·refine cV.2 ⟨by simp,fun i a d ha hd=>?_⟩
    simp only[List.getElem?_map,Option.map_eq_some_iff] at ha hd
    obtain ⟨b,hb,rfl⟩:=ha
    obtain ⟨b',hb',rfl⟩:=hd
    rw[hb] at hb'; cases hb'
    rw[bp]; exact⟨_,[],rfl,by rw[VR],by rw[bp]⟩
  ·cases h
 ·replace h:=bt h
  obtain ⟨v,hv,h⟩:=h
  obtain rfl:=nk _ hv hx
  cases he:dh P (convert s t c) with
  | none=>rw[he] at h; cases h
  | some e=>rw[he] at h; cases h; exact⟨e,w,ed he w,Below.refl _ _,ow e⟩
theorem sC (vs:List Value):∀ (off:Nat) (cs:Array Value),off+vs.length<=cs.size->((vs.zipIdx 0).foldl (fun cs p=>cs.setIfInBounds (off+p.2) p.1) cs).toList=bo cs.toList off vs:=by
 have gen:∀ (vs:List Value) (n off:Nat) (cs:Array Value),off+n+vs.length<=cs.size->((vs.zipIdx n).foldl (fun cs p=>cs.setIfInBounds (off+p.2) p.1) cs).toList=bo cs.toList (off+n) vs:=by
  intro vs
  induction vs with
  | nil=>intro n off cs _; simp[bo]
  | cons v vs ih =>
   intro n off cs h
   rw[List.zipIdx_cons,List.foldl_cons,ih (n+1) off _ (by simp at h ⊢; omega)]
   simp only[bo,Array.toList_setIfInBounds,List.length_cons]
   have hlt:off+n<cs.toList.length:=by simp at h ⊢; omega
   rw[show off+(n+1)=off+n+1 by omega,List.take_succ_eq_append_getElem (by simp; simp at hlt; omega)]
   simp only[List.getElem_set_self]
   rw[List.take_set_of_le (Nat.le_refl _),List.append_assoc,List.append_assoc]
   rw[List.drop_set_of_lt (by omega)]
   have e:off+n+1+vs.length=off+n+(vs.length+1):=by omega
   rw[e]
   simp
 intro off cs h
 exact gen vs 0 off cs (by simpa using h)
theorem zO {place:Nat->Option (Nat×Nat)}:∀ {parts:List (Nat×A)} {vparts:List (Nat×Value)} {cs ds:List A} {arr:Array Value},tU place cs parts=some ds->bp H g w cs arr.toList ->
  (∀ i:Nat,(∀ p,parts[i]? = some p->∃ q,vparts[i]? = some q/\q.1=p.1/\VR H g w p.2 q.2))->vparts.length=parts.length->∃ arr',Instr.fill place arr vparts=some arr'/\bp H g w ds arr'.toList
 | [],vparts,cs,ds,arr,h,hv,hp,hl=>by
  simp only[tU,Option.some.injEq] at h
  subst h
  have:vparts=[]:=List.eq_nil_of_length_eq_zero (by simpa using hl)
  subst this
  exact⟨arr,rfl,hv⟩
 | (i,x) :: r,vparts,cs,ds,arr,h,hv,hp,hl=>by
  cases vparts with
  | nil=>simp at hl
  | cons q vr =>
   obtain ⟨q',hq,e1,hx⟩:=hp 0 (i,x) rfl
   simp at hq
   subst hq
   simp only[tU] at h
   replace h:=bt h
   obtain ⟨p,hpl,h⟩:=h
   replace h:=bt h
   obtain ⟨xs,hxs,h⟩:=h
   replace h:=bf h
   obtain ⟨hc,h⟩:=h
   simp only[Bool.and_eq_true,beq_iff_eq,decide_eq_true_eq] at hc
   obtain ⟨hvs,_,_⟩:=mL hxs hx
   have hvl:=hvs.length
   have hal:=hv.length
   obtain ⟨qi,qv⟩:=q
   simp only at e1
   subst e1
   have hsz:qv.cells.size=p.2:=by simpa [hc.1] using hvl
   have hfit:p.1+qv.cells.size<=arr.size:=by simp at hal; omega
   have hset:(qv.cells.zipIdx.foldl (fun cs (c,j)=>cs.setIfInBounds (p.1+j) c) arr).toList=bo arr.toList p.1 qv.cells.toList:=by
    have:=sC qv.cells.toList p.1 arr (by simpa using hfit)
    rw[<-this,<-Array.foldl_toList]
    simp
   obtain ⟨arr',h1,h2⟩:=zO (place:=place) (arr:=qv.cells.zipIdx.foldl (fun cs (c,j)=>cs.setIfInBounds (p.1+j) c) arr) (vparts:=vr) h (by rw[hset]; exact hv.bo hvs p.1) (fun j p' hj=>by have:=hp (j+1) p' (by simpa using hj); simpa using this) (by simpa using hl)
   refine⟨arr',?_,h2⟩
   unfold Instr.fill
   rw[hpl]
   obtain ⟨p1,p2⟩:=p
   simp only at hsz hfit ⊢
   rw[if_neg (by simp[hsz]; omega)]
   exact h1
theorem fF {t:TypeId} {z:List A} (h:gT P t=some z):∃ i v,P.info? t=some i/\i.zero=some v/\z=v.cells.toList.map yT:=by
 unfold gT at h
 cases hi:P.info? t with
 | none=>rw[hi] at h; cases h
 | some i =>
  rw[hi] at h
  simp only[Option.bind_some] at h
  cases hz:i.zero with
  | none=>rw[hz] at h; cases h
  | some v=>rw[hz] at h; cases h; exact⟨i,v,rfl,hz,rfl⟩
def mH (H:ay) (g:Gh) (w:World) (parts:List (Nat×A)) (vparts:List (Nat×Value)):Prop:=vparts.length=parts.length/\∀ (i:Nat) p,parts[i]? = some p->∃ q,vparts[i]? = some q/\q.1=p.1/\VR H g w p.2 q.2
theorem uK {t:TypeId} {parts:List (Nat×A)} {vparts:Array (Nat×Value)} {y:A} (h:bE P t parts=some y) (hp:mH H g w parts vparts.toList):∃ d,(Instr.build t vparts).run P w=.ok d w/\VR H g w y d:=by
 unfold bE at h
 replace h:=bt h
 obtain ⟨z,hz,h⟩:=h
 replace h:=bt h
 obtain ⟨place,hpl,h⟩:=h
 obtain ⟨it,v,hi,hv,rfl⟩:=fF hz
 cases hf:tU place (v.cells.toList.map yT) parts with
 | none=>rw[hf] at h; cases h
 | some ds =>
  rw[hf] at h
  cases h
  obtain ⟨arr,h1,h2⟩:=zO (arr:=v.cells) hf (jh _) (fun i p hi=>hp.2 i p hi) hp.1
  refine⟨.agg arr,run_build w t vparts arr ?_,by rw[VR]; exact⟨arr,rfl,h2⟩⟩
  unfold Aj at hpl
  unfold Program.built
  rw[hi]
  split at hpl
  ·rename_i fs hu
   rw[hu]
   cases hm:(fs.toList.mapM fun f=>(P.info? f.type).map fun i=>(f.offset,i.size)) with
   | none=>rw[hm] at hpl; cases hpl
   | some places =>
    rw[hm] at hpl
    cases hpl
    simp only[hv,hm]
    exact h1
  ·rename_i n e hu
   rw[hu]
   cases hie:P.info? e with
   | none=>rw[hie] at hpl; cases hpl
   | some ie =>
    rw[hie] at hpl
    cases hpl
    simp only[hv,hie]
    exact h1
  ·cases hpl
end
section
open Go.RowKit
variable {P:Program} {H:ay} {g:Gh} {w0 w:World}
def Gh.put (g:Gh) (b:Nat) (k:Option Nat) (γ:List (List Value)):Gh:={ g with mu:=fun c=>if c=b then k else g.mu c,ga:=fun c=>if c=b then γ else g.ga c }
theorem Gh.bz (g:Gh) (b:Nat) (k:Option Nat) (γ:List (List Value)):(g.put b k γ).mu b=k:=by simp[Gh.put]
theorem Gh.gJ (g:Gh) (b:Nat) (k:Option Nat) (γ:List (List Value)):(g.put b k γ).ga b=γ:=by simp[Gh.put]
theorem Gh.aJ (g:Gh) {b c:Nat} (k:Option Nat) (γ:List (List Value)) (h:c≠b):(g.put b k γ).mu c=g.mu c:=by simp[Gh.put,h]
theorem Gh.fa (g:Gh) {b c:Nat} (k:Option Nat) (γ:List (List Value)) (h:c≠b):(g.put b k γ).ga c=g.ga c:=by simp[Gh.put,h]
def Step (H:ay) (g:Gh) (w0 w:World) (lo:Nat) (r:Result Value) (y:A) (H':ay):Prop :=
 ∃ d w' g',r=.ok d w'/\Rel H' g' w0 w'/\Ext H g w H' g' w'/\VR H' g' w' y d/\H.length<=H'.length/\(∀ b,b<lo->b<H.length->H'[b]? = H[b]?)/\g'.S=g.S
theorem eI {k:Nat} {o:Obj} {w w':World} (hb:Below w.heap.size w w') (h:w.heap[k]? = some o):w'.heap[k]? = some o:=(hb.block k (Array.getElem?_eq_some_iff.1 h).1).trans h
theorem Rel.push (hr:Rel H g w0 w) {w':World} (hb:Below w.heap.size w w') (B:aD) (ko:Option Nat) (γ:List (List Value)) (hk:∀ k,ko=some k->k=w.heap.size/\w.heap.size<w'.heap.size)
  (hB:Ext H g w (H++[B]) (g.put H.length ko γ) w'->lF (H++[B]) (g.put H.length ko γ) w' H.length B):Rel (H++[B]) (g.put H.length ko γ) w0 w'/\Ext H g w (H++[B]) (g.put H.length ko γ) w':=by
 have old:∀ {b k},(g.put H.length ko γ).mu b=some k->k<w.heap.size->b≠H.length/\g.mu b=some k:=fun {b k} h hlt=>by
  by_cases e:b=H.length
  ·subst e; rw[Gh.bz] at h; have:=(hk k h).1; omega
  ·exact⟨e,by rwa [Gh.aJ _ _ _ e] at h⟩
 have he:Ext H g w (H++[B]) (g.put H.length ko γ) w':=by
  refine⟨fun k o v hs hc=>?_,fun b B' hB'=>⟨B',?_,?_⟩,fun k o ho=>(hb.block k (Array.getElem?_eq_some_iff.1 ho).1).trans ho,hb.size,fun k arr cl hs hm=>?_,fun k hk' _=>hb.block k hk',fun b k h=>?_⟩
  rotate_right 1
  ·by_cases e:b=H.length
   ·subst e; rw[Gh.bz] at h; exact .inr (Nat.le_of_eq (hk k h).1.symm)
   ·exact .inl ⟨b,by rwa [Gh.aJ _ _ _ e] at h⟩
  ·have hlt:=World.block_lt_of_cell? w ⟨k,o,none⟩ hc
   refine⟨(hb.cell (p:=⟨k,o,none⟩) hlt).trans hc,hs.1,fun b hbk=>?_⟩
   obtain ⟨_,h2⟩:=old hbk hlt
   obtain ⟨es,els,h3,h4⟩:=hs.2 b h2
   exact⟨es,els,by rw[List.getElem?_append_left (List.getElem?_eq_some_iff.1 h3).1]; exact h3,h4⟩
  ·rw[List.getElem?_append_left (List.getElem?_eq_some_iff.1 hB').1]; exact hB'
  ·have hne:b≠H.length:=by have:=(List.getElem?_eq_some_iff.1 hB').1; omega
   cases B' with
   | box _=>exact Gh.aJ _ _ _ hne
   | row wr es els=>cases wr with
    | true=>exact⟨rfl,rfl,Gh.aJ _ _ _ hne⟩
    | false=>exact⟨rfl,⟨[],by rw[Gh.fa _ _ _ hne]; simp⟩,(hr.blk b _ hB').len,Nat.le_refl _,fun _=>⟨Gh.aJ _ _ _ hne,fun k arr ty hk' ha=>⟨arr,eI hb ha,Nat.le_refl _⟩⟩⟩
   | rng _=>exact⟨Gh.aJ _ _ _ hne,rfl⟩
   | mp _ _ _=>exact Gh.aJ _ _ _ hne
   | dead=>trivial
   | hole=>trivial
  ·have hlt:=(Array.getElem?_eq_some_iff.1 hm).1
   refine⟨(hb.block k hlt).trans hm,hs.1,fun b hbk=>?_⟩
   obtain ⟨_,h2⟩:=old hbk hlt
   obtain ⟨es,els,h3,h4⟩:=hs.2 b h2
   exact⟨es,els,by rw[List.getElem?_append_left (List.getElem?_eq_some_iff.1 h3).1]; exact h3,h4⟩
 refine⟨⟨hr.below.trans (hb.mono hr.below.size),fun b k hbk=>?_,fun b c k h1 h2=>?_,hr.yV he,hr.xi he,fun b B' hB'=>?_⟩,he⟩
 ·by_cases e:b=H.length
  ·subst e; rw[Gh.bz] at hbk
   obtain ⟨rfl,h2⟩:=hk k hbk
   exact⟨by simp,hr.below.size,h2⟩
  ·rw[Gh.aJ _ _ _ e] at hbk
   obtain ⟨h1,h2,h3⟩:=hr.dom b k hbk
   exact⟨by simp; omega,h2,Nat.lt_of_lt_of_le h3 hb.size⟩
 ·by_cases e:b=H.length
  ·by_cases e':c=H.length
   ·rw[e,e']
   ·subst e
    rw[Gh.bz] at h1
    rw[Gh.aJ _ _ _ e'] at h2
    have:=(hk k h1).1; have:=(hr.dom c k h2).2.2; omega
  ·by_cases e':c=H.length
   ·subst e'
    rw[Gh.bz] at h2
    rw[Gh.aJ _ _ _ e] at h1
    have:=(hk k h2).1; have:=(hr.dom b k h1).2.2; omega
   ·rw[Gh.aJ _ _ _ e] at h1
    rw[Gh.aJ _ _ _ e'] at h2
    exact hr.inj b c k h1 h2
 ·by_cases e:b=H.length
  ·subst e
   rw[List.getElem?_append_right (Nat.le_refl _)] at hB'
   simp at hB'
   subst hB'
   exact hB he
  ·have hlt:b<H.length:=by have:=(List.getElem?_eq_some_iff.1 hB').1; simp at this; omega
   rw[List.getElem?_append_left hlt] at hB'
   have h:=hr.blk b B' hB'
   cases B' with
   | box cs=>obtain ⟨k,arr,ty,h1,h2,h3⟩:=h; exact⟨k,arr,ty,(Gh.aJ _ _ _ e).trans h1,eI hb h2,bp.ext he _ _ h3⟩
   | row wr es els=>cases wr with
    | true =>
     obtain ⟨ds,h1,h2,h3⟩:=h
     exact⟨ds,bn.ext he _ _ h1,h2,fun hp=>let ⟨k,arr,ty,e1,e2,e3⟩:=h3 hp; ⟨k,arr,ty,(Gh.aJ _ _ _ e).trans e1,eI hb e2,e3⟩⟩
    | false =>
     obtain ⟨h1,h2⟩:=h
     refine⟨?_,?_⟩
     ·rw[Gh.fa _ _ _ e]; exact bn.ext he _ _ h1
     ·rw[Gh.fa _ _ _ e]; exact h2
   | rng st=>obtain ⟨k,h1,h2⟩:=h; exact⟨k,(Gh.aJ _ _ _ e).trans h1,eI hb h2⟩
   | mp _ _ _=>obtain ⟨k,arr,cl,h1,h2,h3,h4⟩:=h; exact⟨k,arr,cl,(Gh.aJ _ _ _ e).trans h1,eI hb h2,h3,bp.ext he _ _ h4⟩
   | dead=>exact(Gh.aJ _ _ _ e).trans h
   | hole=>exact(Gh.aJ _ _ _ e).trans h
theorem ei (H:ay) (B:aD):(H++[B])[H.length]? = some B:=by simp
theorem ib (H:ay) (B:aD) (lo:Nat):∀ b,b<lo->b<H.length->(H++[B])[b]? = H[b]?:=fun _ _ h=>List.getElem?_append_left h
theorem xV (hr:Rel H g w0 w) {t:TypeId} {x y:A} {H':ay} {c:Value} (lo:Nat) (h:dq x H=some (y,H')) (hx:VR H g w x c):Step H g w0 w lo ((Instr.box t c).run P w) y H':=by
 unfold dq at h
 cases hc:x.cells? with
 | none=>rw[hc] at h; cases h
 | some cs =>
  rw[hc] at h
  cases h
  obtain ⟨hv,_,_⟩:=mL hc hx
  have hb:Below w.heap.size w (w.alloc (.cells c.cells t)):=(Below.refl _ w).alloc (Nat.le_refl _) _
  obtain ⟨h1,h2⟩:=hr.push hb (.box cs) (some w.heap.size) [] (fun k hk=>by cases hk; exact⟨rfl,by simp⟩) (fun he=>⟨w.heap.size,c.cells,t,Gh.bz _ _ _ _,heap_alloc_new w _,bp.ext he _ _ hv⟩)
  refine⟨.pointer (some ⟨w.heap.size,0,none⟩),_,_,by simp[Instr.box,newVar,newRow,newObj]; rfl,h1,h2,?_,by simp,ib _ _ _,rfl⟩
  rw[VR,ei]; exact⟨w.heap.size,Gh.bz _ _ _ _,rfl⟩
theorem uI (hr:Rel H g w0 w) {t:TypeId} {y:A} {H':ay} (lo:Nat) (h:lJ P t H=some (y,H')):Step H g w0 w lo ((Instr.alloc t true (.tuple #[])).run P w) y H':=by
 unfold lJ at h
 cases hz:gT P t with
 | none=>rw[hz] at h; cases h
 | some cs =>
  rw[hz] at h
  cases h
  obtain ⟨i,z,hi,hzz,rfl⟩:=fF hz
  have hb:Below w.heap.size w (w.alloc (.cells z.cells t)):=(Below.refl _ w).alloc (Nat.le_refl _) _
  obtain ⟨h1,h2⟩:=hr.push hb (.box (z.cells.toList.map yT)) (some w.heap.size) [] (fun k hk=>by cases hk; exact⟨rfl,by simp⟩) (fun he=>⟨w.heap.size,z.cells,t,Gh.bz _ _ _ _,heap_alloc_new w _,jh _⟩)
  refine⟨.pointer (some ⟨w.heap.size,0,none⟩),_,_,by simp[Instr.alloc,zeroValue,typeInfo,hi,hzz,newVar,newRow,newObj]; rfl,h1,h2,?_,by simp,ib _ _ _,rfl⟩
  rw[VR,ei]; exact⟨w.heap.size,Gh.bz _ _ _ _,rfl⟩
theorem sz (hr:Rel H g w0 w) {t:TypeId} {cs:List A} {y:A} {H':ay} {arr:Array Value} {ty:TypeId} (h:rowOf P t cs H=some (y,H')) (hv:bp H g w cs arr.toList) :
  Rel H' (g.put H.length (some w.heap.size) []) w0 (w.alloc (.cells arr ty))/\Ext H g w H' (g.put H.length (some w.heap.size) []) (w.alloc (.cells arr ty))/\VR H' (g.put H.length (some w.heap.size) []) (w.alloc (.cells arr ty)) y (.pointer (some ⟨w.heap.size,0,none⟩))/\H.length<=H'.length/\∀ lo b,b<lo->b<H.length->H'[b]? = H[b]?:=by
 unfold rowOf at h
 split at h
 ·rename_i n e hu
  replace h:=bt h
  obtain ⟨es,hes,h⟩:=h
  replace h:=eK h
  obtain ⟨h0,h⟩:=h
  cases h
  simp only[Bool.or_eq_false_iff,Bool.not_eq_false',Nat.beq_eq] at h0
  obtain ⟨⟨h1,h2⟩,h3⟩:=h0
  have h2:n≠0:=fun e=>by rw[e] at h2; cases h2
  have hb:Below w.heap.size w (w.alloc (.cells arr ty)):=(Below.refl _ w).alloc (Nat.le_refl _) _
  have hal:arr.toList.length=n*es:=by rw[hv.length,h3]
  obtain ⟨r1,r2⟩:=hr.push hb (.row true es (chunk es n cs)) (some w.heap.size) [] (fun k hk=>by cases hk; exact⟨rfl,by simp⟩) (fun he=>⟨chunk es n arr.toList,(bp.ext he _ _ hv).chunk n,jE hal,fun _=>⟨w.heap.size,arr,ty,Gh.bz _ _ _ _,heap_alloc_new w _,fun j v hj=>by
   rw[lQ hal] at hj; simpa using hj⟩⟩)
  refine⟨r1,r2,?_,by simp,fun lo=>ib _ _ _⟩
  rw[VR,ei]
  exact⟨by rw[gH]; omega,w.heap.size,Gh.bz _ _ _ _,by simp⟩
 ·cases h
theorem v5 (hr:Rel H g w0 w) {t:TypeId} {x y:A} {H':ay} {c:Value} (lo:Nat) (h:tD P t x H=some (y,H')) (hx:VR H g w x c):Step H g w0 w lo ((Instr.box t c).run P w) y H':=by
 unfold tD at h
 cases hc:x.cells? with
 | none=>rw[hc] at h; cases h
 | some cs =>
  rw[hc] at h
  obtain ⟨hv,_,_⟩:=mL hc hx
  obtain ⟨r1,r2,r3,r4,r5⟩:=sz (P:=P) hr (ty:=t) h hv
  exact⟨.pointer (some ⟨w.heap.size,0,none⟩),_,_,by simp[Instr.box,newVar,newRow,newObj]; rfl,r1,r2,r3,r4,r5 lo,rfl⟩
theorem sS (hr:Rel H g w0 w) {t:TypeId} {y:A} {H':ay} (lo:Nat) (h:nu P t H=some (y,H')):Step H g w0 w lo ((Instr.alloc t true (.tuple #[])).run P w) y H':=by
 unfold nu at h
 cases hz:gT P t with
 | none=>rw[hz] at h; cases h
 | some cs =>
  rw[hz] at h
  obtain ⟨i,z,hi,hzz,rfl⟩:=fF hz
  obtain ⟨r1,r2,r3,r4,r5⟩:=sz (P:=P) hr (arr:=z.cells) (ty:=t) h (jh _)
  exact⟨.pointer (some ⟨w.heap.size,0,none⟩),_,_,by simp[Instr.alloc,zeroValue,typeInfo,hi,hzz,newVar,newRow,newObj]; rfl,r1,r2,r3,r4,r5 lo,rfl⟩
theorem Rel.write (hr:Rel H g w0 w) {b k:Nat} {arr arr':Array Value} {ty:TypeId} (hk:g.mu b=some k) (ha:w.heap[k]? = some (.cells arr ty (0,0))) {B B':aD} (hB:H[b]? = some B)
  (hkind:(∃ cs cs',B=.box cs/\B'=.box cs')∨∃ es els els',B=.row true es els/\B'=.row true es els'/\els'.length=els.length)
  (hB':Ext H g w (H.set b B') g (w.setRow k arr')->(w.setRow k arr').heap[k]? = some (.cells arr' ty (0,0))->lF (H.set b B') g (w.setRow k arr') b B'):Rel (H.set b B') g w0 (w.setRow k arr')/\Ext H g w (H.set b B') g (w.setRow k arr'):=by
 have hlt:b<H.length:=(List.getElem?_eq_some_iff.1 hB).1
 have hnew:(w.setRow k arr').heap[k]? = some (.cells arr' ty (0,0)):=setRow_heap w k arr arr' ty (0,0) ha
 have hoth:∀ j,j≠k->(w.setRow k arr').heap[j]? = w.heap[j]?:=fun j hj=>setRow_other w k j arr' hj
 have hnot:∀ {o:Nat},¬ eX H g k o:=fun {o} hs=>by
  obtain ⟨es,els,h1,_⟩:=hs.2 b hk
  rw[hB] at h1
  rcases hkind with ⟨cs,cs',rfl,_⟩ | ⟨es',els1,els',rfl,_⟩<;>cases h1
 have he:Ext H g w (H.set b B') g (w.setRow k arr'):=by
  refine⟨fun k' o v hs hc=>?_,fun c C hC=>?_,fun k' o ho=>(hoth k' (fun e=>by subst e; rw[ha] at ho; cases ho)).trans ho,by simp[World.setRow],fun k' marr cl hs hm=>?_,fun k' _ hn=>hoth k' (fun e=>hn b (e ▸ hk)),fun c k' h=>.inl ⟨c,h⟩⟩
  ·have hne:k'≠k:=fun e=>hnot (e ▸ hs)
   refine⟨(World.cell?_of_block (a:=⟨k',o,none⟩) (hoth k' hne)).trans hc,hs.1,fun c hck=>?_⟩
   obtain ⟨es,els,h1,h2⟩:=hs.2 c hck
   have hcb:c≠b:=fun e=>by subst e; rw[hk] at hck; exact hne (by cases hck; rfl)
   exact⟨es,els,by rw[List.getElem?_set_ne (Ne.symm hcb)]; exact h1,h2⟩
  ·by_cases e:c=b
   ·subst e
    rw[hB] at hC; cases hC
    refine⟨B',by rw[List.getElem?_set_self hlt],?_⟩
    rcases hkind with ⟨cs,cs',rfl,rfl⟩ | ⟨es,els,els',rfl,rfl,hl⟩
    ·rfl
    ·exact⟨rfl,hl,rfl⟩
   ·refine⟨C,by rw[List.getElem?_set_ne (Ne.symm e)]; exact hC,?_⟩
    cases C with
    | box _=>rfl
    | row wr es els=>cases wr with
     | true=>exact⟨rfl,rfl,rfl⟩
     | false=>exact⟨rfl,⟨[],by simp⟩,(hr.blk c _ hC).len,Nat.le_refl _,fun _=>⟨rfl,fun k' arr1 ty1 hk1 ha1=>⟨arr1,(hoth k' (fun e2=>e (hr.inj c b k (e2 ▸ hk1) hk))).trans ha1,Nat.le_refl _⟩⟩⟩
    | rng _=>exact⟨rfl,rfl⟩
    | mp _ _ _=>rfl
    | dead=>trivial
    | hole=>trivial
  ·have hne:k'≠k:=fun e=>by subst e; rw[ha] at hm; cases hm
   refine⟨(hoth k' hne).trans hm,hs.1,fun c hck=>?_⟩
   obtain ⟨es,els,h1,h2⟩:=hs.2 c hck
   have hcb:c≠b:=fun e=>by subst e; rw[hk] at hck; exact hne (by cases hck; rfl)
   exact⟨es,els,by rw[List.getElem?_set_ne (Ne.symm hcb)]; exact h1,h2⟩
 have hsz:(w.setRow k arr').heap.size=w.heap.size:=by simp[World.setRow]
 have hkb:=(hr.dom b k hk).2.1
 refine⟨⟨hr.below.trans ⟨rfl,rfl,rfl,by rw[hsz]; exact Nat.le_refl _,fun j hj=>hoth j (by omega)⟩,fun c j hcj=>⟨by simpa using (hr.dom c j hcj).1,(hr.dom c j hcj).2.1,by rw[hsz]; exact(hr.dom c j hcj).2.2⟩,hr.inj,hr.yV he,hr.xi he,fun c C hC=>?_⟩,he⟩
 by_cases e:c=b
 ·subst e
  rw[List.getElem?_set_self hlt] at hC; cases hC
  exact hB' he hnew
 ·rw[List.getElem?_set_ne (Ne.symm e)] at hC
  have h:=hr.blk c C hC
  have hmu:∀ {j},g.mu c=some j->j≠k:=fun {j} hj e2=>e (hr.inj c b k (e2 ▸ hj) hk)
  cases C with
  | box cs=>obtain ⟨j,arr1,ty1,h1,h2,h3⟩:=h; exact⟨j,arr1,ty1,h1,(hoth j (hmu h1)).trans h2,bp.ext he _ _ h3⟩
  | row wr es els=>cases wr with
   | true =>
    obtain ⟨ds,h1,h2,h3⟩:=h
    exact⟨ds,bn.ext he _ _ h1,h2,fun hp=>let ⟨j,arr1,ty1,e1,e2,e3⟩:=h3 hp; ⟨j,arr1,ty1,e1,(hoth j (hmu e1)).trans e2,e3⟩⟩
   | false=>exact⟨bn.ext he _ _ h.1,h.2⟩
  | rng st=>obtain ⟨j,h1,h2⟩:=h; exact⟨j,h1,(hoth j (hmu h1)).trans h2⟩
  | mp _ _ _=>obtain ⟨j,arr1,cl,h1,h2,h3,h4⟩:=h; exact⟨j,arr1,cl,h1,(hoth j (hmu h1)).trans h2,h3,bp.ext he _ _ h4⟩
  | dead=>exact h
  | hole=>exact h
theorem m6 (H:ay) (B:aD) {lo b:Nat} (hb:lo<=b):∀ c,c<lo->c<H.length->(H.set b B)[c]? = H[c]?:=fun _ hc _=>List.getElem?_set_ne (by omega)
theorem mj {t:TypeId} {n k o:Nat} {c:Value} {arr:Array Value} {ty:TypeId} (hs:db P t=some n) (hn:c.cells.size=n) (ha:w.heap[k]? = some (.cells arr ty (0,0))) (hfit:o+n<=arr.size) (h1:∀ x∈c.cells.toList,x.oneCell'=true) :
  (Instr.storeAt t (.pointer (some ⟨k,o,none⟩)) c).run P w=.ok () (w.setRow k (bo arr.toList o c.cells.toList).toArray):=by
 have:=run_storeCells_at P k o ty c.cells.toList 0 arr w ha (by simpa [hn] using hfit) h1
 simp only[Nat.add_zero] at this
 simp only[Instr.storeAt,Instr.sureAddr,Sem.run_bind,Sem.run_pure,Result.andThen_ok,storeVar,er hs]
 rw[if_neg (by simp[hn])]
 rw[this]
 simp[bo]
theorem il {α:Type} (cs xs:List α) (o:Nat) (h:o+xs.length<=cs.length):(bo cs o xs).length=cs.length:=by
 simp[bo]; omega
theorem gm {α:Type} (cs xs:List α) (o j:Nat) (h:o+xs.length<=cs.length):(bo cs o xs)[j]? = if o<=j/\j<o+xs.length then xs[j - o]? else cs[j]?:=by
 unfold bo
 rw[List.append_assoc,List.getElem?_append,List.length_take,Nat.min_eq_left (by omega)]
 by_cases h1:j<o
 ·rw[if_pos h1,if_neg (by omega),List.getElem?_take,if_pos h1]
 ·rw[if_neg h1,List.getElem?_append]
  by_cases h2:j<o+xs.length
  ·rw[if_pos (by omega),if_pos (by omega)]
  ·rw[if_neg (by omega),if_neg (by omega),List.getElem?_drop]
   congr 1; omega
theorem sH {α:Type} (x l xs:List α) (n:Nat):bo (x++l) (x.length+n) xs=x++bo l n xs:=by
 unfold bo
 rw[Nat.add_assoc,List.take_length_add_append,List.drop_length_add_append]
 simp
theorem rD {es:Nat}:∀ {ds:List (List Value)} {i:Nat} {d d':List Value},(∀ d∈ds,d.length=es)->ds[i]? = some d->∀ o xs,o+xs.length<=es->d'=bo d o xs->(ds.set i d').flatten=bo ds.flatten (i*es+o) xs
 | [],i,d,d',_,h,_,_,_,_=>by simp at h
 | x :: r,i,d,d',hl,h,o,xs,hf,hd=>by
  have hx:=hl x (by simp)
  cases i with
  | zero =>
   simp at h; subst h; subst hd
   simp only[List.set_cons_zero,List.flatten_cons,Nat.zero_mul,Nat.zero_add,bo]
   rw[List.take_append_of_le_length (by omega),List.drop_append_of_le_length (by omega)]
   simp
  | succ i =>
   have ih:=rD (ds:=r) (i:=i) (d:=d) (d':=d') (fun d hd=>hl d (by simp[hd])) (by simpa using h) o xs hf hd
   have e:(i+1)*es+o=x.length+(i*es+o):=by rw[hx,Nat.add_mul]; omega
   rw[List.set_cons_succ,List.flatten_cons,List.flatten_cons,ih,e,sH]
theorem hU {es:Nat} {ds:List (List Value)} (hl:∀ d∈ds,d.length=es) {m:Nat} (hm:m<=ds.length):(ds.take m).flatten.length=m*es:=by
 rw[b6 (fun d hd=>hl d (List.mem_of_mem_take hd)),List.length_take,Nat.min_eq_left hm]
theorem mS {es:Nat}:∀ {ds:List (List Value)} (o:Nat) {xs:List (List Value)},(∀ d∈ds,d.length=es)->(∀ d∈xs,d.length=es)->o+xs.length<=ds.length->(bo ds o xs).flatten=bo ds.flatten (o*es) xs.flatten
 | ds,0,xs,hl,hx,h=>by
  have:ds=ds.take xs.length++ds.drop xs.length:=(List.take_append_drop _ _).symm
  have h1:(ds.take xs.length).flatten.length=xs.length*es:=hU hl (by omega)
  simp only[bo,List.take_zero,List.nil_append,Nat.zero_add,Nat.zero_mul,List.flatten_append]
  congr 1
  have e:ds.flatten=(ds.take xs.length).flatten++(ds.drop xs.length).flatten:=by rw[<-List.flatten_append,List.take_append_drop]
  rw[e,List.drop_append,h1,b6 hx]
  simp[h1]
 | [],o+1,xs,hl,hx,h=>by simp at h
 | d :: r,o+1,xs,hl,hx,h=>by
  have ih:=mS (ds:=r) o (xs:=xs) (fun d hd=>hl d (by simp[hd])) hx (by simp at h; omega)
  have e1:bo (d :: r) (o+1) xs=d :: bo r o xs:=by
   simp only[bo,List.take_succ_cons,List.cons_append]
   rw[show o+1+xs.length=o+xs.length+1 by omega,List.drop_succ_cons]
  rw[e1,List.flatten_cons,ih,List.flatten_cons]
  have e2:(o+1)*es=d.length+o*es:=by rw[hl d (by simp),Nat.add_mul]; omega
  rw[e2,sH]
theorem uP (hr:Rel H g w0 w) {t:TypeId} {a x:A} {H':ay} {lo:Nat} {ca cx:Value} (h:kf P t a x H lo=some H') (ha:VR H g w a ca) (hx:VR H g w x cx) :
  ∃ w',(Instr.storeAt t ca cx).run P w=.ok () w'/\Rel H' g w0 w'/\Ext H g w H' g w'/\H.length<=H'.length/\∀ b,b<lo->b<H.length->H'[b]? = H[b]?:=by
 unfold kf at h
 replace h:=bt h
 obtain ⟨n,hn,h⟩:=h
 replace h:=bt h
 obtain ⟨xs,hxs,h⟩:=h
 replace h:=eK h
 obtain ⟨h0,h⟩:=h
 simp only[Bool.or_eq_false_iff,Bool.not_eq_false',beq_iff_eq] at h0
 obtain ⟨hvs,h1,_⟩:=mL hxs hx
 have hsz:cx.cells.size=n:=by have:=hvs.length; simp at this; omega
 split at h
 ·rename_i b o
  split at h
  ·rename_i cs hb
   replace h:=bf h
   obtain ⟨hc,h⟩:=h
   simp only[Bool.and_eq_true,decide_eq_true_eq] at hc
   cases h
   rw[VR,hb] at ha
   obtain ⟨k,hk,rfl⟩:=ha
   obtain ⟨k',arr,ty,hk',har,hv⟩:=hr.blk b _ hb
   rw[hk] at hk'; cases hk'
   have hal:arr.size=cs.length:=by simpa using hv.length
   have hrun:=mj (P:=P) hn hsz har (o:=o) (by omega) h1
   obtain ⟨r1,r2⟩:=hr.write hk har (arr':=(bo arr.toList o cx.cells.toList).toArray) (B':=.box (bo cs o xs)) hb (.inl ⟨_,_,rfl,rfl⟩) (fun he hnew=>⟨k,_,ty,hk,hnew,bp.ext he _ _ (by simpa using hv.bo hvs o)⟩)
   exact⟨_,hrun,r1,r2,by simp,m6 _ _ hc.1⟩
  ·cases h
 ·rename_i b i o
  split at h
  ·rename_i es els hb
   split at h
   ·rename_i cs hi
    rw[VR,hb] at ha
    obtain ⟨hlt,k,hk,rfl⟩:=ha
    obtain ⟨ds,hv,hl,hrow⟩:=hr.blk b _ hb
    obtain ⟨k',arr,ty,hk',har,hcell⟩:=hrow (by omega)
    rw[hk] at hk'; cases hk'
    obtain ⟨d,hd,hvd⟩:=hv.get hi
    have hdl:d.length=es:=hl d (List.mem_of_getElem? hd)
    have hcl:cs.length=es:=by rw[<-hvd.length]; exact hdl
    have hfl:=b6 hl
    have hvl:=hv.length
    have hbound:i*es+es<=ds.length*es:=by
     have:=Nat.mul_le_mul_right es (show i+1<=ds.length by omega)
     rw[Nat.add_mul] at this; omega
    have hal:ds.flatten.length<=arr.size:=by
     by_cases hz:ds.flatten.length=0
     ·omega
     ·have:=hcell (ds.flatten.length - 1) _ (List.getElem?_eq_getElem (by omega))
      have:=(Array.getElem?_eq_some_iff.1 this).1
      omega
    have hxl:cx.cells.toList.length=n:=by simpa using hsz
    rw[br] at h
    split at h
    rotate_left
    ·replace h:=bf h
     obtain ⟨hc,h⟩:=h
     simp only[Bool.and_eq_true,decide_eq_true_eq,Nat.beq_eq] at hc
     obtain ⟨⟨⟨hlo,rfl⟩,hq⟩,hfit⟩:=hc
     cases h
     have hxq:cx.cells.toList.length=n / es*es:=by omega
     have hq2:i*es+n / es*es<=ds.length*es:=by
      have:=Nat.mul_le_mul_right es (show i+n / es<=ds.length by omega)
      rwa [Nat.add_mul] at this
     have hrun:=mj (P:=P) hn hsz har (o:=i*es+0) (by omega) h1
     have hcl2:=jE (es:=es) hxq
     obtain ⟨r1,r2⟩:=hr.write hk har (arr':=(bo arr.toList (i*es+0) cx.cells.toList).toArray) (B':=.row true es (bo els i (chunk es (n / es) xs))) hb (.inr ⟨es,els,_,rfl,rfl,by rw[il _ _ _ (by rw[gH]; omega)]⟩) (fun he hnew=>by
      refine⟨bo ds i (chunk es (n / es) cx.cells.toList),?_,?_,fun _=>⟨k,_,ty,hk,hnew,fun j v hj=>?_⟩⟩
      ·have hv2:=bn.ext he _ _ hv
       have hx2:=bn.ext he _ _ (hvs.chunk (es:=es) (n / es))
       exact hv2.bo hx2 i
      ·intro d' hd'
       unfold bo at hd'
       rcases List.mem_append.1 hd' with hd' | hd'
       ·rcases List.mem_append.1 hd' with hd' | hd'
        ·exact hl d' (List.mem_of_mem_take hd')
        ·exact hcl2 d' hd'
       ·exact hl d' (List.mem_of_mem_drop hd')
      ·rw[mS i hl hcl2 (by rw[gH]; omega),lQ hxq] at hj
       rw[gm _ _ _ _ (by omega)] at hj
       have:(bo arr.toList (i*es+0) cx.cells.toList).toArray[j]? = (bo arr.toList (i*es+0) cx.cells.toList)[j]?:=by simp
       rw[this,gm _ _ _ _ (by simp; omega)]
       simp only[Nat.add_zero]
       split
       ·rename_i hin; rw[if_pos hin] at hj; exact hj
       ·rename_i hin; rw[if_neg hin] at hj
        have:=hcell j v hj
        simpa using this)
     exact⟨_,hrun,r1,r2,by simp,m6 _ _ hlo⟩
    rename_i hc
    simp only[Bool.and_eq_true,decide_eq_true_eq] at hc
    cases h
    have hrun:=mj (P:=P) hn hsz har (o:=i*es+o) (by omega) h1
    obtain ⟨r1,r2⟩:=hr.write hk har (arr':=(bo arr.toList (i*es+o) cx.cells.toList).toArray) (B':=.row true es (els.set i (bo cs o xs))) hb (.inr ⟨es,els,_,rfl,rfl,by simp⟩) (fun he hnew=>by
     refine⟨ds.set i (bo d o cx.cells.toList),?_,?_,fun _=>⟨k,_,ty,hk,hnew,fun j v hj=>?_⟩⟩
     ·have hv2:=bn.ext he _ _ hv
      have hvd2:=bp.ext he _ _ (hvd.bo hvs o)
      obtain ⟨g1,g2⟩:=cV.1 hv2
      refine cV.2 ⟨by simp[g1],fun j a' d' ha' hd'=>?_⟩
      by_cases e:j=i
      ·subst e
       rw[List.getElem?_set_self (by omega)] at ha'
       rw[List.getElem?_set_self (by omega)] at hd'
       cases ha'; cases hd'; exact hvd2
      ·rw[List.getElem?_set_ne (Ne.symm e)] at ha' hd'
       exact g2 j a' d' ha' hd'
     ·intro d' hd'
      rcases List.mem_or_eq_of_mem_set hd' with h' | rfl
      ·exact hl d' h'
      ·rw[il _ _ _ (by omega)]; exact hdl
     ·rw[rD hl hd o cx.cells.toList (by omega) rfl] at hj
      rw[gm _ _ _ _ (by omega)] at hj
      have:(bo arr.toList (i*es+o) cx.cells.toList).toArray[j]? = (bo arr.toList (i*es+o) cx.cells.toList)[j]?:=by simp
      rw[this,gm _ _ _ _ (by simp; omega)]
      split
      ·rename_i hin; rw[if_pos hin] at hj; exact hj
      ·rename_i hin; rw[if_neg hin] at hj
       have:=hcell j v hj
       simpa using this)
    exact⟨_,hrun,r1,r2,by simp,m6 _ _ hc.1⟩
   ·cases h
  ·cases h
 ·cases h
end
section
open Go.RowKit
variable {P:Program} {H:ay} {g:Gh} {w0 w:World}
theorem jH {t e:TypeId} (h:mz P t=some e):P.underlying t=some (.slice e):=by
 unfold mz at h
 split at h
 ·rename_i hu; cases h; exact hu
 ·cases h
theorem nD (z:Array Value) (len:Nat) (hz:0<z.size):(madeCells z (len*z.size)).toList=(List.replicate len z.toList).flatten:=by
 have hl:∀ d∈List.replicate len z.toList,d.length=z.size:=fun d hd=>by rw[(List.mem_replicate.1 hd).2]; simp
 apply List.ext_getElem?
 intro j
 by_cases hj:j<len*z.size
 ·have hq:j / z.size<len:=Nat.div_lt_of_lt_mul (by rw[Nat.mul_comm]; exact hj)
  have e:=jK hl (j:=j / z.size) (d:=z.toList) (by rw[List.getElem?_replicate,if_pos hq]) (j % z.size) (Nat.mod_lt _ hz)
  rw[show j / z.size*z.size+j % z.size=j by rw[Nat.mul_comm]; exact Nat.div_add_mod _ _] at e
  rw[e]
  have hm:=Nat.mod_lt j hz
  have:(madeCells z (len*z.size))[j]? = some (z[j % z.size]!):=by simp[madeCells,hj]
  rw[Array.getElem?_toList,this]
  simp[hm]
 ·rw[List.getElem?_eq_none (by simp[madeCells]; omega),List.getElem?_eq_none (by rw[b6 hl]; simp; omega)]
theorem wK {es:Nat}:∀ {parts:List (Nat×A)} {vparts:List (Nat×Value)} {els els':List (List A)} {ds:List (List Value)} {arr:Array Value},mi els parts=some els'->arr.toList=ds.flatten->bn H g w els ds->(∀ d∈ds,d.length=es) ->
  (∀ p∈parts,p.1<els.length/\∃ xs,p.2.cells? = some xs/\xs.length=es)->mH H g w parts vparts->∃ arr' ds',Instr.fill (fun i=>some (i*es,es)) arr vparts=some arr'/\arr'.toList=ds'.flatten/\bn H g w els' ds'/\(∀ d∈ds',d.length=es)
 | [],vparts,els,els',ds,arr,h,ha,hv,hl,_,hp=>by
  simp only[mi,Option.some.injEq] at h
  subst h
  have:vparts=[]:=List.eq_nil_of_length_eq_zero (by simpa using hp.1)
  subst this
  exact⟨arr,ds,rfl,ha,hv,hl⟩
 | (i,x) :: r,vparts,els,els',ds,arr,h,ha,hv,hl,hc,hp=>by
  cases vparts with
  | nil=>simp[mH] at hp
  | cons q vr =>
   obtain ⟨q',hq,e1,hx⟩:=hp.2 0 (i,x) rfl
   simp at hq
   subst hq
   obtain ⟨hi,xs,hxs,hxl⟩:=hc (i,x) (by simp)
   simp only[mi,hxs,Option.bind_some] at h
   obtain ⟨hvs,_,_⟩:=mL hxs hx
   have hvl:=hvs.length
   have hel:=hv.length
   obtain ⟨qi,qv⟩:=q
   simp only at e1 hi
   subst e1
   have hsz:qv.cells.size=es:=by simpa [hxl] using hvl
   obtain ⟨d,hd,_⟩:=hv.get (i:=qi) (List.getElem?_eq_getElem hi)
   have hdl:d.length=es:=hl d (List.mem_of_getElem? hd)
   have hfl:=b6 hl
   have hfit:qi*es+qv.cells.size<=arr.size:=by
    have e2:arr.size=ds.length*es:=by rw[<-hfl,<-ha]; simp
    have:=Nat.mul_le_mul_right es (show qi+1<=ds.length by omega)
    rw[Nat.add_mul] at this; omega
   have hsp:qv.cells.toList=bo d 0 qv.cells.toList:=by
    unfold bo
    rw[List.take_zero,List.nil_append,List.drop_of_length_le (by simp; omega),List.append_nil]
   have hset:(qv.cells.zipIdx.foldl (fun cs (c,j)=>cs.setIfInBounds (qi*es+j) c) arr).toList=(ds.set qi qv.cells.toList).flatten:=by
    have:=sC qv.cells.toList (qi*es) arr (by simpa using hfit)
    rw[rD hl hd 0 qv.cells.toList (by simp; omega) hsp,<-ha,Nat.add_zero,<-this,<-Array.foldl_toList]
    simp
   obtain ⟨arr',ds',h1,h2,h3,h4⟩:=wK (els:=els.set qi xs) (ds:=ds.set qi qv.cells.toList) (arr:=qv.cells.zipIdx.foldl (fun cs (c,j)=>cs.setIfInBounds (qi*es+j) c) arr) (vparts:=vr) h hset
    (by
     obtain ⟨g1,g2⟩:=cV.1 hv
     refine cV.2 ⟨by simp[g1],fun j a' d' ha' hd'=>?_⟩
     by_cases e:j=qi
     ·subst e
      rw[List.getElem?_set_self (by omega)] at ha'
      rw[List.getElem?_set_self (by omega)] at hd'
      cases ha'; cases hd'; exact hvs
     ·rw[List.getElem?_set_ne (Ne.symm e)] at ha' hd'
      exact g2 j a' d' ha' hd')
    (fun d' hd'=>by
     rcases List.mem_or_eq_of_mem_set hd' with h' | rfl
     ·exact hl d' h'
     ·simpa using hsz)
    (fun p hpm=>by have:=hc p (by simp[hpm]); simpa using this) ⟨by simpa using hp.1,fun j p' hj=>by have:=hp.2 (j+1) p' (by simpa using hj); simpa using this⟩
   refine⟨arr',ds',?_,h2,h3,h4⟩
   unfold Instr.fill
   simp only
   rw[if_neg (by simp[hsz]; omega)]
   exact h1
theorem my {t:TypeId} {len:Nat} {parts:List (Nat×A)} {vparts:Array (Nat×Value)} {y:A} (h:ba P t len parts=some y) (hp:mH H g w parts vparts.toList) :
  ∃ e es els arr' ds,y=.imm els true/\mz P t=some e/\db P e=some es/\es≠0/\(Instr.buildSlice t len vparts).run P w=.ok (.slice (some ⟨w.heap.size,0,none⟩) len len) (w.alloc (.cells arr' e))/\els.length=len/\arr'.toList=ds.flatten/\bn H g w els ds/\∀ d∈ds,d.length=es:=by
 unfold ba at h
 replace h:=bt h
 obtain ⟨e,he,h⟩:=h
 have hu:=jH he
 replace h:=bt h
 obtain ⟨es,hes,h⟩:=h
 replace h:=bt h
 obtain ⟨z,hz,h⟩:=h
 replace h:=eK h
 obtain ⟨h0,h⟩:=h
 replace h:=bf h
 obtain ⟨hc,h⟩:=h
 simp only[Bool.or_eq_false_iff,Bool.not_eq_false',beq_iff_eq,decide_eq_true_eq,beq_eq_false_iff_ne] at h0
 obtain ⟨⟨h0,h1⟩,h2⟩:=h0
 obtain ⟨it,v,hi,hv,rfl⟩:=fF hz
 obtain ⟨it',hi',hsz⟩:=fX hes
 rw[hi] at hi'; cases hi'
 have hvs:v.cells.size=es:=by simpa using h1
 cases hse:mi (List.replicate len (v.cells.toList.map yT)) parts with
 | none=>rw[hse] at h; cases h
 | some els =>
  rw[hse] at h
  cases h
  have hz0:0<v.cells.size:=by omega
  have hall:∀ p∈parts,p.1<(List.replicate len (v.cells.toList.map yT)).length/\∃ xs,p.2.cells? = some xs/\xs.length=es:=fun p hpm=>by
   have:=List.all_eq_true.1 hc p hpm
   simp only[Bool.and_eq_true,decide_eq_true_eq] at this
   refine⟨by simpa using this.1,?_⟩
   have h3:=this.2
   split at h3
   ·rename_i xs hx; exact⟨xs,hx,by simpa using h3⟩
   ·cases h3
  have hrep:bn H g w (List.replicate len (v.cells.toList.map yT)) (List.replicate len v.cells.toList):=cV.2 ⟨by simp,fun i a d ha hd=>by
   rw[List.getElem?_replicate] at ha hd
   split at ha
   ·rename_i hlt; rw[if_pos hlt] at hd; cases ha; cases hd; exact jh _
   ·cases ha⟩
  obtain ⟨arr',ds',f1,f2,f3,f4⟩:=wK (es:=es) (arr:=madeCells v.cells (len*es)) hse (by rw[<-hvs]; exact nD _ _ hz0) hrep (fun d hd=>by rw[(List.mem_replicate.1 hd).2]; simpa using hvs) hall hp
  have hb:Below w.heap.size w (w.alloc (.cells arr' e)):=(Below.refl _ w).alloc (Nat.le_refl _) _
  have hlen:els.length=len:=by
   have gen:∀ (parts:List (Nat×A)) (els els':List (List A)),mi els parts=some els'->els'.length=els.length:=by
    intro parts
    induction parts with
    | nil=>intro els els' h; simp only[mi,Option.some.injEq] at h; rw[h]
    | cons p r ih =>
     intro els els' h
     obtain ⟨i,x⟩:=p
     simp only[mi] at h
     obtain ⟨xs,_,h⟩:=bt h
     rw[ih _ _ h]; simp
   rw[gen _ _ _ hse]; simp
  refine⟨e,es,els,arr',ds',rfl,he,hes,h0,?_,hlen,f2,f3,f4⟩
  unfold Instr.buildSlice
  have hsz':(sizeOf e).run P w=.ok es w:=er hes w
  have hbig:¬ (16777216<len*es):=by omega
  by_cases hle:len*es=0
  ·rw[hle] at f1
   rw[show madeCells v.cells 0=#[] by simp[madeCells]] at f1
   simp[run_underlying hu,hsz',hle,show Array.range 0=#[] from rfl,f1,newRow,newObj]
   rfl
  ·unfold madeCells at f1
   simp[run_underlying hu,hsz',hle,hbig,zeroValue,typeInfo,hi,hv,f1,newRow,newObj]
   rfl
theorem oJ (hr:Rel H g w0 w) {t:TypeId} {len:Nat} {parts:List (Nat×A)} {vparts:Array (Nat×Value)} {y:A} (h:ba P t len parts=some y) (hp:mH H g w parts vparts.toList) :
  ∃ d w',(Instr.buildSlice t len vparts).run P w=.ok d w'/\Below w.heap.size w w'/\VR H g w' y d:=by
 obtain ⟨e,es,els,arr',ds',rfl,_,_,_,hrun,hlen,f2,f3,f4⟩:=my h hp
 have hb:Below w.heap.size w (w.alloc (.cells arr' e)):=(Below.refl _ w).alloc (Nat.le_refl _) _
 refine⟨_,_,hrun,hb,?_⟩
 rw[VR]
 have he:=Ext.below hr hb
 refine⟨_,len,ds',es,by rw[hlen],by omega,fun _=>hlen.symm,f4,fun _=>⟨w.heap.size,0,rfl,?_⟩,bn.ext he _ _ f3⟩
 exact mU hr (heap_alloc_new w _) fun j v hj=>by rw[<-f2] at hj; simpa using hj
theorem qx (hr:Rel H g w0 w) {t:TypeId} {len:Nat} {parts:List (Nat×A)} {vparts:Array (Nat×Value)} {y:A} {H':ay} (lo:Nat) (h:pG P t len parts H=some (y,H')) (hp:mH H g w parts vparts.toList) :
  Step H g w0 w lo ((Instr.buildSlice t len vparts).run P w) y H':=by
 unfold pG at h
 obtain ⟨e0,h1,h⟩:=bt h
 obtain ⟨es0,h2,h⟩:=bt h
 obtain ⟨y0,h3,h⟩:=bt h
 obtain ⟨e,es,els,arr',ds',rfl,g1,g2,g3,hrun,hlen,f2,f3,f4⟩:=my h3 hp
 rw[h1] at g1; cases g1
 rw[h2] at g2; cases g2
 simp only[Option.some.injEq,Prod.mk.injEq] at h
 obtain ⟨rfl,rfl⟩:=h
 have hb:Below w.heap.size w (w.alloc (.cells arr' e0)):=(Below.refl _ w).alloc (Nat.le_refl _) _
 obtain ⟨k1,k2⟩:=hr.push hb (.row true es0 els) (some w.heap.size) [] (fun k hk=>by cases hk; exact⟨rfl,by show w.heap.size<(w.heap.push _).size; rw[Array.size_push]; exact Nat.lt_succ_self _⟩) (fun he=>⟨ds',bn.ext he _ _ f3,f4,fun _=>⟨w.heap.size,arr',e0,Gh.bz _ _ _ _,heap_alloc_new w _,fun j v hj=>by rw[<-f2] at hj; simpa using hj⟩⟩)
 refine⟨_,_,_,hrun,k1,k2,?_,by simp,fun b _ hb=>List.getElem?_append_left hb,rfl⟩
 rw[VR,ei]
 exact⟨by simp,_,len,by rw[hlen],by omega,fun _=>hlen.symm,fun _=>⟨w.heap.size,Gh.bz _ _ _ _,by simp⟩⟩
theorem E4 {x:A} {c:Value} (h:VR H g w x c):VR H g w (xH x) c:=by
 cases x with
 | imm els cl =>
  simp only[xH]
  rw[VR] at h ⊢
  obtain ⟨a,cap,ds,es,h1,h2,_,h4,h5,h6⟩:=h
  exact⟨a,cap,ds,es,h1,h2,fun h=>(by cases h),h4,h5,h6⟩
 | _=>exact h
theorem pB:∀ {cs:List A} {ds:List Value},bp H g w cs ds->bp H g w (cs.map xH) ds
 | [],_,h=>h
 | a :: as,_,h=>by
  rw[bp] at h
  obtain ⟨d,ds',rfl,h1,h2⟩:=h
  rw[List.map_cons,bp]
  exact⟨d,ds',rfl,E4 h1,pB h2⟩
theorem qX (hr:Rel H g w0 w) {t:TypeId} {n c y:A} {cn cc:Value} {H':ay} (h:mJ P t n c H=some (y,H')) (hn:VR H g w n cn) (hc:VR H g w c cc):H'=H/\∃ d w',(Instr.makeSlice t cn cc).run P w=.ok d w'/\Below w.heap.size w w'/\VR H g w' y d:=by
 unfold mJ at h
 obtain ⟨e,he,h⟩:=bt h
 have hu:=jH he
 obtain ⟨es,hes,h⟩:=bt h
 obtain ⟨by_,hby,h⟩:=bt h
 obtain ⟨z,hz,h⟩:=bt h
 obtain ⟨ni,hni,h⟩:=bt h
 obtain ⟨ci,hci,h⟩:=bt h
 obtain ⟨h0,h⟩:=eK h
 simp only[Bool.or_eq_false_iff,Bool.not_eq_false',beq_iff_eq,decide_eq_true_eq,beq_eq_false_iff_ne] at h0
 obtain ⟨⟨⟨⟨h0,h1⟩,h2⟩,h3⟩,h4⟩:=h0
 cases h
 obtain ⟨it,v,hi,hv,rfl⟩:=fF hz
 obtain ⟨it',hi',hsz⟩:=fX hes
 rw[hi] at hi'; cases hi'
 have hvs:v.cells.size=es:=by simpa using h1
 have hbv:it.bytes=by_:=by unfold lO at hby; rw[hi] at hby; simpa using hby
 obtain ⟨kn,zn,rfl,hn0,rfl⟩:=oe hni hn
 obtain ⟨kc,zc,rfl,hc0,rfl⟩:=oe hci hc
 unfold eM at h2 h3
 have hbz:(it.bytes:Int)*zc<=281474976710656:=by
  have:((zc.toNat*by_:Nat):Int)<=140737488355328:=by omega
  rw[Int.natCast_mul,Int.toNat_of_nonneg hc0,Int.mul_comm,<-hbv] at this
  omega
 have hrun:=run_make (P:=P) w t e it v hu hi hv kn kc zn zc hn0 (by omega) hbz (by omega)
 have hb:Below w.heap.size w (w.alloc (.cells (madeCells v.cells (zc.toNat*it.size)) e)):=(Below.refl _ w).alloc (Nat.le_refl _) _
 rw[hsz] at hrun hb
 have hz0:0<v.cells.size:=by omega
 refine⟨rfl,_,_,hrun,hb,?_⟩
 rw[VR]
 refine⟨_,zc.toNat,List.replicate zn.toNat v.cells.toList,es,by simp,by simp; omega,fun h=>(by cases h),fun d hd=>by rw[(List.mem_replicate.1 hd).2]; simpa using hvs,fun _=>⟨w.heap.size,0,rfl,?_⟩,cV.2 ⟨by simp,fun i a d ha hd=>?_⟩⟩
 ·exact mU hr (heap_alloc_new w _) fun j x hj=>by rw[<-Array.getElem?_toList,<-hvs,nD _ _ hz0,<-h4]; exact hj
 ·rw[List.getElem?_replicate] at ha hd
  split at ha
  ·rename_i hlt; rw[if_pos hlt] at hd; cases ha; cases hd; exact pB (jh _)
  ·cases ha
theorem jU {ck:Bool} (hr:Rel H g w0 w) {t:TypeId} {n c y:A} {cn cc:Value} {H':ay} (lo:Nat) (h:gr ck P t n c H=some (y,H')) (hn:VR H g w n cn) (hc:VR H g w c cc):Step H g w0 w lo ((Instr.makeSlice t cn cc).run P w) y H':=by
 unfold gr at h
 replace h:=bt h
 obtain ⟨e,he,h⟩:=h
 have hu:=jH he
 replace h:=bt h
 obtain ⟨es,hes,h⟩:=h
 replace h:=bt h
 obtain ⟨by_,hby,h⟩:=h
 replace h:=bt h
 obtain ⟨z,hz,h⟩:=h
 replace h:=bt h
 obtain ⟨ni,hni,h⟩:=h
 replace h:=bt h
 obtain ⟨ci,hci,h⟩:=h
 replace h:=eK h
 obtain ⟨h0,h⟩:=h
 simp only[Bool.or_eq_false_iff,Bool.not_eq_false',beq_iff_eq,decide_eq_true_eq,beq_eq_false_iff_ne] at h0
 obtain ⟨⟨⟨⟨h0,h1⟩,h2⟩,h3⟩,h4⟩:=h0
 obtain ⟨it,v,hi,hv,rfl⟩:=fF hz
 obtain ⟨it',hi',hsz⟩:=fX hes
 rw[hi] at hi'; cases hi'
 have hvs:v.cells.size=es:=by simpa using h1
 have hbv:it.bytes=by_:=by unfold lO at hby; rw[hi] at hby; simpa using hby
 obtain ⟨kn,zn,rfl,hn0,rfl⟩:=oe hni hn
 obtain ⟨kc,zc,rfl,hc0,rfl⟩:=oe hci hc
 unfold eM at h2 h3
 have hbz:(it.bytes:Int)*zc<=281474976710656:=by
  have:((zc.toNat*by_:Nat):Int)<=140737488355328:=by omega
  rw[Int.natCast_mul,Int.toNat_of_nonneg hc0,Int.mul_comm,<-hbv] at this
  omega
 have hrun:=run_make (P:=P) w t e it v hu hi hv kn kc zn zc hn0 (by omega) hbz (by omega)
 have hb:Below w.heap.size w (w.alloc (.cells (madeCells v.cells (zc.toNat*it.size)) e)):=(Below.refl _ w).alloc (Nat.le_refl _) _
 rw[hsz] at hrun hb
 have hz0:0<v.cells.size:=by omega
 rw[br] at h
 split at h
 ·rename_i hnc
  have hnc:zn.toNat=zc.toNat:=by simpa using hnc
  cases h
  obtain ⟨r1,r2⟩:=hr.push hb (.row true es (List.replicate zn.toNat ((v.cells.toList.map yT).map xH))) (some w.heap.size) [] (fun k hk=>by cases hk; exact⟨rfl,by simp⟩) (fun he'=>by
   refine⟨List.replicate zn.toNat v.cells.toList,cV.2 ⟨by simp,fun i a d ha hd=>?_⟩,fun d hd=>by rw[(List.mem_replicate.1 hd).2]; simpa using hvs,fun _=>⟨w.heap.size,_,e,Gh.bz _ _ _ _,heap_alloc_new w _,fun j x hj=>?_⟩⟩
   ·rw[List.getElem?_replicate] at ha hd
    split at ha
    ·rename_i hlt; rw[if_pos hlt] at hd; cases ha; cases hd; exact pB (jh _)
    ·cases ha
   ·rw[<-Array.getElem?_toList,<-hvs,nD _ _ hz0,<-hnc]; exact hj)
  refine⟨_,_,_,hrun,r1,r2,?_,by simp,ib _ _ _,rfl⟩
  rw[VR,ei]
  refine⟨by simp,_,zc.toNat,rfl,by omega,fun _=>by omega,fun _=>⟨w.heap.size,Gh.bz _ _ _ _,by simp⟩⟩
 ·rw[br] at h
  split at h
  ·rename_i hn00
   have hn00:zn.toNat=0:=by simpa using hn00
   cases h
   obtain ⟨r1,r2⟩:=hr.push hb (.row false es []) (some w.heap.size) [] (fun k hk=>by cases hk; exact⟨rfl,by simp⟩) (fun he'=>by
    refine⟨?_,?_⟩
    ·rw[Gh.gJ,bn]
    ·rw[Gh.gJ]; simp)
   refine⟨_,_,_,hrun,r1,r2,?_,by simp,ib _ _ _,rfl⟩
   rw[VR,ei]
   refine⟨by simp,_,zc.toNat,by rw[hn00],by omega,fun h=>(by cases h),fun h=>absurd h (by simp),fun _ _ _ _=>⟨w.heap.size,_,e,Gh.bz _ _ _ _,rfl,heap_alloc_new w _,by rw[size_madeCells]; exact Nat.le_refl _⟩⟩
  ·cases h
theorem pK (hr:Rel H g w0 w) {t:TypeId} {n c y:A} {cn cc:Value} {H':ay} (lo:Nat) (h:gX P t n c H=some (y,H')) (hn:VR H g w n cn) (hc:VR H g w c cc):Step H g w0 w lo ((Instr.makeSlice t cn cc).run P w) y H':=jU hr lo h hn hc
end
section
open Go.RowKit
variable {P:Program} {H:ay} {g:Gh} {w0 w:World}
theorem ot {t:TypeId} (h:na P t=true):P.underlying t=some .string∨∃ e,P.underlying t=some (.slice e):=by
 unfold na at h
 split at h
 ·rename_i e hu; exact .inr ⟨e,hu⟩
 ·rename_i hu; exact .inl hu
 ·cases h
theorem oh {t:TypeId} (h:vp P t=true):∃ k,P.underlying t=some (.int k):=by
 unfold vp at h
 split at h
 ·rename_i k hu; exact⟨k,hu⟩
 ·cases h
def Src (P:Program) (t2:TypeId) (i:TypeInfo) (c:Value) (m:Nat) (news:List Value) (w w2:World):Prop :=
 (na P t2=true/\(Builtin.lenOf c).run P w=.ok m w/\(Builtin.firstCells i.size m c).run P w2=.ok news.toArray w2)∨∃ z,vp P t2=true/\c=.int .i64 (m:Int)/\i.zero=some z/\m*i.bytes<=281474976710656/\m<=140737488355328/\i.size≠0/\news.toArray=Builtin.zeroCells z.cells m
set_option maxHeartbeats 800000 in
theorem qa {t t2 ty e:TypeId} {i:TypeInfo} (ht:P.underlying t=some (.slice e)) (hi:P.info? e=some i) {a:Addr} {n cap m:Nat} {c:Value} {news:List Value} (h2:Src P t2 i c m news w w) (hroom:n+m<=cap):(Builtin.append_ #[t,t2] ty #[.slice (some a) n cap,c]).run P w=((storeCells (a.add (n*i.size)) news).run P w).andThen fun _ w'=>.ok (.slice (some a) (n+m) cap) w':=by
 rcases h2 with ⟨h2,hlen,hf⟩ | ⟨z,h2,rfl,hz,h3,h4,h6,h5⟩
 ·have hd:=ot h2
  rcases hd with hd | ⟨e2,hd⟩<;>simp[Builtin.append_,run_underlying ht,run_underlying hd,sizeOf,typeInfo,hi,hlen,hf,hroom]
 ·obtain ⟨k,hd⟩:=oh h2
  have hw:IntKind.i64.wrap (m:Int)=(m:Int):=by simp only[IntKind.wrap,IntKind.bits,IntKind.signed]; simp; omega
  have hb:¬ (281474976710656<(m:Int)*(i.bytes:Int)):=by rw[<-Int.natCast_mul]; omega
  have hn0:¬ ((m:Int)<0):=by omega
  have e5:news=(Builtin.zeroCells z.cells m).toList:=by rw[<-h5]
  by_cases hm:m=0
  ·subst hm
   have:news=[]:=by rw[e5]; simp[Builtin.zeroCells]
   subst this
   have hroom':n<=cap:=by omega
   have hw0:IntKind.i64.wrap (0:Int)=(0:Int):=by decide
   simp[Builtin.append_,run_underlying ht,run_underlying hd,sizeOf,typeInfo,zeroValue,asInt,asIntOf,hi,hz,hroom',hw0]
  ·have hms:¬ (m*i.size=0):=Nat.mul_ne_zero hm h6
   simp[Builtin.append_,run_underlying ht,run_underlying hd,sizeOf,typeInfo,zeroValue,asInt,asIntOf,hi,hz,hroom,hw,hb,hn0,e5]
   intro h0; exact absurd h0 hms
set_option maxHeartbeats 800000 in
theorem p9 {t t2 ty e:TypeId} {i:TypeInfo} (ht:P.underlying t=some (.slice e)) (hi:P.info? e=some i) {n cap:Nat} {base:Option Addr} {c:Value} (h2:Src P t2 i c 0 [] w w) (hroom:n<=cap):(Builtin.append_ #[t,t2] ty #[.slice base n cap,c]).run P w=.ok (.slice base n cap) w:=by
 rcases h2 with ⟨h2,hlen,hf⟩ | ⟨z,h2,rfl,hz,h3,h4,h6,h5⟩
 ·have hd:=ot h2
  rcases hd with hd | ⟨e2,hd⟩<;>cases base<;>simp[Builtin.append_,run_underlying ht,run_underlying hd,sizeOf,typeInfo,hi,hlen,hf,hroom,storeCells]
 ·obtain ⟨k,hd⟩:=oh h2
  have hw:IntKind.i64.wrap (0:Int)=(0:Int):=by decide
  cases base<;>simp[Builtin.append_,run_underlying ht,run_underlying hd,sizeOf,typeInfo,zeroValue,asInt,asIntOf,hi,hz,hroom,hw,storeCells]
set_option maxHeartbeats 800000 in
theorem p8 {t t2 ty e:TypeId} {i:TypeInfo} {z:Value} (ht:P.underlying t=some (.slice e)) (hi:P.info? e=some i) (hz:i.zero=some z) {base:Option Addr} {n cap m:Nat} {c:Value} {news olds:List Value} (h2:Src P t2 i c m news w w.drew)
  (hfo:(Builtin.firstCells i.size n (.slice base n cap)).run P w.drew=.ok olds.toArray w.drew) (hg:cap<n+m) (h63:n+m<=9223372036854775807) (hfit:Builtin.nextslicecap (n+m) cap*i.bytes<=281474976710656) :
  (Builtin.append_ #[t,t2] ty #[.slice base n cap,c]).run P w=.ok (.slice (some ⟨w.heap.size,0,none⟩) (n+m) (grownCap w (n+m) cap e)) (w.drew.alloc (.cells (olds.toArray++news.toArray++Builtin.zeroCells z.cells (grownCap w (n+m) cap e - (n+m))) e)):=by
 have hn:¬ (n+m<=cap):=by omega
 have h63':¬ (9223372036854775807<((n:Int)+(m:Int))):=by omega
 have h48':¬ (281474976710656<Builtin.nextslicecap (n+m) cap*i.bytes):=by omega
 rcases h2 with ⟨h2,hlen,hf⟩ | ⟨z',h2,rfl,hz',h3,h4,h6,h5⟩
 ·have hd:=ot h2
  rcases hd with hd | ⟨e2,hd⟩
  all_goals
   simp[Builtin.append_,run_underlying ht,run_underlying hd,sizeOf,typeInfo,zeroValue,hi,hz,hlen,hn,h63',h48',Question.forced,hf,hfo,newRow,grownCap]
   congr 2
   apply Array.ext'
   simp[List.append_assoc]
 ·obtain ⟨k,hd⟩:=oh h2
  rw[hz] at hz'; cases hz'
  have hw:IntKind.i64.wrap (m:Int)=(m:Int):=by simp only[IntKind.wrap,IntKind.bits,IntKind.signed]; simp; omega
  have hb:¬ (281474976710656<(m:Int)*(i.bytes:Int)):=by rw[<-Int.natCast_mul]; omega
  have hn0:¬ ((m:Int)<0):=by omega
  have e5:news=(Builtin.zeroCells z.cells m).toList:=by rw[<-h5]
  have hmax:IntKind.i64.max=9223372036854775807:=by decide
  have h63m:¬ (IntKind.i64.max<((n:Int)+(m:Int))):=by rw[hmax]; exact h63'
  by_cases hm:m=0
  ·subst hm
   have:news=[]:=by rw[e5]; simp[Builtin.zeroCells]
   subst this
   have hw0:IntKind.i64.wrap (0:Int)=(0:Int):=by decide
   have hn':¬ (n<=cap):=by omega
   have g63:¬ (9223372036854775807<(n:Int)):=by omega
   have g48:¬ (281474976710656<Builtin.nextslicecap n cap*i.bytes):=h48'
   simp[Builtin.append_,run_underlying ht,run_underlying hd,sizeOf,typeInfo,zeroValue,asInt,asIntOf,hi,hz,hw0,hn',g63,g48,hfo,Question.forced,newRow,grownCap]
  ·simp[Builtin.append_,run_underlying ht,run_underlying hd,sizeOf,typeInfo,zeroValue,asInt,asIntOf,hi,hz,hw,hb,hn0,e5,hn,h63',h63m,h48',Question.forced,hfo,newRow,grownCap]
   intro h0; exact absurd h0 (Nat.mul_ne_zero hm h6)
theorem tq {ds:List (List Value)} {m:Nat} {j:Nat} {v:Value} (h:(ds.take m).flatten[j]? = some v):ds.flatten[j]? = some v:=by
 have:ds.flatten=(ds.take m).flatten++(ds.drop m).flatten:=by rw[<-List.flatten_append,List.take_append_drop]
 rw[this,List.getElem?_append_left (List.getElem?_eq_some_iff.1 h).1]
 exact h
theorem Av (hr:Rel H g w0 w) {y:A} {ys:List (List A)} {c:Value} {es:Nat} (h:els? H y=some ys) (hy:VR H g w y c) (hes:∀ cs∈ys,cs.length=es) :
  ∃ ds,bn H g w ys ds/\(∀ d∈ds,d.length=es)/\∀ w',(∀ a,w'.cell? a=w.cell? a)->(Builtin.lenOf c).run P w'=.ok ys.length w'/\∀ m,m<=ys.length->(Builtin.firstCells es m c).run P w'=.ok (ds.take m).flatten.toArray w':=by
 have lens:∀ {ds:List (List Value)},bn H g w ys ds->∀ d∈ds,d.length=es:=fun {ds} hv d hd=>by
  obtain ⟨i,hi,rfl⟩:=List.getElem_of_mem hd
  have hl:=hv.length
  obtain ⟨d',hd',hv'⟩:=hv.get (i:=i) (List.getElem?_eq_getElem (by omega))
  rw[List.getElem?_eq_getElem hi] at hd'
  cases hd'
  rw[hv'.length]
  exact hes _ (List.getElem_mem _)
 rcases tL hr h hy with ⟨s,rfl,rfl⟩ | ⟨a,cap,ds,es',rfl,h2,h3,h4,h5⟩
 ·simp only[els?,Option.some.injEq] at h
  have hv:bn H g w ys (s.data.toList.map fun b=>[.int .u8 b.toNat]):=by
   rw[<-h]
   refine cV.2 ⟨by simp,fun i a d ha hd=>?_⟩
   simp only[List.getElem?_map,Option.map_eq_some_iff] at ha hd
   obtain ⟨b,hb,rfl⟩:=ha
   obtain ⟨b',hb',rfl⟩:=hd
   rw[hb] at hb'; cases hb'
   rw[bp]; exact⟨_,[],rfl,by rw[VR],by rw[bp]⟩
  have hn:ys.length=s.size:=by rw[<-h,List.length_map,Array.length_toList]; rfl
  refine⟨_,hv,lens hv,fun w' _=>⟨by rw[hn]; rfl,fun m hm=>?_⟩⟩
  have e:(Array.map (fun b:UInt8=>Value.int IntKind.u8 (b.toNat:Int)) (s.extract 0 m).data)=((s.data.toList.map fun b=>[Value.int .u8 (b.toNat:Int)]).take m).flatten.toArray:=by
   rw[<-List.map_take,mR]
   apply Array.ext'
   simp[ByteArray.data_extract,List.map_take]
  simp only[Builtin.firstCells]
  rw[e]
  rfl
 ·refine⟨ds,h4,lens h4,fun w' hw'=>⟨rfl,fun m hm=>?_⟩⟩
  have hl:=h4.length
  cases a with
  | none =>
   have:ys.length=0:=by
    by_cases hp:0<ys.length
    ·obtain ⟨k,off,e1,_⟩:=h5 hp; cases e1
    ·omega
   obtain rfl:m=0:=by omega
   simp[Builtin.firstCells]
  | some a =>
   refine run_firstCells_some (P:=P) w' es m a _ cap _ (hU (lens h4) (by omega)) fun j v hj=>?_
   rw[hw']
   by_cases hp:0<ys.length
   ·obtain ⟨k,off,e1,hc⟩:=h5 hp
    cases e1
    rw[Addr.add_mid]
    exact hc j v (tq hj)
   ·obtain rfl:m=0:=by omega
    simp at hj
theorem bn.one {els:List (List A)} {ds:List (List Value)} (h:bn H g w els ds) (hc:∀ cs∈els,∀ a∈cs,a.cell=true):∀ x∈ds.flatten,x.oneCell'=true:=fun x hx=>by
 obtain ⟨d,hd,hxd⟩:=List.mem_flatten.1 hx
 obtain ⟨i,hi,rfl⟩:=List.getElem_of_mem hd
 have hl:=h.length
 obtain ⟨d',hd',hv'⟩:=h.get (i:=i) (List.getElem?_eq_getElem (by omega))
 rw[List.getElem?_eq_getElem hi] at hd'
 cases hd'
 obtain ⟨j,hj,rfl⟩:=List.getElem_of_mem hxd
 have hl':=hv'.length
 obtain ⟨x',hx',hvx⟩:=hv'.get (i:=j) (List.getElem?_eq_getElem (by omega))
 rw[List.getElem?_eq_getElem hj] at hx'
 cases hx'
 exact rh (hc _ (List.getElem_mem _) _ (List.getElem_mem _)) hvx
def isCells:Obj->Bool
 | .cells ..=>true
 | _=>false
theorem Rel.grow (hr:Rel H g w0 w) {b es:Nat} {els new:List (List A)} (hB:H[b]? = some (.row false es els)) {w':World} {γ:List (List Value)} {ko:Option Nat} (hbelow:Below w0.heap.size w w')
  (hcell:∀ k o v,eX H g k o->w.cell? ⟨k,o,none⟩=some v->w'.cell? ⟨k,o,none⟩=some v)
  (hobj:∀ k,k<w.heap.size->g.mu b≠some k->w'.heap[k]? = w.heap[k]?) (hkept:∀ (k:Nat) (o:Obj),w.heap[k]? = some o->isCells o=false->w'.heap[k]? = some o) (hsize:w.heap.size<=w'.heap.size)
  (hnew:bn (H.set b (.row false es (els++new))) (g.put b ko (g.ga b++γ)) w' new γ∨bn H g w new γ) (hγ:∀ d∈γ,d.length=es)
  (hko:(ko=g.mu b/\∀ k arr ty,g.mu b=some k->w.heap[k]? = some (.cells arr ty (0,0))->∃ arr',w'.heap[k]? = some (.cells arr' ty (0,0))/\arr.size<=arr'.size)∨(ko=some w.heap.size/\w.heap.size<w'.heap.size/\new≠[])) :
  Rel (H.set b (.row false es (els++new))) (g.put b ko (g.ga b++γ)) w0 w'/\Ext H g w (H.set b (.row false es (els++new))) (g.put b ko (g.ga b++γ)) w':=by
 have hlt:b<H.length:=(List.getElem?_eq_some_iff.1 hB).1
 have hlen:=(hr.blk b _ hB).len
 have hother:∀ c k,c≠b->g.mu c=some k->w'.heap[k]? = w.heap[k]?:=fun c k hc hk=>hobj k (hr.dom c k hk).2.2 fun h=>hc (hr.inj c b k hk h)
 have hkb:∀ k,ko=some k->g.mu b=some k∨k=w.heap.size:=fun k hk=>by
  rcases hko with ⟨h1,_⟩ | ⟨h1,_⟩
  ·exact .inl (h1 ▸ hk)
  ·rw[h1] at hk; cases hk; exact .inr rfl
 have he:Ext H g w (H.set b (.row false es (els++new))) (g.put b ko (g.ga b++γ)) w':=by
  refine⟨fun k o v hs hc=>⟨hcell k o v hs hc,hs.1,fun c hck=>?_⟩,fun c C hC=>?_,fun k x h=>hkept k _ h rfl,hsize,fun k arr cl hs hm=>⟨hkept k _ hm rfl,hs.1,fun c hck=>?_⟩,fun k hk hn=>hobj k hk (hn b),fun c k h=>?_⟩
  rotate_right 1
  ·by_cases e:c=b
   ·subst e
    rw[Gh.bz] at h
    rcases hkb k h with h1 | h1
    ·exact .inl ⟨c,h1⟩
    ·exact .inr (Nat.le_of_eq h1.symm)
   ·exact .inl ⟨c,by rwa [Gh.aJ _ _ _ e] at h⟩
  ·by_cases e:c=b
   ·subst e
    rw[Gh.bz] at hck
    refine⟨es,els++new,by rw[List.getElem?_set_self hlt],?_⟩
    rcases hkb k hck with h1 | rfl
    ·obtain ⟨es',els',h2,h3⟩:=hs.2 c h1
     rw[hB] at h2; cases h2
     have:=Nat.mul_le_mul_left es (show els.length<=(els++new).length by simp)
     omega
    ·exact absurd (World.block_lt_of_cell? w ⟨_,o,none⟩ hc) (by simp)
   ·rw[Gh.aJ _ _ _ e] at hck
    obtain ⟨es',els',h2,h3⟩:=hs.2 c hck
    exact⟨es',els',by rw[List.getElem?_set_ne (Ne.symm e)]; exact h2,h3⟩
  ·by_cases e:c=b
   ·subst e
    rw[hB] at hC; cases hC
    refine⟨.row false es (els++new),by rw[List.getElem?_set_self hlt],rfl,⟨γ,Gh.gJ _ _ _ _⟩,hlen,by simp,fun hl=>?_⟩
    have hn0:new=[]:=by simpa using hl
    rcases hko with ⟨h1,h2⟩ | ⟨_,_,h3⟩
    ·exact⟨by rw[Gh.bz,h1],h2⟩
    ·exact absurd hn0 h3
   ·refine⟨C,by rw[List.getElem?_set_ne (Ne.symm e)]; exact hC,?_⟩
    cases C with
    | box _=>exact Gh.aJ _ _ _ e
    | row wr es' els'=>cases wr with
     | true=>exact⟨rfl,rfl,Gh.aJ _ _ _ e⟩
     | false=>exact⟨rfl,⟨[],by rw[Gh.fa _ _ _ e]; simp⟩,(hr.blk c _ hC).len,Nat.le_refl _,fun _=>⟨Gh.aJ _ _ _ e,fun k arr ty hk ha=>⟨arr,(hother c k e hk).trans ha,Nat.le_refl _⟩⟩⟩
    | rng _=>exact⟨Gh.aJ _ _ _ e,rfl⟩
    | mp _ _ _=>exact Gh.aJ _ _ _ e
    | dead=>trivial
    | hole=>trivial
  ·by_cases e:c=b
   ·subst e
    rw[Gh.bz] at hck
    refine⟨es,els++new,by rw[List.getElem?_set_self hlt],?_⟩
    rcases hkb k hck with h1 | rfl
    ·obtain ⟨es',els',h2,h3⟩:=hs.2 c h1
     rw[hB] at h2; cases h2
     have:=Nat.mul_le_mul_left es (show els.length<=(els++new).length by simp)
     omega
    ·exact absurd (Array.getElem?_eq_some_iff.1 hm).1 (by simp)
   ·rw[Gh.aJ _ _ _ e] at hck
    obtain ⟨es',els',h2,h3⟩:=hs.2 c hck
    exact⟨es',els',by rw[List.getElem?_set_ne (Ne.symm e)]; exact h2,h3⟩
 have hsz:=hbelow.size
 refine⟨⟨hr.below.trans hbelow,fun c k hck=>?_,fun c d k h1 h2=>?_,hr.yV he,hr.xi he,fun c C hC=>?_⟩,he⟩
 ·by_cases e:c=b
  ·subst e
   rw[Gh.bz] at hck
   rcases hko with ⟨h1,_⟩ | ⟨h1,h2,_⟩
   ·have:=hr.dom c k (h1 ▸ hck)
    exact⟨by simpa using this.1,this.2.1,by omega⟩
   ·rw[h1] at hck; cases hck
    exact⟨by simpa using hlt,hr.below.size,h2⟩
  ·rw[Gh.aJ _ _ _ e] at hck
   have:=hr.dom c k hck
   exact⟨by simpa using this.1,this.2.1,by omega⟩
 ·by_cases e:c=b
  ·by_cases e':d=b
   ·rw[e,e']
   ·subst e
    rw[Gh.bz] at h1
    rw[Gh.aJ _ _ _ e'] at h2
    rcases hkb k h1 with h | rfl
    ·exact hr.inj _ _ k h h2
    ·have:=(hr.dom d _ h2).2.2; omega
  ·by_cases e':d=b
   ·subst e'
    rw[Gh.bz] at h2
    rw[Gh.aJ _ _ _ e] at h1
    rcases hkb k h2 with h | rfl
    ·exact hr.inj _ _ k h1 h
    ·have:=(hr.dom c _ h1).2.2; omega
   ·rw[Gh.aJ _ _ _ e] at h1
    rw[Gh.aJ _ _ _ e'] at h2
    exact hr.inj c d k h1 h2
 ·by_cases e:c=b
  ·subst e
   rw[List.getElem?_set_self hlt] at hC; cases hC
   obtain ⟨h1,h2⟩:=hr.blk c _ hB
   refine⟨?_,?_⟩
   ·rw[Gh.gJ]
    exact(bn.ext he _ _ h1).append (hnew.elim id (fun h=>bn.ext he _ _ h))
   ·rw[Gh.gJ]
    intro d hd
    rcases List.mem_append.1 hd with hd | hd
    ·exact h2 d hd
    ·exact hγ d hd
  ·rw[List.getElem?_set_ne (Ne.symm e)] at hC
   have h:=hr.blk c C hC
   cases C with
   | box cs=>obtain ⟨k,arr,ty,h1,h2,h3⟩:=h; exact⟨k,arr,ty,(Gh.aJ _ _ _ e).trans h1,(hother c k e h1).trans h2,bp.ext he _ _ h3⟩
   | row wr es' els'=>cases wr with
    | true =>
     obtain ⟨ds,h1,h2,h3⟩:=h
     exact⟨ds,bn.ext he _ _ h1,h2,fun hp=>let ⟨k,arr,ty,e1,e2,e3⟩:=h3 hp; ⟨k,arr,ty,(Gh.aJ _ _ _ e).trans e1,(hother c k e e1).trans e2,e3⟩⟩
    | false =>
     obtain ⟨h1,h2⟩:=h
     refine⟨?_,?_⟩
     ·rw[Gh.fa _ _ _ e]; exact bn.ext he _ _ h1
     ·rw[Gh.fa _ _ _ e]; exact h2
   | rng st=>obtain ⟨k,h1,h2⟩:=h; exact⟨k,(Gh.aJ _ _ _ e).trans h1,(hother c k e h1).trans h2⟩
   | mp _ _ _=>obtain ⟨k,arr,cl,h1,h2,h3,h4⟩:=h; exact⟨k,arr,cl,(Gh.aJ _ _ _ e).trans h1,(hother c k e h1).trans h2,h3,bp.ext he _ _ h4⟩
   | dead=>exact(Gh.aJ _ _ _ e).trans h
   | hole=>exact(Gh.aJ _ _ _ e).trans h
theorem sU (hr:Rel H g w0 w) {t t2 ty:TypeId} {wr:Bool} {x y z:A} {cx cy:Value} {H':ay} {lo:Nat} (h:cK P t t2 wr x y H lo=some (z,H')) (hx:VR H g w x cx) (hy:VR H g w y cy):Step H g w0 w lo ((Builtin.append_ #[t,t2] ty #[cx,cy]).run P w) z H':=by
 unfold cK at h
 replace h:=bt h
 obtain ⟨e,he,h⟩:=h
 have hu:=jH he
 replace h:=bt h
 obtain ⟨es,hes,h⟩:=h
 replace h:=bt h
 obtain ⟨by_,hby,h⟩:=h
 replace h:=bt h
 obtain ⟨zz,hz,h⟩:=h
 replace h:=bt h
 obtain ⟨ys,hys,h⟩:=h
 replace h:=eK h
 obtain ⟨h0,h⟩:=h
 simp only[Bool.or_eq_false_iff,Bool.not_eq_false',beq_iff_eq,beq_eq_false_iff_ne] at h0
 obtain ⟨⟨⟨h0,hb0⟩,h1⟩,h3⟩:=h0
 obtain ⟨it,v,hi,hv,rfl⟩:=fF hz
 obtain ⟨it',hi',hsz⟩:=fX hes
 rw[hi] at hi'; cases hi'
 have hvs:v.cells.size=es:=by simpa using h1
 have hbv:it.bytes=by_:=by unfold lO at hby; rw[hi] at hby; simpa using hby
 have hys3:∀ cs∈ys,cs.length=es/\∀ a∈cs,a.cell=true:=fun cs hcs=>by
  have:=List.all_eq_true.1 h3 cs hcs
  simp only[Bool.and_eq_true,beq_iff_eq] at this
  exact⟨this.1,List.all_eq_true.1 this.2⟩
 obtain ⟨ds,hvd,hld,hsA,hsB⟩:∃ ds,bn H g w ys ds/\(∀ d∈ds,d.length=es)/\Src P t2 it cy ys.length ds.flatten w w/\Src P t2 it cy ys.length ds.flatten w w.drew:=by
  unfold ym at hys
  rw[br] at hys
  split at hys
  ·rename_i hn
   obtain ⟨ds,hvd,hld,hsrc⟩:=Av (P:=P) hr hys hy (fun cs hcs=>(hys3 cs hcs).1)
   obtain ⟨hlen,hfirst⟩:=hsrc w (fun _=>rfl)
   obtain ⟨_,hfirstd⟩:=hsrc w.drew (fun _=>by simp)
   have hdl:=hvd.length
   have hall:(ds.take ys.length).flatten=ds.flatten:=by rw[List.take_of_length_le (by omega)]
   have hf:=hfirst ys.length (Nat.le_refl _)
   have hfd:=hfirstd ys.length (Nat.le_refl _)
   rw[hall,<-hsz] at hf hfd
   exact⟨ds,hvd,hld,.inl ⟨hn,hlen,hf⟩,.inl ⟨hn,hlen,hfd⟩⟩
  ·split at hys
   ·rename_i n
    replace hys:=bf hys
    obtain ⟨hc,hys⟩:=hys
    simp only[Bool.and_eq_true,decide_eq_true_eq] at hc
    obtain ⟨⟨⟨c1,c2⟩,c3⟩,c4⟩:=hc
    cases hys
    rw[VR] at hy
    subst hy
    unfold eM at c3 c4
    have hz0:0<v.cells.size:=by omega
    have hb:n.toNat*it.bytes<=281474976710656:=by
     rw[hbv]
     have:((n.toNat*by_:Nat):Int)<=140737488355328:=by rw[Int.natCast_mul,Int.toNat_of_nonneg c2]; exact c3
     omega
    have hsrc:∀ w',Src P t2 it (.int .i64 n) (List.replicate n.toNat ((v.cells.toList.map yT).map xH)).length (List.replicate n.toNat v.cells.toList).flatten w w':=fun w'=>by
     rw[List.length_replicate]
     refine .inr ⟨v,c1,by rw[Int.toNat_of_nonneg c2],hv,hb,by omega,by omega,?_⟩
     rw[<-nD v.cells n.toNat hz0]
     rfl
    refine⟨List.replicate n.toNat v.cells.toList,cV.2 ⟨by simp,fun i a d ha hd=>?_⟩,fun d hd=>by rw[(List.mem_replicate.1 hd).2]; simpa using hvs,hsrc w,hsrc w.drew⟩
    rw[List.getElem?_replicate] at ha hd
    split at ha
    ·rename_i hlt; rw[if_pos hlt] at hd; cases ha; cases hd; exact pB (jh _)
    ·cases ha
   ·cases hys
 have hdl:=hvd.length
 have hone:=hvd.one (fun cs hcs=>(hys3 cs hcs).2)
 have hfl:ds.flatten.length=ys.length*es:=by rw[b6 hld,hdl]
 have small:∀ {n:Nat},(n+ys.length)*by_<=eM->n+ys.length<=9223372036854775807/\(n+ys.length)*it.bytes<=140737488355328:=fun {n} hl=>by
  unfold eM at hl
  refine⟨?_,by rw[hbv]; exact hl⟩
  have:(n+ys.length)*1<=(n+ys.length)*by_:=Nat.mul_le_mul_left _ (by omega)
  omega
 have zero:∀ {n cap:Nat} {base:Option Addr},cx=.slice base n cap->n<=cap->ys.length=0->(Builtin.append_ #[t,t2] ty #[cx,cy]).run P w=.ok cx w:=fun {n cap base} hc hle hy0=>by
  subst hc
  have hd0:ds=[]:=List.eq_nil_of_length_eq_zero (by omega)
  rw[hy0,hd0] at hsA
  exact p9 hu hi hsA hle
 have grows:∀ {n cap:Nat} {base:Option Addr} {olds:List Value},cx=.slice base n cap->cap<n+ys.length->(n+ys.length)*by_<=eM->olds.length=n*es->(Builtin.firstCells es n (.slice base n cap)).run P w.drew=.ok olds.toArray w.drew ->
   ∃ c2 arr,(Builtin.append_ #[t,t2] ty #[cx,cy]).run P w=.ok (.slice (some ⟨w.heap.size,0,none⟩) (n+ys.length) c2) (w.drew.alloc (.cells arr e))/\n+ys.length<=c2/\c2*es<=arr.size/\∀ (j:Nat) x,(olds++ds.flatten)[j]? = some x->arr[j]? = some x:=fun {n cap base olds} hc hlt hl hol hfo=>by
  subst hc
  obtain ⟨s1,s2⟩:=small hl
  have hrun:=p8 (P:=P) (ty:=ty) hu hi hv hsB (by rw[hsz]; exact hfo) hlt s1 (growslice_fits hlt s2)
  refine⟨_,_,hrun,grownCap_ge w _ _ _,?_,fun j x hj=>?_⟩
  ·have:=grownCap_ge w (n+ys.length) cap e
   simp only[Array.size_append,List.size_toArray,size_zeroCells,hvs,hol,hfl]
   rw[<-Nat.add_mul,<-Nat.add_mul]
   exact Nat.mul_le_mul_right _ (by omega)
  ·have hlt:=(List.getElem?_eq_some_iff.1 hj).1
   rw[Array.getElem?_append_left (by simpa using hlt)]
   have:(olds.toArray++ds.flatten.toArray)[j]? = (olds++ds.flatten)[j]?:=by simp
   rw[this]; exact hj
 have hbd:∀ arr,Below w.heap.size w (w.drew.alloc (.cells arr e)):=fun arr=>((Below.refl _ w).drew).alloc (Nat.le_refl _) _
 have hnew:∀ arr,(w.drew.alloc (.cells arr e)).heap[w.heap.size]? = some (.cells arr e (0,0)):=fun arr=>heap_alloc_new w.drew _
 have fresh:∀ {n:Nat} {a:Option Addr} {xs:List (List A)} {xds:List (List Value)},cx=.slice a n n->xs.length=n->bn H g w xs xds->(∀ d∈xds,d.length=es)->(0<n->∃ k off,a=some ⟨k,off,none⟩/\bB H g w k off xds.flatten)->(n+ys.length)*by_<=eM ->
   Step H g w0 w lo ((Builtin.append_ #[t,t2] ty #[cx,cy]).run P w) (.sl H.length 0 (n+ys.length) false) (H++[.row false es (xs++ys)]):=fun {n a xs xds} hc hxl hxv hxd hcell hl=>by
  have hxdl:=hxv.length
  have hlens:∀ d∈xds++ds,d.length=es:=fun d hd=>(List.mem_append.1 hd).elim (hxd d) (hld d)
  have hall2:((xds++ds).drop 0).take (n+ys.length)=xds++ds:=by rw[List.drop_zero,List.take_of_length_le (by simp; omega)]
  have hblk:∀ {ko:Option Nat} {w':World},Ext H g w (H++[.row false es (xs++ys)]) (g.put H.length ko (xds++ds)) w'->lF (H++[.row false es (xs++ys)]) (g.put H.length ko (xds++ds)) w' H.length (.row false es (xs++ys)):=fun {ko w'} he' =>
   ⟨by rw[Gh.gJ]; exact(bn.ext he' _ _ hxv).append (bn.ext he' _ _ hvd),by rw[Gh.gJ]; exact hlens⟩
  by_cases hy0:ys.length=0
  ·have hyn:ys=[]:=List.eq_nil_of_length_eq_zero hy0
   have hdn:ds=[]:=List.eq_nil_of_length_eq_zero (by omega)
   obtain ⟨r1,r2⟩:=hr.push (Below.refl _ _) (.row false es (xs++ys)) none (xds++ds) (fun k hk=>by cases hk) (fun he'=>hblk he')
   refine⟨_,_,_,zero hc (Nat.le_refl _) hy0,r1,r2,?_,by simp,ib _ _ _,rfl⟩
   rw[VR,ei,Gh.gJ,hall2]
   refine⟨by simp; omega,a,n,by rw[hc,hy0]; rfl,by omega,fun h=>(by cases h),fun hp=>?_,fun _ _ _ h=>absurd h (by omega)⟩
   obtain ⟨k,off,e1,e2⟩:=hcell (by omega)
   exact⟨k,off,e1,by rw[hdn,List.append_nil] at r2 ⊢; exact e2.ext r2⟩
  ·have hfo:(Builtin.firstCells es n (.slice a n n)).run P w.drew=.ok xds.flatten.toArray w.drew:=by
    cases a with
    | none =>
     have hn0:n=0:=by
      by_cases hp:0<n
      ·obtain ⟨k,off,e1,_⟩:=hcell hp; cases e1
      ·omega
     have:xds=[]:=List.eq_nil_of_length_eq_zero (by omega)
     subst this
     subst hn0
     simp[Builtin.firstCells]
    | some a =>
     refine run_firstCells_some (P:=P) w.drew es n a n n _ (by rw[b6 hxd,hxdl,hxl]) fun j x hj=>?_
     by_cases hp:0<n
     ·obtain ⟨k,off,e1,hcc⟩:=hcell hp
      cases e1
      rw[Addr.add_mid]; exact(hcc j x hj).1
     ·have:xds=[]:=List.eq_nil_of_length_eq_zero (by omega)
      subst this
      simp at hj
   obtain ⟨c2,arr,hrun,k1,k2,k3⟩:=grows (olds:=xds.flatten) hc (by omega) hl (by rw[b6 hxd,hxdl,hxl]) hfo
   obtain ⟨r1,r2⟩:=hr.push (hbd arr) (.row false es (xs++ys)) (some w.heap.size) (xds++ds) (fun k hk=>by cases hk; exact⟨rfl,by simp⟩) (fun he'=>hblk he')
   refine⟨_,_,_,hrun,r1,r2,?_,by simp,ib _ _ _,rfl⟩
   rw[VR,ei,Gh.gJ,hall2]
   refine⟨by simp; omega,_,c2,rfl,k1,fun h=>(by cases h),fun _=>⟨w.heap.size,0,rfl,fun j x hj=>?_⟩,fun _ _ _ _=>⟨w.heap.size,arr,e,Gh.bz _ _ _ _,rfl,hnew arr,k2⟩⟩
   refine⟨by rw[Nat.zero_add,cell_of_row _ _ j arr e (0,0) (hnew arr)]; exact k3 j x (by rw[<-List.flatten_append]; exact hj),hr.out _ _ (Nat.le_refl _),fun b hb=>?_⟩
   have hbe:b=H.length:=by
    by_cases e':b=H.length
    ·exact e'
    ·rw[Gh.aJ _ _ _ e'] at hb; exact absurd (hr.dom b _ hb).2.2 (Nat.lt_irrefl _)
   subst hbe
   refine⟨es,xs++ys,ei _ _,?_⟩
   have:=(List.getElem?_eq_some_iff.1 hj).1
   rw[b6 hlens,Nat.mul_comm] at this
   simp only[List.length_append] at this ⊢
   rw[hxdl,hdl] at this
   omega
 split at h
 ·rename_i xs
  replace h:=eK h
  obtain ⟨hl,h⟩:=h
  have hl:(xs.length+ys.length)*by_<=eM:=by simpa using hl
  rw[VR] at hx
  obtain ⟨a,cap,xds,xes,rfl,g1,g2,g3,g4,g5⟩:=hx
  have hcap:=g2 rfl
  subst hcap
  rw[br] at h
  split at h
  ·rename_i hemp
   simp only[Bool.and_eq_true] at hemp
   obtain ⟨hwr,hemp⟩:=hemp
   subst hwr
   have hx0:xs=[]:=by simpa using hemp
   subst hx0
   cases h
   by_cases hy0:ys.length=0
   ·have hyn:ys=[]:=List.eq_nil_of_length_eq_zero hy0
    subst hyn
    have hdn:ds=[]:=List.eq_nil_of_length_eq_zero (by simpa using hdl)
    subst hdn
    have hrun:=zero rfl (by simp) rfl
    obtain ⟨r1,r2⟩:=hr.push (Below.refl _ _) (.row true es []) none [] (fun k hk=>by cases hk) (fun _=>⟨[],by rw[bn],by simp,by simp⟩)
    refine⟨_,_,_,hrun,r1,r2,?_,by simp,ib _ _ _,rfl⟩
    rw[VR,ei]
    exact⟨by simp,a,0,rfl,Nat.le_refl _,fun _=>rfl,fun h=>absurd h (by simp)⟩
   ·obtain ⟨c2,arr,hrun,k1,k2,k3⟩:=grows (olds:=[]) rfl (by simp; omega) hl (by simp) (by
     cases a with
     | none=>simp[Builtin.firstCells]
     | some a=>exact run_firstCells_some (P:=P) w.drew es 0 a 0 _ [] (by simp) (fun j v hj=>by simp at hj))
    simp only[List.length_nil,Nat.zero_add,List.nil_append] at hrun k1 k3
    obtain ⟨r1,r2⟩:=hr.push (hbd arr) (.row true es ys) (some w.heap.size) [] (fun k hk=>by cases hk; exact⟨rfl,by simp⟩) (fun he'=>⟨ds,bn.ext he' _ _ hvd,hld,fun _=>⟨w.heap.size,arr,e,Gh.bz _ _ _ _,hnew arr,k3⟩⟩)
    refine⟨_,_,_,hrun,r1,r2,?_,by simp,ib _ _ _,rfl⟩
    rw[VR,ei]
    exact⟨by simp,_,c2,rfl,k1,fun h=>(by cases h),fun _=>⟨w.heap.size,Gh.bz _ _ _ _,by simp⟩⟩
  ·replace h:=bf h
   obtain ⟨hxa,h⟩:=h
   cases h
   have hxes:∀ cs∈xs,cs.length=es/\∀ a∈cs,a.cell=true:=fun cs hcs=>by
    have:=List.all_eq_true.1 hxa cs hcs
    simp only[Bool.and_eq_true,beq_iff_eq] at this
    exact⟨this.1,List.all_eq_true.1 this.2⟩
   refine fresh rfl rfl g5 (fun d hd=>?_) g4 hl
   have hxp:0<xs.length:=by have:=List.length_pos_of_mem hd; have:=g5.length; omega
   obtain rfl:xes=es:=g5.lens g3 (List.getElem?_eq_getElem hxp) (hxes _ (List.getElem_mem _)).1
   exact g3 d hd
 ·rename_i b o n cl
  split at h
  ·rename_i es' els hb
   replace h:=eK h
   obtain ⟨hl,h⟩:=h
   simp only[Bool.or_eq_false_iff,Bool.not_eq_false',beq_iff_eq,decide_eq_true_eq] at hl
   obtain ⟨⟨hl,hee⟩,hon⟩:=hl
   subst hee
   rw[VR,hb] at hx
   obtain ⟨_,a,cap,rfl,g1,g2,g3,g4⟩:=hx
   obtain ⟨hga,hgl⟩:=hr.blk b _ hb
   have hgll:=hga.length
   have hsub:∀ d∈((g.ga b).drop o).take n,d.length=es':=fun d hd=>hgl d (List.mem_of_mem_drop (List.mem_of_mem_take hd))
   have hsl:(((g.ga b).drop o).take n).length=n:=by simp; omega
   have holdr:(Builtin.firstCells es' n (.slice a n cap)).run P w.drew=.ok (((g.ga b).drop o).take n).flatten.toArray w.drew:=by
    cases a with
    | none =>
     have hn0:n=0:=by
      by_cases hp:0<n
      ·obtain ⟨k,off,e1,_⟩:=g3 hp; cases e1
      ·omega
     subst hn0
     simp[Builtin.firstCells]
    | some a =>
     refine run_firstCells_some (P:=P) w.drew es' n a n cap _ (by rw[b6 hsub,hsl]) fun j x hj=>?_
     by_cases hp:0<n
     ·obtain ⟨k,off,e1,hc⟩:=g3 hp
      cases e1
      rw[Addr.add_mid]; exact(hc j x hj).1
     ·obtain rfl:n=0:=by omega
      simp at hj
   rw[br] at h
   split at h
   ·rename_i hcl
    subst hcl
    cases h
    have hcap:=g2 rfl
    subst hcap
    exact fresh rfl (by simp; omega) ((hga.drop o).take cap) hsub g3 hl
   ·rename_i hcl
    have hcl:cl=false:=by simpa using hcl
    subst hcl
    replace h:=bf h
    obtain ⟨hcc,h⟩:=h
    simp only[Bool.and_eq_true,decide_eq_true_eq,beq_iff_eq] at hcc
    obtain ⟨⟨hlo,ho0⟩,hnl⟩:=hcc
    subst ho0
    cases h
    have hlt:b<H.length:=(List.getElem?_eq_some_iff.1 hb).1
    have hgall:(g.ga b).take n=g.ga b:=List.take_of_length_le (by omega)
    rw[List.drop_zero,hgall] at g3 holdr hsub hsl
    have hsame:∀ (ko:Option Nat),(H.set b (.row false es' (els++ys)))[b]? = some (.row false es' (els++ys)):=fun _=>List.getElem?_set_self hlt
    have htake:(((g.ga b++ds).drop 0).take (n+ys.length))=g.ga b++ds:=by rw[List.drop_zero,List.take_of_length_le (by simp; omega)]
    by_cases hroom:n+ys.length<=cap
    ·by_cases hy0:ys.length=0
     ·
      have hyn:ys=[]:=List.eq_nil_of_length_eq_zero hy0
      subst hyn
      have hdn:ds=[]:=List.eq_nil_of_length_eq_zero (by simpa using hdl)
      subst hdn
      obtain ⟨r1,r2⟩:=hr.grow (new:=[]) (γ:=[]) (ko:=g.mu b) hb (Below.refl _ _) (fun _ _ _ _ h=>h) (fun _ _ _=>rfl) (fun _ _ h _=>h) (Nat.le_refl _) (.inr (by rw[bn])) (by simp) (.inl ⟨rfl,fun k arr ty _ ha=>⟨arr,ha,Nat.le_refl _⟩⟩)
      refine⟨_,_,_,zero rfl g1 rfl,r1,r2,?_,by simp,m6 _ _ hlo,rfl⟩
      refine VR.ext r2 _ _ ?_
      rw[VR,hb]
      refine⟨by simp; omega,a,cap,by simp,by simpa using g1,fun h=>(by cases h),fun hp=>?_,fun _ _ _ hlt=>g4 rfl rfl hnl (by simpa using hlt)⟩
      obtain ⟨k,off,e1,e2⟩:=g3 (by simpa using hp)
      exact⟨k,off,e1,by simpa [hgall] using e2⟩
     ·
      obtain ⟨k,arr,ty',m1,m2,m3,m4⟩:=g4 rfl rfl hnl (by omega)
      subst m2
      have hmul:(n+ys.length)*es'<=cap*es':=Nat.mul_le_mul_right _ hroom
      have hmul2:(n+ys.length)*es'=n*es'+ys.length*es':=Nat.add_mul _ _ _
      have hst:=run_storeCells_at P k (n*es') ty' ds.flatten 0 arr w m3 (by simp[hfl]; omega) hone
      have hrun:=qa (P:=P) (ty:=ty) (a:=⟨k,0,none⟩) hu hi hsA hroom
      rw[Addr.add_mid,Nat.zero_add,hsz,hst] at hrun
      simp only[Result.andThen_ok,Nat.add_zero] at hrun
      obtain ⟨arr',harr'⟩:∃ arr':Array Value,arr'=(arr.toList.take (n*es')++ds.flatten++arr.toList.drop (n*es'+ds.flatten.length)).toArray:=⟨_,rfl⟩
      rw[<-harr'] at hrun
      have hsp:arr'.toList=bo arr.toList (n*es') ds.flatten:=by rw[harr']; rfl
      have hfit:n*es'+ds.flatten.length<=arr.toList.length:=by simp[hfl]; omega
      have hasz:arr'.size=arr.size:=by rw[<-Array.length_toList,hsp,il _ _ _ hfit]; simp
      have hnk:(w.setRow k arr').heap[k]? = some (.cells arr' ty' (0,0)):=setRow_heap w k arr arr' ty' (0,0) m3
      have hok:∀ j,j≠k->(w.setRow k arr').heap[j]? = w.heap[j]?:=fun j hj=>setRow_other w k j arr' hj
      have hszw:(w.setRow k arr').heap.size=w.heap.size:=by simp[World.setRow]
      have hbw:Below w0.heap.size w (w.setRow k arr'):=⟨rfl,rfl,rfl,by rw[hszw]; exact Nat.le_refl _,fun j hj=>hok j (by have:=(hr.dom b k m1).2.1; omega)⟩
      have harrg:∀ j,arr'[j]? = if n*es'<=j/\j<n*es'+ds.flatten.length then ds.flatten[j - n*es']? else arr[j]?:=fun j=>by
       rw[<-Array.getElem?_toList,hsp,gm _ _ _ _ hfit]; simp
      obtain ⟨r1,r2⟩:=hr.grow (new:=ys) (γ:=ds) (ko:=g.mu b) hb hbw (fun k' o v hs hc=>by
        by_cases e:k'=k
        ·subst e
         obtain ⟨es2,els2,q1,q2⟩:=hs.2 b m1
         rw[hb] at q1; cases q1
         rw[cell_of_row _ _ o arr ty' (0,0) m3] at hc
         rw[cell_of_row _ _ o arr' ty' (0,0) hnk,harrg,if_neg (by rw[hnl,Nat.mul_comm]; omega)]
         exact hc
        ·exact(World.cell?_of_block (a:=⟨k',o,none⟩) (hok k' e)).trans hc) (fun k' _ hn=>hok k' (fun e=>hn (e ▸ m1))) (fun k' o ho hd=>(hok k' (fun e=>by subst e; rw[m3] at ho; cases ho; cases hd)).trans ho) (by rw[hszw]; exact Nat.le_refl _) (.inr hvd) hld (.inl ⟨rfl,fun k' arr1 ty1 hk1 ha1=>by
        rw[m1] at hk1; cases hk1
        rw[m3] at ha1; cases ha1
        exact⟨arr',hnk,by omega⟩⟩)
      refine⟨_,_,_,hrun,r1,r2,?_,by simp,m6 _ _ hlo,rfl⟩
      rw[VR,hsame none]
      refine⟨by simp; omega,_,cap,rfl,hroom,fun h=>(by cases h),fun _=>⟨k,0,rfl,?_⟩,fun _ _ _ _=>⟨k,arr',ty',by rw[Gh.bz,m1],rfl,hnk,by omega⟩⟩
      rw[Gh.gJ,htake,List.flatten_append]
      intro j x hj
      have hgfl:(g.ga b).flatten.length=n*es':=by rw[b6 hsub,hsl]
      refine⟨?_,?_⟩
      ·rw[Nat.zero_add,cell_of_row _ _ j arr' ty' (0,0) hnk,harrg]
       rw[List.getElem?_append,hgfl] at hj
       split at hj
       ·rename_i hj1
        rw[if_neg (by omega)]
        have hn0:0<n:=by
         rcases Nat.eq_zero_or_pos n with h | h
         ·rw[h] at hj1; simp at hj1
         ·exact h
        obtain ⟨k',off',e1,e2⟩:=g3 hn0
        cases e1
        have:=(e2 j x hj).1
        rw[Nat.zero_add,cell_of_row _ _ j arr ty' (0,0) m3] at this
        exact this
       ·rename_i hj1
        have:=(List.getElem?_eq_some_iff.1 hj).1
        rw[if_pos (by omega)]
        exact hj
      ·refine⟨by have h:=hr.own b k (0+j) m1; exact h,fun c hc=>?_⟩
       have hcb:c=b:=r1.inj c b k hc (by rw[Gh.bz,m1])
       subst hcb
       refine⟨es',els++ys,hsame none,?_⟩
       have:=(List.getElem?_eq_some_iff.1 hj).1
       rw[List.length_append,hgfl,hfl] at this
       simp only[List.length_append,Nat.mul_add]
       rw[Nat.mul_comm es' els.length,Nat.mul_comm es' ys.length,<-hnl]
       omega
    ·
     have hyp:ys≠[]:=fun e=>by subst e; simp at hroom; omega
     obtain ⟨c2,arr,hrun,k1,k2,k3⟩:=grows (olds:=(g.ga b).flatten) rfl (by omega) hl (by rw[b6 hsub,hsl]) holdr
     obtain ⟨r1,r2⟩:=hr.grow (new:=ys) (γ:=ds) (ko:=some w.heap.size) hb ((hbd arr).mono hr.below.size) (fun k' o v _ hc=>((hbd arr).cell (p:=⟨k',o,none⟩) (World.block_lt_of_cell? w _ hc)).trans hc) (fun k' hk' _=>(hbd arr).block k' hk') (fun k' o ho _=>((hbd arr).block k' (Array.getElem?_eq_some_iff.1 ho).1).trans ho) (hbd arr).size (.inr hvd) hld (.inr ⟨rfl,by simp,hyp⟩)
     refine⟨_,_,_,hrun,r1,r2,?_,by simp,m6 _ _ hlo,rfl⟩
     rw[VR,hsame none]
     refine⟨by simp; omega,_,c2,rfl,k1,fun h=>(by cases h),fun _=>⟨w.heap.size,0,rfl,?_⟩,fun _ _ _ _=>⟨w.heap.size,arr,e,Gh.bz _ _ _ _,rfl,hnew arr,k2⟩⟩
     rw[Gh.gJ,htake,List.flatten_append]
     intro j x hj
     refine⟨by rw[Nat.zero_add,cell_of_row _ _ j arr e (0,0) (hnew arr)]; exact k3 j x hj,hr.out _ _ (Nat.le_refl _),fun c hc=>?_⟩
     have hcb:c=b:=r1.inj c b _ hc (by rw[Gh.bz])
     subst hcb
     refine⟨es',els++ys,hsame none,?_⟩
     have:=(List.getElem?_eq_some_iff.1 hj).1
     rw[List.length_append,b6 hsub,hsl,hfl] at this
     simp only[List.length_append,Nat.mul_add]
     rw[Nat.mul_comm es' els.length,Nat.mul_comm es' ys.length,<-hnl]
     omega
  ·cases h
 ·cases h
theorem Dq {t t2 ty e:TypeId} {es m n cap:Nat} {a:Option Addr} {c:Value} {news:List Value} (hu:P.underlying t=some (.slice e)) (hes:db P e=some es) (hlen:(Builtin.lenOf c).run P w=.ok m w) (hf:(Builtin.firstCells es (min m n) c).run P w=.ok news.toArray w) :
  (Builtin.copy_ #[t,t2] ty #[.slice a n cap,c]).run P w=match a with | none=>.ok (.int .i64 (min m n:Nat)) w | some a=>((storeCells a news).run P w).andThen fun _ w'=>.ok (.int .i64 (min m n:Nat)) w':=by
 have hs:=er hes w
 have hf':(Builtin.firstCells es (Nat.min m n) c).run P w=.ok news.toArray w:=hf
 cases a with
 | none=>simp[Builtin.copy_,run_underlying hu,hlen,hs,hf',goInt]
 | some a=>simp[Builtin.copy_,run_underlying hu,hlen,hs,hf',goInt]
theorem v9 (hr:Rel H g w0 w) {t t2 ty:TypeId} {x y z:A} {cx cy:Value} {H':ay} {lo:Nat} (h:ql P t x y H lo=some (z,H')) (hx:VR H g w x cx) (hy:VR H g w y cy):Step H g w0 w lo ((Builtin.copy_ #[t,t2] ty #[cx,cy]).run P w) z H':=by
 unfold ql at h
 replace h:=bt h
 obtain ⟨e,he,h⟩:=h
 have hu:=jH he
 replace h:=bt h
 obtain ⟨es,hes,h⟩:=h
 replace h:=bt h
 obtain ⟨ys,hys,h⟩:=h
 replace h:=eK h
 obtain ⟨h0,h⟩:=h
 simp only[Bool.or_eq_false_iff,Bool.not_eq_false',beq_eq_false_iff_ne] at h0
 have hys3:∀ cs∈ys,cs.length=es/\∀ a∈cs,a.cell=true:=fun cs hcs=>by
  have:=List.all_eq_true.1 h0.2 cs hcs
  simp only[Bool.and_eq_true,beq_iff_eq] at this
  exact⟨this.1,List.all_eq_true.1 this.2⟩
 obtain ⟨ds,hvd,hld,hsrc⟩:=Av (P:=P) hr hys hy (fun cs hcs=>(hys3 cs hcs).1)
 obtain ⟨hlen,hfirst⟩:=hsrc w (fun _=>rfl)
 have hdl:=hvd.length
 split at h
 ·rename_i b o n cl
  split at h
  ·rename_i es' els hb
   replace h:=bf h
   obtain ⟨hc,h⟩:=h
   simp only[Bool.and_eq_true,decide_eq_true_eq,beq_iff_eq] at hc
   obtain ⟨hlo,rfl⟩:=hc
   cases h
   rw[VR,hb] at hx
   obtain ⟨hon,a,cap,rfl,g1,g2,g3⟩:=hx
   have hlt:b<H.length:=(List.getElem?_eq_some_iff.1 hb).1
   have hf:=hfirst (min ys.length n) (Nat.min_le_left _ _)
   have hrun:=Dq (P:=P) (t2:=t2) (ty:=ty) (a:=a) (cap:=cap) hu hes hlen hf
   have hxl:(ys.take n).length=min ys.length n:=by simp[Nat.min_comm]
   have htk:ds.take n=ds.take (min ys.length n):=by
    rw[<-hdl]
    rcases Nat.le_total ds.length n with h | h
    ·rw[Nat.min_eq_left h,List.take_of_length_le h,List.take_of_length_le (Nat.le_refl _)]
    ·rw[Nat.min_eq_right h]
   by_cases hm:min ys.length n=0
   ·have hyt:ys.take n=[]:=List.eq_nil_of_length_eq_zero (by omega)
    have hspl:bo els o (ys.take n)=els:=by rw[hyt]; simp[bo]
    have hset:H.set b (.row true es' (bo els o (ys.take n)))=H:=by
     rw[hspl]
     apply List.ext_getElem?
     intro c
     by_cases e:c=b
     ·subst e; rw[List.getElem?_set_self hlt,hb]
     ·rw[List.getElem?_set_ne (Ne.symm e)]
    rw[hset]
    have hrun':(Builtin.copy_ #[t,t2] ty #[.slice a n cap,cy]).run P w=.ok (.int .i64 (min ys.length n:Nat)) w:=by
     rw[hrun]
     cases a with
     | none=>rfl
     | some a =>
      rw[hm]
      simp[storeCells]
    exact⟨_,_,g,hrun',hr,Ext.below hr (Below.refl _ _),by rw[VR],Nat.le_refl _,fun _ _ _=>rfl,rfl⟩
   ·obtain ⟨k,hk,rfl⟩:=g3 (by omega)
    obtain ⟨rds,hv,hl,hrow⟩:=hr.blk b _ hb
    obtain ⟨k',arr,ty',hk',har,hcell⟩:=hrow (by omega)
    rw[hk] at hk'; cases hk'
    have hrl:=hv.length
    have hnl:(ds.take (min ys.length n)).flatten.length=min ys.length n*es':=hU hld (by omega)
    have hone:∀ x∈(ds.take (min ys.length n)).flatten,x.oneCell'=true:=fun x hx=>by
     obtain ⟨d,hd,hxd⟩:=List.mem_flatten.1 hx
     exact hvd.one (fun cs hcs=>(hys3 cs hcs).2) x (List.mem_flatten.2 ⟨d,List.mem_of_mem_take hd,hxd⟩)
    have hfl:=b6 hl
    have hmul:(o+min ys.length n)*es'<=rds.length*es':=Nat.mul_le_mul_right _ (by omega)
    rw[Nat.add_mul] at hmul
    have hal:rds.flatten.length<=arr.size:=by
     by_cases hz:rds.flatten.length=0
     ·omega
     ·have:=hcell (rds.flatten.length - 1) _ (List.getElem?_eq_getElem (by omega))
      have:=(Array.getElem?_eq_some_iff.1 this).1
      omega
    have hst:=run_storeCells_at P k (o*es') ty' (ds.take (min ys.length n)).flatten 0 arr w har (by rw[hnl]; omega) hone
    simp only[Nat.add_zero] at hst
    simp only[hst,Result.andThen_ok] at hrun
    obtain ⟨arr',harr'⟩:∃ arr':Array Value,arr'=(arr.toList.take (o*es')++(ds.take (min ys.length n)).flatten++arr.toList.drop (o*es'+(ds.take (min ys.length n)).flatten.length)).toArray:=⟨_,rfl⟩
    rw[<-harr'] at hrun
    have hsp:arr'.toList=bo arr.toList (o*es') (ds.take (min ys.length n)).flatten:=by rw[harr']; rfl
    have hdtl:(ds.take n).length=min ys.length n:=by rw[htk]; simp; omega
    obtain ⟨r1,r2⟩:=hr.write hk har (arr':=arr') (B':=.row true es' (bo els o (ys.take n))) hb (.inr ⟨es',els,_,rfl,rfl,by rw[il _ _ _ (by omega)]⟩) (fun he hnew=>by
     refine⟨bo rds o (ds.take n),?_,?_,fun _=>⟨k,arr',ty',hk,hnew,fun j x hj=>?_⟩⟩
     ·have h1:=bn.ext he _ _ hv
      have h2:=bn.ext he _ _ (hvd.take n)
      have h3:=h2.length
      unfold bo
      rw[h3]
      exact((h1.take o).append h2).append (h1.drop _)
     ·intro d hd
      unfold bo at hd
      rcases List.mem_append.1 hd with hd | hd
      ·rcases List.mem_append.1 hd with hd | hd
       ·exact hl d (List.mem_of_mem_take hd)
       ·exact hld d (List.mem_of_mem_take hd)
      ·exact hl d (List.mem_of_mem_drop hd)
     ·rw[mS o hl (fun d hd=>hld d (List.mem_of_mem_take hd)) (by omega),htk,gm _ _ _ _ (by omega)] at hj
      rw[<-Array.getElem?_toList,hsp,gm _ _ _ _ (by have:=hnl; simp only[Array.length_toList] at *; omega)]
      split at hj
      ·rename_i hin; rw[if_pos hin]; exact hj
      ·rename_i hin; rw[if_neg hin]; simpa using hcell j x hj)
    exact⟨_,_,g,hrun,r1,r2,by rw[VR],by simp,m6 _ _ hlo,rfl⟩
  ·cases h
 ·cases h
end
section
open Go.RowKit
set_option linter.unusedSimpArgs false
variable {P:Program} {H H':ay} {g g':Gh} {w0 w w':World}
theorem uf {t:TypeId} {k:IntKind} {vt:TypeId} (h:vw P t=some (k,vt)):∃ kt,P.underlying t=some (.map kt vt)/\P.underlying kt=some (.int k):=by
 unfold vw at h
 split at h
 ·rename_i kt vt' hu
  split at h
  ·rename_i k' hk; cases h; exact⟨kt,hu,hk⟩
  ·cases h
 ·cases h
theorem rV {k:IntKind} {x:A} {a:Int} {c:Value} (h:keyOf k x=some a) (hx:VR H g w x c):c=.int k a:=by
 unfold keyOf at h
 split at h
 ·rename_i j n
  obtain ⟨h1,h2⟩:=bf h
  cases h2
  have:=of_decide_eq_true h1
  subst this
  rw[VR] at hx; exact hx
 ·cases h
def nK (a:Int):List Int->Option Nat
 | []=>none
 | x :: ks=>if a=x then some 0 else (nK a ks).map (·+1)
theorem vJ {a:Int}:∀ {ks:List Int} {j:Nat},nK a ks=some j->j<ks.length/\ks[j]? = some a
 | [],_,h=>by cases h
 | x :: ks,j,h=>by
  rw[nK] at h
  split at h
  ·rename_i e; cases h; exact⟨by simp,by simp[e]⟩
  ·rw[Option.map_eq_some_iff] at h
   obtain ⟨i,h1,rfl⟩:=h
   obtain ⟨e1,e2⟩:=vJ h1
   exact⟨by simp; omega,by simpa using e2⟩
theorem ra {a:Int}:∀ {ks:List Int} {vs:List A},ks.length=vs.length->gG a ks vs=(nK a ks).bind fun j=>vs[j]?
 | [],[],_=>rfl
 | [],_ :: _,h=>by simp at h
 | _ :: _,[],h=>by simp at h
 | x :: ks,v :: vs,h=>by
  rw[gG,nK,br]
  by_cases e:a=x
  ·rw[if_pos e,if_pos (by simpa using e)]; rfl
  ·rw[if_neg e,if_neg (by simpa using e),ra (by simpa using h),Option.bind_map]
   rfl
theorem xk {a:Int} {y:A}:∀ {ks:List Int} {vs:List A},ks.length=vs.length->Bb a y ks vs=match nK a ks with | some j=>(ks,vs.set j y) | none=>(ks++[a],vs++[y])
 | [],[],_=>rfl
 | [],_ :: _,h=>by simp at h
 | _ :: _,[],h=>by simp at h
 | x :: ks,v :: vs,h=>by
  rw[Bb,nK,br]
  by_cases e:a=x
  ·rw[if_pos e,if_pos (by simpa using e)]; rfl
  ·rw[if_neg e,if_neg (by simpa using e),xk (by simpa using h)]
   cases nK a ks with
   | none=>rfl
   | some j=>rfl
theorem qp {k:IntKind} {a:Int}:∀ (es:List MapEntry) (ks:List Int) (i:Nat),es.map (·.key)=ks.map (Value.int k)->Instr.findNow (.int k) (.int k a) es i=some ((nK a ks).bind fun j=>(es[j]?).map fun e=>(i+j,e.val))
 | [],[],i,_=>rfl
 | [],_ :: _,_,h=>by simp at h
 | _ :: _,[],_,h=>by simp at h
 | e :: es,x :: ks,i,h=>by
  simp only[List.map_cons,List.cons.injEq] at h
  obtain ⟨h1,h2⟩:=h
  have hs:Instr.sameNow (.int k) (.int k a) e.key=some (a==x):=by rw[h1]; simp[Instr.sameNow]
  rw[Instr.findNow,hs,nK]
  by_cases ex:a=x
  ·subst ex
   simp
  ·rw[show (a==x)=false by simpa using ex,if_neg ex]
   simp only[]
   rw[qp es ks (i+1) h2]
   cases nK a ks with
   | none=>rfl
   | some j =>
    simp only[Option.map_some,Option.bind_some,List.getElem?_cons_succ]
    rw[show i+1+j=i+(j+1) by omega]
theorem lP {kt:TypeId} {k:IntKind} (hk:P.underlying kt=some (.int k)) (a:Int) (b:Bool):(Instr.checkKey b 10000 kt (.int k a)).run P w=.ok () w:=by
 rw[show (10000:Nat)=9999+1 from rfl,Instr.checkKey]
 simp[run_underlying hk]
theorem mQ {kt:TypeId} {k:IntKind} (hk:P.underlying kt=some (.int k)) {es:List MapEntry} {ks:List Int} (h:es.map (·.key)=ks.map (Value.int k)) (a:Int):(Instr.findKey kt (.int k a) es).run P w=.ok ((nK a ks).bind fun j=>(es[j]?).map fun e=>(j,e.val)) w:=by
 unfold Instr.findKey
 simp only[Sem.run_bind,run_underlying hk,Result.andThen_ok,qp es ks 0 h,Nat.zero_add]
 rfl
theorem qY (hr:Rel H g w0 w) {t:TypeId} {y:A} {H':ay} (lo:Nat) (h:oK P t H=some (y,H')):Step H g w0 w lo ((Instr.makeMap t none).run P w) y H':=by
 unfold oK at h
 cases hk:vw P t with
 | none=>rw[hk] at h; cases h
 | some p =>
  rw[hk] at h
  cases h
  have hb:Below w.heap.size w (w.alloc (.map #[] 0)):=(Below.refl _ w).alloc (Nat.le_refl _) _
  obtain ⟨h1,h2⟩:=hr.push hb (.mp p.1 [] []) (some w.heap.size) [] (fun k hk=>by cases hk; exact⟨rfl,by simp⟩) (fun he=>⟨w.heap.size,#[],0,Gh.bz _ _ _ _,World.alloc_heap_new w _,rfl,by rw[bp]; rfl⟩)
  refine⟨.map (some w.heap.size),_,_,by simp[Instr.makeMap,newObj]; rfl,h1,h2,?_,by simp,ib _ _ _,rfl⟩
  rw[VR,ei]; exact⟨w.heap.size,Gh.bz _ _ _ _,rfl⟩
theorem Rel.JD (hr:Rel H g w0 w) {b r:Nat} {arr arr':Array MapEntry} {cl cl':Nat} {k:IntKind} {ks ks':List Int} {vs vs':List A} (hk:g.mu b=some r) (ha:w.heap[r]? = some (.map arr cl)) (hB:H[b]? = some (.mp k ks vs))
  (hkeys:arr'.toList.map (·.key)=ks'.map (Value.int k)) (hv:bp H g w vs' (arr'.toList.map (·.val))) :
  Rel (H.set b (.mp k ks' vs')) g w0 (w.putObj r (.map arr' cl'))/\Ext H g w (H.set b (.mp k ks' vs')) g (w.putObj r (.map arr' cl')):=by
 have hlt:b<H.length:=(List.getElem?_eq_some_iff.1 hB).1
 have hrl:r<w.heap.size:=(hr.dom b r hk).2.2
 have hoth:∀ j,j≠r->(w.putObj r (.map arr' cl')).heap[j]? = w.heap[j]?:=fun j hj=>World.putObj_heap_other hj
 have hsz:(w.putObj r (.map arr' cl')).heap.size=w.heap.size:=by simp
 have hnot:∀ {o:Nat},¬ eX H g r o:=fun {o} hs=>by
  obtain ⟨es,els,h1,_⟩:=hs.2 b hk
  rw[hB] at h1; cases h1
 have hst:∀ {q o},eX H g q o->eX (H.set b (.mp k ks' vs')) g q o:=fun {q o} hs=>by
  refine⟨hs.1,fun c hck=>?_⟩
  obtain ⟨es,els,h1,h2⟩:=hs.2 c hck
  have hcb:c≠b:=fun e=>by subst e; rw[hB] at h1; cases h1
  exact⟨es,els,by rw[List.getElem?_set_ne (Ne.symm hcb)]; exact h1,h2⟩
 have he:Ext H g w (H.set b (.mp k ks' vs')) g (w.putObj r (.map arr' cl')):=by
  refine⟨fun k' o v hs hc=>?_,fun c C hC=>?_,fun k' x h=>(hoth k' (fun e=>by subst e; rw[ha] at h; cases h)).trans h,by rw[hsz]; exact Nat.le_refl _,fun k' marr mcl hs hm=>?_,fun k' _ hn=>hoth k' (fun e=>hn b (e ▸ hk)),fun c k' h=>.inl ⟨c,h⟩⟩
  ·have hne:k'≠r:=fun e=>hnot (e ▸ hs)
   exact⟨(World.cell?_of_block (a:=⟨k',o,none⟩) (hoth k' hne)).trans hc,hst hs⟩
  ·by_cases e:c=b
   ·subst e
    rw[hB] at hC; cases hC
    exact⟨.mp k ks' vs',by rw[List.getElem?_set_self hlt],rfl⟩
   ·refine⟨C,by rw[List.getElem?_set_ne (Ne.symm e)]; exact hC,?_⟩
    cases C with
    | box _=>rfl
    | row wr es els=>cases wr with
     | true=>exact⟨rfl,rfl,rfl⟩
     | false=>exact⟨rfl,⟨[],by simp⟩,(hr.blk c _ hC).len,Nat.le_refl _,fun _=>⟨rfl,fun k' arr1 ty1 hk1 ha1=>⟨arr1,(hoth k' (fun e2=>e (hr.inj c b r (e2 ▸ hk1) hk))).trans ha1,Nat.le_refl _⟩⟩⟩
    | rng _=>exact⟨rfl,rfl⟩
    | mp _ _ _=>rfl
    | dead=>trivial
    | hole=>trivial
  ·have hne:k'≠r:=fun e=>hnot (e ▸ hs)
   exact⟨(hoth k' hne).trans hm,hst hs⟩
 refine⟨⟨hr.below.trans ((Below.refl w0.heap.size w).grown (grownBy_putObj' w r _) (hr.below.size) (fun k e=>by cases e; exact(hr.dom b r hk).2.1)),fun c j hcj=>⟨by simpa using (hr.dom c j hcj).1,(hr.dom c j hcj).2.1,by rw[hsz]; exact(hr.dom c j hcj).2.2⟩,hr.inj,hr.yV he,hr.xi he,fun c C hC=>?_⟩,he⟩
 by_cases e:c=b
 ·subst e
  rw[List.getElem?_set_self hlt] at hC; cases hC
  exact⟨r,arr',cl',hk,World.putObj_heap_same hrl,hkeys,bp.ext he _ _ hv⟩
 ·rw[List.getElem?_set_ne (Ne.symm e)] at hC
  have h:=hr.blk c C hC
  have hmu:∀ {j},g.mu c=some j->j≠r:=fun {j} hj e2=>e (hr.inj c b r (e2 ▸ hj) hk)
  cases C with
  | box cs=>obtain ⟨j,arr1,ty1,h1,h2,h3⟩:=h; exact⟨j,arr1,ty1,h1,(hoth j (hmu h1)).trans h2,bp.ext he _ _ h3⟩
  | row wr es els=>cases wr with
   | true =>
    obtain ⟨ds,h1,h2,h3⟩:=h
    exact⟨ds,bn.ext he _ _ h1,h2,fun hp=>let ⟨j,arr1,ty1,e1,e2,e3⟩:=h3 hp; ⟨j,arr1,ty1,e1,(hoth j (hmu e1)).trans e2,e3⟩⟩
   | false=>exact⟨bn.ext he _ _ h.1,h.2⟩
  | rng st=>obtain ⟨j,h1,h2⟩:=h; exact⟨j,h1,(hoth j (hmu h1)).trans h2⟩
  | mp _ _ _=>obtain ⟨j,arr1,c1,h1,h2,h3,h4⟩:=h; exact⟨j,arr1,c1,h1,(hoth j (hmu h1)).trans h2,h3,bp.ext he _ _ h4⟩
  | dead=>exact h
  | hole=>exact h
theorem bp.setAt {vs:List A} {ds:List Value} (h:bp H g w vs ds) {y:A} {d:Value} (hy:VR H g w y d) (j:Nat):bp H g w (vs.set j y) (ds.set j d):=by
 rw[dE] at h ⊢
 refine⟨by simpa using h.1,fun i a e ha hd=>?_⟩
 rw[List.getElem?_set] at ha hd
 by_cases hij:j=i
 ·subst hij
  rw[if_pos rfl] at ha hd
  split at ha
  ·split at hd
   ·cases ha; cases hd; exact hy
   ·cases hd
  ·cases ha
 ·rw[if_neg hij] at ha hd
  exact h.2 i a e ha hd
theorem nR (hr:Rel H g w0 w) {t:TypeId} {m i x:A} {H':ay} {lo:Nat} {cm ci cx:Value} (h:gF P t m i x H lo=some H') (hm:VR H g w m cm) (hi:VR H g w i ci) (hx:VR H g w x cx) :
  ∃ w',(Instr.mapUpdate t cm ci cx).run P w=.ok () w'/\Rel H' g w0 w'/\Ext H g w H' g w'/\H.length<=H'.length/\∀ b,b<lo->b<H.length->H'[b]? = H[b]?:=by
 unfold gF at h
 obtain ⟨⟨k,vt⟩,hk,h⟩:=bt h
 obtain ⟨a,ha,h⟩:=bt h
 obtain ⟨kt,hu,huk⟩:=uf hk
 have:=rV ha hi
 subst this
 cases m with
 | mr b =>
  simp only[] at h
  split at h
  ·rename_i k' ks vs hB
   obtain ⟨hc,h⟩:=bf h
   cases h
   rw[Bool.and_eq_true] at hc
   have hlo:=of_decide_eq_true hc.1
   have hkk:k'=k:=of_decide_eq_true hc.2
   subst hkk
   rw[VR,hB] at hm
   obtain ⟨r,hmu,rfl⟩:=hm
   obtain ⟨r',arr,cl,e1,e2,e3,e4⟩:=hr.blk b _ hB
   rw[hmu] at e1; cases e1
   have hlen:ks.length=vs.length:=by
    have:=e4.length
    have h2:=congrArg List.length e3
    simp at this h2
    omega
   have hal:ks.length=arr.size:=by have h2:=congrArg List.length e3; simp at h2; omega
   have hget:(getObj r).run P w=.ok (.map arr cl) w:=by simp[getObj,Sem.run,e2]
   have hset:∀ o,(setObj r o).run P w=.ok () (w.putObj r o):=fun o=>by simp[setObj,Sem.run,e2,World.putObj]
   have hlow:∀ B,∀ c,c<lo->c<H.length->(H.set b B)[c]? = H[c]?:=fun B c hc _=>List.getElem?_set_ne (by omega)
   rw[xk hlen]
   cases hp:nK a ks with
   | none =>
    simp only[]
    have hrun:(Instr.mapUpdate t (.map (some r)) (.int k' a) cx).run P w=.ok () (w.putObj r (.map (arr.push { key:=.int k' a,val:=cx,born:=cl }) (cl+1))):=by
     unfold Instr.mapUpdate
     simp only[Sem.run_bind,run_underlying hu,Result.andThen_ok,hget,lP huk,mQ huk e3,hp,Option.bind_none,hset]
    obtain ⟨r1,r2⟩:=hr.JD (arr':=arr.push { key:=.int k' a,val:=cx,born:=cl }) (cl':=cl+1) (ks':=ks++[a]) (vs':=vs++[x]) hmu e2 hB (by simp[e3]) (by
     rw[show (arr.push { key:=Value.int k' a,val:=cx,born:=cl }).toList.map (·.val)=arr.toList.map (·.val)++[cx] by simp]
     exact e4.append (by rw[bp]; exact⟨cx,[],rfl,hx,by rw[bp]⟩))
    exact⟨_,hrun,r1,r2,by simp,hlow _⟩
   | some j =>
    simp only[]
    obtain ⟨hj,hja⟩:=vJ hp
    have hja':arr[j]? = some arr[j]:=Array.getElem?_eq_getElem (by omega)
    have hkey:(arr[j]'(by omega)).key=.int k' a:=by
     have h1:(arr.toList.map (·.key))[j]? = some (.int k' a):=by rw[e3,List.getElem?_map,hja]; rfl
     rw[List.getElem?_map,Array.getElem?_toList,hja'] at h1
     simpa using h1
    have hsame:(Instr.keyThatStays (.int k' a) (.int k' a)).run P w=.ok (.int k' a) w:=by
     unfold Instr.keyThatStays
     rw[show Instr.sameBits 10000 (.int k' a) (.int k' a)=true by rw[show (10000:Nat)=9999+1 from rfl]; simp[Instr.sameBits]]
     rfl
    have hrun:(Instr.mapUpdate t (.map (some r)) (.int k' a) cx).run P w=.ok () (w.putObj r (.map (arr.modify j fun e=>{ e with key:=.int k' a,val:=cx }) cl)):=by
     unfold Instr.mapUpdate
     simp only[Sem.run_bind,run_underlying hu,Result.andThen_ok,hget,lP huk,mQ huk e3,hp,Option.bind_some,Array.getElem?_toList,hja',Option.map_some,Option.getD_some,hkey,hsame,hset]
    have hmod:∀ (f:MapEntry->Value) (v:Value),(f { (arr[j]'(by omega)) with key:=.int k' a,val:=cx }=v)->((arr.modify j fun e=>{ e with key:=.int k' a,val:=cx }).toList.map f)=(arr.toList.map f).set j v:=fun f v hf=>by
     refine List.ext_getElem? fun i=>?_
     rw[List.getElem?_map,Array.getElem?_toList,Array.getElem?_modify,List.getElem?_set]
     by_cases hij:j=i
     ·subst hij
      rw[if_pos rfl,hja',if_pos rfl,if_pos (by simp; omega)]
      simp[hf]
     ·rw[if_neg hij,if_neg hij,List.getElem?_map,Array.getElem?_toList]
    obtain ⟨r1,r2⟩:=hr.JD (arr':=arr.modify j fun e=>{ e with key:=.int k' a,val:=cx }) (cl':=cl) (ks':=ks) (vs':=vs.set j x) hmu e2 hB (by
     rw[hmod (·.key) (.int k' a) rfl,e3]
     refine List.ext_getElem? fun i=>?_
     rw[List.getElem?_set]
     by_cases hij:j=i
     ·subst hij
      rw[if_pos rfl,if_pos (by simp; omega),List.getElem?_map,hja]; rfl
     ·rw[if_neg hij]) (by rw[hmod (·.val) cx rfl]; exact e4.setAt hx j)
    exact⟨_,hrun,r1,r2,by simp,hlow _⟩
  ·cases h
 | _=>cases h
theorem GI {vt:TypeId} {c:Bool} {y:A} {es:List MapEntry} {ks:List Int} {vs:List A} {a:Int} (hl:ks.length=vs.length) (h:DF P vt c (gG a ks vs)=some y) (hv:bp H g w vs (es.map (·.val))) :
  ∃ d,(match (nK a ks).bind fun j=>(es[j]?).map fun e=>(j,e.val) with | some (_,v)=>(d=if c then .tuple #[v,.bool true] else v) | none=>∃ i z,P.info? vt=some i/\i.zero=some z/\(d=if c then .tuple #[z,.bool false] else z))/\VR H g w y d:=by
 rw[ra hl] at h
 cases hp:nK a ks with
 | none =>
  rw[hp] at h
  simp only[Option.bind_none,DF] at h ⊢
  obtain ⟨i,hi,h⟩:=bt h
  rw[Option.map_eq_some_iff] at h
  obtain ⟨z,hz,h⟩:=h
  refine⟨_,⟨i,z,hi,hz,rfl⟩,?_⟩
  subst h
  cases c
  ·exact ow z
  ·rw[cond_true,VR]
   exact⟨_,rfl,by rw[bp]; exact⟨z,_,rfl,ow z,by rw[bp]; exact⟨_,_,rfl,by rw[VR],by rw[bp]⟩⟩⟩
 | some j =>
  obtain ⟨hj,_⟩:=vJ hp
  have hel:es.length=vs.length:=by have:=hv.length; simpa using this
  have hvj:vs[j]? = some vs[j]:=List.getElem?_eq_getElem (by omega)
  have hej:es[j]? = some es[j]:=List.getElem?_eq_getElem (by omega)
  rw[hp] at h
  simp only[Option.bind_some,hvj,DF,Option.some.injEq,hej,Option.map_some] at h ⊢
  refine⟨_,rfl,?_⟩
  subst h
  have hvv:VR H g w vs[j] es[j].val:=(dE.1 hv).2 j _ _ hvj (by rw[List.getElem?_map,hej]; rfl)
  cases c
  ·exact hvv
  ·rw[cond_true,VR]
   exact⟨_,rfl,by rw[bp]; exact⟨_,_,rfl,hvv,by rw[bp]; exact⟨_,_,rfl,by rw[VR],by rw[bp]⟩⟩⟩
theorem sW (hr:Rel H g w0 w) {t:TypeId} {m i y:A} {c:Bool} {cm ci:Value} (h:fY P t m i c H=some y) (hm:VR H g w m cm) (hi:VR H g w i ci):∃ d,(Instr.lookup t cm ci c).run P w=.ok d w/\VR H g w y d:=by
 unfold fY at h
 obtain ⟨⟨k,vt⟩,hk,h⟩:=bt h
 obtain ⟨a,ha,h⟩:=bt h
 obtain ⟨kt,hu,huk⟩:=uf hk
 have:=rV ha hi
 subst this
 have main:∀ {r:Nat} {arr:Array MapEntry} {cl:Nat} {ks:List Int} {vs:List A},w.heap[r]? = some (.map arr cl)->arr.toList.map (·.key)=ks.map (Value.int k)->bp H g w vs (arr.toList.map (·.val))->DF P vt c (gG a ks vs)=some y->∃ d,(Instr.lookup t (.map (some r)) (.int k a) c).run P w=.ok d w/\VR H g w y d:=by
  intro r arr cl ks vs e2 e3 e4 hok
  have hlen:ks.length=vs.length:=by
   have:=e4.length
   have h2:=congrArg List.length e3
   simp at this h2
   omega
  obtain ⟨d,hd,hv⟩:=GI hlen hok e4
  refine⟨d,?_,hv⟩
  have hget:(getObj r).run P w=.ok (.map arr cl) w:=by simp[getObj,Sem.run,e2]
  unfold Instr.lookup
  simp only[Sem.run_bind,run_underlying hu,Result.andThen_ok,hget,Sem.run_pure,lP huk,mQ huk e3]
  cases hf:(nK a ks).bind fun j=>(arr.toList[j]?).map fun e=>(j,e.val) with
  | none =>
   rw[hf] at hd
   obtain ⟨i,z,h1,h2,h3⟩:=hd
   have hz:(zeroValue vt).run P w=.ok z w:=by simp[zeroValue,typeInfo,h1,h2]
   simp only[Sem.run_bind,hz,Result.andThen_ok,Sem.run_pure,h3]
  | some p =>
   rw[hf] at hd
   obtain ⟨j,v⟩:=p
   simp only[Sem.run_pure,Result.andThen_ok]
   have hd:d=if c then .tuple #[v,.bool true] else v:=hd
   rw[hd]
   cases c<;>rfl
 cases m with
 | mv k' ks vs =>
  obtain ⟨hc,h⟩:=bf h
  have hkk:k'=k:=of_decide_eq_true hc
  subst hkk
  rw[VR] at hm
  obtain ⟨r,arr,cl,rfl,_,e2,e3,e4⟩:=hm
  exact main e2 e3 e4 h
 | mr b =>
  simp only[] at h
  split at h
  ·rename_i k' ks vs hB
   obtain ⟨hc,hok⟩:=bf h
   have hkk:k'=k:=of_decide_eq_true hc
   subst hkk
   rw[VR,hB] at hm
   obtain ⟨r,hmu,rfl⟩:=hm
   obtain ⟨r',arr,cl,e1,e2,e3,e4⟩:=hr.blk b _ hB
   exact(by rw[hmu] at e1; cases e1; exact main e2 e3 e4 hok)
  ·cases h
 | _=>cases h
theorem ui {t:TypeId} {c:Bool} {y:A} (h:vD P t c=some y):c=true/\∃ z,(zeroValue t).run P w=.ok z w/\VR H g w y (.tuple #[z,.bool false]):=by
 unfold vD at h
 cases c with
 | false=>cases h
 | true =>
  simp only[cond_true] at h
  obtain ⟨i,hi,h⟩:=bt h
  rw[Option.map_eq_some_iff] at h
  obtain ⟨z,hz,rfl⟩:=h
  refine⟨rfl,z,by simp[zeroValue,typeInfo,hi,hz],?_⟩
  rw[VR]
  exact⟨_,rfl,by rw[bp]; exact⟨z,_,rfl,ow z,by rw[bp]; exact⟨_,_,rfl,by rw[VR],by rw[bp]⟩⟩⟩
theorem sV {t xt:TypeId} {x y:A} {c:Bool} {cv:Value} (h:lK P x t c=some y) (hx:VR H g w x cv):∃ d,(Instr.typeAssert cv xt t c).run P w=.ok d w/\VR H g w y d:=by
 unfold lK at h
 split at h
 ·cases h
 ·cases h
 ·rename_i u hn hu
  split at h
  ·rename_i t' z
   rw[VR] at hx
   obtain ⟨v,rfl,hv⟩:=hx
   rw[br] at h
   split at h
   ·rename_i ht
    have ht:=Nat.eq_of_beq_eq_true ht
    subst ht
    have hr:(Instr.typeAssert (.iface t' v) xt t' c).run P w=.ok (if c then .tuple #[v,.bool true] else v) w:=by
     unfold Instr.typeAssert
     rw[Sem.run_bind,run_underlying hu]
     simp only[Result.andThen_ok]
     cases u<;>first | exact absurd hu (hn _) | simp
    refine⟨_,hr,?_⟩
    cases c with
    | false=>simp only[cond_false,Option.some.injEq] at h; subst h; exact hv
    | true =>
     simp only[cond_true,Option.some.injEq] at h
     subst h
     rw[if_pos rfl,VR]
     exact⟨_,rfl,by rw[bp]; exact⟨v,_,rfl,hv,by rw[bp]; exact⟨_,_,rfl,by rw[VR],by rw[bp]⟩⟩⟩
   ·rename_i ht
    obtain ⟨rfl,z,hz,hv2⟩:=ui (H:=H) (g:=g) (w:=w) h
    have ht:¬ t'=t:=fun e=>ht (by rw[e]; simp)
    refine⟨_,?_,hv2⟩
    unfold Instr.typeAssert
    rw[Sem.run_bind,run_underlying hu]
    simp only[Result.andThen_ok]
    cases u<;>first | exact absurd hu (hn _) | simp[ht,hz]
  ·rw[VR] at hx
   subst hx
   obtain ⟨rfl,z,hz,hv2⟩:=ui (H:=H) (g:=g) (w:=w) h
   refine⟨_,?_,hv2⟩
   unfold Instr.typeAssert
   rw[Sem.run_bind,run_underlying hu]
   simp only[Result.andThen_ok]
   cases u<;>first | exact absurd hu (hn _) | simp[hz]
  ·cases h
end
section
open Go.RowKit
def gq (F:Fence):Prop:=F.depth=none/\(∀ f,F.fn f)/\F.alive=false
theorem zf:gq Fence.wide:=⟨rfl,fun _=>trivial,rfl⟩
theorem pd {F:Fence} (h:gq F) (P:Program) (m:Machine):m.fenced P F:=fun g _ =>
 ⟨fun ha=>(by rw[h.2.2] at ha; cases ha),.inl (h.2.1 _),fun f _=>h.2.1 f,fun d hd=>(by rw[h.1] at hd; cases hd)⟩
theorem gY {F:Fence} {n:Nat} {P:Program} {f:FuncId} {args:Array Value} {w:World} {R:Ending->World->Prop} (hF:gq F) (h:Calls P f args w R):CallsIn F n P f args w R :=
 ⟨hF.2.1 f,fun cs _=>let ⟨e,w',fr,r,s,x⟩:=h cs; ⟨e,w',fr,r,(by cases e with
  | returned v=>exact(StepsIn.of_steps s).mono fun m _=>pd hF P m
  | panicked v=>exact(StepsIn.of_steps s).mono fun m _=>pd hF P m
  | outgrown=>exact s),x⟩⟩
def G0 (S:Nat->Nat->Prop):Gh:=⟨fun _=>none,fun _=>[],S,fun _=>FF⟩
def iU (P:Program) (glob:Nat->Option (List Value)) (k:Nat) (args:List A) (r:A):Prop :=
 ∀ (S:Nat->Nat->Prop) (w:World) (cargs:List Value),(∀ k o,w.heap.size<=k->S k o)->(∀ (G:Nat) (vs:List Value),glob G=some vs->bB [] (G0 S) w G 0 vs)->bp [] (G0 S) w args cargs ->
  Calls P k cargs.toArray w fun e w'=>∃ c,e=.returned c/\Below w.heap.size w w'/\VR [] (G0 S) w' r c
variable {H H':ay} {g g':Gh} {w0 w w':World}
mutual
theorem nh {G:Nat->Nat->Nat->A} {S:Nat->Nat->Prop} (hS:∀ k o,eX H g k o->S k o) (hG:∀ b o m cl c,VR H g w (.sl b o m cl) c->VR [] (G0 S) w (G b o m) c):∀ (a:A) (c:Value),VR H g w a c->VR [] (G0 S) w (cG G a) c
 | .any,_,_=>by simp only[cG]; rw[VR]; trivial
 | .v x,c,h=>by simp only[cG]; rw[VR] at h ⊢; exact h
 | .ptr ..,_,_=>by simp only[cG]; rw[VR]; trivial
 | .ep ..,_,_=>by simp only[cG]; rw[VR]; trivial
 | .ip _,_,_=>by simp only[cG]; rw[VR]; trivial
 | .imm els clip,c,h=>by
  simp only[cG]
  rw[VR] at h ⊢
  obtain ⟨a,cap,ds,es,h1,h2,h3,h4,h5,h6⟩:=h
  have hv:=hJ hS hG els ds h6
  have hl:(dm G els).length=els.length:=by rw[<-hv.length,h6.length]
  exact⟨a,cap,ds,es,by rw[hl]; exact h1,by rw[hl]; exact h2,fun h=>(by cases h),h4,fun hp=>let ⟨k,off,e1,e2⟩:=h5 (by rw[hl] at hp; exact hp); ⟨k,off,e1,fun j v hj=>⟨(e2 j v hj).1,hS _ _ (e2 j v hj).2,fun b hb=>by cases hb⟩⟩,hv⟩
 | .sl b o m cl,c,h=>by simp only[cG]; exact hG b o m cl c h
 | .agg cs,c,h=>by
  simp only[cG]
  rw[VR] at h ⊢
  obtain ⟨ds,h1,h2⟩:=h
  exact⟨ds,h1,jq hS hG cs _ h2⟩
 | .tup cs,c,h=>by
  simp only[cG]
  rw[VR] at h ⊢
  obtain ⟨ds,h1,h2⟩:=h
  exact⟨ds,h1,jq hS hG cs _ h2⟩
 | .fn f [] [],c,h=>by
  simp only[cG]
  rw[VR] at h ⊢
  obtain ⟨ds,es,h1,h2,h3⟩:=h
  rw[bp] at h2 h3
  exact⟨ds,es,h1,by rw[bp]; exact h2,by rw[bp]; exact h3⟩
 | .fn _ (_ :: _) _,_,_=>by simp only[cG]; rw[VR]; trivial
 | .fn _ [] (_ :: _),_,_=>by simp only[cG]; rw[VR]; trivial
 | .yld _,c,h=>by simp only[cG]; rw[VR]; trivial
 | .nq _,c,h=>by simp only[cG]; rw[VR]; trivial
 | .mr _,c,h=>by simp only[cG]; rw[VR]; trivial
 | .mv k ks vs,c,h=>by
  simp only[cG]
  rw[VR] at h ⊢
  obtain ⟨r,arr,cl,h1,h2,h3,h4,h5⟩:=h
  exact⟨r,arr,cl,h1,⟨hS _ _ h2,fun b hb=>by cases hb⟩,h3,h4,jq hS hG vs _ h5⟩
 | .ifc t x,c,h=>by
  simp only[cG]
  rw[VR] at h ⊢
  obtain ⟨d,h1,h2⟩:=h
  exact⟨d,h1,nh hS hG x d h2⟩
theorem jq {G:Nat->Nat->Nat->A} {S:Nat->Nat->Prop} (hS:∀ k o,eX H g k o->S k o) (hG:∀ b o m cl c,VR H g w (.sl b o m cl) c->VR [] (G0 S) w (G b o m) c):∀ (cs:List A) (ds:List Value),bp H g w cs ds->bp [] (G0 S) w (aU G cs) ds
 | [],_,h=>by simp only[aU]; rw[bp] at h ⊢; exact h
 | a :: as,_,h=>by
  simp only[aU]
  rw[bp] at h ⊢
  obtain ⟨d,ds',h1,h2,h3⟩:=h
  exact⟨d,ds',h1,nh hS hG a d h2,jq hS hG as ds' h3⟩
theorem hJ {G:Nat->Nat->Nat->A} {S:Nat->Nat->Prop} (hS:∀ k o,eX H g k o->S k o) (hG:∀ b o m cl c,VR H g w (.sl b o m cl) c->VR [] (G0 S) w (G b o m) c):∀ (cs:List (List A)) (ds:List (List Value)),bn H g w cs ds->bn [] (G0 S) w (dm G cs) ds
 | [],_,h=>by simp only[dm]; rw[bn] at h ⊢; exact h
 | a :: as,_,h=>by
  simp only[dm]
  rw[bn] at h ⊢
  obtain ⟨d,ds',h1,h2,h3⟩:=h
  exact⟨d,ds',h1,jq hS hG a d h2,hJ hS hG as ds' h3⟩
end
theorem uv {ds:List (List Value)} {es k o m:Nat} {arr:Array Value} {ty:TypeId} (hd:∀ d∈ds,d.length=es) (ha:w.heap[k]? = some (.cells arr ty (0,0))) (h:∀ (j:Nat) (v:Value),ds.flatten[j]? = some v->arr[j]? = some v) {j:Nat} {v:Value} (hj:((ds.drop o).take m).flatten[j]? = some v):w.cell? ⟨k,o*es+j,none⟩=some v:=by
 rw[cell_of_row w k _ arr ty (0,0) ha]
 refine h _ v ?_
 have e1:ds=ds.take o++((ds.drop o).take m++(ds.drop o).drop m):=by rw[List.take_append_drop,List.take_append_drop]
 by_cases ho:o<=ds.length
 ·have hl:(ds.take o).flatten.length=o*es:=by
   have:∀ l:List (List Value),(∀ d∈l,d.length=es)->l.flatten.length=l.length*es:=fun l hl=>by
    induction l with
    | nil=>simp
    | cons x l ih=>rw[List.flatten_cons,List.length_append,hl x (by simp),ih (fun d hd=>hl d (by simp[hd])),List.length_cons,Nat.add_mul]; omega
   rw[this _ (fun d hd'=>hd d (List.mem_of_mem_take hd')),List.length_take,Nat.min_eq_left ho]
  rw[e1,List.flatten_append,List.getElem?_append_right (by omega),hl,show o*es+j - o*es=j by omega,List.flatten_append]
  rw[List.getElem?_append_left (List.getElem?_eq_some_iff.1 hj).1]
  exact hj
 ·rw[List.drop_eq_nil_of_le (by omega)] at hj
  simp at hj
theorem pv (hr:Rel H g w0 w):∀ (q b o m:Nat) (cl:Bool) (c:Value),VR H g w (.sl b o m cl) c->VR [] (G0 (eX H g)) w (gS q H b o m) c
 | 0,_,_,_,_,_,_=>by simp only[gS]; rw[VR]; trivial
 | q+1,b,o,m,cl,c,h=>by
  simp only[gS]
  split
  ·rename_i es els hb
   rw[VR,hb] at h
   obtain ⟨h0,a,cap,rfl,h1,h2,h3,_⟩:=h
   obtain ⟨hga,hgl⟩:=hr.blk b _ hb
   have hv:=hJ (fun _ _ h=>h) (fun b o m cl c h=>pv hr q b o m cl c h) _ _ ((hga.drop o).take m)
   have hl:(dm (gS q H) ((els.drop o).take m)).length=m:=by rw[<-hv.length]; simp[hga.length]; omega
   rw[VR]
   exact⟨a,cap,_,es,by rw[hl],by rw[hl]; exact h1,fun h=>(by cases h),fun d hd=>hgl d (List.mem_of_mem_drop (List.mem_of_mem_take hd)),fun hp=>let ⟨k,off,e1,e2⟩:=h3 (by rw[hl] at hp; exact hp); ⟨k,off,e1,fun j v hj=>⟨(e2 j v hj).1,(e2 j v hj).2,fun b hb=>by cases hb⟩⟩,hv⟩
  ·rw[VR]; trivial
theorem lC (hr:Rel H g w0 w):∀ (q b o m:Nat) (cl:Bool) (c:Value),VR H g w (.sl b o m cl) c->VR [] (G0 g.S) w (iZ q H b o m) c
 | 0,_,_,_,_,_,_=>by simp only[iZ]; rw[VR]; trivial
 | q+1,b,o,m,cl,c,h=>by
  simp only[iZ]
  split
  ·rename_i wr es els hb
   rw[VR,hb] at h
   have hS:∀ k o,eX H g k o->g.S k o:=fun k o h=>h.1
   cases wr with
   | false =>
    obtain ⟨h0,a,cap,rfl,h1,h2,h3,_⟩:=h
    obtain ⟨hga,hgl⟩:=hr.blk b _ hb
    have hv:=hJ hS (fun b o m cl c h=>lC hr q b o m cl c h) _ _ ((hga.drop o).take m)
    have hl:(dm (iZ q H) ((els.drop o).take m)).length=m:=by rw[<-hv.length]; simp[hga.length]; omega
    rw[VR]
    exact⟨a,cap,_,es,by rw[hl],by rw[hl]; exact h1,fun h=>(by cases h),fun d hd=>hgl d (List.mem_of_mem_drop (List.mem_of_mem_take hd)),fun hp=>let ⟨k,off,e1,e2⟩:=h3 (by rw[hl] at hp; exact hp); ⟨k,off,e1,fun j v hj=>⟨(e2 j v hj).1,(e2 j v hj).2.1,fun b hb=>by cases hb⟩⟩,hv⟩
   | true =>
    obtain ⟨h0,a,cap,rfl,h1,h2,h3⟩:=h
    obtain ⟨ds,d1,d2,d3⟩:=hr.blk b _ hb
    have hv:=hJ hS (fun b o m cl c h=>lC hr q b o m cl c h) _ _ ((d1.drop o).take m)
    have hl:(dm (iZ q H) ((els.drop o).take m)).length=m:=by rw[<-hv.length]; simp[d1.length]; omega
    rw[VR]
    refine⟨a,cap,_,es,by rw[hl],by rw[hl]; exact h1,fun h=>(by cases h),fun d hd=>d2 d (List.mem_of_mem_drop (List.mem_of_mem_take hd)),fun hp=>?_,hv⟩
    rw[hl] at hp
    obtain ⟨k,hk,ha⟩:=h3 hp
    obtain ⟨k',arr,ty,m1,m2,m3⟩:=d3 (by omega)
    rw[hk] at m1; cases m1
    exact⟨k,o*es,ha,fun j v hj=>⟨uv d2 m2 m3 hj,hr.own b k _ hk,fun b hb=>by cases hb⟩⟩
  ·rw[VR]; trivial
theorem Du (hr:Rel H g w0 w) (a:A) (c:Value) (h:VR H g w a c):VR [] (G0 g.S) w (aF H a) c:=by
 unfold aF
 split
 ·rename_i b
  split
  ·rename_i k ks vs hb
   rw[VR,hb] at h
   obtain ⟨r,h1,h2⟩:=h
   obtain ⟨r',arr,cl,e1,e2,e3,e4⟩:=hr.blk b _ hb
   rw[h1] at e1; cases e1
   rw[VR]
   exact⟨r,arr,cl,h2,⟨hr.own b r 0 h1,fun b hb=>by cases hb⟩,e2,e3,jq (fun _ _ h=>h.1) (fun b o m cl c h=>lC hr 4 b o m cl c h) _ _ e4⟩
  ·rw[VR]; trivial
 ·exact nh (fun _ _ h=>h.1) (fun b o m cl c h=>lC hr 4 b o m cl c h) a c h
theorem bp.Fx {S:ay}:∀ (o:Nat) {cs:List A} {ds:List Value},bp S g w cs ds->bp S g w (cs.drop o) (ds.drop o)
 | 0,_,_,h=>h
 | o+1,[],_,h=>by rw[bp] at h; subst h; rw[List.drop_nil,List.drop_nil,bp]
 | o+1,a :: as,_,h=>by rw[bp] at h; obtain ⟨d,ds',rfl,_,h3⟩:=h; exact bp.Fx o h3
theorem xz (hr:Rel H g w0 w):∀ (n:Nat) (a:A) (c:Value),VR H g w a c->VR [] (G0 g.S) w (gN n H a) c
 | 0,a,_,_=>by rw[show gN 0 H a=.any from rfl,VR]; trivial
 | n+1,a,c,h=>by
  have hm:∀ (cs:List A) (ds:List Value),bp H g w cs ds->bp [] (G0 g.S) w (cs.map (gN n H)) ds:=fun cs=>by
   induction cs with
   | nil=>intro ds h; rw[bp] at h; rw[List.map_nil,bp]; exact h
   | cons a as ih=>intro ds h; rw[bp] at h; obtain ⟨d,ds',h1,h2,h3⟩:=h; rw[List.map_cons,bp]; exact⟨d,ds',h1,xz hr n a d h2,ih ds' h3⟩
  cases a with
  | ptr b o =>
   show VR [] (G0 g.S) w (match H[b]? with | some (.box cs)=>A.ip ((cs.drop o).map (gN n H)) | _=>.any) c
   split
   ·rename_i cs hb
    rw[VR,hb] at h
    obtain ⟨k,h1,rfl⟩:=h
    obtain ⟨k',arr,ty,e1,e2,e3⟩:=hr.blk b _ hb
    rw[h1] at e1; cases e1
    rw[VR]
    refine⟨k,o,arr.toList.drop o,rfl,fun j v hj=>⟨?_,hr.own b k _ h1,fun b hb=>by cases hb⟩,hm _ _ (e3.Fx o)⟩
    rw[cell_of_row w k _ arr ty (0,0) e2]
    rw[List.getElem?_drop] at hj
    simpa using hj
   ·rw[VR]; trivial
  | fn f p q =>
   rw[VR] at h
   obtain ⟨ds,es,h1,h2,h3⟩:=h
   show VR [] (G0 g.S) w (.fn f (p.map (gN n H)) (q.map (gN n H))) c
   rw[VR]
   exact⟨ds,es,h1,hm _ _ h2,hm _ _ h3⟩
  | agg cs =>
   rw[VR] at h
   obtain ⟨ds,h1,h2⟩:=h
   show VR [] (G0 g.S) w (.agg (cs.map (gN n H))) c
   rw[VR]
   exact⟨ds,h1,hm _ _ h2⟩
  | _=>exact nh (fun _ _ h=>h.1) (fun b o m cl c h=>lC hr 4 b o m cl c h) _ c h
theorem uD (hr:Rel H g w0 w) (n:Nat):∀ (cs:List A) (ds:List Value),bp H g w cs ds->bp [] (G0 g.S) w (cs.map (gN n H)) ds
 | [],_,h=>by rw[bp] at h; rw[List.map_nil,bp]; exact h
 | a :: as,_,h=>by rw[bp] at h; obtain ⟨d,ds',h1,h2,h3⟩:=h; rw[List.map_cons,bp]; exact⟨d,ds',h1,xz hr n a d h2,uD hr n as ds' h3⟩
theorem px (hr:Rel H g w0 w) (a:A) (c:Value) (h:VR H g w a c):VR [] (G0 (eX H g)) w (snap H a) c:=nh (fun _ _ h=>h) (fun b o m cl c h=>pv hr 4 b o m cl c h) a c h
theorem xD (hr:Rel H g w0 w) {l:List A} {cs:List Value} (h:bp H g w l cs):bp [] (G0 (eX H g)) w (l.map (snap H)) cs:=by
 obtain ⟨h1,h2⟩:=dE.1 h
 refine dE.2 ⟨by simpa using h1,fun i a d ha hd=>?_⟩
 rw[List.getElem?_map] at ha
 cases hx:l[i]? with
 | none=>rw[hx] at ha; cases ha
 | some x=>rw[hx] at ha; cases ha; exact px hr x d (h2 i x d hx hd)
theorem VR.back {S:Nat->Nat->Prop} {x:A} {c:Value} (hS:∀ k o,S k o->eX H g k o) (h:VR [] (G0 S) w x c):VR H g w x c :=
 VR.eZ (H:=[]) (g:=G0 S) ⟨fun k o _ hs hc=>⟨hc,hS k o hs.1⟩,fun b B hB=>(by simp at hB),fun k arr cl hs hm=>⟨hm,hS k 0 hs.1⟩⟩ x c h
theorem Eb (hr:Rel H g w0 w) {a:A} {c:Value} (h:VR H g w a c):VR H g w (A1 H a) c:=by
 unfold A1
 split
 ·exact VR.back (fun _ _ h=>h) (px hr _ c h)
 ·rw[VR] at h ⊢
  obtain ⟨a,cap,ds,es,h1,h2,_,h4,h5,h6⟩:=h
  exact⟨a,cap,ds,es,h1,h2,fun h=>(by cases h),h4,h5,h6⟩
 ·exact h
theorem wP (hr:Rel H g w0 w):∀ {cs:List A} {ds:List Value},bp H g w cs ds->bp H g w (cs.map (A1 H)) ds
 | [],_,h=>h
 | a :: as,_,h=>by
  rw[bp] at h
  obtain ⟨d,ds',rfl,h1,h2⟩:=h
  rw[List.map_cons,bp]
  exact⟨d,ds',rfl,Eb hr h1,wP hr h2⟩
theorem zP (hr:Rel H g w0 w) {a:A} {c:Value} (h:VR H g w a c):VR H g w (dz H a) c:=by
 unfold dz
 split
 ·exact VR.back (fun _ _ h=>h) (px hr _ c h)
 ·rw[VR] at h ⊢
  obtain ⟨ds,h1,h2⟩:=h
  exact⟨ds,h1,wP hr h2⟩
 ·exact h
theorem G1 (hr:Rel H g w0 w) {b a:A} {c:Value} (h:VR H g w a c):VR H g w (b9 b H a) c:=by
 unfold b9
 split
 ·exact zP hr h
 ·exact h
theorem Ext.refl (hr:Rel H g w0 w):Ext H g w H g w:=Ext.below hr (Below.refl _ _)
theorem Ext.trans {H1 H2 H3:ay} {g1 g2 g3:Gh} {w1 w2 w3:World} (h:Ext H1 g1 w1 H2 g2 w2) (k:Ext H2 g2 w2 H3 g3 w3):Ext H1 g1 w1 H3 g3 w3:=by
 refine⟨fun a o v hs hc=>?_,fun b B hB=>?_,fun a o ho=>k.kept a o (h.kept a o ho),Nat.le_trans h.size k.size,fun a arr cl hs hm=>let ⟨c1,s1⟩:=h.map a arr cl hs hm; k.map a arr cl s1 c1,fun a ha hn=>(k.obj a (Nat.lt_of_lt_of_le ha h.size) fun b hb=>?_).trans (h.obj a ha hn),fun b a hb=>?_⟩
 rotate_right 2
 ·rcases h.fresh b a hb with ⟨c,hc⟩ | hle
  ·exact hn c hc
  ·omega
 ·rcases k.fresh b a hb with ⟨c,hc⟩ | hle
  ·exact h.fresh c a hc
  ·exact .inr (Nat.le_trans h.size hle)
 ·obtain ⟨c1,s1⟩:=h.cell a o v hs hc
  exact k.cell a o v s1 c1
 ·obtain ⟨B2,hB2,t1⟩:=h.blk b B hB
  obtain ⟨B3,hB3,t2⟩:=k.blk b B2 hB2
  refine⟨B3,hB3,?_⟩
  by_cases hB0:B=.hole
  ·subst hB0; trivial
  cases B3 with
  | dead=>cases B with
   | row wr _ _=>cases wr<;>trivial
   | _=>trivial
  | hole=>cases B2 with
   | hole=>cases B with
    | row wr _ _=>cases wr<;>exact False.elim t1
    | hole=>exact absurd rfl hB0
    | _=>exact False.elim t1
   | row wr _ _=>cases wr<;>exact False.elim t2
   | _=>exact False.elim t2
  | box cs3=>cases B2 with
   | box cs2=>cases B with
    | box cs=>exact Eq.trans t2 t1
    | row wr _ _=>cases wr<;>exact False.elim t1
    | rng _=>exact False.elim t1
    | mp _ _ _=>exact False.elim t1
    | dead=>exact False.elim t1
    | hole=>exact absurd rfl hB0
   | row wr _ _=>cases wr<;>exact False.elim t2
   | rng _=>exact False.elim t2
   | mp _ _ _=>exact False.elim t2
   | dead=>exact False.elim t2
   | hole=>cases B with
    | hole=>exact absurd rfl hB0
    | row wr _ _=>cases wr<;>exact False.elim t1
    | _=>exact False.elim t1
  | rng st3=>cases B2 with
   | rng st2=>cases B with
    | rng st=>exact⟨t2.1.trans t1.1,t2.2.trans t1.2⟩
    | row wr _ _=>cases wr<;>exact False.elim t1
    | box _=>exact False.elim t1
    | mp _ _ _=>exact False.elim t1
    | dead=>exact False.elim t1
    | hole=>exact absurd rfl hB0
   | row wr _ _=>cases wr<;>exact False.elim t2
   | box _=>exact False.elim t2
   | mp _ _ _=>exact False.elim t2
   | dead=>exact False.elim t2
   | hole=>cases B with
    | hole=>exact absurd rfl hB0
    | row wr _ _=>cases wr<;>exact False.elim t1
    | _=>exact False.elim t1
  | mp k3 ks3 vs3=>cases B2 with
   | mp k2 ks2 vs2=>cases B with
    | mp _ _ _=>exact Eq.trans t2 t1
    | rng _=>exact False.elim t1
    | row wr _ _=>cases wr<;>exact False.elim t1
    | box _=>exact False.elim t1
    | dead=>exact False.elim t1
    | hole=>exact absurd rfl hB0
   | row wr _ _=>cases wr<;>exact False.elim t2
   | box _=>exact False.elim t2
   | rng _=>exact False.elim t2
   | dead=>exact False.elim t2
   | hole=>cases B with
    | hole=>exact absurd rfl hB0
    | row wr _ _=>cases wr<;>exact False.elim t1
    | _=>exact False.elim t1
  | row wr3 es3 els3=>cases wr3 with
   | true=>cases B2 with
    | box _=>exact False.elim t2
    | rng _=>exact False.elim t2
    | mp _ _ _=>exact False.elim t2
    | dead=>exact False.elim t2
    | hole=>cases B with
     | hole=>exact absurd rfl hB0
     | row wr _ _=>cases wr<;>exact False.elim t1
     | _=>exact False.elim t1
    | row wr2 es2 els2=>cases wr2 with
     | false=>exact False.elim t2
     | true=>cases B with
      | box _=>exact False.elim t1
      | rng _=>exact False.elim t1
      | mp _ _ _=>exact False.elim t1
      | dead=>exact False.elim t1
      | hole=>exact absurd rfl hB0
      | row wr es els=>cases wr with
       | false=>exact False.elim t1
       | true =>
        obtain ⟨a1,a2,a3⟩:=t1
        obtain ⟨b1,b2,b3⟩:=t2
        exact⟨b1.trans a1,b2.trans a2,b3.trans a3⟩
   | false=>cases B2 with
    | box _=>exact False.elim t2
    | rng _=>exact False.elim t2
    | mp _ _ _=>exact False.elim t2
    | dead=>exact False.elim t2
    | hole=>cases B with
     | hole=>exact absurd rfl hB0
     | row wr _ _=>cases wr<;>exact False.elim t1
     | _=>exact False.elim t1
    | row wr2 es2 els2=>cases wr2 with
     | true=>exact False.elim t2
     | false=>cases B with
      | box _=>exact False.elim t1
      | rng _=>exact False.elim t1
      | mp _ _ _=>exact False.elim t1
      | dead=>exact False.elim t1
      | hole=>exact absurd rfl hB0
      | row wr es els=>cases wr with
       | true=>exact False.elim t1
       | false =>
        obtain ⟨a1,⟨r1,a2⟩,a3,a4,a5⟩:=t1
        obtain ⟨b1,⟨r2,b2⟩,b3,b4,b5⟩:=t2
        refine⟨b1.trans a1,⟨r1++r2,by rw[b2,a2,List.append_assoc]⟩,a3,by omega,fun hl=>?_⟩
        obtain ⟨c1,c2⟩:=a5 (by omega)
        obtain ⟨d1,d2⟩:=b5 (by omega)
        refine⟨d1.trans c1,fun j arr ty hj ha=>?_⟩
        obtain ⟨arr',e1,e2⟩:=c2 j arr ty hj ha
        obtain ⟨arr'',f1,f2⟩:=d2 j arr' ty (c1.trans hj) e1
        exact⟨arr'',f1,by omega⟩
structure SR (cx:Cx) (s:St) (g:Gh) (w0:World) (a:Act) (w:World):Prop where
 rel:Rel s.H g w0 w
 fr:∀ t,VR s.H g w (look s.fr t) (a.tmps.getD t undef)
 gl:∀ (G:Nat) (vs:List Value),cx.glob G=some vs->bB s.H g w G 0 vs
variable {cx:Cx} {s:St} {a:Act}
structure sQ (cx:Cx) (s:St) (g:Gh) (w0:World) (o:Op) (ev:Operand->Value) (w:World):Prop where
 rel:Rel s.H g w0 w
 op:∀ x∈o.operands.toList,VR s.H g w (bW cx s x) (ev x)
 k:∀ x,ev (.const x)=x
theorem Ee {G:Nat} {vs:List Value} (h:bB H g w G 0 vs):VR H g w (.ip (vs.map .v)) (.pointer (some ⟨G,0,none⟩)):=by
 rw[VR]
 exact⟨G,0,vs,rfl,h,dE.2 ⟨by simp,fun i x d hx hd=>by rw[List.getElem?_map,hd] at hx; cases hx; rw[VR]⟩⟩
theorem ox {x:Operand} (hf:∀ t,x=.tmp t->VR s.H g w (look s.fr t) (a.tmps.getD t undef)) (gl:∀ (G:Nat) (vs:List Value),cx.glob G=some vs->bB s.H g w G 0 vs):VR s.H g w (bW cx s x) (a.eval x):=by
 cases x with
 | tmp t=>exact hf t rfl
 | const v=>exact ow v
 | global G =>
  show VR s.H g w (match cx.glob G with | some vs=>.ip (vs.map .v) | none=>.any) _
  cases hG:cx.glob G with
  | none=>rw[VR]; trivial
  | some vs=>exact Ee (gl G vs hG)
 | func f =>
  show VR s.H g w (.fn (.func f) [] []) (.func (.func f) #[] #[])
  rw[VR]; exact⟨#[],#[],rfl,by rw[bp],by rw[bp]⟩
theorem SR.NC (h:SR cx s g w0 a w) (o:Op):sQ cx s g w0 o a.eval w:=⟨h.rel,fun _ _=>ox (fun t _=>h.fr t) h.gl,fun _=>rfl⟩
variable {o:Op} {ev:Operand->Value}
theorem sQ.one (h:sQ cx s g w0 o ev w) (x:Operand) (hx:x∈o.operands.toList):VR s.H g w (bW cx s x) (ev x):=h.op x hx
theorem sQ.many (h:sQ cx s g w0 o ev w) (l:List Operand) (hl:∀ x∈l,x∈o.operands.toList):bp s.H g w (l.map (bW cx s)) (l.map ev) :=
 dE.2 ⟨by simp,fun i x d hx hd=>by
  simp only[List.getElem?_map,Option.map_eq_some_iff] at hx hd
  obtain ⟨y,hy,rfl⟩:=hx
  obtain ⟨y',hy',rfl⟩:=hd
  rw[hy] at hy'; cases hy'
  exact h.op y (hl y (List.mem_of_getElem? hy))⟩
theorem sQ.parts (h:sQ cx s g w0 o ev w) (l:Array (Nat×Operand)) (hl:∀ p∈l.toList,p.2∈o.operands.toList):mH s.H g w (l.toList.map fun p=>(p.1,bW cx s p.2)) (l.map fun (i,x)=>(i,ev x)).toList :=
 ⟨by simp,fun i p hp=>by
  simp only[List.getElem?_map,Option.map_eq_some_iff] at hp
  obtain ⟨q,hq,rfl⟩:=hp
  refine⟨(q.1,ev q.2),?_,rfl,h.op _ (hl q (List.mem_of_getElem? hq))⟩
  simp[hq]⟩
theorem sQ.Di (h:sQ cx s g w0 o ev w) (l:Array (Nat×Operand)) (hl:∀ p∈l.toList,p.2∈o.operands.toList):mH s.H g w (l.toList.map fun p=>(p.1,dz s.H (bW cx s p.2))) (l.map fun (i,x)=>(i,ev x)).toList :=
 ⟨by simp,fun i p hp=>by
  simp only[List.getElem?_map,Option.map_eq_some_iff] at hp
  obtain ⟨q,hq,rfl⟩:=hp
  refine⟨(q.1,ev q.2),?_,rfl,zP h.rel (h.op _ (hl q (List.mem_of_getElem? hq)))⟩
  simp[hq]⟩
theorem sQ.opt (h:sQ cx s g w0 o ev w) (x:Option Operand) (hx:∀ y,x=some y->y∈o.operands.toList):Ga s.H g w (x.map (bW cx s)) (x.map ev):=by
 cases x with
 | none=>trivial
 | some x=>exact h.op x (hx x rfl)
theorem ek (fr:List (Nat×A)) (d t:Nat) (x:A):look ((d,x) :: fr) t=if d=t then x else look fr t:=by
 show (bif Nat.beq d t then x else look fr t)=_
 by_cases e:d=t
 ·subst e; simp
 ·have:Nat.beq d t=false:=by cases hb:Nat.beq d t with
   | false=>rfl
   | true=>exact absurd (Nat.eq_of_beq_eq_true hb) e
  rw[this,if_neg e]; rfl
theorem SR.step (h:SR cx s g w0 a w) {H':ay} (hr:Rel H' g' w0 w') (he:Ext s.H g w H' g' w') {dst:Option Nat} {x:A} {c:Value} (hx:VR H' g' w' x c) (hd:∀ d,dst=some d->d<a.tmps.size):SR cx (({ s with H:=H' }:St).put dst x) g' w0 (a.put dst c) w':=by
 have hH:(({ s with H:=H' }:St).put dst x).H=H':=by cases dst<;>rfl
 refine⟨by rw[hH]; exact hr,fun t=>?_,fun G vs hG=>by rw[hH]; exact(h.gl G vs hG).ext he⟩
 rw[hH]
 cases dst with
 | none=>exact VR.ext he _ _ (h.fr t)
 | some d =>
  show VR H' g' w' (look ((d,x) :: s.fr) t) _
  rw[ek]
  by_cases e:d=t
  ·subst e
   rw[if_pos rfl]
   have:=hd d rfl
   simp only[Act.put]
   rw[Array.getD_eq_getD_getElem?,Array.getElem?_setIfInBounds_self_of_lt this]
   exact hx
  ·rw[if_neg e]
   simp only[Act.put]
   rw[Array.getD_eq_getD_getElem?,Array.getElem?_setIfInBounds_ne e,<-Array.getD_eq_getD_getElem?]
   exact VR.ext he _ _ (h.fr t)
def lD (s:St) (g:Gh) (w0 w:World) (lo:Nat) (res:Result Next) (K:A->ay->Prop):Prop :=
 ∃ c w' x H' g',(res=.ok (.value c) w'∨(res=.ok .skip w'/\c=undef))/\K x H'/\Rel H' g' w0 w'/\Ext s.H g w H' g' w'/\VR H' g' w' x c/\s.H.length<=H'.length/\(∀ b,b<lo->b<s.H.length->H'[b]? = s.H[b]?)/\g'.S=g.S
theorem lD.same {lo:Nat} {res:Result Next} {K:A->ay->Prop} (h:Rel s.H g w0 w) {x:A} {c:Value} (hres:res=.ok (.value c) w) (hK:K x s.H) (hx:VR s.H g w x c):lD s g w0 w lo res K :=
 ⟨c,w,x,s.H,g,.inl hres,hK,h,Ext.refl h,hx,Nat.le_refl _,fun _ _ _=>rfl,rfl⟩
theorem lD.fresh {lo:Nat} {res:Result Next} {K:A->ay->Prop} (h:Rel s.H g w0 w) {x:A} {c:Value} (hres:res=.ok (.value c) w') (hb:Below w.heap.size w w') (hK:K x s.H) (hx:VR s.H g w' x c):lD s g w0 w lo res K :=
 ⟨c,w',x,s.H,g,.inl hres,hK,h.eE hb,Ext.below h hb,hx,Nat.le_refl _,fun _ _ _=>rfl,rfl⟩
theorem lD.j0 {lo:Nat} {res:Result Value} {res':Result Next} {K:A->ay->Prop} {x:A} {H':ay} (h:Step s.H g w0 w lo res x H') (hres:∀ d w',res=.ok d w'->res'=.ok (.value d) w') (hK:K x H'):lD s g w0 w lo res' K :=
 let ⟨d,w',g',e1,e2,e3,e4,e5,e6,e7⟩:=h; ⟨d,w',x,H',g',.inl (hres d w' e1),hK,e2,e3,e4,e5,e6,e7⟩
theorem hX {P:Program} {sem:Sem Value} {d:Value} (h:sem.run P w=.ok d w'):(do pure (.value (<-sem)):Sem Next).run P w=.ok (.value d) w':=by simp[h]
theorem pJ {P:Program} {mn:Bool}:∀ {ys:List A} {ds:List Value} {x z:A} {c:Value},Gb mn x ys=some z->VR H g w x c->bp H g w ys ds->∃ d,(ds.foldlM (if mn then Builtin.min2 else Builtin.max2) c).run P w=.ok d w/\VR H g w z d
 | [],ds,x,z,c,h,hx,hy=>by
  rw[bp] at hy
  subst hy
  simp only[Gb,Option.some.injEq] at h
  subst h
  exact⟨c,by simp,hx⟩
 | y :: r,ds,x,z,c,h,hx,hy=>by
  rw[bp] at hy
  obtain ⟨d,ds',rfl,hy1,hy2⟩:=hy
  simp only[Gb] at h
  obtain ⟨u,h1,h2⟩:=bt h
  unfold zs at h1
  split at h1
  ·rename_i k p l q
   obtain ⟨h3,h4⟩:=bf h1
   cases h4
   rw[VR] at hx hy1
   subst hx; subst hy1
   have hu:VR H g w (.v (.int k (if mn=true then (if q<p then q else p) else (if p<q then q else p)))) (.int k (if mn=true then (if q<p then q else p) else (if p<q then q else p))):=by rw[VR]
   obtain ⟨e,e1,e2⟩:=pJ (P:=P) h2 hu hy2
   refine⟨e,?_,e2⟩
   rw[List.foldlM_cons,Sem.run_bind]
   cases mn
   ·simp only[Bool.false_eq_true,if_false] at e1 ⊢
    simp only[Builtin.max2,gt_iff_lt,Sem.run_pure,Result.andThen_ok]
    exact e1
   ·simp only[if_true] at e1 ⊢
    simp only[Builtin.min2,Sem.run_pure,Result.andThen_ok]
    exact e1
  ·cases h1
theorem oO {l:Array Operand} {xs:List Operand} (h:l.toList=xs):l=xs.toArray:=by rw[<-h]
theorem yn {β:Type} {f lo:Nat} {o:Oper} {c:Call} {k:A->ay->Option β} {r:β} (hs:sQ cx s g w0 (.call c) ev w) (h:oY cx f lo o.dst c s k=some r):lD s g w0 w lo ((do let d <-resolve ev c o.type; invoke d.target d.args:Sem Next).run cx.P w) (fun x H'=>k x H'=some r):=by
 unfold oY at h
 obtain ⟨callee,args,argTypes⟩:=c
 simp only at h
 split at h
 ·rename_i x t e1 e2
  cases oO e1
  have ht:argTypes=#[t]:=by rw[<-Array.toArray_toList (xs:=argTypes),e2]
  subst ht
  replace h:=bt h
  obtain ⟨z,h1,h⟩:=h
  obtain ⟨d,e1,e2⟩:=xZ (ty:=o.type) h1 (hs.one x (by simp[Op.operands,Call.operands]))
  exact lD.same hs.rel (by simp[resolve,invoke,builtin,e1]) h e2
 ·rename_i x y t t2 e1 e2
  cases oO e1
  have ht:argTypes=#[t,t2]:=by rw[<-Array.toArray_toList (xs:=argTypes),e2]
  subst ht
  replace h:=bt h
  obtain ⟨⟨z,H'⟩,h1,h⟩:=h
  exact lD.j0 (sU (ty:=o.type) hs.rel h1 (hs.one x (by simp[Op.operands,Call.operands])) (hs.one y (by simp[Op.operands,Call.operands]))) (fun d w' e=>by simp[resolve,invoke,builtin,e]) h
 ·rename_i x y t t2 e1 e2
  cases oO e1
  have ht:argTypes=#[t,t2]:=by rw[<-Array.toArray_toList (xs:=argTypes),e2]
  subst ht
  replace h:=bt h
  obtain ⟨⟨z,H'⟩,h1,h⟩:=h
  exact lD.j0 (v9 (t2:=t2) (ty:=o.type) hs.rel h1 (hs.one x (by simp[Op.operands,Call.operands])) (hs.one y (by simp[Op.operands,Call.operands]))) (fun d w' e=>by simp[resolve,invoke,builtin,e]) h
 ·rename_i x r e1
  cases oO e1
  replace h:=bt h
  obtain ⟨z,h1,h⟩:=h
  obtain ⟨d,e1,e2⟩:=pJ (P:=cx.P) h1 (hs.one x (by simp[Op.operands,Call.operands])) (hs.many r (by simp[Op.operands,Call.operands]; exact fun y hy=>.inr hy))
  simp only[if_true] at e1
  exact lD.same hs.rel (by simp[resolve,invoke,builtin,Builtin.min_,e1]) h e2
 ·rename_i x r e1
  cases oO e1
  replace h:=bt h
  obtain ⟨z,h1,h⟩:=h
  obtain ⟨d,e1,e2⟩:=pJ (P:=cx.P) h1 (hs.one x (by simp[Op.operands,Call.operands])) (hs.many r (by simp[Op.operands,Call.operands]; exact fun y hy=>.inr hy))
  simp only[Bool.false_eq_true,if_false] at e1
  exact lD.same hs.rel (by simp[resolve,invoke,builtin,Builtin.max_,e1]) h e2
 ·cases h
theorem AG {P:Program} {H:ay} {t:TypeId} {op:BinOp} {p y:Operand} {x z:A} {c d:Value} (hn:GG op y=true) (h:KX P t x=some z) (hx:VR H g w x c) (hd:∀ v,y=.const v->d=v) :
  ∃ e,(do eqGuard op t p y c d; binOp op t c d:Sem Value).run P w=.ok e w/\VR H g w z e:=by
 unfold GG at hn
 split at hn
 ·have hd:=hd _ rfl
  subst hd
  unfold KX at h
  split at h
  ·rename_i e els cl hu
   cases h
   rw[VR] at hx
   obtain ⟨a,cap,ds,es,rfl,h1,h2,h3,h4,h5⟩:=hx
   have hem:a.isNone=true->els=[]:=fun hb=>by
    cases els with
    | nil=>rfl
    | cons x l =>
     obtain ⟨k,off,e1,_⟩:=h4 (by simp)
     rw[e1] at hb; cases hb
   refine⟨.bool a.isNone,?_,by rw[VR]; exact⟨_,rfl,hem⟩⟩
   ·have h1:=Lib.run_eql_slice_nil (P:=P) w t e a els.length cap 0 0 hu
    have h2:(eqGuard .eql t p (.const (.slice none 0 0)) (.slice a els.length cap) (.slice none 0 0)).run P w=.ok () w:=by cases a<;>rfl
    simp only[Sem.run_bind,h2,Result.andThen_ok,h1]
  ·cases h
 ·cases hn
theorem yR {H:ay} {a:A} {c:Value} (h:p5 H a=true) (hv:VR H g w a c):(∃ ad,c=.pointer (some ad))∨∃ f x y,c=.func (.func f) x y:=by
 cases a with
 | ptr b o =>
  rw[VR] at hv
  simp only[p5,fo] at h
  cases hb:H[b]? with
  | none=>rw[hb] at h; cases h
  | some B=>cases B with
   | box _=>rw[hb] at hv; obtain ⟨k,_,e⟩:=hv; exact .inl ⟨_,e⟩
   | _=>rw[hb] at h; cases h
 | ep b i o =>
  rw[VR] at hv
  simp only[p5,fo] at h
  cases hb:H[b]? with
  | none=>rw[hb] at h; cases h
  | some B=>cases B with
   | row wr _ _=>cases wr with
    | true=>rw[hb] at hv; obtain ⟨_,k,_,e⟩:=hv; exact .inl ⟨_,e⟩
    | false=>rw[hb] at h; cases h
   | _=>rw[hb] at h; cases h
 | ip cs=>rw[VR] at hv; obtain ⟨_,_,_,e,_⟩:=hv; exact .inl ⟨_,e⟩
 | fn f x y=>cases f with
  | func k=>rw[VR] at hv; obtain ⟨_,_,e,_⟩:=hv; exact .inr ⟨_,_,_,e⟩
  | _=>cases h
 | _=>cases h
theorem jW {β:Type} {f lo:Nat} {o:Oper} {k:A->ay->Option β} {r:β} (hs:sQ cx s g w0 o.op ev w) (h:bF cx f lo o s k=some r):lD s g w0 w lo ((execOp ev o).run cx.P w) (fun x H'=>k x H'=some r):=by
 unfold bF at h
 unfold execOp
 split at h
 ·rename_i x ho
  rw[ho] at hs ⊢; exact lD.same hs.rel rfl h (hs.one x (by simp[Op.operands]))
 ·rename_i x ho
  rw[ho] at hs ⊢; exact lD.same hs.rel rfl h (hs.one x (by simp[Op.operands]))
 ·rename_i t ho
  rw[ho] at hs ⊢
  replace h:=bt h
  obtain ⟨⟨y,H'⟩,h1,h⟩:=h
  unfold n0 at h1
  rw[br] at h1
  split at h1
  ·exact lD.j0 (sS hs.rel lo h1) (fun d w' e=>hX e) h
  exact lD.j0 (uI hs.rel lo h1) (fun d w' e=>hX e) h
 ·rename_i t x ho
  rw[ho] at hs ⊢
  replace h:=bt h
  obtain ⟨⟨y,H'⟩,h1,h⟩:=h
  unfold yd at h1
  rw[br] at h1
  split at h1
  ·exact lD.j0 (v5 hs.rel lo h1 (hs.one x (by simp[Op.operands]))) (fun d w' e=>hX e) h
  exact lD.j0 (xV hs.rel lo h1 (hs.one x (by simp[Op.operands]))) (fun d w' e=>hX e) h
 ·rename_i t parts ho
  rw[ho] at hs ⊢
  replace h:=bt h
  obtain ⟨y,h1,h⟩:=h
  obtain ⟨d,e1,e2⟩:=uK h1 (hs.parts parts (by simp[Op.operands]; exact fun a b h=>⟨a,h⟩))
  exact lD.same hs.rel (hX e1) h e2
 ·rename_i t n parts ho
  rw[ho] at hs ⊢
  replace h:=bt h
  obtain ⟨y,h1,h⟩:=h
  obtain ⟨d,w',e1,e2,e3⟩:=oJ hs.rel h1 (hs.Di parts (by simp[Op.operands]; exact fun a b h=>⟨a,h⟩))
  exact lD.fresh hs.rel (hX e1) e2 h e3
 ·rename_i t x ho
  rw[ho] at hs ⊢
  replace h:=bt h
  obtain ⟨y,h1,h⟩:=h
  obtain ⟨d,e1,e2⟩:=qm hs.rel h1 (hs.one x (by simp[Op.operands]))
  exact lD.same hs.rel (hX e1) h e2
 ·rename_i t x y ho
  rw[ho] at hs ⊢
  replace h:=bt h
  obtain ⟨H',h1,h⟩:=h
  obtain ⟨w',e1,e2,e3,e4,e5⟩:=uP hs.rel h1 (hs.one x (by simp[Op.operands])) (G1 hs.rel (hs.one y (by simp[Op.operands])))
  exact⟨undef,w',.any,H',g,.inr ⟨by simp[e1],rfl⟩,h,e2,e3,by rw[VR]; trivial,e4,e5,rfl⟩
 ·rename_i op t x y t2 ho
  rw[ho] at hs ⊢
  replace h:=bt h
  obtain ⟨z,h1,h⟩:=h
  unfold HM at h1
  rw[br] at h1
  split at h1
  ·rename_i hn
   obtain ⟨d,e1,e2⟩:=AG (p:=x) (d:=ev y) hn h1 (hs.one x (by simp[Op.operands])) (fun v hv=>by subst hv; exact hs.k v)
   exact lD.same hs.rel (hX e1) h e2
  obtain ⟨d,e1,e2⟩:=xU (p:=x) (q:=y) h1 (hs.one x (by simp[Op.operands])) (hs.one y (by simp[Op.operands]))
  exact lD.same hs.rel (hX e1) h e2
 ·rename_i op t x ho
  rw[ho] at hs ⊢
  replace h:=bt h
  obtain ⟨z,h1,h⟩:=h
  obtain ⟨d,e1,e2⟩:=AH h1 (hs.one x (by simp[Op.operands]))
  exact lD.same hs.rel (hX e1) h e2
 ·rename_i t u x ho
  rw[ho] at hs ⊢
  replace h:=bt h
  obtain ⟨z,h1,h⟩:=h
  obtain ⟨d,w',e1,e2,e3⟩:=qV hs.rel h1 (hs.one x (by simp[Op.operands]))
  exact lD.fresh hs.rel (hX e1) e2 h e3
 ·rename_i t x ho
  rw[ho] at hs ⊢
  replace h:=bt h
  obtain ⟨z,h1,h⟩:=h
  obtain ⟨d,e1,e2⟩:=xY h1 (hs.one x (by simp[Op.operands]))
  exact lD.same hs.rel (hX e1) h e2
 ·rename_i fn p q ho
  rw[ho] at hs ⊢
  refine lD.same hs.rel (c:=.func fn (p.map ev) (q.map ev)) (by simp[Instr.makeFunc]) h ?_
  rw[VR]
  refine⟨_,_,rfl,?_,?_⟩
  ·rw[Array.toList_map]; exact hs.many _ (by simp[Op.operands]; intro x hx; simp[hx])
  ·rw[Array.toList_map]; exact hs.many _ (by simp[Op.operands]; intro x hx; simp[hx])
 ·rename_i t n c ho
  rw[ho] at hs ⊢
  replace h:=bt h
  obtain ⟨⟨y,H'⟩,h1,h⟩:=h
  unfold ug at h1
  rw[br] at h1
  split at h1
  ·obtain ⟨rfl,d,w',e1,e2,e3⟩:=qX hs.rel h1 (hs.one n (by simp[Op.operands])) (hs.one c (by simp[Op.operands]))
   exact lD.fresh hs.rel (hX e1) e2 h e3
  exact lD.j0 (pK hs.rel lo h1 (hs.one n (by simp[Op.operands])) (hs.one c (by simp[Op.operands]))) (fun d w' e=>hX e) h
 ·rename_i t x lo' hi mx ho
  rw[ho] at hs ⊢
  replace h:=bt h
  obtain ⟨z,h1,h⟩:=h
  replace h1:=bf h1
  obtain ⟨hhm,h1⟩:=h1
  obtain ⟨d,e1,e2⟩:=uO hs.rel h1 (hs.one x (by simp[Op.operands])) (hs.opt lo' (by rintro y rfl; simp[Op.operands])) (hs.opt hi (by rintro y rfl; simp[Op.operands])) (hs.opt mx (by rintro y rfl; simp[Op.operands])) (by cases mx<;>cases hi<;>simp at hhm ⊢)
  exact lD.same hs.rel (hX e1) h e2
 ·rename_i t x i ho
  rw[ho] at hs ⊢
  replace h:=bt h
  obtain ⟨z,h1,h⟩:=h
  obtain ⟨d,e1,e2⟩:=pH h1 (hs.one x (by simp[Op.operands]))
  exact lD.same hs.rel (hX e1) h e2
 ·rename_i t x i ho
  rw[ho] at hs ⊢
  replace h:=bt h
  obtain ⟨z,h1,h⟩:=h
  obtain ⟨d,e1,e2⟩:=uL h1 (hs.one x (by simp[Op.operands]))
  exact lD.same hs.rel (hX e1) h e2
 ·rename_i t x i ho
  rw[ho] at hs ⊢
  replace h:=bt h
  obtain ⟨z,h1,h⟩:=h
  obtain ⟨d,e1,e2⟩:=pI hs.rel h1 (hs.one x (by simp[Op.operands])) (hs.one i (by simp[Op.operands]))
  exact lD.same hs.rel (hX e1) h e2
 ·rename_i t x i ho
  rw[ho] at hs ⊢
  replace h:=bt h
  obtain ⟨z,h1,h⟩:=h
  obtain ⟨d,e1,e2⟩:=uN h1 (hs.one x (by simp[Op.operands])) (hs.one i (by simp[Op.operands]))
  exact lD.same hs.rel (hX e1) h e2
 ·rename_i x i ho
  rw[ho] at hs ⊢
  replace h:=bt h
  obtain ⟨z,h1,h⟩:=h
  obtain ⟨d,e1,e2⟩:=qW h1 (hs.one x (by simp[Op.operands]))
  exact lD.same hs.rel (hX e1) h e2
 ·rename_i x ho
  rw[ho] at hs ⊢
  obtain ⟨y,h1,h⟩:=bt h
  obtain ⟨hn,e0⟩:=bf h1
  cases e0
  have hv:=hs.one x (by simp[Op.operands])
  refine lD.same hs.rel (c:=ev x) ?_ h hv
  rcases yR hn hv with ⟨ad,e⟩ | ⟨f,a,b,e⟩
  ·simp only[e]; rfl
  ·simp only[e]; rfl
 ·rename_i t ho
  rw[ho] at hs ⊢
  replace h:=bt h
  obtain ⟨⟨y,H'⟩,h1,h⟩:=h
  exact lD.j0 (qY hs.rel lo h1) (fun d w' e=>hX e) h
 ·rename_i t m i x ho
  rw[ho] at hs ⊢
  replace h:=bt h
  obtain ⟨H',h1,h⟩:=h
  obtain ⟨w',e1,e2,e3,e4,e5⟩:=nR hs.rel h1 (hs.one m (by simp[Op.operands])) (hs.one i (by simp[Op.operands])) (hs.one x (by simp[Op.operands]))
  exact⟨undef,w',.any,H',g,.inr ⟨by simp[e1],rfl⟩,h,e2,e3,by rw[VR]; trivial,e4,e5,rfl⟩
 ·rename_i t m i x ho
  rw[ho] at hs ⊢
  replace h:=bt h
  obtain ⟨H',h1,h⟩:=h
  obtain ⟨w',e1,e2,e3,e4,e5⟩:=nR hs.rel h1 (hs.one m (by simp[Op.operands])) (hs.one i (by simp[Op.operands])) (hs.one x (by simp[Op.operands]))
  exact⟨undef,w',.any,H',g,.inr ⟨by simp[e1],rfl⟩,h,e2,e3,by rw[VR]; trivial,e4,e5,rfl⟩
 ·rename_i t m i c ho
  rw[ho] at hs ⊢
  replace h:=bt h
  obtain ⟨z,h1,h⟩:=h
  obtain ⟨d,e1,e2⟩:=sW hs.rel h1 (hs.one m (by simp[Op.operands])) (hs.one i (by simp[Op.operands]))
  exact lD.same hs.rel (hX e1) h e2
 ·rename_i x t u c ho
  rw[ho] at hs ⊢
  replace h:=bt h
  obtain ⟨z,h1,h⟩:=h
  obtain ⟨d,e1,e2⟩:=sV h1 (hs.one x (by simp[Op.operands]))
  exact lD.same hs.rel (hX e1) h e2
 ·rename_i c ho
  rw[ho] at hs ⊢
  exact yn hs h
 ·cases h
end
end Go.Proofs.Ytdmgdjnadbakfaa
