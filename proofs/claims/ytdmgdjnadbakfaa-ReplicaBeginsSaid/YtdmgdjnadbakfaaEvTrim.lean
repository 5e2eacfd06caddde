/-
 Blocks that are no more looked at are let go.
-/
import Derived.Test.YtdmgdjnadbakfaaEvCode
namespace Go.Proofs.Ytdmgdjnadbakfaa
open Go.RowKit
variable {H H':Heap} {g g':Gh} {w0 w w':World}
theorem ult {b:Nat} {H:Heap} {B:Blk} (h:H[b]? = some B):decide (b<H.length)=true:=decide_eq_true (List.getElem?_eq_some_iff.1 h).1
mutual
theorem VR.under:∀ (a:A) (c:Value),VR H g w a c->A.under H.length a=true
 | .any,_,_=>rfl
 | .v _,_,_=>rfl
 | .ptr b o,c,h=>by
  rw[VR] at h
  cases hb:H[b]? with
  | none=>rw[hb] at h; exact h.elim
  | some B=>exact ult hb
 | .ep b i o,c,h=>by
  rw[VR] at h
  cases hb:H[b]? with
  | none=>rw[hb] at h; exact h.elim
  | some B=>exact ult hb
 | .ip cs,c,h=>by rw[VR] at h; obtain ⟨_,_,ds,_,_,h3⟩:=h; rw[A.under]; exact VRs.under cs ds h3
 | .imm els cl,c,h=>by rw[VR] at h; obtain ⟨_,_,ds,_,_,_,_,_,_,h6⟩:=h; rw[A.under]; exact VRss.under els ds h6
 | .sl b o n cl,c,h=>by
  rw[VR] at h
  cases hb:H[b]? with
  | none=>rw[hb] at h; exact h.elim
  | some B=>exact ult hb
 | .nq _,_,_=>rfl
 | .mr b,c,h=>by
  rw[VR] at h
  cases hb:H[b]? with
  | none=>rw[hb] at h; exact h.elim
  | some B=>exact ult hb
 | .mv k ks vs,c,h=>by rw[VR] at h; obtain ⟨_,_,_,_,_,_,_,h5⟩:=h; rw[A.under]; exact VRs.under vs _ h5
 | .yld b,c,h=>by
  rw[VR] at h
  cases hb:H[b]? with
  | none=>rw[hb] at h; exact h.elim
  | some B=>exact ult hb
 | .agg cs,c,h=>by rw[VR] at h; obtain ⟨ds,_,h2⟩:=h; rw[A.under]; exact VRs.under cs _ h2
 | .tup cs,c,h=>by rw[VR] at h; obtain ⟨ds,_,h2⟩:=h; rw[A.under]; exact VRs.under cs _ h2
 | .fn f p q,c,h=>by rw[VR] at h; obtain ⟨ds,es,_,h2,h3⟩:=h; rw[A.under,VRs.under p _ h2,VRs.under q _ h3]; rfl
 | .ifc t x,c,h=>by rw[VR] at h; obtain ⟨d,_,h2⟩:=h; rw[A.under]; exact VR.under x d h2
theorem VRs.under:∀ (cs:List A) (ds:List Value),VRs H g w cs ds->unders H.length cs=true
 | [],_,_=>rfl
 | a :: as,_,h=>by rw[VRs] at h; obtain ⟨d,ds',_,h2,h3⟩:=h; rw[unders,VR.under a d h2,VRs.under as ds' h3]; rfl
theorem VRss.under:∀ (cs:List (List A)) (ds:List (List Value)),VRss H g w cs ds->underss H.length cs=true
 | [],_,_=>rfl
 | a :: as,_,h=>by rw[VRss] at h; obtain ⟨d,ds',_,h2,h3⟩:=h; rw[underss,VRs.under a d h2,VRss.under as ds' h3]; rfl
end
theorem BlkR.under {b:Nat} {B:Blk} (h:BlkR H g w b B):B.under H.length=true:=by
 cases B with
 | box cs=>obtain ⟨_,_,_,_,_,h3⟩:=h; exact VRs.under cs _ h3
 | row wr es els=>cases wr with
  | true=>obtain ⟨ds,h1,_⟩:=h; exact VRss.under els ds h1
  | false=>exact VRss.under els _ h.1
 | rng _=>rfl
 | mp _ _ _=>obtain ⟨_,_,_,_,_,_,h4⟩:=h; exact VRs.under _ _ h4
 | dead=>rfl
 | hole=>rfl
structure Agree (L:Nat) (H:Heap) (g:Gh) (H':Heap) (g':Gh):Prop where
 stab:∀ k o,Stab H g k o->Stab H' g' k o
 blk:∀ b,b<L->H'[b]? = H[b]?
 mu:∀ (b:Nat) (B:Blk),b<L->H[b]? = some B->g'.mu b=g.mu b
 ga:∀ (b es:Nat) (els:List (List A)),b<L->H[b]? = some (.row false es els)->g'.ga b=g.ga b
 lr:∀ (b:Nat) (st:RSt),b<L->H[b]? = some (.rng st)->g'.lr b=g.lr b
theorem CellsAt.to {L:Nat} (ha:Agree L H g H' g') {k off:Nat} {ds:List Value} (h:CellsAt H g w k off ds):CellsAt H' g' w k off ds:=fun j v hj=>⟨(h j v hj).1,ha.stab _ _ (h j v hj).2⟩
mutual
theorem VR.to {L:Nat} (ha:Agree L H g H' g'):∀ (a:A) (c:Value),A.under L a=true->VR H g w a c->VR H' g' w a c
 | .any,_,_,_=>by rw[VR]; trivial
 | .v x,c,_,h=>by rw[VR] at h ⊢; exact h
 | .ptr b o,c,hu,h=>by
  rw[A.under] at hu
  have hu:=of_decide_eq_true hu
  rw[VR] at h ⊢
  rw[ha.blk b hu]
  cases hb:H[b]? with
  | none=>rw[hb] at h; exact h
  | some B =>
   rw[hb] at h
   have hm:=ha.mu b B hu hb
   cases B with
   | box _=>obtain ⟨k,h1,h2⟩:=h; exact⟨k,hm.trans h1,h2⟩
   | _=>exact h
 | .ep b i o,c,hu,h=>by
  rw[A.under] at hu
  have hu:=of_decide_eq_true hu
  rw[VR] at h ⊢
  rw[ha.blk b hu]
  cases hb:H[b]? with
  | none=>rw[hb] at h; exact h
  | some B =>
   rw[hb] at h
   have hm:=ha.mu b B hu hb
   cases B with
   | row wr es els=>cases wr with
    | true=>obtain ⟨h0,k,h1,h2⟩:=h; exact⟨h0,k,hm.trans h1,h2⟩
    | false=>exact h
   | _=>exact h
 | .ip cs,c,hu,h=>by
  rw[A.under] at hu
  rw[VR] at h ⊢
  obtain ⟨k,off,ds,h1,h2,h3⟩:=h
  exact⟨k,off,ds,h1,h2.to ha,VRs.to ha cs ds hu h3⟩
 | .imm els cl,c,hu,h=>by
  rw[A.under] at hu
  rw[VR] at h ⊢
  obtain ⟨a,cap,ds,es,h1,h2,h3,h4,h5,h6⟩:=h
  exact⟨a,cap,ds,es,h1,h2,h3,h4,fun hp=>let ⟨k,off,e1,e2⟩:=h5 hp; ⟨k,off,e1,e2.to ha⟩,VRss.to ha els ds hu h6⟩
 | .sl b o n cl,c,hu,h=>by
  rw[A.under] at hu
  have hu:=of_decide_eq_true hu
  rw[VR] at h ⊢
  rw[ha.blk b hu]
  cases hb:H[b]? with
  | none=>rw[hb] at h; exact h
  | some B =>
   rw[hb] at h
   have hm:=ha.mu b B hu hb
   cases B with
   | row wr es els=>cases wr with
    | true =>
     obtain ⟨h0,a,cap,h1,h2,h3,h4⟩:=h
     exact⟨h0,a,cap,h1,h2,h3,fun hp=>let ⟨k,e1,e2⟩:=h4 hp; ⟨k,hm.trans e1,e2⟩⟩
    | false =>
     obtain ⟨h0,a,cap,h1,h2,h3,h4,h5⟩:=h
     exact⟨h0,a,cap,h1,h2,h3,fun hp=>let ⟨k,off,e1,e2⟩:=h4 hp; ⟨k,off,e1,by rw[ha.ga b es els hu hb]; exact e2.to ha⟩,fun p q r t=>let ⟨k,arr,ty,e1,e2,e3,e4⟩:=h5 p q r t; ⟨k,arr,ty,hm.trans e1,e2,e3,e4⟩⟩
   | _=>exact h
 | .nq _,c,hu,h=>by rw[VR] at h ⊢; exact h
 | .mr b,c,hu,h=>by
  rw[A.under] at hu
  have hu:=of_decide_eq_true hu
  rw[VR] at h ⊢
  rw[ha.blk b hu]
  cases hb:H[b]? with
  | none=>rw[hb] at h; exact h
  | some B =>
   rw[hb] at h
   have hm:=ha.mu b B hu hb
   cases B with
   | mp _ _ _=>obtain ⟨k,e1,e2⟩:=h; exact⟨k,hm.trans e1,e2⟩
   | _=>exact h
 | .mv k ks vs,c,hu,h=>by
  rw[A.under] at hu
  rw[VR] at h ⊢
  obtain ⟨r,arr,cl,h1,h2,h3,h4,h5⟩:=h
  exact⟨r,arr,cl,h1,ha.stab _ _ h2,h3,h4,VRs.to ha vs _ hu h5⟩
 | .yld b,c,hu,h=>by
  rw[A.under] at hu
  have hu:=of_decide_eq_true hu
  rw[VR] at h ⊢
  rw[ha.blk b hu]
  cases hb:H[b]? with
  | none=>rw[hb] at h; exact h
  | some B =>
   rw[hb] at h
   have hm:=ha.mu b B hu hb
   cases B with
   | rng _=>obtain ⟨k,e1,e2⟩:=h; exact⟨k,hm.trans e1,e2⟩
   | _=>exact h
 | .agg cs,c,hu,h=>by
  rw[A.under] at hu
  rw[VR] at h ⊢
  obtain ⟨ds,h1,h2⟩:=h
  exact⟨ds,h1,VRs.to ha cs _ hu h2⟩
 | .tup cs,c,hu,h=>by
  rw[A.under] at hu
  rw[VR] at h ⊢
  obtain ⟨ds,h1,h2⟩:=h
  exact⟨ds,h1,VRs.to ha cs _ hu h2⟩
 | .fn f p q,c,hu,h=>by
  rw[A.under,Bool.and_eq_true] at hu
  rw[VR] at h ⊢
  obtain ⟨ds,es,h1,h2,h3⟩:=h
  exact⟨ds,es,h1,VRs.to ha p _ hu.1 h2,VRs.to ha q _ hu.2 h3⟩
 | .ifc t x,c,hu,h=>by
  rw[A.under] at hu
  rw[VR] at h ⊢
  obtain ⟨d,h1,h2⟩:=h
  exact⟨d,h1,VR.to ha x d hu h2⟩
theorem VRs.to {L:Nat} (ha:Agree L H g H' g'):∀ (cs:List A) (ds:List Value),unders L cs=true->VRs H g w cs ds->VRs H' g' w cs ds
 | [],_,_,h=>by rw[VRs] at h ⊢; exact h
 | a :: as,_,hu,h=>by
  rw[unders,Bool.and_eq_true] at hu
  rw[VRs] at h ⊢
  obtain ⟨d,ds',h1,h2,h3⟩:=h
  exact⟨d,ds',h1,VR.to ha a d hu.1 h2,VRs.to ha as ds' hu.2 h3⟩
theorem VRss.to {L:Nat} (ha:Agree L H g H' g'):∀ (cs:List (List A)) (ds:List (List Value)),underss L cs=true->VRss H g w cs ds->VRss H' g' w cs ds
 | [],_,_,h=>by rw[VRss] at h ⊢; exact h
 | a :: as,_,hu,h=>by
  rw[underss,Bool.and_eq_true] at hu
  rw[VRss] at h ⊢
  obtain ⟨d,ds',h1,h2,h3⟩:=h
  exact⟨d,ds',h1,VRs.to ha a d hu.1 h2,VRss.to ha as ds' hu.2 h3⟩
end
theorem BlkR.to {L:Nat} (ha:Agree L H g H' g') {b:Nat} {B:Blk} (hb:b<L) (hB:H[b]? = some B) (hu:B.under L=true) (h:BlkR H g w b B):BlkR H' g' w b B:=by
 have hm:=ha.mu b B hb hB
 cases B with
 | box cs=>obtain ⟨k,arr,ty,h1,h2,h3⟩:=h; exact⟨k,arr,ty,hm.trans h1,h2,VRs.to ha cs _ hu h3⟩
 | row wr es els=>cases wr with
  | true=>obtain ⟨ds,h1,h2,h3⟩:=h; exact⟨ds,VRss.to ha els _ hu h1,h2,fun hp=>let ⟨k,arr,ty,e1,e2⟩:=h3 hp; ⟨k,arr,ty,hm.trans e1,e2⟩⟩
  | false =>
   have hga:=ha.ga b es els hb hB
   exact⟨by rw[hga]; exact VRss.to ha els _ hu h.1,by rw[hga]; exact h.2⟩
 | rng st=>obtain ⟨k,h1,h2⟩:=h; exact⟨k,hm.trans h1,by rw[ha.lr b st hb hB]; exact h2⟩
 | mp _ _ _=>obtain ⟨k,arr,cl,h1,h2,h3,h4⟩:=h; exact⟨k,arr,cl,hm.trans h1,h2,h3,VRs.to ha _ _ hu h4⟩
 | dead=>exact hm.trans h
 | hole=>exact hm.trans h
theorem Rel.back (hr:Rel H g w0 w) (hr':Rel H' g' w0 w') (he:Ext H g w H' g' w') (hst:g'.S=g.S) (hlow:∀ b,b<H.length->H'[b]? = H[b]?):Rel H g w0 w'/\Ext H g w H g w'/\Agree H.length H' g' H g:=by
 have hbt:∀ (b:Nat) (B:Blk),H[b]? = some B->BT g w g' w' b B B:=fun b B hB=>by
  obtain ⟨B',hB',ht⟩:=he.blk b B hB
  rw[hlow b (List.getElem?_eq_some_iff.1 hB).1,hB] at hB'
  cases hB'
  exact ht
 have hmu:∀ (b:Nat) (B:Blk),H[b]? = some B->g'.mu b=g.mu b:=fun b B hB=>by
  have ht:=hbt b B hB
  cases B with
  | box _=>exact ht
  | row wr es els=>cases wr with
   | true=>exact ht.2.2
   | false=>exact(ht.2.2.2.2 rfl).1
  | rng _=>exact ht.1
  | mp _ _ _=>exact ht
  | dead =>
   have h1:g.mu b=none:=hr.blk b _ hB
   have h2:g'.mu b=none:=hr'.blk b .dead (by rw[hlow b (List.getElem?_eq_some_iff.1 hB).1]; exact hB)
   rw[h1,h2]
  | hole =>
   have h1:g.mu b=none:=hr.blk b _ hB
   have h2:g'.mu b=none:=hr'.blk b .hole (by rw[hlow b (List.getElem?_eq_some_iff.1 hB).1]; exact hB)
   rw[h1,h2]
 have hga:∀ (b es:Nat) (els:List (List A)),H[b]? = some (.row false es els)->g'.ga b=g.ga b:=fun b es els hB=>by
  obtain ⟨_,⟨r,e1⟩,e2,_,_⟩:=hbt b _ hB
  have h2:=(hr'.blk b _ (by rw[hlow b (List.getElem?_eq_some_iff.1 hB).1]; exact hB)).len
  rw[e1,List.length_append,e2] at h2
  have:r=[]:=List.eq_nil_of_length_eq_zero (by omega)
  rw[e1,this,List.append_nil]
 have ag:Agree H.length H' g' H g:=by
  refine⟨fun k o hs=>⟨hst ▸ hs.1,fun b hb=>?_⟩,fun b hb=>(hlow b hb).symm,fun b B hb hB=>(hmu b B (by rw[<-hlow b hb]; exact hB)).symm,fun b es els hb hB=>(hga b es els (by rw[<-hlow b hb]; exact hB)).symm,fun b st hb hB=>(show g'.mu b=g.mu b/\g'.lr b=g.lr b from hbt b (.rng st) (by rw[<-hlow b hb]; exact hB)).2.symm⟩
  have hlt:=(hr.dom b k hb).1
  have hB:=List.getElem?_eq_getElem hlt
  obtain ⟨es,els,h1,h2⟩:=hs.2 b ((hmu b _ hB).trans hb)
  exact⟨es,els,by rw[<-hlow b hlt]; exact h1,h2⟩
 refine⟨⟨hr'.below,fun b k hb=>?_,hr.inj,(fun k o hk=>hst ▸ hr'.out k o hk),hr.own,fun b B hB=>?_⟩,⟨fun k o v hs hc=>⟨(he.cell k o v hs hc).1,hs⟩,fun b B hB=>⟨B,hB,?_⟩,he.kept,he.size,fun k arr cl hs hm=>⟨(he.map k arr cl hs hm).1,hs⟩,he.obj,fun b k h=>.inl ⟨b,h⟩⟩,ag⟩
 ·have h1:=hr.dom b k hb
  have h2:=hr'.dom b k ((hmu b _ (List.getElem?_eq_getElem h1.1)).trans hb)
  exact⟨h1.1,h1.2.1,h2.2.2⟩
 ·have hlt:=(List.getElem?_eq_some_iff.1 hB).1
  exact BlkR.to ag hlt (by rw[hlow b hlt]; exact hB) (hr.blk b B hB).under (hr'.blk b B (by rw[hlow b hlt]; exact hB))
 ·have ht:=hbt b B hB
  cases B with
  | box _=>rfl
  | row wr es els=>cases wr with
   | true=>exact⟨rfl,rfl,rfl⟩
   | false=>exact⟨rfl,⟨[],by simp⟩,ht.2.2.1,Nat.le_refl _,fun _=>⟨rfl,(ht.2.2.2.2 rfl).2⟩⟩
  | rng _=>exact⟨rfl,rfl⟩
  | mp _ _ _=>rfl
  | dead=>trivial
  | hole=>trivial
def Gh.cut (g:Gh) (L:Nat):Gh:={ g with mu:=fun b=>if b<L then g.mu b else none }
theorem Rel.cut (hr:Rel H g w0 w) {L:Nat} (hL:L<=H.length) (hu:∀ (b:Nat) B,b<L->H[b]? = some B->B.under L=true):Rel (H.take L) (g.cut L) w0 w/\Agree L H g (H.take L) (g.cut L):=by
 have hmu:∀ {b k},(g.cut L).mu b=some k->b<L/\g.mu b=some k:=fun {b k} h=>by
  simp only[Gh.cut] at h
  split at h
  ·rename_i hb; exact⟨hb,h⟩
  ·cases h
 have hget:∀ b,b<L->(H.take L)[b]? = H[b]?:=fun b hb=>by rw[List.getElem?_take,if_pos hb]
 have ag:Agree L H g (H.take L) (g.cut L):=by
  refine⟨fun k o hs=>⟨hs.1,fun b hb=>?_⟩,fun b hb=>hget b hb,fun b B hb _=>by simp[Gh.cut,hb],fun b es els _ _=>rfl,fun b st _ _=>rfl⟩
  obtain ⟨h1,h2⟩:=hmu hb
  obtain ⟨es,els,h3,h4⟩:=hs.2 b h2
  exact⟨es,els,by rw[hget b h1]; exact h3,h4⟩
 refine⟨⟨hr.below,fun b k hb=>?_,fun b c k h1 h2=>hr.inj b c k (hmu h1).2 (hmu h2).2,hr.out,(fun b k o h=>hr.own b k o (hmu h).2),fun b B hB=>?_⟩,ag⟩
 ·obtain ⟨h1,h2⟩:=hmu hb
  have:=hr.dom b k h2
  exact⟨by rw[List.length_take]; omega,this.2⟩
 ·have hb:b<L:=by have:=(List.getElem?_eq_some_iff.1 hB).1; rw[List.length_take] at this; omega
  rw[hget b hb] at hB
  exact BlkR.to ag hb hB (hu b B hb hB) (hr.blk b B hB)
theorem Ext.cut {H0:Heap} {gs:Gh} {ws:World} (he:Ext H0 gs ws H g w) {L:Nat} (hL:H0.length<=L):Ext H0 gs ws (H.take L) (g.cut L) w:=by
 have hst:∀ {k o},Stab H g k o->Stab (H.take L) (g.cut L) k o:=fun {k o} h2=>by
  refine⟨h2.1,fun b hb=>?_⟩
  simp only[Gh.cut] at hb
  split at hb
  ·rename_i hlt
   obtain ⟨es,els,h3,h4⟩:=h2.2 b hb
   exact⟨es,els,by rw[List.getElem?_take,if_pos hlt]; exact h3,h4⟩
  ·cases hb
 refine⟨fun k o v hs hc=>?_,fun b B hB=>?_,he.kept,he.size,fun k arr cl hs hm=>⟨(he.map k arr cl hs hm).1,hst (he.map k arr cl hs hm).2⟩,he.obj,fun b k h=>he.fresh b k (by
  simp only[Gh.cut] at h
  split at h
  ·exact h
  ·cases h)⟩
 ·obtain ⟨h1,h2⟩:=he.cell k o v hs hc
  refine⟨h1,h2.1,fun b hb=>?_⟩
  simp only[Gh.cut] at hb
  split at hb
  ·rename_i hlt
   obtain ⟨es,els,h3,h4⟩:=h2.2 b hb
   exact⟨es,els,by rw[List.getElem?_take,if_pos hlt]; exact h3,h4⟩
  ·cases hb
 ·obtain ⟨B',hB',ht⟩:=he.blk b B hB
  have hb:b<L:=Nat.lt_of_lt_of_le (List.getElem?_eq_some_iff.1 hB).1 hL
  refine⟨B',by rw[List.getElem?_take,if_pos hb]; exact hB',?_⟩
  have e:(g.cut L).mu b=g.mu b:=by simp[Gh.cut,hb]
  cases B with
  | box _=>cases B' with
   | box _=>exact e.trans ht
   | row wr _ _=>exact ht
   | rng _=>exact ht
   | mp _ _ _=>exact ht
   | dead=>trivial
   | hole=>exact ht
  | row wr es els=>cases wr with
   | true=>cases B' with
    | box _=>exact ht
    | rng _=>exact ht
    | mp _ _ _=>exact ht
    | row wr' es' els'=>cases wr' with
     | true=>exact⟨ht.1,ht.2.1,e.trans ht.2.2⟩
     | false=>exact ht
    | dead=>trivial
    | hole=>exact ht
   | false=>cases B' with
    | box _=>exact ht
    | rng _=>exact ht
    | mp _ _ _=>exact ht
    | row wr' es' els'=>cases wr' with
     | true=>exact ht
     | false =>
      obtain ⟨h1,h2,h3,h4,h5⟩:=ht
      exact⟨h1,h2,h3,h4,fun hl=>⟨e.trans (h5 hl).1,(h5 hl).2⟩⟩
    | dead=>trivial
    | hole=>exact ht
  | rng st=>cases B' with
   | rng st'=>exact⟨e.trans ht.1,ht.2⟩
   | dead=>trivial
   | hole=>exact ht
   | box _=>exact ht
   | mp _ _ _=>exact ht
   | row wr _ _=>cases wr<;>exact ht
  | mp _ _ _=>cases B' with
   | mp _ _ _=>exact e.trans ht
   | rng _=>exact ht
   | dead=>trivial
   | hole=>exact ht
   | box _=>exact ht
   | row wr _ _=>cases wr<;>exact ht
  | dead=>cases B'<;>exact ht
  | hole=>trivial
end Go.Proofs.Ytdmgdjnadbakfaa
