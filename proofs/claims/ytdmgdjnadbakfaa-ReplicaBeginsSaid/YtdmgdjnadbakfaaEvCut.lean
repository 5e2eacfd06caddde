/-
 Calls that see the heap's first blocks alone: what they leave, put back into the whole heap.
-/
import Derived.Test.YtdmgdjnadbakfaaEvTrim
namespace Go.Proofs.Ytdmgdjnadbakfaa
open Go.RowKit
variable {H H1:Heap} {g g1:Gh} {w0 w w1:World}
def Gh.cutS (g:Gh) (H:Heap) (m:Nat):Gh:={ g.cut m with S:=fun k o=>g.S k o/\∀ c,m<=c->g.mu c=some k->∃ es els,H[c]? = some (.row false es els)/\o<es*els.length }
theorem cut_mu {g:Gh} {m b k:Nat} (h:(g.cut m).mu b=some k):b<m/\g.mu b=some k:=by
 simp only[Gh.cut] at h
 split at h
 ·rename_i hb; exact⟨hb,h⟩
 ·cases h
theorem Rel.cutS (hr:Rel H g w0 w) {m:Nat} (hm:m<=H.length) (hu:∀ (b:Nat) B,b<m->H[b]? = some B->B.under m=true):Rel (H.take m) (g.cutS H m) w0 w/\Agree m H g (H.take m) (g.cutS H m):=by
 have hget:∀ b,b<m->(H.take m)[b]? = H[b]?:=fun b hb=>by rw[List.getElem?_take,if_pos hb]
 have ag:Agree m H g (H.take m) (g.cutS H m):=by
  refine⟨fun k o hs=>⟨⟨hs.1,fun c _ hc=>hs.2 c hc⟩,fun b hb=>?_⟩,fun b hb=>hget b hb,fun b B hb _=>by simp[Gh.cutS,Gh.cut,hb],fun b es els _ _=>rfl,fun b st _ _=>rfl⟩
  obtain ⟨h1,h2⟩:=cut_mu hb
  obtain ⟨es,els,h3,h4⟩:=hs.2 b h2
  exact⟨es,els,by rw[hget b h1]; exact h3,h4⟩
 refine⟨⟨hr.below,fun b k hb=>?_,fun b c k h1 h2=>hr.inj b c k (cut_mu h1).2 (cut_mu h2).2,fun k o hk=>⟨hr.out k o hk,fun c _ hc=>absurd (hr.dom c k hc).2.2 (by omega)⟩,fun b k o hb=>⟨hr.own b k o (cut_mu hb).2,fun c hc hck=>?_⟩,fun b B hB=>?_⟩,ag⟩
 ·obtain ⟨h1,h2⟩:=cut_mu hb
  have:=hr.dom b k h2
  exact⟨by rw[List.length_take]; omega,this.2⟩
 ·obtain ⟨h1,h2⟩:=cut_mu hb
  have:=hr.inj b c k h2 hck
  omega
 ·have hb:b<m:=by have:=(List.getElem?_eq_some_iff.1 hB).1; rw[List.length_take] at this; omega
  rw[hget b hb] at hB
  exact BlkR.to ag hb hB (hu b B hb hB) (hr.blk b B hB)
theorem Rel.join (hr:Rel H g w0 w) {m:Nat} (hm:m<=H.length) (hr1:Rel H1 g1 w0 w1) (he:Ext (H.take m) (g.cutS H m) w H1 g1 w1) (hm1:m<=H1.length) (hS:g1.S=(g.cutS H m).S) (hu:∀ (b:Nat) B,b<m->H1[b]? = some B->B.under m=true) :
  ∃ g2,Rel (H1.take m++H.drop m) g2 w0 w1/\Ext H g w (H1.take m++H.drop m) g2 w1/\g2.S=g.S/\Agree m H1 g1 (H1.take m++H.drop m) g2:=by
 have lo:∀ b,b<m->(H1.take m++H.drop m)[b]? = H1[b]?:=fun b hb=>by
  rw[List.getElem?_append_left (by rw[List.length_take]; omega),List.getElem?_take,if_pos hb]
 have hi:∀ b,m<=b->(H1.take m++H.drop m)[b]? = H[b]?:=fun b hb=>by
  rw[List.getElem?_append_right (by rw[List.length_take]; omega),List.length_take,List.getElem?_drop,Nat.min_eq_left hm1]
  congr 1; omega
 have tk:∀ b,b<m->(H.take m)[b]? = H[b]?:=fun b hb=>by rw[List.getElem?_take,if_pos hb]
 let g2:Gh:={ mu:=fun b=>if b<m then g1.mu b else g.mu b,ga:=fun b=>if b<m then g1.ga b else g.ga b,S:=g.S,lr:=fun b=>if b<m then g1.lr b else g.lr b }
 have mlo:∀ b,b<m->g2.mu b=g1.mu b:=fun b hb=>if_pos hb
 have mhi:∀ b,m<=b->g2.mu b=g.mu b:=fun b hb=>if_neg (by omega)
 have glo:∀ b,b<m->g2.ga b=g1.ga b:=fun b hb=>if_pos hb
 have ghi:∀ b,m<=b->g2.ga b=g.ga b:=fun b hb=>if_neg (by omega)
 have llo:∀ b,b<m->g2.lr b=g1.lr b:=fun b hb=>if_pos hb
 have lhi:∀ b,m<=b->g2.lr b=g.lr b:=fun b hb=>if_neg (by omega)
 have nof:∀ {c k},m<=c->g.mu c=some k->∀ b,(g.cutS H m).mu b≠some k:=fun {c k} hc hk b hb=>by
  obtain ⟨h1,h2⟩:=cut_mu hb
  have:=hr.inj b c k h2 hk
  omega
 have same:∀ {c k},m<=c->g.mu c=some k->w1.heap[k]? = w.heap[k]?:=fun {c k} hc hk=>he.obj k (hr.dom c k hk).2.2 (nof hc hk)
 have hne:∀ {b c k},b<m->m<=c->g1.mu b=some k->g.mu c=some k->False:=fun {b c k} _ hc hb hk=>by
  rcases he.fresh b k hb with ⟨c',hc'⟩ | hl
  ·exact nof hc hk c' hc'
  ·have:=(hr.dom c k hk).2.2
   omega
 have toB:∀ {k o},Stab H g k o->Stab (H.take m) (g.cutS H m) k o:=fun {k o} hs=>⟨⟨hs.1,fun c _ hc=>hs.2 c hc⟩,fun b hb=>by
  obtain ⟨h1,h2⟩:=cut_mu hb
  obtain ⟨es,els,h3,h4⟩:=hs.2 b h2
  exact⟨es,els,by rw[tk b h1]; exact h3,h4⟩⟩
 have stab:∀ k o,Stab H1 g1 k o->Stab (H1.take m++H.drop m) g2 k o:=fun k o hs=>by
  have h1:(g.cutS H m).S k o:=by rw[<-hS]; exact hs.1
  refine⟨h1.1,fun b hb=>?_⟩
  by_cases e:b<m
  ·rw[mlo b e] at hb
   obtain ⟨es,els,h3,h4⟩:=hs.2 b hb
   exact⟨es,els,by rw[lo b e]; exact h3,h4⟩
  ·rw[mhi b (by omega)] at hb
   obtain ⟨es,els,h3,h4⟩:=h1.2 b (by omega) hb
   exact⟨es,els,by rw[hi b (by omega)]; exact h3,h4⟩
 have ag:Agree m H1 g1 (H1.take m++H.drop m) g2:=⟨stab,lo,fun b B hb _=>mlo b hb,fun b es els hb _=>glo b hb,fun b st hb _=>llo b hb⟩
 have hx:Ext H g w (H1.take m++H.drop m) g2 w1:=by
  refine⟨fun k o v hs hc=>?_,fun b B hB=>?_,he.kept,he.size,fun k arr cl hs hmm=>?_,fun k hk hn=>he.obj k hk fun b hb=>hn b (cut_mu hb).2,fun b k hb=>?_⟩
  ·obtain ⟨h1,h2⟩:=he.cell k o v (toB hs) hc
   exact⟨h1,stab k o h2⟩
  ·by_cases e:b<m
   ·obtain ⟨B',hB',ht⟩:=he.blk b B (by rw[tk b e]; exact hB)
    refine⟨B',by rw[lo b e]; exact hB',?_⟩
    have hm0:(g.cutS H m).mu b=g.mu b:=if_pos e
    have hm2:=mlo b e
    have hg2:=glo b e
    have hl2:=llo b e
    unfold BT at ht ⊢
    rw[hm2,hg2,hl2,<-hm0]
    exact ht
   ·refine⟨B,by rw[hi b (by omega)]; exact hB,?_⟩
    have hm2:=mhi b (by omega)
    have hg2:=ghi b (by omega)
    cases B with
    | box _=>exact hm2
    | row wr es els=>cases wr with
     | true=>exact⟨rfl,rfl,hm2⟩
     | false=>exact⟨rfl,⟨[],by rw[hg2]; simp⟩,(hr.blk b _ hB).len,Nat.le_refl _,fun _=>⟨hm2,fun k arr ty hk ha=>⟨arr,(same (by omega) hk).trans ha,Nat.le_refl _⟩⟩⟩
    | rng _=>exact⟨hm2,lhi b (by omega)⟩
    | mp _ _ _=>exact hm2
    | dead=>trivial
    | hole=>trivial
  ·obtain ⟨h1,h2⟩:=he.map k arr cl (toB hs) hmm
   exact⟨h1,stab k 0 h2⟩
  ·by_cases e:b<m
   ·rw[mlo b e] at hb
    rcases he.fresh b k hb with ⟨c,hc⟩ | hl
    ·exact .inl ⟨c,(cut_mu hc).2⟩
    ·exact .inr hl
   ·rw[mhi b (by omega)] at hb
    exact .inl ⟨b,hb⟩
 refine⟨g2,⟨hr1.below,fun b k hb=>?_,fun b c k h1 h2=>?_,fun k o hk=>hr.out k o (Nat.le_trans he.size hk),hr.ownE hx,fun b B hB=>?_⟩,hx,rfl,ag⟩
 ·by_cases e:b<m
  ·rw[mlo b e] at hb
   have:=hr1.dom b k hb
   exact⟨by simp only[List.length_append,List.length_take,List.length_drop]; omega,this.2⟩
  ·rw[mhi b (by omega)] at hb
   have:=hr.dom b k hb
   exact⟨by simp only[List.length_append,List.length_take,List.length_drop]; omega,this.2.1,Nat.lt_of_lt_of_le this.2.2 he.size⟩
 ·by_cases e1:b<m
  ·by_cases e2:c<m
   ·rw[mlo b e1] at h1; rw[mlo c e2] at h2; exact hr1.inj b c k h1 h2
   ·rw[mlo b e1] at h1; rw[mhi c (by omega)] at h2; exact(hne e1 (by omega) h1 h2).elim
  ·by_cases e2:c<m
   ·rw[mhi b (by omega)] at h1; rw[mlo c e2] at h2; exact(hne e2 (by omega) h2 h1).elim
   ·rw[mhi b (by omega)] at h1; rw[mhi c (by omega)] at h2; exact hr.inj b c k h1 h2
 ·by_cases e:b<m
  ·rw[lo b e] at hB
   exact BlkR.to ag e hB (hu b B e hB) (hr1.blk b B hB)
  ·rw[hi b (by omega)] at hB
   have h:=hr.blk b B hB
   have hm2:=mhi b (by omega)
   have hg2:=ghi b (by omega)
   cases B with
   | box cs=>obtain ⟨k,arr,ty,h1,h2,h3⟩:=h; exact⟨k,arr,ty,hm2.trans h1,(same (by omega) h1).trans h2,VRs.ext hx _ _ h3⟩
   | row wr es els=>cases wr with
    | true =>
     obtain ⟨ds,h1,h2,h3⟩:=h
     exact⟨ds,VRss.ext hx _ _ h1,h2,fun hp=>let ⟨k,arr,ty,e1,e2,e3⟩:=h3 hp; ⟨k,arr,ty,hm2.trans e1,(same (by omega) e1).trans e2,e3⟩⟩
    | false =>
     obtain ⟨h1,h2⟩:=h
     exact⟨by rw[hg2]; exact VRss.ext hx _ _ h1,by rw[hg2]; exact h2⟩
   | rng st=>obtain ⟨k,h1,h2⟩:=h; exact⟨k,hm2.trans h1,by rw[lhi b (by omega)]; exact(same (by omega) h1).trans h2⟩
   | mp _ _ _=>obtain ⟨k,arr,cl,h1,h2,h3,h4⟩:=h; exact⟨k,arr,cl,hm2.trans h1,(same (by omega) h1).trans h2,h3,VRs.ext hx _ _ h4⟩
   | dead=>exact hm2.trans h
   | hole=>exact hm2.trans h
end Go.Proofs.Ytdmgdjnadbakfaa
