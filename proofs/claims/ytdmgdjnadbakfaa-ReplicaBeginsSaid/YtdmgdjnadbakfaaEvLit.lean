/-
 Rows that are given up; a literal of bytes that is converted to its own type.
-/
import Derived.Test.YtdmgdjnadbakfaaEvSound
namespace Go.Proofs.Ytdmgdjnadbakfaa
open Go.RowKit
variable {H H':Heap} {g g':Gh} {w0 w w':World}
theorem Rel.kill (hr:Rel H g w0 w) {b:Nat} (hb:b<H.length):Rel (H.set b .dead) (g.put b none []) w0 w/\Ext H g w (H.set b .dead) (g.put b none []) w:=by
 have hget:∀ c,c≠b->(H.set b .dead)[c]? = H[c]?:=fun c hc=>List.getElem?_set_ne (Ne.symm hc)
 have hgetb:(H.set b Blk.dead)[b]? = some .dead:=List.getElem?_set_self hb
 have hmu:∀ {c k},(g.put b none []).mu c=some k->c≠b/\g.mu c=some k:=fun {c k} h=>by
  by_cases e:c=b
  ·subst e; rw[Gh.put_mu] at h; cases h
  ·exact⟨e,by rwa [Gh.put_mu' _ _ _ e] at h⟩
 have he:Ext H g w (H.set b .dead) (g.put b none []) w:=by
  have hst:∀ {k o},Stab H g k o->Stab (H.set b .dead) (g.put b none []) k o:=fun {k o} hs=>by
   refine⟨hs.1,fun c hck=>?_⟩
   obtain ⟨h1,h2⟩:=hmu hck
   obtain ⟨es,els,h3,h4⟩:=hs.2 c h2
   exact⟨es,els,by rw[hget c h1]; exact h3,h4⟩
  refine⟨fun k o v hs hc=>⟨hc,hst hs⟩,fun c B' hB'=>?_,fun _ _ h=>h,Nat.le_refl _,fun k arr cl hs hm=>⟨hm,hst hs⟩,fun _ _ _=>rfl,fun c k h=>.inl ⟨c,(hmu h).2⟩⟩
  ·by_cases e:c=b
   ·subst e
    refine⟨.dead,hgetb,?_⟩
    cases B' with
    | row wr _ _=>cases wr<;>trivial
    | _=>trivial
   ·refine⟨B',by rw[hget c e]; exact hB',?_⟩
    cases B' with
    | box _=>exact Gh.put_mu' _ _ _ e
    | row wr es els=>cases wr with
     | true=>exact⟨rfl,rfl,Gh.put_mu' _ _ _ e⟩
     | false=>exact⟨rfl,⟨[],by rw[Gh.put_ga' _ _ _ e]; simp⟩,(hr.blk c _ hB').len,Nat.le_refl _,fun _=>⟨Gh.put_mu' _ _ _ e,fun k arr ty hk' ha=>⟨arr,ha,Nat.le_refl _⟩⟩⟩
    | rng _=>exact⟨Gh.put_mu' _ _ _ e,rfl⟩
    | mp _ _ _=>exact Gh.put_mu' _ _ _ e
    | dead=>trivial
    | hole=>trivial
 refine⟨⟨hr.below,fun c k hck=>?_,fun c d k h1 h2=>hr.inj c d k (hmu h1).2 (hmu h2).2,hr.outE he,hr.ownE he,fun c B' hB'=>?_⟩,he⟩
 ·obtain ⟨_,h2⟩:=hmu hck
  have:=hr.dom c k h2
  exact⟨by simpa using this.1,this.2⟩
 ·by_cases e:c=b
  ·subst e
   rw[hgetb] at hB'; cases hB'
   exact Gh.put_mu _ _ _ _
  ·rw[hget c e] at hB'
   have h:=hr.blk c B' hB'
   cases B' with
   | box cs=>obtain ⟨k,arr,ty,h1,h2,h3⟩:=h; exact⟨k,arr,ty,(Gh.put_mu' _ _ _ e).trans h1,h2,VRs.ext he _ _ h3⟩
   | row wr es els=>cases wr with
    | true =>
     obtain ⟨ds,h1,h2,h3⟩:=h
     exact⟨ds,VRss.ext he _ _ h1,h2,fun hp=>let ⟨k,arr,ty,e1,e2,e3⟩:=h3 hp; ⟨k,arr,ty,(Gh.put_mu' _ _ _ e).trans e1,e2,e3⟩⟩
    | false =>
     obtain ⟨h1,h2⟩:=h
     refine⟨?_,?_⟩
     ·rw[Gh.put_ga' _ _ _ e]; exact VRss.ext he _ _ h1
     ·rw[Gh.put_ga' _ _ _ e]; exact h2
   | rng st=>obtain ⟨k,h1,h2⟩:=h; exact⟨k,(Gh.put_mu' _ _ _ e).trans h1,h2⟩
   | mp _ _ _=>obtain ⟨k,arr,cl,h1,h2,h3,h4⟩:=h; exact⟨k,arr,cl,(Gh.put_mu' _ _ _ e).trans h1,h2,h3,VRs.ext he _ _ h4⟩
   | dead=>exact(Gh.put_mu' _ _ _ e).trans h
   | hole=>exact(Gh.put_mu' _ _ _ e).trans h
theorem kill_VR (hr:Rel H g w0 w) {lo:Nat} {x:A} {c:Value} {r:A×Heap} (hk:aKill lo x H=some r) (h:VR H g w x c):∃ g',Rel r.2 g' w0 w/\Ext H g w r.2 g' w/\VR r.2 g' w r.1 c/\r.2.length=H.length/\(∀ b,b<lo->b<H.length->r.2[b]? = H[b]?)/\g'.S=g.S:=by
 unfold aKill at hk
 split at hk
 ·rename_i b o n cl
  split at hk
  ·rename_i es els hb
   obtain ⟨hlo,hk⟩:=csome hk
   cases hk
   have hlo:lo<=b:=by simpa using hlo
   have hbl:=(List.getElem?_eq_some_iff.1 hb).1
   obtain ⟨h1,h2⟩:=hr.kill hbl
   refine⟨_,h1,h2,?_,by simp,fun b' hb' _=>List.getElem?_set_ne (by omega),rfl⟩
   rw[VR,hb] at h
   obtain ⟨h0,a,cap,rfl,e1,e2,e3⟩:=h
   obtain ⟨ds,d1,d2,d3⟩:=hr.blk b _ hb
   have hv:=snapWss_VR (S:=Stab H g) (fun _ _ h=>h) (fun b o m cl c h=>snapG_VR hr 4 b o m cl c h) _ _ ((d1.drop o).take n)
   have hl:(snapWss (snapG 4 H) ((els.drop o).take n)).length=n:=by rw[<-hv.length]; simp[d1.length]; omega
   rw[VR]
   refine⟨a,cap,(ds.drop o).take n,es,by rw[hl],by rw[hl]; exact e1,fun h=>(by cases h),fun d hd=>d2 d (List.mem_of_mem_drop (List.mem_of_mem_take hd)),fun hp=>?_,?_⟩
   ·rw[hl] at hp
    obtain ⟨k,hk,ha⟩:=e3 hp
    obtain ⟨k',arr,ty,m1,m2,m3⟩:=d3 (by omega)
    rw[hk] at m1; cases m1
    refine⟨k,o*es,ha,fun j v hj=>⟨row_cells d2 m2 m3 hj,hr.own b k _ hk,fun c hc=>?_⟩⟩
    exfalso
    by_cases e:c=b
    ·subst e; rw[Gh.put_mu] at hc; cases hc
    ·rw[Gh.put_mu' _ _ _ e] at hc
     exact e (hr.inj c b k hc hk)
   ·exact VRss.ext h2 _ _ (VRss.ext0 (H:=[]) (g:=G0 (Stab H g)) ⟨fun k o _ hs hc=>⟨hc,hs.1⟩,fun b B hB=>(by simp at hB),fun k arr cl hs hm=>⟨hm,hs.1⟩⟩ _ _ hv)
  ·rename_i es els hb
   cases hk
   refine⟨g,hr,Ext.refl hr,?_,rfl,fun _ _ _=>rfl,rfl⟩
   exact VR.back (fun _ _ h=>h) (by have:=snapG_VR hr 5 b o n cl c h; unfold snapG at this; rw[hb] at this; exact this)
  ·cases hk
 ·rename_i b o
  split at hk
  ·rename_i cs hb
   obtain ⟨hlo,hk⟩:=csome hk
   cases hk
   rw[Bool.and_eq_true] at hlo
   have hlo':lo<=b:=of_decide_eq_true hlo.1
   have ho:o=0:=Nat.eq_of_beq_eq_true hlo.2
   subst ho
   have hbl:=(List.getElem?_eq_some_iff.1 hb).1
   obtain ⟨h1,h2⟩:=hr.kill hbl
   refine⟨_,h1,h2,?_,by simp,fun b' hb' _=>List.getElem?_set_ne (by omega),rfl⟩
   rw[VR,hb] at h
   obtain ⟨k,hk,rfl⟩:=h
   obtain ⟨k',arr,ty,m1,m2,m3⟩:=hr.blk b _ hb
   rw[hk] at m1; cases m1
   rw[VR]
   refine⟨k,0,arr.toList,rfl,fun j v hj=>⟨?_,hr.own b k _ hk,fun c hc=>?_⟩,VRs.ext h2 _ _ m3⟩
   ·rw[Nat.zero_add,cell_of_row w k j arr ty (0,0) m2]; simpa using hj
   ·exfalso
    by_cases e:c=b
    ·subst e; rw[Gh.put_mu] at hc; cases hc
    ·rw[Gh.put_mu' _ _ _ e] at hc
     exact e (hr.inj c b k hc hk)
  ·cases hk
 ·cases hk
theorem Rel.hdr (hr:Rel H g w0 w) {k:Nat} {arr:Array Value} {ty:TypeId} (hk:w0.heap.size<=k) (hw:w.heap[k]? = some (.cells arr ty (0,0))) (hn:∀ b,g.mu b≠some k) (f:Nat×Nat) :
  Rel H g w0 (w.putObj k (.cells arr ty f))/\Ext0 H g w H g (w.putObj k (.cells arr ty f))/\∀ {H0:Heap} {g0:Gh} {c0:Nat},Ext H0 g0 w H g w->g0.mu c0=some k->Ext H0 g0 w H g (w.putObj k (.cells arr ty f)):=by
 have hlt:k<w.heap.size:=(Array.getElem?_eq_some_iff.1 hw).1
 have hoth:∀ j,j≠k->(w.putObj k (.cells arr ty f)).heap[j]? = w.heap[j]?:=fun j hj=>World.putObj_heap_other hj
 have hsz:(w.putObj k (.cells arr ty f)).heap.size=w.heap.size:=by simp
 have hcell:∀ j o v,w.cell? ⟨j,o,none⟩=some v->(w.putObj k (.cells arr ty f)).cell? ⟨j,o,none⟩=some v:=fun j o v hc=>by
  by_cases e:j=k
  ·subst e
   rw[cell_of_row w j o arr ty (0,0) hw] at hc
   rw[cell_of_row _ j o arr ty f (World.putObj_heap_same hlt)]
   exact hc
  ·exact(World.cell?_of_block (a:=⟨j,o,none⟩) (hoth j e)).trans hc
 have hne:∀ {c j},g.mu c=some j->j≠k:=fun {c j} h e=>hn c (e ▸ h)
 have he:Ext0 H g w H g (w.putObj k (.cells arr ty f)):=by
  refine⟨fun j o v hs hc=>⟨hcell j o v hc,hs⟩,fun c C hC=>⟨C,hC,?_⟩,fun j marr cl hs hm=>⟨(hoth j (fun e=>by subst e; rw[hw] at hm; cases hm)).trans hm,hs⟩⟩
  cases C with
  | box _=>rfl
  | row wr es els=>cases wr with
   | true=>exact⟨rfl,rfl,rfl⟩
   | false=>exact⟨rfl,⟨[],by simp⟩,(hr.blk c _ hC).len,Nat.le_refl _,fun _=>⟨rfl,fun j arr ty hj ha=>⟨arr,(hoth j (hne hj)).trans ha,Nat.le_refl _⟩⟩⟩
  | rng _=>exact⟨rfl,rfl⟩
  | mp _ _ _=>rfl
  | dead=>trivial
  | hole=>trivial
 refine⟨⟨hr.below.trans ((Below.refl w0.heap.size w).grown (grownBy_putObj' w k _) (hr.below.size) (fun j e=>by cases e; exact hk)),fun c j hc=>⟨(hr.dom c j hc).1,(hr.dom c j hc).2.1,by rw[hsz]; exact(hr.dom c j hc).2.2⟩,hr.inj,(by rw[hsz]; exact hr.out),hr.own,fun c C hC=>?_⟩,he,fun {H0 g0 c0} hp hc0=>⟨fun j o v hs hc=>let ⟨q1,q2⟩:=hp.cell j o v hs hc; ⟨hcell j o v q1,q2⟩,fun c C hC=>?_,fun j x h=>(hoth j (fun e=>by subst e; rw[hw] at h; cases h)).trans h,by rw[hsz]; exact Nat.le_refl _,fun j marr cl hs hm=>⟨(hoth j (fun e=>by subst e; rw[hw] at hm; cases hm)).trans hm,(hp.map j marr cl hs hm).2⟩,fun j _ hj=>hoth j (fun e=>hj c0 (e ▸ hc0)),hp.fresh⟩⟩
 rotate_left 1
 ·obtain ⟨C',hC',ht⟩:=hp.blk c C hC
  refine⟨C',hC',?_⟩
  cases C with
  | row wr es els=>cases wr with
   | true=>cases C' with
    | row wr' es' els'=>cases wr'<;>exact ht
    | _=>exact ht
   | false=>cases C' with
    | row wr' es' els'=>cases wr' with
     | true=>exact ht
     | false =>
      obtain ⟨t1,t2,t3,t4,t5⟩:=ht
      exact⟨t1,t2,t3,t4,fun hl=>⟨(t5 hl).1,fun j arr ty hj ha=>⟨arr,(hoth j (hne ((t5 hl).1.trans hj))).trans ha,Nat.le_refl _⟩⟩⟩
    | _=>exact ht
  | _=>cases C'<;>exact ht
 have h:=hr.blk c C hC
 cases C with
 | box cs=>obtain ⟨j,arr',ty',h1,h2,h3⟩:=h; exact⟨j,arr',ty',h1,(hoth j (hne h1)).trans h2,VRs.ext0 he _ _ h3⟩
 | row wr es els=>cases wr with
  | true =>
   obtain ⟨ds,h1,h2,h3⟩:=h
   exact⟨ds,VRss.ext0 he _ _ h1,h2,fun hp=>let ⟨j,arr',ty',e1,e2,e3⟩:=h3 hp; ⟨j,arr',ty',e1,(hoth j (hne e1)).trans e2,e3⟩⟩
  | false =>
   obtain ⟨h1,h2⟩:=h
   exact⟨VRss.ext0 he _ _ h1,h2⟩
 | rng st=>obtain ⟨j,h1,h2⟩:=h; exact⟨j,h1,(hoth j (hne h1)).trans h2⟩
 | mp _ _ _=>obtain ⟨j,marr,cl,h1,h2,h3,h4⟩:=h; exact⟨j,marr,cl,h1,(hoth j (hne h1)).trans h2,h3,VRs.ext0 he _ _ h4⟩
 | dead=>exact h
 | hole=>exact h
theorem freeze_putObj {w:World} {k n:Nat} {arr:Array Value} {ty:TypeId} (hw:w.heap[k]? = some (.cells arr ty (0,0))):w.freeze ⟨k,n,none⟩ 1=w.putObj k (.cells arr ty (n,n+1)):=by
 unfold World.freeze World.putObj
 rw[if_neg (by decide)]
 congr 1
 apply Array.ext
 ·simp
 ·intro i h1 h2
  have hi:i<w.heap.size:=by simpa using h1
  rw[Array.getElem_modify,Array.getElem_setIfInBounds]
  by_cases h:k=i
  ·subst h
   have e:w.heap[k]=.cells arr ty (0,0):=by
    have:=(Array.getElem?_eq_some_iff.1 hw).2
    exact this
   rw[if_pos rfl,if_pos rfl,e]
   simp
  ·rw[if_neg h,if_neg h]
theorem aMark_sound {P:Program} (hr:Rel H g w0 w) {lo:Nat} {s t:TypeId} {x:A} {c:Value} {r:A×Heap} (h:aMark P s t x H lo=some r) (hx:VR H g w x c) :
  Step H g w0 w lo ((convert s t c).run P w) r.1 r.2:=by
 unfold aMark at h
 split at h
 ·rename_i e hs
  split at h
  ·rename_i he
   split at h
   ·rename_i b o n cl
    split at h
    ·rename_i es els hb
     obtain ⟨hc,hk⟩:=csome h
     rw[Bool.and_eq_true] at hc
     have hst:s=t:=Nat.eq_of_beq_eq_true hc.1
     have hn:0<n:=of_decide_eq_true hc.2
     subst hst
     have hx0:=hx
     rw[VR,hb] at hx
     obtain ⟨h0,a,cap,rfl,e1,e2,e3⟩:=hx
     obtain ⟨k,hk1,rfl⟩:=e3 hn
     obtain ⟨ds,d1,d2,d3⟩:=hr.blk b _ hb
     obtain ⟨k',arr,ty,m1,m2,m3⟩:=d3 (by omega)
     rw[hk1] at m1; cases m1
     obtain ⟨g',r1,r2,r3,r4,r5,r6⟩:=kill_VR hr hk hx0
     have hkk:r.2=H.set b .dead:=by
      simp only[aKill,hb] at hk
      obtain ⟨_,hk⟩:=csome hk
      cases hk; rfl
     have hno:∀ c,g'.mu c≠some k:=fun c hc=>by
      have hcl:=(r1.dom c k hc).1
      rw[r4] at hcl
      obtain ⟨C,hC⟩:∃ C,H[c]? = some C:=⟨_,List.getElem?_eq_getElem hcl⟩
      obtain ⟨C',hC',hbt⟩:=r2.blk c C hC
      by_cases ecb:c=b
      ·subst ecb
       rw[hkk,List.getElem?_set_self hcl] at hC'
       cases hC'
       have:=r1.blk c .dead (by rw[hkk,List.getElem?_set_self hcl])
       rw[show g'.mu c=none from this] at hc; cases hc
      ·rw[hkk,List.getElem?_set_ne (Ne.symm ecb),hC] at hC'
       cases hC'
       have hmu:g.mu c=some k∨C=.dead∨C=.hole:=by
        cases C with
        | box _=>left; exact(show g'.mu c=g.mu c from hbt).symm.trans hc
        | row wr es' els'=>cases wr with
         | true=>left; exact hbt.2.2.symm.trans hc
         | false=>left; exact(hbt.2.2.2.2 rfl).1.symm.trans hc
        | rng _=>left; exact hbt.1.symm.trans hc
        | mp _ _ _=>left; exact(show g'.mu c=g.mu c from hbt).symm.trans hc
        | dead=>right; left; rfl
        | hole=>right; right; rfl
       rcases hmu with h1 | rfl | rfl
       ·exact ecb (hr.inj c b k h1 hk1)
       ·have:=r1.blk c .dead (by rw[hkk,List.getElem?_set_ne (Ne.symm ecb)]; exact hC)
        rw[show g'.mu c=none from this] at hc; cases hc
       ·have:=r1.blk c .hole (by rw[hkk,List.getElem?_set_ne (Ne.symm ecb)]; exact hC)
        rw[show g'.mu c=none from this] at hc; cases hc
     obtain ⟨q1,q0,q2⟩:=r1.hdr (hr.dom b k hk1).2.1 m2 hno (arr.size,arr.size+1)
     refine⟨_,_,g',?_,q1,q2 r2 hk1,VR.ext0 q0 _ _ r3,Nat.le_of_eq r4.symm,r5,r6⟩
     have hsh:w.shape? k=some (ty,arr.size):=by unfold World.shape?; rw[m2]
     rw[<-freeze_putObj m2]
     simp[convert,run_underlying hs,run_underlying he,markStringish,hsh]
    ·cases h
   ·cases h
  ·cases h
 ·cases h
end Go.Proofs.Ytdmgdjnadbakfaa
