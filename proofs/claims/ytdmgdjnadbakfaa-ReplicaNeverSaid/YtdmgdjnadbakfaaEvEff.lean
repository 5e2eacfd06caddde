/-
 Regions that draw their order and turn the heap ahead of their tail: in the text's order, whatever was drawn.
-/
import Derived.Test.YtdmgdjnadbakfaaEvSound
namespace Go.Proofs.Ytdmgdjnadbakfaa
section
open Go.RowKit
variable {H H':ay} {g g':Gh} {w0 w w':World}
theorem Rel.kill (hr:Rel H g w0 w) {b:Nat} (hb:b<H.length):Rel (H.set b .dead) (g.put b none []) w0 w/\Ext H g w (H.set b .dead) (g.put b none []) w:=by
 have hget:∀ c,c≠b->(H.set b .dead)[c]? = H[c]?:=fun c hc=>List.getElem?_set_ne (Ne.symm hc)
 have hgetb:(H.set b aD.dead)[b]? = some .dead:=List.getElem?_set_self hb
 have hmu:∀ {c k},(g.put b none []).mu c=some k->c≠b/\g.mu c=some k:=fun {c k} h=>by
  by_cases e:c=b
  ·subst e; rw[Gh.bz] at h; cases h
  ·exact⟨e,by rwa [Gh.aJ _ _ _ e] at h⟩
 have he:Ext H g w (H.set b .dead) (g.put b none []) w:=by
  have hst:∀ {k o},eX H g k o->eX (H.set b .dead) (g.put b none []) k o:=fun {k o} hs=>by
   refine⟨hs.1,fun c hck=>?_⟩
   obtain ⟨h1,h2⟩:=hmu hck
   obtain ⟨es,els,h3,h4⟩:=hs.2 c h2
   exact⟨es,els,by rw[hget c h1]; exact h3,h4⟩
  refine⟨fun k o v hs hc=>⟨hc,hst hs⟩,fun c B' hB'=>?_,fun _ _ h=>h,Nat.le_refl _,fun k arr cl hs hm=>⟨hm,hst hs⟩,fun _ _ _=>rfl,fun c k h=>.inl ⟨c,(hmu h).2⟩⟩
  ·by_cases e:c=b
   ·subst e
    refine⟨.dead,hgetb,?_⟩
    cases B' with
    | row wr _ _=>cases wr<;>trivial
    | _=>trivial
   ·refine⟨B',by rw[hget c e]; exact hB',?_⟩
    cases B' with
    | box _=>exact Gh.aJ _ _ _ e
    | row wr es els=>cases wr with
     | true=>exact⟨rfl,rfl,Gh.aJ _ _ _ e⟩
     | false=>exact⟨rfl,⟨[],by rw[Gh.fa _ _ _ e]; simp⟩,(hr.blk c _ hB').len,Nat.le_refl _,fun _=>⟨Gh.aJ _ _ _ e,fun k arr ty hk' ha=>⟨arr,ha,Nat.le_refl _⟩⟩⟩
    | rng _=>exact⟨Gh.aJ _ _ _ e,rfl⟩
    | mp _ _ _=>exact Gh.aJ _ _ _ e
    | dead=>trivial
    | hole=>trivial
 refine⟨⟨hr.below,fun c k hck=>?_,fun c d k h1 h2=>hr.inj c d k (hmu h1).2 (hmu h2).2,hr.yV he,hr.xi he,fun c B' hB'=>?_⟩,he⟩
 ·obtain ⟨_,h2⟩:=hmu hck
  have:=hr.dom c k h2
  exact⟨by simpa using this.1,this.2⟩
 ·by_cases e:c=b
  ·subst e
   rw[hgetb] at hB'; cases hB'
   exact Gh.bz _ _ _ _
  ·rw[hget c e] at hB'
   have h:=hr.blk c B' hB'
   cases B' with
   | box cs=>obtain ⟨k,arr,ty,h1,h2,h3⟩:=h; exact⟨k,arr,ty,(Gh.aJ _ _ _ e).trans h1,h2,bp.ext he _ _ h3⟩
   | row wr es els=>cases wr with
    | true =>
     obtain ⟨ds,h1,h2,h3⟩:=h
     exact⟨ds,bn.ext he _ _ h1,h2,fun hp=>let ⟨k,arr,ty,e1,e2,e3⟩:=h3 hp; ⟨k,arr,ty,(Gh.aJ _ _ _ e).trans e1,e2,e3⟩⟩
    | false =>
     obtain ⟨h1,h2⟩:=h
     refine⟨?_,?_⟩
     ·rw[Gh.fa _ _ _ e]; exact bn.ext he _ _ h1
     ·rw[Gh.fa _ _ _ e]; exact h2
   | rng st=>obtain ⟨k,h1,h2⟩:=h; exact⟨k,(Gh.aJ _ _ _ e).trans h1,h2⟩
   | mp _ _ _=>obtain ⟨k,arr,cl,h1,h2,h3,h4⟩:=h; exact⟨k,arr,cl,(Gh.aJ _ _ _ e).trans h1,h2,h3,bp.ext he _ _ h4⟩
   | dead=>exact(Gh.aJ _ _ _ e).trans h
   | hole=>exact(Gh.aJ _ _ _ e).trans h
theorem zV (hr:Rel H g w0 w) {lo:Nat} {x:A} {c:Value} {r:A×ay} (hk:tE lo x H=some r) (h:VR H g w x c):∃ g',Rel r.2 g' w0 w/\Ext H g w r.2 g' w/\VR r.2 g' w r.1 c/\r.2.length=H.length/\(∀ b,b<lo->b<H.length->r.2[b]? = H[b]?)/\g'.S=g.S:=by
 unfold tE at hk
 split at hk
 ·rename_i b o n cl
  split at hk
  ·rename_i es els hb
   obtain ⟨hlo,hk⟩:=bf hk
   cases hk
   have hlo:lo<=b:=by simpa using hlo
   have hbl:=(List.getElem?_eq_some_iff.1 hb).1
   obtain ⟨h1,h2⟩:=hr.kill hbl
   refine⟨_,h1,h2,?_,by simp,fun b' hb' _=>List.getElem?_set_ne (by omega),rfl⟩
   rw[VR,hb] at h
   obtain ⟨h0,a,cap,rfl,e1,e2,e3⟩:=h
   obtain ⟨ds,d1,d2,d3⟩:=hr.blk b _ hb
   have hv:=hJ (S:=eX H g) (fun _ _ h=>h) (fun b o m cl c h=>pv hr 4 b o m cl c h) _ _ ((d1.drop o).take n)
   have hl:(dm (gS 4 H) ((els.drop o).take n)).length=n:=by rw[<-hv.length]; simp[d1.length]; omega
   rw[VR]
   refine⟨a,cap,(ds.drop o).take n,es,by rw[hl],by rw[hl]; exact e1,fun h=>(by cases h),fun d hd=>d2 d (List.mem_of_mem_drop (List.mem_of_mem_take hd)),fun hp=>?_,?_⟩
   ·rw[hl] at hp
    obtain ⟨k,hk,ha⟩:=e3 hp
    obtain ⟨k',arr,ty,m1,m2,m3⟩:=d3 (by omega)
    rw[hk] at m1; cases m1
    refine⟨k,o*es,ha,fun j v hj=>⟨uv d2 m2 m3 hj,hr.own b k _ hk,fun c hc=>?_⟩⟩
    exfalso
    by_cases e:c=b
    ·subst e; rw[Gh.bz] at hc; cases hc
    ·rw[Gh.aJ _ _ _ e] at hc
     exact e (hr.inj c b k hc hk)
   ·exact bn.ext h2 _ _ (bn.eZ (H:=[]) (g:=G0 (eX H g)) ⟨fun k o _ hs hc=>⟨hc,hs.1⟩,fun b B hB=>(by simp at hB),fun k arr cl hs hm=>⟨hm,hs.1⟩⟩ _ _ hv)
  ·rename_i es els hb
   cases hk
   refine⟨g,hr,Ext.refl hr,?_,rfl,fun _ _ _=>rfl,rfl⟩
   exact VR.back (fun _ _ h=>h) (by have:=pv hr 5 b o n cl c h; unfold gS at this; rw[hb] at this; exact this)
  ·cases hk
 ·rename_i b o
  split at hk
  ·rename_i cs hb
   obtain ⟨hlo,hk⟩:=bf hk
   cases hk
   rw[Bool.and_eq_true] at hlo
   have hlo':lo<=b:=of_decide_eq_true hlo.1
   have ho:o=0:=Nat.eq_of_beq_eq_true hlo.2
   subst ho
   have hbl:=(List.getElem?_eq_some_iff.1 hb).1
   obtain ⟨h1,h2⟩:=hr.kill hbl
   refine⟨_,h1,h2,?_,by simp,fun b' hb' _=>List.getElem?_set_ne (by omega),rfl⟩
   rw[VR,hb] at h
   obtain ⟨k,hk,rfl⟩:=h
   obtain ⟨k',arr,ty,m1,m2,m3⟩:=hr.blk b _ hb
   rw[hk] at m1; cases m1
   rw[VR]
   refine⟨k,0,arr.toList,rfl,fun j v hj=>⟨?_,hr.own b k _ hk,fun c hc=>?_⟩,bp.ext h2 _ _ m3⟩
   ·rw[Nat.zero_add,cell_of_row w k j arr ty (0,0) m2]; simpa using hj
   ·exfalso
    by_cases e:c=b
    ·subst e; rw[Gh.bz] at hc; cases hc
    ·rw[Gh.aJ _ _ _ e] at hc
     exact e (hr.inj c b k hc hk)
  ·cases hk
 ·cases hk
theorem Rel.O2 (hr:Rel H g w0 w) {k:Nat} {arr:Array Value} {ty:TypeId} (hk:w0.heap.size<=k) (hw:w.heap[k]? = some (.cells arr ty (0,0))) (hn:∀ b,g.mu b≠some k) (f:Nat×Nat) :
  Rel H g w0 (w.putObj k (.cells arr ty f))/\vU H g w H g (w.putObj k (.cells arr ty f))/\∀ {H0:ay} {g0:Gh} {c0:Nat},Ext H0 g0 w H g w->g0.mu c0=some k->Ext H0 g0 w H g (w.putObj k (.cells arr ty f)):=by
 have hlt:k<w.heap.size:=(Array.getElem?_eq_some_iff.1 hw).1
 have hoth:∀ j,j≠k->(w.putObj k (.cells arr ty f)).heap[j]? = w.heap[j]?:=fun j hj=>World.putObj_heap_other hj
 have hsz:(w.putObj k (.cells arr ty f)).heap.size=w.heap.size:=by simp
 have hcell:∀ j o v,w.cell? ⟨j,o,none⟩=some v->(w.putObj k (.cells arr ty f)).cell? ⟨j,o,none⟩=some v:=fun j o v hc=>by
  by_cases e:j=k
  ·subst e
   rw[cell_of_row w j o arr ty (0,0) hw] at hc
   rw[cell_of_row _ j o arr ty f (World.putObj_heap_same hlt)]
   exact hc
  ·exact(World.cell?_of_block (a:=⟨j,o,none⟩) (hoth j e)).trans hc
 have hne:∀ {c j},g.mu c=some j->j≠k:=fun {c j} h e=>hn c (e ▸ h)
 have he:vU H g w H g (w.putObj k (.cells arr ty f)):=by
  refine⟨fun j o v hs hc=>⟨hcell j o v hc,hs⟩,fun c C hC=>⟨C,hC,?_⟩,fun j marr cl hs hm=>⟨(hoth j (fun e=>by subst e; rw[hw] at hm; cases hm)).trans hm,hs⟩⟩
  cases C with
  | box _=>rfl
  | row wr es els=>cases wr with
   | true=>exact⟨rfl,rfl,rfl⟩
   | false=>exact⟨rfl,⟨[],by simp⟩,(hr.blk c _ hC).len,Nat.le_refl _,fun _=>⟨rfl,fun j arr ty hj ha=>⟨arr,(hoth j (hne hj)).trans ha,Nat.le_refl _⟩⟩⟩
  | rng _=>exact⟨rfl,rfl⟩
  | mp _ _ _=>rfl
  | dead=>trivial
  | hole=>trivial
 refine⟨⟨hr.below.trans ((Below.refl w0.heap.size w).grown (grownBy_putObj' w k _) (hr.below.size) (fun j e=>by cases e; exact hk)),fun c j hc=>⟨(hr.dom c j hc).1,(hr.dom c j hc).2.1,by rw[hsz]; exact(hr.dom c j hc).2.2⟩,hr.inj,(by rw[hsz]; exact hr.out),hr.own,fun c C hC=>?_⟩,he,fun {H0 g0 c0} hp hc0=>⟨fun j o v hs hc=>let ⟨q1,q2⟩:=hp.cell j o v hs hc; ⟨hcell j o v q1,q2⟩,fun c C hC=>?_,fun j x h=>(hoth j (fun e=>by subst e; rw[hw] at h; cases h)).trans h,by rw[hsz]; exact Nat.le_refl _,fun j marr cl hs hm=>⟨(hoth j (fun e=>by subst e; rw[hw] at hm; cases hm)).trans hm,(hp.map j marr cl hs hm).2⟩,fun j _ hj=>hoth j (fun e=>hj c0 (e ▸ hc0)),hp.fresh⟩⟩
 rotate_left 1
 ·obtain ⟨C',hC',ht⟩:=hp.blk c C hC
  refine⟨C',hC',?_⟩
  cases C with
  | row wr es els=>cases wr with
   | true=>cases C' with
    | row wr' es' els'=>cases wr'<;>exact ht
    | _=>exact ht
   | false=>cases C' with
    | row wr' es' els'=>cases wr' with
     | true=>exact ht
     | false =>
      obtain ⟨t1,t2,t3,t4,t5⟩:=ht
      exact⟨t1,t2,t3,t4,fun hl=>⟨(t5 hl).1,fun j arr ty hj ha=>⟨arr,(hoth j (hne ((t5 hl).1.trans hj))).trans ha,Nat.le_refl _⟩⟩⟩
    | _=>exact ht
  | _=>cases C'<;>exact ht
 have h:=hr.blk c C hC
 cases C with
 | box cs=>obtain ⟨j,arr',ty',h1,h2,h3⟩:=h; exact⟨j,arr',ty',h1,(hoth j (hne h1)).trans h2,bp.eZ he _ _ h3⟩
 | row wr es els=>cases wr with
  | true =>
   obtain ⟨ds,h1,h2,h3⟩:=h
   exact⟨ds,bn.eZ he _ _ h1,h2,fun hp=>let ⟨j,arr',ty',e1,e2,e3⟩:=h3 hp; ⟨j,arr',ty',e1,(hoth j (hne e1)).trans e2,e3⟩⟩
  | false =>
   obtain ⟨h1,h2⟩:=h
   exact⟨bn.eZ he _ _ h1,h2⟩
 | rng st=>obtain ⟨j,h1,h2⟩:=h; exact⟨j,h1,(hoth j (hne h1)).trans h2⟩
 | mp _ _ _=>obtain ⟨j,marr,cl,h1,h2,h3,h4⟩:=h; exact⟨j,marr,cl,h1,(hoth j (hne h1)).trans h2,h3,bp.eZ he _ _ h4⟩
 | dead=>exact h
 | hole=>exact h
theorem sZ {w:World} {k n:Nat} {arr:Array Value} {ty:TypeId} (hw:w.heap[k]? = some (.cells arr ty (0,0))):w.freeze ⟨k,n,none⟩ 1=w.putObj k (.cells arr ty (n,n+1)):=by
 unfold World.freeze World.putObj
 rw[if_neg (by decide)]
 congr 1
 apply Array.ext
 ·simp
 ·intro i h1 h2
  have hi:i<w.heap.size:=by simpa using h1
  rw[Array.getElem_modify,Array.getElem_setIfInBounds]
  by_cases h:k=i
  ·subst h
   have e:w.heap[k]=.cells arr ty (0,0):=by
    have:=(Array.getElem?_eq_some_iff.1 hw).2
    exact this
   rw[if_pos rfl,if_pos rfl,e]
   simp
  ·rw[if_neg h,if_neg h]
theorem wa {P:Program} (hr:Rel H g w0 w) {lo:Nat} {s t:TypeId} {x:A} {c:Value} {r:A×ay} (h:Ca P s t x H lo=some r) (hx:VR H g w x c) :
  Step H g w0 w lo ((convert s t c).run P w) r.1 r.2:=by
 unfold Ca at h
 split at h
 ·rename_i e hs
  split at h
  ·rename_i he
   split at h
   ·rename_i b o n cl
    split at h
    ·rename_i es els hb
     obtain ⟨hc,hk⟩:=bf h
     rw[Bool.and_eq_true] at hc
     have hst:s=t:=Nat.eq_of_beq_eq_true hc.1
     have hn:0<n:=of_decide_eq_true hc.2
     subst hst
     have hx0:=hx
     rw[VR,hb] at hx
     obtain ⟨h0,a,cap,rfl,e1,e2,e3⟩:=hx
     obtain ⟨k,hk1,rfl⟩:=e3 hn
     obtain ⟨ds,d1,d2,d3⟩:=hr.blk b _ hb
     obtain ⟨k',arr,ty,m1,m2,m3⟩:=d3 (by omega)
     rw[hk1] at m1; cases m1
     obtain ⟨g',r1,r2,r3,r4,r5,r6⟩:=zV hr hk hx0
     have hkk:r.2=H.set b .dead:=by
      simp only[tE,hb] at hk
      obtain ⟨_,hk⟩:=bf hk
      cases hk; rfl
     have hno:∀ c,g'.mu c≠some k:=fun c hc=>by
      have hcl:=(r1.dom c k hc).1
      rw[r4] at hcl
      obtain ⟨C,hC⟩:∃ C,H[c]? = some C:=⟨_,List.getElem?_eq_getElem hcl⟩
      obtain ⟨C',hC',hbt⟩:=r2.blk c C hC
      by_cases ecb:c=b
      ·subst ecb
       rw[hkk,List.getElem?_set_self hcl] at hC'
       cases hC'
       have:=r1.blk c .dead (by rw[hkk,List.getElem?_set_self hcl])
       rw[show g'.mu c=none from this] at hc; cases hc
      ·rw[hkk,List.getElem?_set_ne (Ne.symm ecb),hC] at hC'
       cases hC'
       have hmu:g.mu c=some k∨C=.dead∨C=.hole:=by
        cases C with
        | box _=>left; exact(show g'.mu c=g.mu c from hbt).symm.trans hc
        | row wr es' els'=>cases wr with
         | true=>left; exact hbt.2.2.symm.trans hc
         | false=>left; exact(hbt.2.2.2.2 rfl).1.symm.trans hc
        | rng _=>left; exact hbt.1.symm.trans hc
        | mp _ _ _=>left; exact(show g'.mu c=g.mu c from hbt).symm.trans hc
        | dead=>right; left; rfl
        | hole=>right; right; rfl
       rcases hmu with h1 | rfl | rfl
       ·exact ecb (hr.inj c b k h1 hk1)
       ·have:=r1.blk c .dead (by rw[hkk,List.getElem?_set_ne (Ne.symm ecb)]; exact hC)
        rw[show g'.mu c=none from this] at hc; cases hc
       ·have:=r1.blk c .hole (by rw[hkk,List.getElem?_set_ne (Ne.symm ecb)]; exact hC)
        rw[show g'.mu c=none from this] at hc; cases hc
     obtain ⟨q1,q0,q2⟩:=r1.O2 (hr.dom b k hk1).2.1 m2 hno (arr.size,arr.size+1)
     refine⟨_,_,g',?_,q1,q2 r2 hk1,VR.eZ q0 _ _ r3,Nat.le_of_eq r4.symm,r5,r6⟩
     have hsh:w.shape? k=some (ty,arr.size):=by unfold World.shape?; rw[m2]
     rw[<-sZ m2]
     simp[convert,run_underlying hs,run_underlying he,markStringish,hsh]
    ·cases h
   ·cases h
  ·cases h
 ·cases h
end
section
open Go.RowKit
variable {H H':ay} {g g':Gh} {w0 w w':World} {cx:Cx} {s:St} {a:Act} {F:Fence} {n:Nat}
def gw (H:ay) (g:Gh) (w0 w:World) (lo:Nat) (r:R) (e:Ending) (w':World):Prop:=∃ g',Rel r.2 g' w0 w'/\Ext H g w r.2 g' w'/\H.length<=r.2.length/\(∀ b,b<lo->b<H.length->r.2[b]? = H[b]?)/\g'.S=g.S ∧
  match r.1,e with
  | .ret x,.returned c=>VR r.2 g' w' x c
  | .pan x,.panicked ch=>∃ c,ch=[{ v:=c,recovered:=false }]/\VR r.2 g' w' x c
  | _,_=>False
structure oI (cx:Cx) (Bs:ay->Gh->World->Prop) (call:aS):Prop where
 up:∀ (H:ay) (g:Gh) (w:World) (H':ay) (g':Gh) (w':World),Bs H g w->Ext H g w H' g' w'->Bs H' g' w'
 yl:∀ (b:Nat) (args:List A) (H:ay) (lo:Nat) (r:R),call (cx.P.funcs.size+b) args H lo=some r->∀ (F:Fence) (n l:Nat) (g:Gh) (w0 w:World) (cargs:List Value),gq F->Bs H g w->Rel H g w0 w ->
  (∀ (G:Nat) (vs:List Value),cx.glob G=some vs->bB H g w G 0 vs)->bp H g w args cargs->g.mu b=some l->YieldAt F n cx.P l cargs.toArray w (gw H g w0 w lo r)
structure dW (cx:Cx) (Bs:ay->Gh->World->Prop) (call:aS):Prop extends oI cx Bs call where
 fn:∀ (k:Nat) (args:List A) (H:ay) (lo:Nat) (r:R),k<cx.P.funcs.size->call k args H lo=some r->∀ (F:Fence) (n:Nat) (g:Gh) (w0 w:World) (cargs:List Value),gq F->F.round=none->Bs H g w->Rel H g w0 w ->
  (∀ (G:Nat) (vs:List Value),cx.glob G=some vs->bB H g w G 0 vs)->bp H g w args cargs->CallsIn F n cx.P k cargs.toArray w (gw H g w0 w lo r)
 ct:∀ (k:Nat) (args:List A) (H:ay) (lo:Nat) (r:R),k<cx.P.funcs.size->cx.cut k≠0->cx.cut k<=H.length->call k args H lo=some r->r.2.length=H.length/\∀ b,cx.cut k<=b->r.2[b]? = H[b]?
theorem iD {P:Program} {k:Nat} (hk:cW P k=true):k<P.funcs.size:=by
 unfold cW at hk
 cases hf:P.funcs[k]? with
 | none=>rw[hf] at hk; cases hk
 | some fn=>exact(Array.getElem?_eq_some_iff.1 hf).1
def jA (cx:Cx):Prop:=∀ k args r,(cx.isOrc k=true∨cx.isOrcV k=true∨cx.deep k=true)->cx.C k args=some r->iU cx.P cx.glob k args r
theorem HN {ev:Operand->Value} {c:Call} {gop:Operand} (hc:c.callee=.value gop) {k:Nat} {ds es:Array Value} (hv:ev gop=.func (.func k) ds es) (hk:cW cx.P k=true) (ty:TypeId) (w:World) :
  (do let d <-resolve ev c ty; invoke d.target d.args:Sem Next).run cx.P w=.ok (.enter k (ds++c.args.map ev++es)) w:=by
 unfold cW at hk
 cases hf:cx.P.funcs[k]? with
 | none=>rw[hf] at hk; cases hk
 | some fn =>
  rw[hf] at hk
  simp only[Bool.and_eq_true,Bool.not_eq_true'] at hk
  have h1:¬ fn.body=none:=by intro hb; rw[hb] at hk; simp at hk
  have h2:¬ fn.name = "runtime.NumGoroutine" := by simpa using hk.2
  simp[resolve,hc,hv,Deferred.ofValue,invoke,callFunc,program,Sem.run,hf,h1,h2]
theorem jV {ev:Operand->Value} {o:Oper} {k:Nat} {args:List A} (hs:sQ cx s g w0 o.op ev w) (h:callee? cx s o.op=some (k,args)):cW cx.P k=true ∧
  ∃ cargs:List Value,(execOp ev o).run cx.P w=.ok (.enter k cargs.toArray) w/\bp s.H g w args cargs:=by
 unfold callee? at h
 split at h
 ·rename_i c ho
  rw[ho] at hs
  split at h
  ·rename_i gop hgop
   split at h
   ·rename_i k' first cap hf
    obtain ⟨hcb,h⟩:=bf h
    cases h
    have hgv:=hs.one gop (by simp[Op.operands,Call.operands,hgop])
    rw[hf,VR] at hgv
    obtain ⟨ds,es,hev,h1,h2⟩:=hgv
    refine⟨hcb,ds.toList++(c.args.toList.map ev)++es.toList,?_,(h1.append (hs.many _ (fun x hx=>by simp[Op.operands,Call.operands,hgop]; exact .inr (by simpa using hx)))).append h2⟩
    have:=HN (cx:=cx) hgop hev hcb o.type w
    unfold execOp
    rw[ho]
    refine this.trans ?_
    congr 2
    apply Array.ext'
    simp
   ·cases h
  ·cases h
 ·cases h
theorem DA {ev:Operand->Value} {o:Oper} {b:Nat} {args:List A} (hs:sQ cx s g w0 o.op ev w) (h:yldOf? cx s o.op=some (b,args)) (hb:w9 s.H b=true) :
  ∃ (l:Nat) (cargs:List Value),(execOp ev o).run cx.P w=(Instr.yield l cargs.toArray).run cx.P w/\bp s.H g w args cargs/\g.mu b=some l:=by
 have hblk:∃ st,s.H[b]? = some (.rng st):=by
  unfold w9 at hb
  split at hb
  ·rename_i st h; exact⟨st,h⟩
  ·cases hb
 obtain ⟨st,hst⟩:=hblk
 unfold yldOf? at h
 split at h
 ·rename_i c ho
  rw[ho] at hs
  split at h
  ·rename_i gop hgop
   split at h
   ·rename_i b' hf
    cases h
    have hgv:=hs.one gop (by simp[Op.operands,Call.operands,hgop])
    rw[hf,VR,hst] at hgv
    obtain ⟨l,hl,hev⟩:=hgv
    refine⟨l,c.args.toList.map ev,?_,hs.many _ (fun x hx=>by simp[Op.operands,Call.operands,hgop]; exact .inr (by simpa using hx)),hl⟩
    unfold execOp
    rw[ho]
    have ea:(c.args.toList.map ev).toArray=c.args.map ev:=by apply Array.ext'; simp
    rw[ea]
    simp[resolve,hgop,hev,Deferred.ofValue,invoke]
   ·cases h
  ·cases h
 ·cases h
theorem Marks.lZ {B:Nat} {W W':World} {ds:List Deferred} (h:Marks B W ds) (hk:∀ (k:Nat) (x:Option (List Deferred)),W.heap[k]? = some (.deferred x)->W'.heap[k]? = some (.deferred x)):Marks B W' ds:=by
 obtain ⟨rs,e,h2,h3⟩:=h
 exact⟨rs,e,h2,fun r hr=>⟨(h3 r hr).1,hk r _ (h3 r hr).2⟩⟩
structure Mb where
 B:Nat
 base:List Deferred
 free:Bool
def gW (mb:Mb) (W:World) (ds:List Deferred):Prop:=∃ ms,ds=ms++mb.base/\Marks mb.B W ms/\(mb.free=false->ms=[])
theorem gW.lZ {mb:Mb} {W W':World} {ds:List Deferred} (h:gW mb W ds) (hk:∀ (k:Nat) (x:Option (List Deferred)),W.heap[k]? = some (.deferred x)->W'.heap[k]? = some (.deferred x)):gW mb W' ds :=
 let ⟨ms,e,h1,h2⟩:=h; ⟨ms,e,h1.lZ hk,h2⟩
theorem gW.start (B:Nat) (W:World) (ds:List Deferred) (fr:Bool):gW ⟨B,ds,fr⟩ W ds:=⟨[],rfl,Marks.nil _ _,fun _=>rfl⟩
structure Good (cx:Cx) (N:Nat) (mb:Mb) (lo:Nat) (H0:ay) (gs:Gh) (ws w0:World) (s:St) (g:Gh) (a:Act) (w:World):Prop where
 sr:SR cx s g w0 a w
 ext:Ext H0 gs ws s.H g w
 len:H0.length<=s.H.length
 low:∀ b,b<lo->b<H0.length->s.H[b]? = H0[b]?
 siz:a.tmps.size=N
 dfr:gW mb w a.defers
 mbw:mb.B<=w.heap.size
 st:g.S=gs.S
variable {N lo:Nat} {mb:Mb} {H0:ay} {gs:Gh} {ws:World} {Bs:ay->Gh->World->Prop}
theorem Act.pq (a:Act) (d:Option Nat) (v:Value):(a.put d v).tmps.size=a.tmps.size:=by cases d<;>simp[Act.put]
theorem Act.xm (a:Act) (d:Option Nat) (v:Value):(a.put d v).defers=a.defers:=by cases d<;>rfl
theorem Good.step (h:Good cx N mb lo H0 gs ws w0 s g a w) {H':ay} (hr:Rel H' g' w0 w') (he:Ext s.H g w H' g' w') (hl:s.H.length<=H'.length) (hlo:∀ b,b<lo->b<s.H.length->H'[b]? = s.H[b]?) (hst:g'.S=g.S) {dst:Option Nat} {x:A} {c:Value} (hx:VR H' g' w' x c) (hd:∀ d,dst=some d->d<N) :
  Good cx N mb lo H0 gs ws w0 (({ s with H:=H' }:St).put dst x) g' (a.put dst c) w':=by
 have hH:(({ s with H:=H' }:St).put dst x).H=H':=by cases dst<;>rfl
 refine⟨h.sr.step hr he hx (by rw[h.siz]; exact hd),by rw[hH]; exact h.ext.trans he,by rw[hH]; exact Nat.le_trans h.len hl,fun b hb hb'=>?_,by rw[Act.pq]; exact h.siz,by rw[Act.xm]; exact h.dfr.lZ he.kept,Nat.le_trans h.mbw he.size,hst.trans h.st⟩
 rw[hH,hlo b hb (Nat.lt_of_lt_of_le hb' h.len)]
 exact h.low b hb hb'
theorem Good.same (h:Good cx N mb lo H0 gs ws w0 s g a w) {dst:Option Nat} {x:A} {c:Value} (hx:VR s.H g w x c) (hd:∀ d,dst=some d->d<N):Good cx N mb lo H0 gs ws w0 (s.put dst x) g (a.put dst c) w :=
 h.step (H':=s.H) h.sr.rel (Ext.refl h.sr.rel) (Nat.le_refl _) (fun _ _ _=>rfl) rfl hx hd
theorem Good.lit (h:Good cx N mb lo H0 gs ws w0 s g a w) {t:Nat} {x:A} (hx:look s.fr t=x):Good cx N mb lo H0 gs ws w0 (s.put (some t) x) g a w:=by
 have hlk:∀ u,look (s.put (some t) x).fr u=look s.fr u:=fun u=>by
  show look ((t,x) :: s.fr) u=_
  rw[ek]; split
  ·rename_i e; rw[<-e,hx]
  ·rfl
 exact⟨⟨h.sr.rel,fun u=>by rw[hlk]; exact h.sr.fr u,h.sr.gl⟩,h.ext,h.len,h.low,h.siz,h.dfr,h.mbw,h.st⟩
theorem AJ {β:Type} {x:A} {p q:Option β} {r:β} {H:ay} {g:Gh} {w:World} {c:Value} (h:bD x p q=some r) (hv:VR H g w x c):∃ b,c=.bool b/\(if b=true then p else q)=some r:=by
 cases x with
 | nq els =>
  rw[VR] at hv
  obtain ⟨b,rfl,hb⟩:=hv
  refine⟨b,rfl,?_⟩
  simp only[bD,HL] at h
  cases els with
  | nil =>
   simp only[both] at h
   split at h
   ·rename_i e
    cases b
    ·exact h
    ·simp only[if_true]; rw[e]; exact h
   ·cases h
  | cons a l =>
   cases b with
   | false=>exact h
   | true=>cases hb rfl
 | v y =>
  cases y with
  | bool b =>
   rw[VR] at hv
   subst hv
   refine⟨b,rfl,?_⟩
   cases b<;>exact h
  | _=>cases h
 | _=>cases h
theorem oP {β:Type} {x:A} {p q:Option β} {r:β} (h:ew x p q=some r):∃ b,x=.v (.bool b)/\(if b then p else q)=some r:=by
 unfold ew at h
 split at h
 ·rename_i b; exact⟨b,rfl,by cases b<;>exact h⟩
 ·cases h
theorem fc {Q:Exit->Act->World->Prop} {next:Act->World->Prop} {o:Oper} {res:Result Next} {c:Value} {w':World} (h:res=.ok (.value c) w'∨(res=.ok .skip w'/\c=undef)) (hn:next (a.put o.dst c) w'):o.uponIn F n cx.P a next Q res:=by
 rcases h with rfl | ⟨rfl,rfl⟩<;>exact hn
theorem dU {Q:Exit->Act->World->Prop} {next:Act->World->Prop} {o:Oper} (hF:gq F) (hnd:∀ c,o.op≠.defer c) (h:o.uponIn F n cx.P a next Q ((execOp a.eval o).run cx.P w)):o.wpIn F n cx.P a w next Q:=by
 refine⟨fun f _=>hF.2.1 f,?_⟩
 rw[Oper.semAt_eq _ _ _ hnd]
 exact h
theorem mO {β:Type} {f lo:Nat} {o:Oper} {k:A->ay->Option β} {r:β} (h:bF cx f lo o s k=some r):∀ c,o.op≠.defer c:=fun c hc=>by
 unfold bF at h; rw[hc] at h; cases h
theorem yp {call:aS} (hcall:dW cx Bs call) (horc:jA cx) (hF:gq F) {f:Nat} {o:Oper} {k:St->Option R} {pan:A->St->Option R} {r:R} {next:Act->World->Prop} {Q:Exit->Act->World->Prop}
  (hb0:Bs H0 gs ws) (hg:Good cx N mb lo H0 gs ws w0 s g a w) (hd:∀ d,o.dst=some d->d<N) (h:rn cx call f lo o s k pan=some r)
  (hk:∀ s' g' a' w',Good cx N mb lo H0 gs ws w0 s' g' a' w'->k s'=some r->next a' w')
  (hp:∀ x s' g' w' c,Good cx N mb lo H0 gs ws w0 s' g' a w'->VR s'.H g' w' x c->pan x s'=some r->Q (.panic [{ v:=c,recovered:=false }]) a w'):o.wpIn F n cx.P a w next Q:=by
 have hs:=hg.sr.NC o.op
 have direct:bF cx f lo o s (fun x H=>k ({ s with H:=H }.put o.dst x))=some r->o.wpIn F n cx.P a w next Q:=fun h=>by
  obtain ⟨c,w',x,H',g',e1,e2,e3,e4,e5,e6,e7,e8⟩:=jW hs h
  exact dU hF (mO h) (fc e1 (hk _ _ _ _ (hg.step e3 e4 e6 e7 e8 e5 hd) e2))
 unfold rn at h
 split at h
 ·rename_i c x y ho
  obtain ⟨z,h0,h⟩:=bt h
  obtain ⟨b,hb,h0⟩:=oP h0
  have hc:=hs.one c (by rw[ho]; simp[Op.operands])
  have hx:=hs.one x (by rw[ho]; simp[Op.operands])
  have hy:=hs.one y (by rw[ho]; simp[Op.operands])
  rw[hb,VR] at hc
  refine dU hF (by rw[ho]; simp) (fc (c:=if b then a.eval x else a.eval y) (w':=w) (.inl ?_) ?_)
  ·unfold execOp
   rw[ho]
   simp[hc,asBool]
  ·cases b
   ·cases h0; exact hk _ _ _ _ (hg.same hy hd) h
   ·cases h0; exact hk _ _ _ _ (hg.same hx hd) h
 ·rename_i x ho
  have hx:=hs.one x (by rw[ho]; simp[Op.operands])
  unfold Ba at h
  split at h
  ·rename_i t y hy
   rw[hy] at hx
   have hx':=hx
   rw[VR] at hx
   obtain ⟨d,hd',_⟩:=hx
   refine dU hF (by rw[ho]; simp) ?_
   have hrun:(execOp a.eval o).run cx.P w=.halt (.panic (a.eval x)) w:=by
    unfold execOp
    rw[ho]
    show (do pure (.value (<-Instr.panic (a.eval x))):Sem Next).run cx.P w=_
    rw[hd']
    simp[Instr.panic,goPanic,Sem.run,Result.andThen]
   rw[hrun]
   exact hp _ s g w _ hg hx' h
  ·cases h
 ·rename_i t' n' parts ho
  rw[br] at h
  split at h
  ·obtain ⟨q,h1,h2⟩:=bt h
   obtain ⟨d,w',g',e1,e2,e3,e4,e5,e6,e7⟩:=qx hg.sr.rel lo h1 (hs.Di parts (by rw[ho]; simp[Op.operands]; exact fun a b h=>⟨a,h⟩))
   refine dU hF (by rw[ho]; simp) (fc (.inl ?_) (hk _ _ _ _ (hg.step e2 e3 e5 e6 e7 e4 hd) h2))
   unfold execOp
   rw[ho]
   exact hX e1
  ·exact direct h
 ·rename_i t' n' c' ho
  rw[br] at h
  split at h
  ·obtain ⟨q,h1,h2⟩:=bt h
   obtain ⟨d,w',g',e1,e2,e3,e4,e5,e6,e7⟩:=jU hg.sr.rel lo h1 (hs.one n' (by rw[ho]; simp[Op.operands])) (hs.one c' (by rw[ho]; simp[Op.operands]))
   refine dU hF (by rw[ho]; simp) (fc (.inl ?_) (hk _ _ _ _ (hg.step e2 e3 e5 e6 e7 e4 hd) h2))
   unfold execOp
   rw[ho]
   exact hX e1
  ·exact direct h
 ·rename_i t' t'' x ho
  rw[br] at h
  split at h
  ·obtain ⟨q,h1,h2⟩:=bt h
   obtain ⟨d,w',g',e1,e2,e3,e4,e5,e6,e7⟩:=wa hg.sr.rel h1 (hs.one x (by rw[ho]; simp[Op.operands]))
   refine dU hF (by rw[ho]; simp) (fc (.inl ?_) (hk _ _ _ _ (hg.step e2 e3 e5 e6 e7 e4 hd) h2))
   unfold execOp
   rw[ho]
   exact hX e1
  ·exact direct h
 ·rename_i c ho
  rw[br] at h
  split at h
  ·rw[rk] at h
   unfold FQ at h
   split at h
   ·rename_i p hy
    obtain ⟨b,args⟩:=p
    obtain ⟨hrb,h⟩:=bf h
    obtain ⟨l,cargs,hrun,hv,hl⟩:=DA hs hy hrb
    refine dU hF (by rw[ho]; simp) ?_
    replace h:=bt h
    obtain ⟨⟨out,H'⟩,hy,h⟩:=h
    obtain ⟨fn',tm',as',bo',hrun',hR⟩:=hcall.yl b args s.H lo (out,H') hy F (n - 1) l g w0 w cargs hF (hcall.up _ _ _ _ _ _ hb0 hg.ext) hg.sr.rel hg.sr.gl hv hl
    rw[hrun,hrun',Oper.uponIn_round]
    refine⟨fun hd=>(by rw[hF.1] at hd; cases hd),hR.mono ?_⟩
    rintro e w' ⟨g',e1,e2,e3,e4,e6,e5⟩
    cases out with
    | ret x =>
     cases e with
     | returned c'=>exact hk _ _ _ _ (hg.step e1 e2 e3 e4 e6 e5 hd) h
     | panicked _=>exact e5.elim
     | outgrown=>exact e5.elim
    | pan x=>cases h
   replace h:=bt h
   obtain ⟨⟨k',args⟩,hce,h⟩:=h
   obtain ⟨hcb,cargs,hrun,hv⟩:=jV hs hce
   refine dU hF (by rw[ho]; simp) ?_
   rw[hrun,Oper.uponIn_enter]
   refine⟨fun hd=>(by rw[hF.1] at hd; cases hd),?_⟩
   rw[br] at h
   split at h
   ·rename_i hiso
    replace h:=bt h
    obtain ⟨y,hy,h⟩:=h
    have hr:=hg.sr.rel
    have hst:∀ k o,w.heap.size<=k->eX s.H g k o:=fun k o hk=>⟨hr.out k o hk,fun b hb=>absurd (hr.dom b k hb).2.2 (by omega)⟩
    have hcallok:=horc k' _ y (.inl hiso) hy (eX s.H g) w cargs hst (fun G vs hG j v hj=>let ⟨e1,e2⟩:=hg.sr.gl G vs hG j v hj; ⟨e1,e2,fun b hb=>by cases hb⟩) (xD hr hv)
    refine(gY hF hcallok).mono ?_
    rintro e w' ⟨c',rfl,hb,hvr⟩
    exact hk _ _ _ _ (hg.step (H':=s.H) (hr.eE hb) (Ext.below hr hb) (Nat.le_refl _) (fun _ _ _=>rfl) rfl (VR.back (fun _ _ h=>h) hvr) hd) h
   ·replace h:=bt h
    obtain ⟨⟨out,H'⟩,hy,h⟩:=h
    have hci:CallsIn F.plain (n - 1) cx.P k' cargs.toArray w _:=hcall.fn k' args s.H lo (out,H') (iD hcb) hy F.plain (n - 1) g w0 w cargs hF rfl (hcall.up _ _ _ _ _ _ hb0 hg.ext) hg.sr.rel hg.sr.gl hv
    have hci':CallsIn F (n - 1) cx.P k' cargs.toArray w _:=hci
    refine hci'.mono ?_
    rintro e w' ⟨g',e1,e2,e3,e4,e6,e5⟩
    cases out with
    | ret x =>
     cases e with
     | returned c'=>exact hk _ _ _ _ (hg.step e1 e2 e3 e4 e6 e5 hd) h
     | panicked _=>exact e5.elim
     | outgrown=>exact e5.elim
    | pan x =>
     cases e with
     | returned _=>exact e5.elim
     | panicked ch =>
      obtain ⟨c',rfl,hvr⟩:=e5
      have hg':=hg.step (dst:=none) (x:=x) e1 e2 e3 e4 e6 hvr (fun d hd=>by cases hd)
      exact hp x { s with H:=H' } g' w' c' hg' hvr h
     | outgrown=>exact e5.elim
  ·exact direct h
 ·exact direct h
theorem jM {ops:Array Oper} {o:Oper} {t:Nat} {want:Bool} (h:bT ops o=some (t,want)) {b:Bool} (hg:a.tmps.getD t undef=.bool b):Region.wanted o (yielded ops a.tmps)=(b==want):=by
 rw[je] at h
 split at h
 ·rename_i j want' hgd
  cases hd:(ops[j]?).bind (·.dst) with
  | none=>rw[hd] at h; cases h
  | some t' =>
   rw[hd] at h
   cases h
   have ht:a.tmps[t]? = some (.bool b):=by
    rw[Array.getD_eq_getD_getElem?] at hg
    cases hx:a.tmps[t]? with
    | none=>rw[hx] at hg; cases hg
    | some v=>rw[hx] at hg; simp at hg; rw[hg]
   simp only[Region.wanted,hgd,yielded,hd,Option.bind_some,ht]
   cases b<;>cases want<;>rfl
 ·cases h
theorem lW {ops:Array Oper} {o:Oper} {t:Nat} {want:Bool} (h:bT ops o=some (t,want)) {y:Array Value} (hg:a.tmps.getD t undef=.tuple y):Region.wanted o (yielded ops a.tmps)=false:=by
 rw[je] at h
 split at h
 ·rename_i j want' hgd
  cases hd:(ops[j]?).bind (·.dst) with
  | none=>rw[hd] at h; cases h
  | some t' =>
   rw[hd] at h
   cases h
   rw[Array.getD_eq_getD_getElem?] at hg
   simp only[Region.wanted,hgd,yielded,hd,Option.bind_some]
   cases hx:a.tmps[t]? with
   | none=>cases want<;>rfl
   | some v=>rw[hx] at hg; simp at hg; subst hg; cases want<;>rfl
 ·cases h
theorem mX {β:Type} {x:A} {want:Bool} {p q:Option β} {r:β} (h:ky x want p q=some r):(∃ b,x=.v (.bool b)/\(if b==want then p else q)=some r)∨∃ y,x=.v (.tuple y)/\q=some r:=by
 unfold ky at h
 split at h
 ·rename_i b; exact .inl ⟨b,rfl,by cases b<;>cases want<;>exact h⟩
 ·exact .inr ⟨_,rfl,h⟩
 ·cases h
end
section
open Go.RowKit
variable {H H':ay} {g g':Gh} {w0 w w':World}
theorem ult {b:Nat} {H:ay} {B:aD} (h:H[b]? = some B):decide (b<H.length)=true:=decide_eq_true (List.getElem?_eq_some_iff.1 h).1
mutual
theorem VR.under:∀ (a:A) (c:Value),VR H g w a c->A.under H.length a=true
 | .any,_,_=>rfl
 | .v _,_,_=>rfl
 | .ptr b o,c,h=>by
  rw[VR] at h
  cases hb:H[b]? with
  | none=>rw[hb] at h; exact h.elim
  | some B=>exact ult hb
 | .ep b i o,c,h=>by
  rw[VR] at h
  cases hb:H[b]? with
  | none=>rw[hb] at h; exact h.elim
  | some B=>exact ult hb
 | .ip cs,c,h=>by rw[VR] at h; obtain ⟨_,_,ds,_,_,h3⟩:=h; rw[A.under]; exact bp.under cs ds h3
 | .imm els cl,c,h=>by rw[VR] at h; obtain ⟨_,_,ds,_,_,_,_,_,_,h6⟩:=h; rw[A.under]; exact bn.under els ds h6
 | .sl b o n cl,c,h=>by
  rw[VR] at h
  cases hb:H[b]? with
  | none=>rw[hb] at h; exact h.elim
  | some B=>exact ult hb
 | .nq _,_,_=>rfl
 | .mr b,c,h=>by
  rw[VR] at h
  cases hb:H[b]? with
  | none=>rw[hb] at h; exact h.elim
  | some B=>exact ult hb
 | .mv k ks vs,c,h=>by rw[VR] at h; obtain ⟨_,_,_,_,_,_,_,h5⟩:=h; rw[A.under]; exact bp.under vs _ h5
 | .yld b,c,h=>by
  rw[VR] at h
  cases hb:H[b]? with
  | none=>rw[hb] at h; exact h.elim
  | some B=>exact ult hb
 | .agg cs,c,h=>by rw[VR] at h; obtain ⟨ds,_,h2⟩:=h; rw[A.under]; exact bp.under cs _ h2
 | .tup cs,c,h=>by rw[VR] at h; obtain ⟨ds,_,h2⟩:=h; rw[A.under]; exact bp.under cs _ h2
 | .fn f p q,c,h=>by rw[VR] at h; obtain ⟨ds,es,_,h2,h3⟩:=h; rw[A.under,bp.under p _ h2,bp.under q _ h3]; rfl
 | .ifc t x,c,h=>by rw[VR] at h; obtain ⟨d,_,h2⟩:=h; rw[A.under]; exact VR.under x d h2
theorem bp.under:∀ (cs:List A) (ds:List Value),bp H g w cs ds->aZ H.length cs=true
 | [],_,_=>rfl
 | a :: as,_,h=>by rw[bp] at h; obtain ⟨d,ds',_,h2,h3⟩:=h; rw[aZ,VR.under a d h2,bp.under as ds' h3]; rfl
theorem bn.under:∀ (cs:List (List A)) (ds:List (List Value)),bn H g w cs ds->aG H.length cs=true
 | [],_,_=>rfl
 | a :: as,_,h=>by rw[bn] at h; obtain ⟨d,ds',_,h2,h3⟩:=h; rw[aG,bp.under a d h2,bn.under as ds' h3]; rfl
end
theorem lF.under {b:Nat} {B:aD} (h:lF H g w b B):B.under H.length=true:=by
 cases B with
 | box cs=>obtain ⟨_,_,_,_,_,h3⟩:=h; exact bp.under cs _ h3
 | row wr es els=>cases wr with
  | true=>obtain ⟨ds,h1,_⟩:=h; exact bn.under els ds h1
  | false=>exact bn.under els _ h.1
 | rng _=>rfl
 | mp _ _ _=>obtain ⟨_,_,_,_,_,_,h4⟩:=h; exact bp.under _ _ h4
 | dead=>rfl
 | hole=>rfl
structure kA (L:Nat) (H:ay) (g:Gh) (H':ay) (g':Gh):Prop where
 stab:∀ k o,eX H g k o->eX H' g' k o
 blk:∀ b,b<L->H'[b]? = H[b]?
 mu:∀ (b:Nat) (B:aD),b<L->H[b]? = some B->g'.mu b=g.mu b
 ga:∀ (b es:Nat) (els:List (List A)),b<L->H[b]? = some (.row false es els)->g'.ga b=g.ga b
 lr:∀ (b:Nat) (st:cp),b<L->H[b]? = some (.rng st)->g'.lr b=g.lr b
theorem bB.to {L:Nat} (ha:kA L H g H' g') {k off:Nat} {ds:List Value} (h:bB H g w k off ds):bB H' g' w k off ds:=fun j v hj=>⟨(h j v hj).1,ha.stab _ _ (h j v hj).2⟩
mutual
theorem VR.to {L:Nat} (ha:kA L H g H' g'):∀ (a:A) (c:Value),A.under L a=true->VR H g w a c->VR H' g' w a c
 | .any,_,_,_=>by rw[VR]; trivial
 | .v x,c,_,h=>by rw[VR] at h ⊢; exact h
 | .ptr b o,c,hu,h=>by
  rw[A.under] at hu
  have hu:=of_decide_eq_true hu
  rw[VR] at h ⊢
  rw[ha.blk b hu]
  cases hb:H[b]? with
  | none=>rw[hb] at h; exact h
  | some B =>
   rw[hb] at h
   have hm:=ha.mu b B hu hb
   cases B with
   | box _=>obtain ⟨k,h1,h2⟩:=h; exact⟨k,hm.trans h1,h2⟩
   | _=>exact h
 | .ep b i o,c,hu,h=>by
  rw[A.under] at hu
  have hu:=of_decide_eq_true hu
  rw[VR] at h ⊢
  rw[ha.blk b hu]
  cases hb:H[b]? with
  | none=>rw[hb] at h; exact h
  | some B =>
   rw[hb] at h
   have hm:=ha.mu b B hu hb
   cases B with
   | row wr es els=>cases wr with
    | true=>obtain ⟨h0,k,h1,h2⟩:=h; exact⟨h0,k,hm.trans h1,h2⟩
    | false=>exact h
   | _=>exact h
 | .ip cs,c,hu,h=>by
  rw[A.under] at hu
  rw[VR] at h ⊢
  obtain ⟨k,off,ds,h1,h2,h3⟩:=h
  exact⟨k,off,ds,h1,h2.to ha,bp.to ha cs ds hu h3⟩
 | .imm els cl,c,hu,h=>by
  rw[A.under] at hu
  rw[VR] at h ⊢
  obtain ⟨a,cap,ds,es,h1,h2,h3,h4,h5,h6⟩:=h
  exact⟨a,cap,ds,es,h1,h2,h3,h4,fun hp=>let ⟨k,off,e1,e2⟩:=h5 hp; ⟨k,off,e1,e2.to ha⟩,bn.to ha els ds hu h6⟩
 | .sl b o n cl,c,hu,h=>by
  rw[A.under] at hu
  have hu:=of_decide_eq_true hu
  rw[VR] at h ⊢
  rw[ha.blk b hu]
  cases hb:H[b]? with
  | none=>rw[hb] at h; exact h
  | some B =>
   rw[hb] at h
   have hm:=ha.mu b B hu hb
   cases B with
   | row wr es els=>cases wr with
    | true =>
     obtain ⟨h0,a,cap,h1,h2,h3,h4⟩:=h
     exact⟨h0,a,cap,h1,h2,h3,fun hp=>let ⟨k,e1,e2⟩:=h4 hp; ⟨k,hm.trans e1,e2⟩⟩
    | false =>
     obtain ⟨h0,a,cap,h1,h2,h3,h4,h5⟩:=h
     exact⟨h0,a,cap,h1,h2,h3,fun hp=>let ⟨k,off,e1,e2⟩:=h4 hp; ⟨k,off,e1,by rw[ha.ga b es els hu hb]; exact e2.to ha⟩,fun p q r t=>let ⟨k,arr,ty,e1,e2,e3,e4⟩:=h5 p q r t; ⟨k,arr,ty,hm.trans e1,e2,e3,e4⟩⟩
   | _=>exact h
 | .nq _,c,hu,h=>by rw[VR] at h ⊢; exact h
 | .mr b,c,hu,h=>by
  rw[A.under] at hu
  have hu:=of_decide_eq_true hu
  rw[VR] at h ⊢
  rw[ha.blk b hu]
  cases hb:H[b]? with
  | none=>rw[hb] at h; exact h
  | some B =>
   rw[hb] at h
   have hm:=ha.mu b B hu hb
   cases B with
   | mp _ _ _=>obtain ⟨k,e1,e2⟩:=h; exact⟨k,hm.trans e1,e2⟩
   | _=>exact h
 | .mv k ks vs,c,hu,h=>by
  rw[A.under] at hu
  rw[VR] at h ⊢
  obtain ⟨r,arr,cl,h1,h2,h3,h4,h5⟩:=h
  exact⟨r,arr,cl,h1,ha.stab _ _ h2,h3,h4,bp.to ha vs _ hu h5⟩
 | .yld b,c,hu,h=>by
  rw[A.under] at hu
  have hu:=of_decide_eq_true hu
  rw[VR] at h ⊢
  rw[ha.blk b hu]
  cases hb:H[b]? with
  | none=>rw[hb] at h; exact h
  | some B =>
   rw[hb] at h
   have hm:=ha.mu b B hu hb
   cases B with
   | rng _=>obtain ⟨k,e1,e2⟩:=h; exact⟨k,hm.trans e1,e2⟩
   | _=>exact h
 | .agg cs,c,hu,h=>by
  rw[A.under] at hu
  rw[VR] at h ⊢
  obtain ⟨ds,h1,h2⟩:=h
  exact⟨ds,h1,bp.to ha cs _ hu h2⟩
 | .tup cs,c,hu,h=>by
  rw[A.under] at hu
  rw[VR] at h ⊢
  obtain ⟨ds,h1,h2⟩:=h
  exact⟨ds,h1,bp.to ha cs _ hu h2⟩
 | .fn f p q,c,hu,h=>by
  rw[A.under,Bool.and_eq_true] at hu
  rw[VR] at h ⊢
  obtain ⟨ds,es,h1,h2,h3⟩:=h
  exact⟨ds,es,h1,bp.to ha p _ hu.1 h2,bp.to ha q _ hu.2 h3⟩
 | .ifc t x,c,hu,h=>by
  rw[A.under] at hu
  rw[VR] at h ⊢
  obtain ⟨d,h1,h2⟩:=h
  exact⟨d,h1,VR.to ha x d hu h2⟩
theorem bp.to {L:Nat} (ha:kA L H g H' g'):∀ (cs:List A) (ds:List Value),aZ L cs=true->bp H g w cs ds->bp H' g' w cs ds
 | [],_,_,h=>by rw[bp] at h ⊢; exact h
 | a :: as,_,hu,h=>by
  rw[aZ,Bool.and_eq_true] at hu
  rw[bp] at h ⊢
  obtain ⟨d,ds',h1,h2,h3⟩:=h
  exact⟨d,ds',h1,VR.to ha a d hu.1 h2,bp.to ha as ds' hu.2 h3⟩
theorem bn.to {L:Nat} (ha:kA L H g H' g'):∀ (cs:List (List A)) (ds:List (List Value)),aG L cs=true->bn H g w cs ds->bn H' g' w cs ds
 | [],_,_,h=>by rw[bn] at h ⊢; exact h
 | a :: as,_,hu,h=>by
  rw[aG,Bool.and_eq_true] at hu
  rw[bn] at h ⊢
  obtain ⟨d,ds',h1,h2,h3⟩:=h
  exact⟨d,ds',h1,bp.to ha a d hu.1 h2,bn.to ha as ds' hu.2 h3⟩
end
theorem lF.to {L:Nat} (ha:kA L H g H' g') {b:Nat} {B:aD} (hb:b<L) (hB:H[b]? = some B) (hu:B.under L=true) (h:lF H g w b B):lF H' g' w b B:=by
 have hm:=ha.mu b B hb hB
 cases B with
 | box cs=>obtain ⟨k,arr,ty,h1,h2,h3⟩:=h; exact⟨k,arr,ty,hm.trans h1,h2,bp.to ha cs _ hu h3⟩
 | row wr es els=>cases wr with
  | true=>obtain ⟨ds,h1,h2,h3⟩:=h; exact⟨ds,bn.to ha els _ hu h1,h2,fun hp=>let ⟨k,arr,ty,e1,e2⟩:=h3 hp; ⟨k,arr,ty,hm.trans e1,e2⟩⟩
  | false =>
   have hga:=ha.ga b es els hb hB
   exact⟨by rw[hga]; exact bn.to ha els _ hu h.1,by rw[hga]; exact h.2⟩
 | rng st=>obtain ⟨k,h1,h2⟩:=h; exact⟨k,hm.trans h1,by rw[ha.lr b st hb hB]; exact h2⟩
 | mp _ _ _=>obtain ⟨k,arr,cl,h1,h2,h3,h4⟩:=h; exact⟨k,arr,cl,hm.trans h1,h2,h3,bp.to ha _ _ hu h4⟩
 | dead=>exact hm.trans h
 | hole=>exact hm.trans h
theorem Rel.back (hr:Rel H g w0 w) (hr':Rel H' g' w0 w') (he:Ext H g w H' g' w') (hst:g'.S=g.S) (hlow:∀ b,b<H.length->H'[b]? = H[b]?):Rel H g w0 w'/\Ext H g w H g w'/\kA H.length H' g' H g:=by
 have hbt:∀ (b:Nat) (B:aD),H[b]? = some B->BT g w g' w' b B B:=fun b B hB=>by
  obtain ⟨B',hB',ht⟩:=he.blk b B hB
  rw[hlow b (List.getElem?_eq_some_iff.1 hB).1,hB] at hB'
  cases hB'
  exact ht
 have hmu:∀ (b:Nat) (B:aD),H[b]? = some B->g'.mu b=g.mu b:=fun b B hB=>by
  have ht:=hbt b B hB
  cases B with
  | box _=>exact ht
  | row wr es els=>cases wr with
   | true=>exact ht.2.2
   | false=>exact(ht.2.2.2.2 rfl).1
  | rng _=>exact ht.1
  | mp _ _ _=>exact ht
  | dead =>
   have h1:g.mu b=none:=hr.blk b _ hB
   have h2:g'.mu b=none:=hr'.blk b .dead (by rw[hlow b (List.getElem?_eq_some_iff.1 hB).1]; exact hB)
   rw[h1,h2]
  | hole =>
   have h1:g.mu b=none:=hr.blk b _ hB
   have h2:g'.mu b=none:=hr'.blk b .hole (by rw[hlow b (List.getElem?_eq_some_iff.1 hB).1]; exact hB)
   rw[h1,h2]
 have hga:∀ (b es:Nat) (els:List (List A)),H[b]? = some (.row false es els)->g'.ga b=g.ga b:=fun b es els hB=>by
  obtain ⟨_,⟨r,e1⟩,e2,_,_⟩:=hbt b _ hB
  have h2:=(hr'.blk b _ (by rw[hlow b (List.getElem?_eq_some_iff.1 hB).1]; exact hB)).len
  rw[e1,List.length_append,e2] at h2
  have:r=[]:=List.eq_nil_of_length_eq_zero (by omega)
  rw[e1,this,List.append_nil]
 have ag:kA H.length H' g' H g:=by
  refine⟨fun k o hs=>⟨hst ▸ hs.1,fun b hb=>?_⟩,fun b hb=>(hlow b hb).symm,fun b B hb hB=>(hmu b B (by rw[<-hlow b hb]; exact hB)).symm,fun b es els hb hB=>(hga b es els (by rw[<-hlow b hb]; exact hB)).symm,fun b st hb hB=>(show g'.mu b=g.mu b/\g'.lr b=g.lr b from hbt b (.rng st) (by rw[<-hlow b hb]; exact hB)).2.symm⟩
  have hlt:=(hr.dom b k hb).1
  have hB:=List.getElem?_eq_getElem hlt
  obtain ⟨es,els,h1,h2⟩:=hs.2 b ((hmu b _ hB).trans hb)
  exact⟨es,els,by rw[<-hlow b hlt]; exact h1,h2⟩
 refine⟨⟨hr'.below,fun b k hb=>?_,hr.inj,(fun k o hk=>hst ▸ hr'.out k o hk),hr.own,fun b B hB=>?_⟩,⟨fun k o v hs hc=>⟨(he.cell k o v hs hc).1,hs⟩,fun b B hB=>⟨B,hB,?_⟩,he.kept,he.size,fun k arr cl hs hm=>⟨(he.map k arr cl hs hm).1,hs⟩,he.obj,fun b k h=>.inl ⟨b,h⟩⟩,ag⟩
 ·have h1:=hr.dom b k hb
  have h2:=hr'.dom b k ((hmu b _ (List.getElem?_eq_getElem h1.1)).trans hb)
  exact⟨h1.1,h1.2.1,h2.2.2⟩
 ·have hlt:=(List.getElem?_eq_some_iff.1 hB).1
  exact lF.to ag hlt (by rw[hlow b hlt]; exact hB) (hr.blk b B hB).under (hr'.blk b B (by rw[hlow b hlt]; exact hB))
 ·have ht:=hbt b B hB
  cases B with
  | box _=>rfl
  | row wr es els=>cases wr with
   | true=>exact⟨rfl,rfl,rfl⟩
   | false=>exact⟨rfl,⟨[],by simp⟩,ht.2.2.1,Nat.le_refl _,fun _=>⟨rfl,(ht.2.2.2.2 rfl).2⟩⟩
  | rng _=>exact⟨rfl,rfl⟩
  | mp _ _ _=>rfl
  | dead=>trivial
  | hole=>trivial
def Gh.cut (g:Gh) (L:Nat):Gh:={ g with mu:=fun b=>if b<L then g.mu b else none }
theorem Rel.cut (hr:Rel H g w0 w) {L:Nat} (hL:L<=H.length) (hu:∀ (b:Nat) B,b<L->H[b]? = some B->B.under L=true):Rel (H.take L) (g.cut L) w0 w/\kA L H g (H.take L) (g.cut L):=by
 have hmu:∀ {b k},(g.cut L).mu b=some k->b<L/\g.mu b=some k:=fun {b k} h=>by
  simp only[Gh.cut] at h
  split at h
  ·rename_i hb; exact⟨hb,h⟩
  ·cases h
 have hget:∀ b,b<L->(H.take L)[b]? = H[b]?:=fun b hb=>by rw[List.getElem?_take,if_pos hb]
 have ag:kA L H g (H.take L) (g.cut L):=by
  refine⟨fun k o hs=>⟨hs.1,fun b hb=>?_⟩,fun b hb=>hget b hb,fun b B hb _=>by simp[Gh.cut,hb],fun b es els _ _=>rfl,fun b st _ _=>rfl⟩
  obtain ⟨h1,h2⟩:=hmu hb
  obtain ⟨es,els,h3,h4⟩:=hs.2 b h2
  exact⟨es,els,by rw[hget b h1]; exact h3,h4⟩
 refine⟨⟨hr.below,fun b k hb=>?_,fun b c k h1 h2=>hr.inj b c k (hmu h1).2 (hmu h2).2,hr.out,(fun b k o h=>hr.own b k o (hmu h).2),fun b B hB=>?_⟩,ag⟩
 ·obtain ⟨h1,h2⟩:=hmu hb
  have:=hr.dom b k h2
  exact⟨by rw[List.length_take]; omega,this.2⟩
 ·have hb:b<L:=by have:=(List.getElem?_eq_some_iff.1 hB).1; rw[List.length_take] at this; omega
  rw[hget b hb] at hB
  exact lF.to ag hb hB (hu b B hb hB) (hr.blk b B hB)
theorem Ext.cut {H0:ay} {gs:Gh} {ws:World} (he:Ext H0 gs ws H g w) {L:Nat} (hL:H0.length<=L):Ext H0 gs ws (H.take L) (g.cut L) w:=by
 have hst:∀ {k o},eX H g k o->eX (H.take L) (g.cut L) k o:=fun {k o} h2=>by
  refine⟨h2.1,fun b hb=>?_⟩
  simp only[Gh.cut] at hb
  split at hb
  ·rename_i hlt
   obtain ⟨es,els,h3,h4⟩:=h2.2 b hb
   exact⟨es,els,by rw[List.getElem?_take,if_pos hlt]; exact h3,h4⟩
  ·cases hb
 refine⟨fun k o v hs hc=>?_,fun b B hB=>?_,he.kept,he.size,fun k arr cl hs hm=>⟨(he.map k arr cl hs hm).1,hst (he.map k arr cl hs hm).2⟩,he.obj,fun b k h=>he.fresh b k (by
  simp only[Gh.cut] at h
  split at h
  ·exact h
  ·cases h)⟩
 ·obtain ⟨h1,h2⟩:=he.cell k o v hs hc
  refine⟨h1,h2.1,fun b hb=>?_⟩
  simp only[Gh.cut] at hb
  split at hb
  ·rename_i hlt
   obtain ⟨es,els,h3,h4⟩:=h2.2 b hb
   exact⟨es,els,by rw[List.getElem?_take,if_pos hlt]; exact h3,h4⟩
  ·cases hb
 ·obtain ⟨B',hB',ht⟩:=he.blk b B hB
  have hb:b<L:=Nat.lt_of_lt_of_le (List.getElem?_eq_some_iff.1 hB).1 hL
  refine⟨B',by rw[List.getElem?_take,if_pos hb]; exact hB',?_⟩
  have e:(g.cut L).mu b=g.mu b:=by simp[Gh.cut,hb]
  cases B with
  | box _=>cases B' with
   | box _=>exact e.trans ht
   | row wr _ _=>exact ht
   | rng _=>exact ht
   | mp _ _ _=>exact ht
   | dead=>trivial
   | hole=>exact ht
  | row wr es els=>cases wr with
   | true=>cases B' with
    | box _=>exact ht
    | rng _=>exact ht
    | mp _ _ _=>exact ht
    | row wr' es' els'=>cases wr' with
     | true=>exact⟨ht.1,ht.2.1,e.trans ht.2.2⟩
     | false=>exact ht
    | dead=>trivial
    | hole=>exact ht
   | false=>cases B' with
    | box _=>exact ht
    | rng _=>exact ht
    | mp _ _ _=>exact ht
    | row wr' es' els'=>cases wr' with
     | true=>exact ht
     | false =>
      obtain ⟨h1,h2,h3,h4,h5⟩:=ht
      exact⟨h1,h2,h3,h4,fun hl=>⟨e.trans (h5 hl).1,(h5 hl).2⟩⟩
    | dead=>trivial
    | hole=>exact ht
  | rng st=>cases B' with
   | rng st'=>exact⟨e.trans ht.1,ht.2⟩
   | dead=>trivial
   | hole=>exact ht
   | box _=>exact ht
   | mp _ _ _=>exact ht
   | row wr _ _=>cases wr<;>exact ht
  | mp _ _ _=>cases B' with
   | mp _ _ _=>exact e.trans ht
   | rng _=>exact ht
   | dead=>trivial
   | hole=>exact ht
   | box _=>exact ht
   | row wr _ _=>cases wr<;>exact ht
  | dead=>cases B'<;>exact ht
  | hole=>trivial
end
section
open Go.RowKit
variable {H H1:ay} {g g1:Gh} {w0 w w1:World}
def Gh.qz (g:Gh) (H:ay) (m:Nat):Gh:={ g.cut m with S:=fun k o=>g.S k o/\∀ c,m<=c->g.mu c=some k->∃ es els,H[c]? = some (.row false es els)/\o<es*els.length }
theorem kh {g:Gh} {m b k:Nat} (h:(g.cut m).mu b=some k):b<m/\g.mu b=some k:=by
 simp only[Gh.cut] at h
 split at h
 ·rename_i hb; exact⟨hb,h⟩
 ·cases h
theorem Rel.qz (hr:Rel H g w0 w) {m:Nat} (hm:m<=H.length) (hu:∀ (b:Nat) B,b<m->H[b]? = some B->B.under m=true):Rel (H.take m) (g.qz H m) w0 w/\kA m H g (H.take m) (g.qz H m):=by
 have hget:∀ b,b<m->(H.take m)[b]? = H[b]?:=fun b hb=>by rw[List.getElem?_take,if_pos hb]
 have ag:kA m H g (H.take m) (g.qz H m):=by
  refine⟨fun k o hs=>⟨⟨hs.1,fun c _ hc=>hs.2 c hc⟩,fun b hb=>?_⟩,fun b hb=>hget b hb,fun b B hb _=>by simp[Gh.qz,Gh.cut,hb],fun b es els _ _=>rfl,fun b st _ _=>rfl⟩
  obtain ⟨h1,h2⟩:=kh hb
  obtain ⟨es,els,h3,h4⟩:=hs.2 b h2
  exact⟨es,els,by rw[hget b h1]; exact h3,h4⟩
 refine⟨⟨hr.below,fun b k hb=>?_,fun b c k h1 h2=>hr.inj b c k (kh h1).2 (kh h2).2,fun k o hk=>⟨hr.out k o hk,fun c _ hc=>absurd (hr.dom c k hc).2.2 (by omega)⟩,fun b k o hb=>⟨hr.own b k o (kh hb).2,fun c hc hck=>?_⟩,fun b B hB=>?_⟩,ag⟩
 ·obtain ⟨h1,h2⟩:=kh hb
  have:=hr.dom b k h2
  exact⟨by rw[List.length_take]; omega,this.2⟩
 ·obtain ⟨h1,h2⟩:=kh hb
  have:=hr.inj b c k h2 hck
  omega
 ·have hb:b<m:=by have:=(List.getElem?_eq_some_iff.1 hB).1; rw[List.length_take] at this; omega
  rw[hget b hb] at hB
  exact lF.to ag hb hB (hu b B hb hB) (hr.blk b B hB)
theorem Rel.join (hr:Rel H g w0 w) {m:Nat} (hm:m<=H.length) (hr1:Rel H1 g1 w0 w1) (he:Ext (H.take m) (g.qz H m) w H1 g1 w1) (hm1:m<=H1.length) (hS:g1.S=(g.qz H m).S) (hu:∀ (b:Nat) B,b<m->H1[b]? = some B->B.under m=true) :
  ∃ g2,Rel (H1.take m++H.drop m) g2 w0 w1/\Ext H g w (H1.take m++H.drop m) g2 w1/\g2.S=g.S/\kA m H1 g1 (H1.take m++H.drop m) g2:=by
 have lo:∀ b,b<m->(H1.take m++H.drop m)[b]? = H1[b]?:=fun b hb=>by
  rw[List.getElem?_append_left (by rw[List.length_take]; omega),List.getElem?_take,if_pos hb]
 have hi:∀ b,m<=b->(H1.take m++H.drop m)[b]? = H[b]?:=fun b hb=>by
  rw[List.getElem?_append_right (by rw[List.length_take]; omega),List.length_take,List.getElem?_drop,Nat.min_eq_left hm1]
  congr 1; omega
 have tk:∀ b,b<m->(H.take m)[b]? = H[b]?:=fun b hb=>by rw[List.getElem?_take,if_pos hb]
 let g2:Gh:={ mu:=fun b=>if b<m then g1.mu b else g.mu b,ga:=fun b=>if b<m then g1.ga b else g.ga b,S:=g.S,lr:=fun b=>if b<m then g1.lr b else g.lr b }
 have mlo:∀ b,b<m->g2.mu b=g1.mu b:=fun b hb=>if_pos hb
 have mhi:∀ b,m<=b->g2.mu b=g.mu b:=fun b hb=>if_neg (by omega)
 have glo:∀ b,b<m->g2.ga b=g1.ga b:=fun b hb=>if_pos hb
 have ghi:∀ b,m<=b->g2.ga b=g.ga b:=fun b hb=>if_neg (by omega)
 have llo:∀ b,b<m->g2.lr b=g1.lr b:=fun b hb=>if_pos hb
 have lhi:∀ b,m<=b->g2.lr b=g.lr b:=fun b hb=>if_neg (by omega)
 have nof:∀ {c k},m<=c->g.mu c=some k->∀ b,(g.qz H m).mu b≠some k:=fun {c k} hc hk b hb=>by
  obtain ⟨h1,h2⟩:=kh hb
  have:=hr.inj b c k h2 hk
  omega
 have same:∀ {c k},m<=c->g.mu c=some k->w1.heap[k]? = w.heap[k]?:=fun {c k} hc hk=>he.obj k (hr.dom c k hk).2.2 (nof hc hk)
 have hne:∀ {b c k},b<m->m<=c->g1.mu b=some k->g.mu c=some k->False:=fun {b c k} _ hc hb hk=>by
  rcases he.fresh b k hb with ⟨c',hc'⟩ | hl
  ·exact nof hc hk c' hc'
  ·have:=(hr.dom c k hk).2.2
   omega
 have toB:∀ {k o},eX H g k o->eX (H.take m) (g.qz H m) k o:=fun {k o} hs=>⟨⟨hs.1,fun c _ hc=>hs.2 c hc⟩,fun b hb=>by
  obtain ⟨h1,h2⟩:=kh hb
  obtain ⟨es,els,h3,h4⟩:=hs.2 b h2
  exact⟨es,els,by rw[tk b h1]; exact h3,h4⟩⟩
 have stab:∀ k o,eX H1 g1 k o->eX (H1.take m++H.drop m) g2 k o:=fun k o hs=>by
  have h1:(g.qz H m).S k o:=by rw[<-hS]; exact hs.1
  refine⟨h1.1,fun b hb=>?_⟩
  by_cases e:b<m
  ·rw[mlo b e] at hb
   obtain ⟨es,els,h3,h4⟩:=hs.2 b hb
   exact⟨es,els,by rw[lo b e]; exact h3,h4⟩
  ·rw[mhi b (by omega)] at hb
   obtain ⟨es,els,h3,h4⟩:=h1.2 b (by omega) hb
   exact⟨es,els,by rw[hi b (by omega)]; exact h3,h4⟩
 have ag:kA m H1 g1 (H1.take m++H.drop m) g2:=⟨stab,lo,fun b B hb _=>mlo b hb,fun b es els hb _=>glo b hb,fun b st hb _=>llo b hb⟩
 have hx:Ext H g w (H1.take m++H.drop m) g2 w1:=by
  refine⟨fun k o v hs hc=>?_,fun b B hB=>?_,he.kept,he.size,fun k arr cl hs hmm=>?_,fun k hk hn=>he.obj k hk fun b hb=>hn b (kh hb).2,fun b k hb=>?_⟩
  ·obtain ⟨h1,h2⟩:=he.cell k o v (toB hs) hc
   exact⟨h1,stab k o h2⟩
  ·by_cases e:b<m
   ·obtain ⟨B',hB',ht⟩:=he.blk b B (by rw[tk b e]; exact hB)
    refine⟨B',by rw[lo b e]; exact hB',?_⟩
    have hm0:(g.qz H m).mu b=g.mu b:=if_pos e
    have hm2:=mlo b e
    have hg2:=glo b e
    have hl2:=llo b e
    unfold BT at ht ⊢
    rw[hm2,hg2,hl2,<-hm0]
    exact ht
   ·refine⟨B,by rw[hi b (by omega)]; exact hB,?_⟩
    have hm2:=mhi b (by omega)
    have hg2:=ghi b (by omega)
    cases B with
    | box _=>exact hm2
    | row wr es els=>cases wr with
     | true=>exact⟨rfl,rfl,hm2⟩
     | false=>exact⟨rfl,⟨[],by rw[hg2]; simp⟩,(hr.blk b _ hB).len,Nat.le_refl _,fun _=>⟨hm2,fun k arr ty hk ha=>⟨arr,(same (by omega) hk).trans ha,Nat.le_refl _⟩⟩⟩
    | rng _=>exact⟨hm2,lhi b (by omega)⟩
    | mp _ _ _=>exact hm2
    | dead=>trivial
    | hole=>trivial
  ·obtain ⟨h1,h2⟩:=he.map k arr cl (toB hs) hmm
   exact⟨h1,stab k 0 h2⟩
  ·by_cases e:b<m
   ·rw[mlo b e] at hb
    rcases he.fresh b k hb with ⟨c,hc⟩ | hl
    ·exact .inl ⟨c,(kh hc).2⟩
    ·exact .inr hl
   ·rw[mhi b (by omega)] at hb
    exact .inl ⟨b,hb⟩
 refine⟨g2,⟨hr1.below,fun b k hb=>?_,fun b c k h1 h2=>?_,fun k o hk=>hr.out k o (Nat.le_trans he.size hk),hr.xi hx,fun b B hB=>?_⟩,hx,rfl,ag⟩
 ·by_cases e:b<m
  ·rw[mlo b e] at hb
   have:=hr1.dom b k hb
   exact⟨by simp only[List.length_append,List.length_take,List.length_drop]; omega,this.2⟩
  ·rw[mhi b (by omega)] at hb
   have:=hr.dom b k hb
   exact⟨by simp only[List.length_append,List.length_take,List.length_drop]; omega,this.2.1,Nat.lt_of_lt_of_le this.2.2 he.size⟩
 ·by_cases e1:b<m
  ·by_cases e2:c<m
   ·rw[mlo b e1] at h1; rw[mlo c e2] at h2; exact hr1.inj b c k h1 h2
   ·rw[mlo b e1] at h1; rw[mhi c (by omega)] at h2; exact(hne e1 (by omega) h1 h2).elim
  ·by_cases e2:c<m
   ·rw[mhi b (by omega)] at h1; rw[mlo c e2] at h2; exact(hne e2 (by omega) h2 h1).elim
   ·rw[mhi b (by omega)] at h1; rw[mhi c (by omega)] at h2; exact hr.inj b c k h1 h2
 ·by_cases e:b<m
  ·rw[lo b e] at hB
   exact lF.to ag e hB (hu b B e hB) (hr1.blk b B hB)
  ·rw[hi b (by omega)] at hB
   have h:=hr.blk b B hB
   have hm2:=mhi b (by omega)
   have hg2:=ghi b (by omega)
   cases B with
   | box cs=>obtain ⟨k,arr,ty,h1,h2,h3⟩:=h; exact⟨k,arr,ty,hm2.trans h1,(same (by omega) h1).trans h2,bp.ext hx _ _ h3⟩
   | row wr es els=>cases wr with
    | true =>
     obtain ⟨ds,h1,h2,h3⟩:=h
     exact⟨ds,bn.ext hx _ _ h1,h2,fun hp=>let ⟨k,arr,ty,e1,e2,e3⟩:=h3 hp; ⟨k,arr,ty,hm2.trans e1,(same (by omega) e1).trans e2,e3⟩⟩
    | false =>
     obtain ⟨h1,h2⟩:=h
     exact⟨by rw[hg2]; exact bn.ext hx _ _ h1,by rw[hg2]; exact h2⟩
   | rng st=>obtain ⟨k,h1,h2⟩:=h; exact⟨k,hm2.trans h1,by rw[lhi b (by omega)]; exact(same (by omega) h1).trans h2⟩
   | mp _ _ _=>obtain ⟨k,arr,cl,h1,h2,h3,h4⟩:=h; exact⟨k,arr,cl,hm2.trans h1,(same (by omega) h1).trans h2,h3,bp.ext hx _ _ h4⟩
   | dead=>exact hm2.trans h
   | hole=>exact hm2.trans h
end
section
open Go.RowKit
variable {H H':ay} {g g':Gh} {w0 w w':World} {cx:Cx} {s:St} {a:Act} {F:Fence} {n:Nat} {N lo:Nat} {mb:Mb} {H0:ay} {gs:Gh} {ws:World} {Bs:ay->Gh->World->Prop}
def pF (cx:Cx) (Bs:ay->Gh->World->Prop) (s:St) (o:Oper) (x:A):Prop:=∀ (F:Fence) (n:Nat) (g:Gh) (w0 W:World) (ev:Operand->Value),gq F->sQ cx s g w0 o.op ev W->(∀ (G:Nat) (vs:List Value),cx.glob G=some vs->bB s.H g W G 0 vs)->Bs s.H g W ->
 xK F n cx.P o ev W fun v W'=>VR s.H g W' x v/\Rel s.H g w0 W'/\Ext s.H g W s.H g W'
theorem Cq {β:Type} {f lo:Nat} {dst:Option Nat} {c:Call} (k:A->ay->Option β):oY cx f lo dst c s k=(oY cx f lo dst c s (fun x H=>some (x,H))).bind fun r=>k r.1 r.2:=by
 unfold oY
 split<;>simp[Option.bind_assoc]
theorem gZ {β:Type} {f lo:Nat} {o:Oper} (k:A->ay->Option β):bF cx f lo o s k=(bF cx f lo o s (fun x H=>some (x,H))).bind fun r=>k r.1 r.2:=by
 unfold bF
 split
 case h_27=>exact Cq k
 all_goals simp[Option.bind_assoc]
theorem rp {f lo:Nat} {o:Oper} {r:A×ay} (h:bF cx f lo o s (fun x H=>some (x,H))=some r) (hh:vm o.op=false):∃ x,r=(x,s.H):=by
 unfold bF at h
 split at h
 all_goals first
  | cases h; done
  | (rename_i ho; rw[ho] at hh; cases hh; done)
  | (cases h; exact⟨_,rfl⟩)
  | (obtain ⟨y,_,h⟩:=bt h; cases h; exact⟨_,rfl⟩)
theorem jO {P:Program} {o:Oper} {ev:Operand->Value} {c:Value} {Rr:Value->World->Prop} (h:(execOp ev o).run P w=.ok (.value c) w'∨((execOp ev o).run P w=.ok .skip w'/\c=undef)) (hr:Rr c w'):xK F n P o ev w Rr:=by
 unfold xK
 rcases h with h | ⟨h,rfl⟩<;>rw[h]<;>exact hr
theorem qs {f lo:Nat} {o:Oper} {x:A} (h:bF cx f lo o s (fun x H=>some (x,H))=some (x,s.H)):pF cx Bs s o x:=by
 intro F n g w0 W ev hF hs hgl hbs
 obtain ⟨c,w',x',H',g',e1,e2,e3,e4,e5,e6,e7,e8⟩:=jW hs h
 cases e2
 obtain ⟨r1,r2,r3⟩:=Rel.back hs.rel e3 e4 e8 (fun _ _=>rfl)
 exact jO e1 ⟨VR.to r3 x c (VR.under x c e5) e5,r1,r2⟩
theorem mP {call:aS} (hcall:dW cx Bs call) (horc:jA cx) {f:Nat} {o:Oper} {x:A} (h:gv cx call f o s=some x):pF cx Bs s o x:=by
 have direct:∀ {lo:Nat},vm o.op=false->bF cx f lo o s (fun x _=>some x)=some x->pF cx Bs s o x:=fun {lo} hh h=>by
  rw[gZ] at h
  obtain ⟨q,h1,h2⟩:=bt h
  obtain ⟨x',rfl⟩:=rp h1 hh
  cases h2
  exact qs h1
 unfold gv at h
 split at h
 ·rename_i c x y ho
  obtain ⟨b,hb,h⟩:=oP h
  intro F n g w0 W ev hF hs hgl hbs
  have hc:=hs.one c (by rw[ho]; simp[Op.operands])
  have hx:=hs.one x (by rw[ho]; simp[Op.operands])
  have hy:=hs.one y (by rw[ho]; simp[Op.operands])
  rw[hb,VR] at hc
  refine jO (c:=if b then ev x else ev y) (w':=W) (.inl ?_) ⟨by cases b<;>cases h<;>assumption,hs.rel,Ext.refl hs.rel⟩
  unfold execOp
  rw[ho]
  simp[hc,asBool]
 ·cases h
 ·cases h
 ·cases h
 ·cases h
 ·cases h
 ·cases h
 ·cases h
 ·cases h
 ·rename_i c ho
  rw[br] at h
  split at h
  ·rw[uX] at h
   replace h:=bt h
   obtain ⟨x0,h,hx0⟩:=h
   cases hx0
   replace h:=bt h
   obtain ⟨⟨k',args⟩,hce,h⟩:=h
   rw[br] at h
   split at h
   ·rename_i hiso
    have hy:=h
    intro F n g w0 W ev hF hs hgl hbs
    obtain ⟨hcb,cargs,hrun,hv⟩:=jV hs hce
    unfold xK
    rw[hrun]
    have hr:=hs.rel
    have hst:∀ k o,W.heap.size<=k->eX s.H g k o:=fun k o hk=>⟨hr.out k o hk,fun b hb=>absurd (hr.dom b k hb).2.2 (by omega)⟩
    have hcallok:=horc k' _ x (.inr (.inl hiso)) hy (eX s.H g) W cargs hst (fun G vs hG j v hj=>let ⟨e1,e2⟩:=hgl G vs hG j v hj; ⟨e1,e2,fun b hb=>by cases hb⟩) (xD hr hv)
    refine(gY hF hcallok).mono ?_
    rintro e w' ⟨c',rfl,hb,hvr⟩
    exact⟨VR.back (fun _ _ h=>h) hvr,hr.eE hb,Ext.below hr hb⟩
   ·replace h:=bt h
    obtain ⟨⟨out,H'⟩,hy,h⟩:=h
    cases out with
    | pan x=>cases h
    | ret y =>
     obtain ⟨hu,h⟩:=bf (show (bif A.under s.H.length y then some y else none)=some x from h)
     cases h
     intro F n g w0 W ev hF hs hgl hbs
     obtain ⟨hcb,cargs,hrun,hv⟩:=jV hs hce
     unfold xK
     rw[hrun]
     have hci:CallsIn F.plain (n - 1) cx.P k' cargs.toArray W _:=hcall.fn k' args s.H s.H.length (.ret x,H') (iD hcb) hy F.plain (n - 1) g w0 W cargs hF rfl hbs hs.rel hgl hv
     have hci':CallsIn F (n - 1) cx.P k' cargs.toArray W _:=hci
     refine hci'.mono ?_
     rintro e w' ⟨g',e1,e2,e3,e4,e6,e5⟩
     cases e with
     | returned c' =>
      obtain ⟨r1,r2,r3⟩:=Rel.back hs.rel e1 e2 e6 (fun b hb=>e4 b hb hb)
      exact⟨VR.to r3 x c' hu e5,r1,r2⟩
     | panicked _=>exact e5.elim
     | outgrown=>exact e5.elim
  ·split at h
   ·rename_i hcl
    rw[gZ] at h
    obtain ⟨q,h1,h2⟩:=bt h
    have hq:∃ x,q=(x,s.H):=by
     unfold bF at h1
     rw[ho] at h1
     simp only at h1
     unfold oY at h1
     split at h1
     ·obtain ⟨y,_,h1⟩:=bt h1; cases h1; exact⟨_,rfl⟩
     ·rename_i he _ _; rw[hcl] at he; cases he
     ·rename_i he _ _; rw[hcl] at he; cases he
     ·rename_i he _; rw[hcl] at he; cases he
     ·rename_i he _; rw[hcl] at he; cases he
     ·cases h1
    obtain ⟨x',rfl⟩:=hq
    cases h2
    exact qs h1
   ·cases h
 ·rename_i h1 h2 h3 h4 h5 h6 h8 h9 h10 h7
  refine direct ?_ h
  cases ho:o.op<;>first
   | rfl
   | exact absurd ho (by intro hh; first | exact h2 _ hh | exact h3 _ _ hh | exact h4 _ _ _ hh | exact h5 _ _ _ hh | exact h6 _ hh | exact h7 _ hh | exact h8 _ _ hh | exact h9 _ _ _ _ hh | exact h10 _ _ _ _ hh)
def Fact (cx:Cx) (Bs:ay->Gh->World->Prop) (ops:Array Oper) (s:St) (o:Oper) (x:A):Prop :=
 (o.guard=none/\pF cx Bs s o x)∨∃ t want,bT ops o=some (t,want)/\((∃ b,look s.fr t=.v (.bool b)/\if b==want then pF cx Bs s o x else x=.v undef)∨((∃ y,look s.fr t=.v (.tuple y))/\x=.v undef))
theorem xI {o:Oper} {next:Act->World->Prop} {Q:Exit->Act->World->Prop} {Rr:Value->World->Prop} (hF:gq F) (hnd:∀ c,o.op≠.defer c) (h:xK F n cx.P o a.eval w Rr) (hn:∀ v w',Rr v w'->next (a.put o.dst v) w'):o.wpIn F n cx.P a w next Q:=by
 refine dU hF hnd ?_
 unfold xK at h
 split at h
 ·rename_i hr; rw[hr]; exact hn _ _ h
 ·rename_i hr; rw[hr]; exact hn _ _ h
 ·rename_i hr
  rw[hr,Oper.uponIn_enter]
  refine⟨fun hd=>(by rw[hF.1] at hd; cases hd),?_⟩
  refine h.mono ?_
  intro e w' he
  cases e with
  | returned c=>exact hn _ _ he
  | panicked _=>exact he.elim
  | outgrown=>exact he.elim
 ·rename_i hr
  rw[hr]
  exact⟨fun hd=>(by rw[hF.1] at hd; cases hd),h.mono hn⟩
 ·rename_i hr
  rw[hr]
  refine⟨fun hd=>(by rw[hF.1] at hd; cases hd),?_⟩
  refine h.mono ?_
  intro e w' he
  cases e with
  | returned c=>exact hn _ _ he
  | panicked _=>exact he.elim
  | outgrown=>exact he.elim
 ·exact h.elim
theorem vg {call:aS} {f:Nat} {o:Oper} {x:A} (h:gv cx call f o s=some x):∀ c,o.op≠.defer c:=fun c hc=>by
 unfold gv at h; rw[hc] at h; exact mO (show bF cx f 0 o s (fun a _=>some a)=some x from h) c hc
theorem fB {call:aS} (hcall:dW cx Bs call) (hb0:Bs H0 gs ws) (horc:jA cx) (hF:gq F) {f:Nat} {ops:Array Oper} {k:E->St->Option R} {r:R} {Q:Exit->Act->World->Prop}
  (hk:∀ s' g' a' w',Good cx N mb lo H0 gs ws w0 s' g' a' w'->k .normal s'=some r->Q .normal a' w')
  (hp:∀ x s' g' a' w' c,Good cx N mb lo H0 gs ws w0 s' g' a' w'->VR s'.H g' w' x c->k (.pan x) s'=some r->Q (.panic [{ v:=c,recovered:=false }]) a' w') :
  ∀ (os:List Oper) (s:St) (g:Gh) (a:Act) (w:World),(∀ o∈os,∀ d,o.dst=some d->d<N)->Good cx N mb lo H0 gs ws w0 s g a w->fA cx call f lo ops os s k=some r->wpListIn F n cx.P ops Q os a w
 | [],s,g,a,w,_,hg,h=>hk s g a w hg h
 | o :: os,s,g,a,w,hd,hg,h=>by
  have hd0:=hd o (by simp)
  have ih:=fun s g a w hg h=>fB (f:=f) (ops:=ops) hcall hb0 horc hF hk hp os s g a w (fun o ho=>hd o (by simp[ho])) hg h
  have one:rn cx call f lo o s (fun s=>fA cx call f lo ops os s k) (fun a s=>k (.pan a) s)=some r->o.wpIn F n cx.P a w (wpListIn F n cx.P ops Q os) Q:=fun h =>
   yp hcall horc hF hb0 hg hd0 h (fun s' g' a' w' hg' h'=>ih s' g' a' w' hg' h') (fun x s' g' w' c hg' hv h'=>hp x s' g' a w' c hg' hv h')
  have val:∀ {x:A},gv cx call f o s=some x->fA cx call f lo ops os (s.put o.dst x) k=some r->o.wpIn F n cx.P a w (wpListIn F n cx.P ops Q os) Q:=fun {x} hx h =>
   xI hF (vg hx) (mP hcall horc hx F n g w0 w a.eval hF (hg.sr.NC o.op) hg.sr.gl (hcall.up _ _ _ _ _ _ hb0 hg.ext)) fun v w' hv =>
    ih _ _ _ _ (hg.step (H':=s.H) hv.2.1 hv.2.2 (Nat.le_refl _) (fun _ _ _=>rfl) rfl hv.1 hd0) h
  have skip:fA cx call f lo ops os (s.put o.dst (.v undef)) k=some r->(∀ f,o.about cx.P w a.eval=some f->F.fn f)/\wpListIn F n cx.P ops Q os (a.put o.dst undef) w:=fun h =>
   ⟨fun f _=>hF.2.1 f,ih _ _ _ _ (hg.same (by rw[VR]) hd0) h⟩
  unfold fA at h
  unfold wpListIn
  split at h
  ·rename_i hgd
   rw[if_pos (by simp[Region.wanted,hgd])]
   exact one h
  ·rename_i x hgd
   split at h
   ·cases h
   ·rename_i t want hgs
    have hv:=hg.sr.fr t
    rw[br] at h
    split at h
    ·obtain ⟨x,h0,h⟩:=bt h
     rcases mX h0 with ⟨b,hb,h0⟩ | ⟨y,hb,h0⟩
     ·rw[hb,VR] at hv
      rw[jM hgs hv]
      split at h0
      ·rename_i hbw
       rw[if_pos hbw]
       exact val h0 h
      ·rename_i hbw
       rw[if_neg hbw]
       cases h0
       exact skip h
     ·rw[hb,VR] at hv
      rw[lW hgs hv]
      cases h0
      rw[if_neg (by simp)]
      exact skip h
    ·rcases mX h with ⟨b,hb,h⟩ | ⟨y,hb,h⟩
     ·rw[hb,VR] at hv
      rw[jM hgs hv]
      split at h
      ·rename_i hbw
       rw[if_pos hbw]
       exact one h
      ·rename_i hbw
       rw[if_neg hbw]
       exact skip h
     ·rw[hb,VR] at hv
      rw[lW hgs hv,if_neg (by simp)]
      exact skip h
theorem xe (s:St) (dst:Option Nat) (x:A) (u:Nat) (h:dst≠some u):look (s.put dst x).fr u=look s.fr u:=by
 cases dst with
 | none=>rfl
 | some d =>
  show look ((d,x) :: s.fr) u=_
  rw[ek,if_neg (fun e=>h (by rw[e]))]
theorem A6 (s:St) (d:Nat) (x:A):look (s.put (some d) x).fr d=x:=by
 show look ((d,x) :: s.fr) d=_
 rw[ek,if_pos rfl]
theorem rr {call:aS} (hcall:dW cx Bs call) (horc:jA cx) {f:Nat} {ops:Array Oper} {k:St->Option R} {r:R}:∀ (os:List Oper) (s:St),ja cx call f ops os s k=some r ->
  ∃ z,k z=some r/\z.H=s.H/\(∀ t,(∀ o∈os,o.dst≠some t)->look z.fr t=look s.fr t) ∧
   ∀ (i:Nat) o,os[i]? = some o->∃ si x,si.H=s.H/\(∀ t,(∀ (j:Nat) o',j<i->os[j]? = some o'->o'.dst≠some t)->look si.fr t=look s.fr t)/\(∀ t,(∀ (j:Nat) o',i<=j->os[j]? = some o'->o'.dst≠some t)->look si.fr t=look z.fr t) ∧
    (∀ t,o.dst=some t->(∀ (j:Nat) o',i<j->os[j]? = some o'->o'.dst≠some t)->look z.fr t=x)/\Fact cx Bs ops si o x
 | [],s,h=>⟨s,h,rfl,fun _ _=>rfl,fun i o h=>by simp at h⟩
 | o :: os,s,h=>by
  have fin:∀ (s':St) (x:A),s'.H=s.H->(∀ u,look s'.fr u=look s.fr u)->Fact cx Bs ops s' o x->ja cx call f ops os (s'.put o.dst x) k=some r ->
    ∃ z,k z=some r/\z.H=s.H/\(∀ t,(∀ o'∈o :: os,o'.dst≠some t)->look z.fr t=look s.fr t) ∧
     ∀ (i:Nat) o1,(o :: os)[i]? = some o1->∃ si x,si.H=s.H/\(∀ t,(∀ (j:Nat) o',j<i->(o :: os)[j]? = some o'->o'.dst≠some t)->look si.fr t=look s.fr t)/\(∀ t,(∀ (j:Nat) o',i<=j->(o :: os)[j]? = some o'->o'.dst≠some t)->look si.fr t=look z.fr t) ∧
      (∀ t,o1.dst=some t->(∀ (j:Nat) o',i<j->(o :: os)[j]? = some o'->o'.dst≠some t)->look z.fr t=x)/\Fact cx Bs ops si o1 x:=by
   intro s' x hH hl hf h
   obtain ⟨z,h1,h2,h3,h4⟩:=rr hcall horc os (s'.put o.dst x) h
   have hpH:(s'.put o.dst x).H=s.H:=by rw[<-hH]; cases o.dst<;>rfl
   have hz:∀ t,(∀ o'∈o :: os,o'.dst≠some t)->look z.fr t=look s.fr t:=fun t ht=>by
    rw[h3 t (fun o' ho'=>ht o' (by simp[ho'])),xe _ _ _ _ (ht o (by simp)),hl]
   refine⟨z,h1,h2.trans hpH,hz,fun i o1 ho1=>?_⟩
   cases i with
   | zero =>
    simp at ho1
    subst ho1
    refine⟨s',x,hH,fun t _=>hl t,fun t ht=>?_,fun t hd ht=>?_,hf⟩
    ·have hall:∀ o'∈o :: os,o'.dst≠some t:=fun o' ho'=>by
      obtain ⟨j,hj,rfl⟩:=List.getElem_of_mem ho'
      exact ht j _ (Nat.zero_le _) (List.getElem?_eq_getElem hj)
     rw[hz t hall,hl]
    ·rw[h3 t (fun o' ho'=>by
      obtain ⟨j,hj,rfl⟩:=List.getElem_of_mem ho'
      exact ht (j+1) _ (by omega) (by simp)),hd,A6]
   | succ i =>
    obtain ⟨si,x1,g1,g2,g3,g4,g5⟩:=h4 i o1 (by simpa using ho1)
    refine⟨si,x1,g1.trans hpH,fun t ht=>?_,fun t ht=>?_,fun t hd ht=>?_,g5⟩
    ·rw[g2 t (fun j o' hj ho'=>ht (j+1) o' (by omega) (by simpa using ho')),xe _ _ _ _ (ht 0 o (by omega) rfl),hl]
    ·exact g3 t (fun j o' hj ho'=>ht (j+1) o' (by omega) (by simpa using ho'))
    ·exact g4 t hd (fun j o' hj ho'=>ht (j+1) o' (by omega) (by simpa using ho'))
  unfold ja at h
  split at h
  ·rename_i hgd
   obtain ⟨x,h1,h2⟩:=bt h
   exact fin s x rfl (fun _=>rfl) (.inl ⟨hgd,mP hcall horc h1⟩) h2
  ·rename_i q hgd
   split at h
   ·cases h
   ·rename_i t want hgs
    obtain ⟨x,h1,h2⟩:=bt h
    refine fin s x rfl (fun _=>rfl) (.inr ⟨t,want,hgs,?_⟩) h2
    rcases mX h1 with ⟨b,hb,h1⟩ | ⟨y,hb,h1⟩
    ·refine .inl ⟨b,hb,?_⟩
     split at h1
     ·rename_i hbw; rw[if_pos hbw]; exact mP hcall horc h1
     ·rename_i hbw; rw[if_neg hbw]; cases h1; rfl
    ·cases h1; exact .inr ⟨⟨y,hb⟩,rfl⟩
theorem np {ops:Array Oper} {N:Nat} (gP:tj ops N=true) {i j:Nat} (h:nN ops i j):j<i:=by
 have lt:∀ {i o e},ops[i]? = some o->e∈o.after->Region.binds .any e=true->e.on<i:=fun {i o e} ho he hb=>by
  have hi:i<ops.size:=(Array.getElem?_eq_some_iff.1 ho).1
  have h:=List.all_eq_true.1 gP i (List.mem_range.2 hi)
  simp only[ho,Bool.and_eq_true] at h
  have:=Array.all_eq_true_iff_forall_mem.1 h.1.1.1.2 e he
  rw[hb] at this; simpa using this
 induction h with
 | edge ho he hb=>exact lt ho he hb
 | thru ho he hb _ ih=>exact Nat.lt_trans ih (lt ho he hb)
theorem mf {ops:Array Oper} {N:Nat} (gP:tj ops N=true) {i:Nat} {o:Oper} (ho:ops[i]? = some o):(∀ j d,i≠j->o.dst=some d->cg ops j≠some d)/\(∀ j t,cg ops j=some t->t∈o.looksAt ops->i=j∨fp ops i j=true∨fp ops j i=true):=by
 have hi:i<ops.size:=(Array.getElem?_eq_some_iff.1 ho).1
 have h:=List.all_eq_true.1 gP i (List.mem_range.2 hi)
 simp only[ho,Bool.and_eq_true] at h
 obtain ⟨⟨⟨⟨⟨_,_⟩,_⟩,h4⟩,h5⟩,_⟩:=h
 have lt:∀ {j t},cg ops j=some t->j<ops.size:=fun {j t} hj=>by
  unfold cg at hj
  cases hx:ops[j]? with
  | none=>rw[hx] at hj; cases hj
  | some _=>exact(Array.getElem?_eq_some_iff.1 hx).1
 refine⟨fun j d hij hd hj=>?_,fun j t hj ht=>?_⟩
 ·have:=List.all_eq_true.1 h4 j (List.mem_range.2 (lt hj))
  rw[hd,hj] at this
  simp at this
  exact hij this
 ·have:=List.all_eq_true.1 h5 j (List.mem_range.2 (lt hj))
  rw[hj] at this
  simp[ht] at this
  rcases this with (h | h) | h
  ·exact .inl h
  ·exact .inr (.inl h)
  ·exact .inr (.inr h)
theorem vc {call:aS} (hcall:dW cx Bs call) (hb0:Bs H0 gs ws) (horc:jA cx) (hF:gq F) (hmx:cx.P.follows .mixedOrders=true) {f m:Nat} {ops:Array Oper} {k:E->St->Option R} {r:R} {Q:Exit->Act->World->Prop} (gP:tj ops N=true) (chkt:fm ops m=true)
  (hg:Good cx N mb lo H0 gs ws w0 s g a w) (hd:∀ o∈ops.toList,∀ d,o.dst=some d->d<N)
  (h:ja cx call f ops (ops.toList.take m) s (fun s=>fA cx call f lo ops (ops.toList.drop m) s k)=some r)
  (hk:∀ s' g' a' w',Good cx N mb lo H0 gs ws w0 s' g' a' w'->k .normal s'=some r->Q .normal a' w')
  (hp:∀ x s' g' a' w' c,Good cx N mb lo H0 gs ws w0 s' g' a' w'->VR s'.H g' w' x c->k (.pan x) s'=some r->Q (.panic [{ v:=c,recovered:=false }]) a' w'):LW F n cx.P ops Q a w:=by
 obtain ⟨z,hz,hzH,hzk,hfacts⟩:=rr hcall horc _ s h
 have hr:=hg.sr.rel
 have hget:∀ {i o},i<m->ops[i]? = some o->(ops.toList.take m)[i]? = some o:=fun {i o} him ho=>by
  rw[List.getElem?_take,if_pos him,Array.getElem?_toList]; exact ho
 have hget':∀ {i o},(ops.toList.take m)[i]? = some o->i<m/\ops[i]? = some o:=fun {i o} ho=>by
  rw[List.getElem?_take] at ho
  split at ho
  ·rename_i him; exact⟨him,by rwa [Array.getElem?_toList] at ho⟩
  ·cases ho
 have hdst:∀ {i o},ops[i]? = some o->cg ops i=o.dst:=fun {i o} ho=>by unfold cg; rw[ho]; rfl
 refine Bd (F:=F) ⟨hF.1,hF.2.1⟩ hmx N m hg.siz gP chkt (fun W=>Rel s.H g w0 W/\Ext s.H g w s.H g W) (fun W W'=>Ext s.H g W s.H g W') (fun i v W=>∀ t,cg ops i=some t->VR s.H g W (look z.fr t) v)
  (fun i v W W' hv he t ht=>VR.ext he _ _ (hv t ht)) ⟨hr.eE (Below.refl _ _).drew,Ext.below hr (Below.refl _ _).drew⟩ ?_ ?_
 ·rintro i o him ho a' W ⟨hrW,heW⟩ h1 h2 hsz
  obtain ⟨si,x,g1,g2,g3,g4,g5⟩:=hfacts i o (hget him ho)
  obtain ⟨c4,c5⟩:=mf gP ho
  have hlook:∀ t∈o.looksAt ops,VR s.H g W (look si.fr t) (a'.tmps.getD t undef):=fun t ht=>by
   by_cases hj:∃ j,cg ops j=some t/\fp ops i j=true
   ·obtain ⟨j,hjt,hjb⟩:=hj
    have hji:=np gP (fJ i j hjb)
    have hv:=h1 t ht j hjt hjb t hjt
    rw[g3 t (fun j' o' hij' ho' hd'=>by
     obtain ⟨_,ho''⟩:=hget' ho'
     obtain ⟨c4',_⟩:=mf gP ho''
     exact c4' j t (by omega) hd' hjt)]
    exact hv
   ·have hno:∀ j,cg ops j=some t->fp ops i j=false:=fun j hjt=>by
     cases hb:fp ops i j with
     | false=>rfl
     | true=>exact absurd ⟨j,hjt,hb⟩ hj
    have hs:=h2 t ht hno
    unfold slot at hs
    rw[hs,g2 t (fun j o' hji ho' hd'=>by
     obtain ⟨hjm,ho''⟩:=hget' ho'
     have hjt:cg ops j=some t:=(hdst ho'').trans hd'
     rcases c5 j t hjt ht with h | h | h
     ·omega
     ·rw[hno j hjt] at h; cases h
     ·have:=np gP (fJ j i h); omega)]
    exact VR.ext heW _ _ (hg.sr.fr t)
  have hopr:sQ cx si g w0 o.op a'.eval W:=⟨by rw[g1]; exact hrW,fun y hy=>ox (fun t ht=>by
    rw[g1]
    refine hlook t ?_
    subst ht
    unfold Oper.looksAt
    exact List.mem_append.2 (.inl (List.mem_filterMap.2 ⟨.tmp t,hy,rfl⟩))) (fun G vs hG=>by rw[g1]; exact(hg.sr.gl G vs hG).ext heW),fun _=>rfl⟩
  have hx:∀ t,cg ops i=some t->look z.fr t=x:=fun t ht=>g4 t ((hdst ho).symm.trans ht) (fun j o' hij ho' hd'=>by
   obtain ⟨_,ho''⟩:=hget' ho'
   exact c4 j t (by omega) ((hdst ho).symm.trans ht) ((hdst ho'').trans hd'))
  have run:pF cx Bs si o x->xK F n cx.P o a'.eval W (fun v w'=>(∀ t,cg ops i=some t->VR s.H g w' (look z.fr t) v)/\(Rel s.H g w0 w'/\Ext s.H g w s.H g w')/\Ext s.H g W s.H g w'):=fun hpo=>by
   refine(hpo F n g w0 W a'.eval hF hopr (fun G vs hG=>by rw[g1]; exact(hg.sr.gl G vs hG).ext heW) (by rw[g1]; exact hcall.up _ _ _ _ _ _ hb0 (hg.ext.trans heW))).mono ?_
   rintro v w' ⟨k1,k2,k3⟩
   rw[g1] at k1 k2 k3
   exact⟨fun t ht=>by rw[hx t ht]; exact k1,⟨k2,heW.trans k3⟩,k3⟩
  rcases g5 with ⟨hgd,hpo⟩ | ⟨t,want,hgs,hor⟩
  ·rw[if_pos (by simp[Region.wanted,hgd])]
   exact run hpo
  ·have htl:t∈o.looksAt ops:=by
    rw[je] at hgs
    unfold Oper.looksAt
    split at hgs
    ·rename_i j want' hgd
     cases hdj:(ops[j]?).bind (·.dst) with
     | none=>rw[hdj] at hgs; cases hgs
     | some t' =>
      rw[hdj] at hgs
      cases hgs
      refine List.mem_append.2 (.inr ?_)
      rw[hgd]
      simp[hdj]
    ·cases hgs
   have hv:=hlook t htl
   have sk:x=.v undef->(∀ t',cg ops i=some t'->VR s.H g W (look z.fr t') undef)/\(Rel s.H g w0 W/\Ext s.H g w s.H g W)/\Ext s.H g W s.H g W:=fun hcond =>
    ⟨fun t' ht'=>by rw[hx t' ht',hcond,VR],⟨hrW,heW⟩,Ext.refl hrW⟩
   rcases hor with ⟨b,hlb,hcond⟩ | ⟨⟨y,hlb⟩,hcond⟩
   ·rw[hlb,VR] at hv
    rw[jM hgs hv]
    split at hcond
    ·rename_i hbw
     rw[if_pos hbw]
     exact run hcond
    ·rename_i hbw
     rw[if_neg hbw]
     exact sk hcond
   ·rw[hlb,VR] at hv
    rw[lW hgs hv,if_neg (by simp)]
    exact sk hcond
 ·rintro a' W ⟨hrW,heW⟩ hdf hsz hv hno _
  refine fB (f:=f) (ops:=ops) hcall hb0 horc hF hk hp _ z g a' W (fun o ho=>hd o (List.mem_of_mem_drop ho)) ⟨⟨by rw[hzH]; exact hrW,fun t=>?_,fun G vs hG=>by rw[hzH]; exact(hg.sr.gl G vs hG).ext heW⟩,by rw[hzH]; exact hg.ext.trans heW,by rw[hzH]; exact hg.len,by rw[hzH]; exact hg.low,hsz,(by rw[hdf]; exact hg.dfr.lZ heW.kept),Nat.le_trans hg.mbw heW.size,hg.st⟩ hz
  rw[hzH]
  by_cases ht:∃ i,i<m/\cg ops i=some t
  ·obtain ⟨i,him,hit⟩:=ht
   exact hv i t him hit t hit
  ·have hs:=hno t (fun i him hit=>ht ⟨i,him,hit⟩)
   unfold slot at hs
   rw[hs,hzk t (fun o ho hd'=>by
    obtain ⟨i,hi,rfl⟩:=List.getElem_of_mem ho
    obtain ⟨him,ho'⟩:=hget' (List.getElem?_eq_getElem hi)
    exact ht ⟨i,him,(hdst ho').trans hd'⟩)]
   exact VR.ext heW _ _ (hg.sr.fr t)
end
section
variable {cx:Cx} {call:aS} {f:Nat} {ops:Array Oper}
def mB (cx:Cx) (call:aS) (f:Nat) (ops:Array Oper) (o:Oper) (s:St):Option A:=match o.guard with
 | none=>gv cx call f o s
 | some _=>match bT ops o with
  | none=>none
  | some (g,w)=>ky (look s.fr g) w (gv cx call f o s) (some (.v undef))
theorem qI {β:Type} {o:Oper} {s:St} (k:A->Option β):rz cx call f o s k=(gv cx call f o s).bind k:=by
 have one:(bF cx f 0 o s fun a _=>k a)=(bF cx f 0 o s fun a _=>some a).bind k:=by
  rw[gZ,gZ (k:=fun a _=>some a),Option.bind_assoc]; rfl
 unfold rz gv
 split
 ·rfl
 ·rfl
 ·rfl
 ·rfl
 ·rfl
 ·rfl
 ·rfl
 ·rfl
 ·rfl
 ·rw[br,br]
  split
  ·rw[uX,uX]; simp only[Option.bind_assoc,Option.bind_some]
  ·split
   ·exact one
   ·rfl
 ·exact one
theorem sM {β:Type} {r:β}:∀ (ds:List Nat) (l:List A) (k:List (Nat×A)->Option β),E3 ds l k=some r->∃ fr l',fr.map (·.1)=ds/\l=fr.map (·.2)++l'/\k fr=some r
 | [],l,k,h=>⟨[],l,rfl,rfl,h⟩
 | d :: ds,[],k,h=>by cases h
 | d :: ds,a :: l,k,h=>by
  obtain ⟨fr,l',h1,h2,h3⟩:=sM ds l _ h
  exact⟨(d,a) :: fr,l',by simp[h1],by simp[h2],h3⟩
theorem yv:∀ {a b:List (Nat×A)} {l':List A},a.map (·.1)=b.map (·.1)->a.map (·.2)=b.map (·.2)++l'->a=b
 | [],[],_,_,_=>rfl
 | [],_ :: _,_,h,_=>by simp at h
 | _ :: _,[],_,h,_=>by simp at h
 | (x,y) :: a,(z,t) :: b,l',h,k=>by
  simp only[List.map_cons,List.cons.injEq,List.cons_append] at h k
  obtain ⟨rfl,h⟩:=h
  obtain ⟨rfl,k⟩:=k
  rw[yv h k]
theorem ss (dl:List (Nat×A)) (s:St) (o:Oper) (x:A):(ez dl s).put o.dst x=ez (yk o.dst x dl) s:=by
 cases o.dst<;>rfl
theorem Dh (s:St):ez [] s=s:=rfl
theorem uq (a b:List (Nat×A)) (s:St):ez a (ez b s)=ez (a++b) s:=by simp[ez]
theorem nB {t:Nat}:∀ {dl:List (Nat×A)} {s:St},iX t (dl.map (·.1))=false->look (ez dl s).fr t=look s.fr t
 | [],s,_=>rfl
 | (d,x) :: dl,s,h=>by
  simp only[List.map_cons,iX,br] at h
  split at h
  ·cases h
  ·rename_i hd
   show look ((d,x) :: (dl++s.fr)) t=_
   rw[ek,if_neg (fun e=>hd (by simp[e]))]
   exact nB (dl:=dl) (s:=s) h
theorem iL (t:Nat):∀ (a b:List Nat),iX t (a++b)=(iX t a || iX t b)
 | [],b=>rfl
 | x :: a,b=>by
  simp only[List.cons_append,iX,br]
  split
  ·rfl
  ·exact iL t a b
def tz (ops:Array Oper) (g:Nat) (w:Bool):List Nat->List Oper->Prop
 | _,[]=>True
 | ds,o :: os=>rQ ops g w ds o=true/\tz ops g w (ki o++ds) os
theorem eJ (g:Nat) (w:Bool):∀ (os:List Oper) (ds:List Nat),os=(bP ops g w ds os).1++(bP ops g w ds os).2/\tz ops g w ds (bP ops g w ds os).1
 | [],ds=>⟨rfl,trivial⟩
 | o :: os,ds=>by
  unfold bP
  rw[br]
  split
  ·rename_i h
   obtain ⟨h1,h2⟩:=eJ g w os (ki o++ds)
   exact⟨by rw[List.cons_append,<-h1],h,h2⟩
  ·exact⟨rfl,trivial⟩
theorem rR {g:Nat} {w:Bool} {ds:List Nat} {o:Oper} (h:rQ ops g w ds o=true):o.guard≠none/\iX g (ki o)=false/\∃ t w',bT ops o=some (t,w')/\((t=g/\w'=w)∨iX t ds=true):=by
 unfold rQ at h
 split at h
 ·cases h
 ·rename_i q hq
  split at h
  ·cases h
  ·rename_i t w' hgs
   rw[br] at h
   split at h
   ·cases h
   ·rename_i hm
    refine⟨by rw[hq]; simp,by simpa using hm,t,w',hgs,?_⟩
    rw[br] at h
    split at h
    ·rename_i hb
     refine .inl ⟨Nat.eq_of_beq_eq_true hb,?_⟩
     cases w<;>cases w'<;>simp at h<;>rfl
    ·exact .inr h
theorem tz.out {g:Nat} {w:Bool}:∀ {ds:List Nat} {os:List Oper},tz ops g w ds os->(∀ o∈os,iX g (ki o)=false/\o.guard≠none)/\iX g (gQ os)=false
 | _,[],_=>⟨fun o ho=>(by cases ho),rfl⟩
 | ds,o :: os,h=>by
  obtain ⟨h1,h2⟩:=rR h.1
  obtain ⟨h3,h4⟩:=tz.out h.2
  refine⟨fun o' ho'=>?_,?_⟩
  ·rcases List.mem_cons.1 ho' with rfl | ho'
   ·exact⟨h2.1,h1⟩
   ·exact h3 o' ho'
  ·rw[gQ,iL,h4,h2.1]; rfl
variable {X:Type} {E:List Oper->St->Option X} {Q:Oper->Prop}
theorem Au (hE:∀ o os s,Q o->E (o :: os) s=(mB cx call f ops o s).bind fun x=>E os (s.put o.dst x)) {g:Nat} {w:Bool} (rest:List Oper):∀ (os:List Oper) (ds:List Nat) (dl:List (Nat×A)) (s:St),tz ops g w ds os->(∀ o∈os,Q o)->(look (ez dl s).fr g=.v (.bool (!w))∨∃ y,look (ez dl s).fr g=.v (.tuple y)) ->
  (∀ t,iX t ds=true->look (ez dl s).fr t=.v undef)->E (os++rest) (ez dl s)=E rest (ez (qe (gQ os)++dl) s)
 | [],ds,dl,s,_,_,_,_=>rfl
 | o :: os,ds,dl,s,hr,hq,hg,hd=>by
  obtain ⟨hgd,hm,t,w',hgs,hor⟩:=rR hr.1
  have hv:mB cx call f ops o (ez dl s)=some (.v undef):=by
   unfold mB
   cases hgu:o.guard with
   | none=>exact absurd hgu hgd
   | some q =>
    rw[hgs]
    rcases hor with ⟨rfl,rfl⟩ | hmem
    ·rcases hg with hg | ⟨y,hg⟩
     ·simp only[hg,ky]; cases w'<;>rfl
     ·simp only[hg,ky]
    ·simp only[hd t hmem,undef,ky]
  rw[List.cons_append,hE o _ _ (hq o (by simp)),hv,Option.bind_some,ss]
  have hlk:∀ t,look (ez (yk o.dst (.v undef) dl) s).fr t=if iX t (ki o)=true then .v undef else look (ez dl s).fr t:=fun t=>by
   cases hdo:o.dst with
   | none=>simp[ki,hdo,iX,yk]
   | some d =>
    show look ((d,.v undef) :: (dl++s.fr)) t=_
    rw[ek]
    simp only[ki,hdo,iX,br]
    by_cases e:d=t
    ·subst e; simp
    ·rw[if_neg e]
     rw[if_neg (by simp[e])]
     rfl
  rw[Au hE rest os (ki o++ds) _ s hr.2 (fun o' ho'=>hq o' (by simp[ho'])) (by rw[hlk,if_neg (by simp[hm])]; exact hg) (fun t ht=>?_)]
  ·congr 2
   cases hdo:o.dst with
   | none=>simp[gQ,ki,hdo,yk]
   | some d=>simp[gQ,ki,hdo,qe,yk]
  ·rw[hlk]
   split
   ·rfl
   ·rename_i hn
    rw[iL] at ht
    exact hd t (by simpa [hn] using ht)
theorem mM:∀ (a b:List Oper),gQ (a++b)=gQ b++gQ a
 | [],b=>by simp[gQ]
 | o :: a,b=>by simp[gQ,mM a b]
theorem va {asm:Option (Nat×Bool)} {g d:Nat} {a b:Operand} {os:List Oper} (h:u1 ops asm g os=some (d,a,b)):∃ o os',os=o :: os'/\su ops asm o=true/\o.op=.pick (.tmp g) a b/\o.dst=some d:=by
 unfold u1 at h
 split at h
 ·rename_i o os'
  rw[br] at h
  split at h
  ·rename_i hp
   split at h
   ·rename_i t x y d' ho hd
    rw[br] at h
    split at h
    ·rename_i ht
     cases h
     exact⟨o,os',rfl,hp,by rw[ho,Nat.eq_of_beq_eq_true ht],hd⟩
    ·cases h
   ·cases h
  ·cases h
 ·cases h
theorem sv {asm:Option (Nat×Bool)} {o:Oper} {s:St} (h:su ops asm o=true) (ha:∀ g w,asm=some (g,w)->look s.fr g=.v (.bool w)):mB cx call f ops o s=gv cx call f o s:=by
 unfold su at h
 unfold mB
 split at h
 ·rename_i hg; rw[hg]
 ·rename_i q hq
  split at h
  ·rename_i g w t w' hgs
   rw[br] at h
   split at h
   ·rename_i ht
    have:=Nat.eq_of_beq_eq_true ht
    subst this
    rw[hq,hgs]
    simp only[ha t w rfl,ky]
    cases w<;>cases w'<;>first | rfl | (simp at h)
   ·cases h
  ·cases h
theorem rN (hE:∀ o os s,Q o->E (o :: os) s=(mB cx call f ops o s).bind fun x=>E os (s.put o.dst x)) (hpick:∀ o c a b,o.op=.pick c a b->Q o) {β:Type} {r:β} {asm:Option (Nat×Bool)} {g:Nat} {w:Bool} {os:List Oper} {s:St} {vals:Option (Nat×Operand)->List Oper->Option (List A)} {k:List Oper->List (Nat×A)->Option β}
  (hq:∀ o∈(bP ops g w [] os).1,Q o) (ha:∀ g w,asm=some (g,w)->look s.fr g=.v (.bool w)/\∀ o∈os,iX g (ki o)=false)
  (hv:look s.fr g=.v (.bool w)->∀ fin l,vals fin (bP ops g w [] os).1=some l->∃ dl,l=(wM cx fin dl s).map (·.2)/\dl.map (·.1)=gQ (bP ops g w [] os).1/\∀ rest,E ((bP ops g w [] os).1++rest) s=E rest (ez dl s))
  (h:IE ops asm g w os s vals (Kl cx s) k=some r):∃ pre rest fr,os=pre++rest/\k rest fr=some r/\fr.map (·.1)=gQ pre/\∀ rest',E (pre++rest') s=E rest' (ez fr s):=by
 obtain ⟨hsp,hrun⟩:=eJ (ops:=ops) g w os []
 obtain ⟨hro,hgn⟩:=hrun.out
 have hskip:(look s.fr g=.v (.bool (!w))∨∃ y,look s.fr g=.v (.tuple y))->∀ rest,E ((bP ops g w [] os).1++rest) s=E rest (ez (qe (gQ (bP ops g w [] os).1)) s):=fun hg rest=>by
  have:=Au hE rest _ [] [] s hrun hq hg (fun t ht=>by cases ht)
  simpa [Dh] using this
 have hmu:∀ ds:List Nat,(qe ds).map (·.1)=ds:=fun ds=>by simp[qe,Function.comp_def]
 unfold IE at h
 split at h
 ·rename_i d a b hep
  obtain ⟨o,os',hrest,hpl,hop,hdst⟩:=va hep
  obtain ⟨l,hl,h⟩:=bt h
  obtain ⟨fr,l',e1,e2,e3⟩:=sM _ _ _ h
  obtain ⟨bb,hb,hl⟩:=oP hl
  rw[hrest,List.tail_cons] at e3
  have fin:∀ (dl:List (Nat×A)) (x:Operand),l=(wM cx (some (d,x)) dl s).map (·.2)->dl.map (·.1)=gQ (bP ops g w [] os).1->(∀ rest,E ((bP ops g w [] os).1++rest) s=E rest (ez dl s))->x=(if bb then a else b) ->
    ∃ pre rest fr,os=pre++rest/\k rest fr=some r/\fr.map (·.1)=gQ pre/\∀ rest',E (pre++rest') s=E rest' (ez fr s):=by
   intro dl x h1 h2 h3 h4
   have hfr:wM cx (some (d,x)) dl s=fr:=yv (l':=l') (by rw[e1]; simp[wM,h2]) (by rw[<-h1,e2])
   refine⟨(bP ops g w [] os).1++[o],os',fr,?_,e3,?_,?_⟩
   ·rw[List.append_assoc,List.singleton_append,<-hrest]; exact hsp
   ·rw[e1,mM]; simp[gQ,ki,hdst]
   ·intro rest'
    rw[List.append_assoc,List.singleton_append,h3,hE o _ _ (hpick o _ _ _ hop)]
    have hgl:look (ez dl s).fr g=.v (.bool bb):=by rw[nB (by rw[h2]; exact hgn),hb]
    have hval:mB cx call f ops o (ez dl s)=gv cx call f o (ez dl s):=sv hpl fun g' w' hga=>by
     obtain ⟨ha1,ha2⟩:=ha g' w' hga
     rw[nB ?_,ha1]
     rw[h2]
     have:∀ (l:List Oper),(∀ o∈l,iX g' (ki o)=false)->iX g' (gQ l)=false:=by
      intro l
      induction l with
      | nil=>intro _; rfl
      | cons o' l ih=>intro hh; rw[gQ,iL,ih (fun o'' ho''=>hh o'' (by simp[ho''])),hh o' (by simp)]; rfl
     exact this _ fun o' ho'=>ha2 o' (by rw[hsp]; simp[ho'])
    rw[hval]
    have:gv cx call f o (ez dl s)=some (bW cx (ez dl s) x):=by
     unfold gv
     rw[hop]
     show ew (bW cx (ez dl s) (.tmp g)) _ _=_
     rw[show bW cx (ez dl s) (.tmp g)=.v (.bool bb) from hgl]
     subst h4
     cases bb<;>rfl
    rw[this,Option.bind_some,ss,hdst]
    show E rest' (ez ((d,bW cx (ez dl s) x) :: dl) s)=_
    rw[<-hfr]; rfl
  cases bb with
  | true =>
   rw[if_pos rfl] at hl
   cases w with
   | true =>
    obtain ⟨dl,h1,h2,h3⟩:=hv hb _ _ hl
    exact fin dl a h1 h2 h3 rfl
   | false =>
    cases hl
    exact fin _ a rfl (hmu _) (hskip (.inl hb)) rfl
  | false =>
   rw[if_neg (by simp)] at hl
   cases w with
   | true =>
    cases hl
    exact fin _ b rfl (hmu _) (hskip (.inl hb)) rfl
   | false =>
    obtain ⟨dl,h1,h2,h3⟩:=hv hb _ _ hl
    exact fin dl b h1 h2 h3 rfl
 ·obtain ⟨l,hl,h⟩:=bt h
  obtain ⟨fr,l',e1,e2,e3⟩:=sM _ _ _ h
  have fin:∀ (dl:List (Nat×A)),l=(wM cx none dl s).map (·.2)->dl.map (·.1)=gQ (bP ops g w [] os).1->(∀ rest,E ((bP ops g w [] os).1++rest) s=E rest (ez dl s)) ->
    ∃ pre rest fr,os=pre++rest/\k rest fr=some r/\fr.map (·.1)=gQ pre/\∀ rest',E (pre++rest') s=E rest' (ez fr s):=by
   intro dl h1 h2 h3
   have hfr:dl=fr:=yv (l':=l') (by rw[e1,h2]) (by rw[<-e2,h1]; rfl)
   subst hfr
   exact⟨_,_,dl,hsp,e3,h2,h3⟩
  rcases mX hl with ⟨bb,hb,hl⟩ | ⟨y,hb,hl⟩
  ·split at hl
   ·rename_i hbw
    have hbw:bb=w:=by simpa using hbw
    subst hbw
    obtain ⟨dl,h1,h2,h3⟩:=hv hb _ _ hl
    exact fin dl h1 h2 h3
   ·rename_i hbw
    have hbw:bb = !w:=by cases bb<;>cases w<;>simp at hbw ⊢
    subst hbw
    cases hl
    exact fin _ rfl (hmu _) (hskip (.inl hb))
  ·cases hl
   exact fin _ rfl (hmu _) (hskip (.inr ⟨y,hb⟩))
theorem iE (hE:∀ o os s,Q o->E (o :: os) s=(mB cx call f ops o s).bind fun x=>E os (s.put o.dst x)) (hpick:∀ o c a b,o.op=.pick c a b->Q o):∀ (q:Nat) (asm:Option (Nat×Bool)) (fin:Option (Nat×Operand)) (os:List Oper) (dl:List (Nat×A)) (s:St) (l:List A),n7 cx call f ops q asm fin os dl s=some l->(∀ o∈os,Q o) ->
  (∀ g w,asm=some (g,w)->look (ez dl s).fr g=.v (.bool w)/\∀ o∈os,iX g (ki o)=false) ->
  ∃ dl',l=(wM cx fin dl' s).map (·.2)/\dl'.map (·.1)=gQ os++dl.map (·.1)/\∀ rest,E (os++rest) (ez dl s)=E rest (ez dl' s)
 | 0,_,_,_,_,_,_,h,_,_=>by cases h
 | q+1,asm,fin,[],dl,s,l,h,_,_=>by cases h; exact⟨dl,rfl,rfl,fun _=>rfl⟩
 | q+1,asm,fin,o :: os,dl,s,l,h,hq,ha=>by
  unfold n7 at h
  rw[br] at h
  split at h
  ·rename_i hpl
   rw[qI] at h
   obtain ⟨x,hx,h⟩:=bt h
   obtain ⟨dl',h1,h2,h3⟩:=iE hE hpick q asm fin os _ s l h (fun o' ho'=>hq o' (by simp[ho'])) (fun g w hg=>by
    obtain ⟨k1,k2⟩:=ha g w hg
    refine⟨?_,fun o' ho'=>k2 o' (by simp[ho'])⟩
    have hm:=k2 o (by simp)
    cases hd:o.dst with
    | none=>exact k1
    | some d =>
     simp only[ki,hd] at hm
     show look ((d,x) :: (dl++s.fr)) g=_
     rw[ek,if_neg (fun e=>by simp[iX,e] at hm)]
     exact k1)
   refine⟨dl',h1,?_,fun rest=>?_⟩
   ·rw[h2]
    cases hd:o.dst<;>simp[gQ,ki,hd,yk]
   ·rw[List.cons_append,hE o _ _ (hq o (by simp)),sv hpl (fun g w hg=>(ha g w hg).1),hx,Option.bind_some,ss,h3]
  ·split at h
   ·cases h
   ·rename_i t w hgs
    obtain ⟨_,h⟩:=bf h
    obtain ⟨pre,rest,fr,h1,h2,h3,h4⟩:=rN (E:=fun os' s'=>E os' s') hE hpick (fun o' ho'=>hq o' (by
     rw[(eJ (ops:=ops) t w (o :: os) []).1]; simp[ho'])) ha (fun hlk fin' l' hl'=>by
     obtain ⟨dl2,k1,k2,k3⟩:=iE hE hpick q (some (t,w)) fin' _ [] (ez dl s) l' hl' (fun o' ho'=>hq o' (by
      rw[(eJ (ops:=ops) t w (o :: os) []).1]; simp[ho'])) (fun g' w' hg'=>by
      cases hg'
      exact⟨hlk,fun o' ho'=>((eJ (ops:=ops) t w (o :: os) []).2.out.1 o' ho').1⟩)
     exact⟨dl2,k1,by simpa using k2,k3⟩) h
    rw[h1] at hq ha ⊢
    have hnm:∀ g,(∀ o∈pre,iX g (ki o)=false)->iX g (gQ pre)=false:=by
     intro g
     clear h1 h2 h3 h4 hq ha
     induction pre with
     | nil=>intro _; rfl
     | cons o' l ih=>intro hh; rw[gQ,iL,ih (fun o'' ho''=>hh o'' (by simp[ho''])),hh o' (by simp)]; rfl
    obtain ⟨dl',k1,k2,k3⟩:=iE hE hpick q asm fin rest (fr++dl) s l h2 (fun o' ho'=>hq o' (by simp[ho'])) (fun g' w' hg'=>by
     obtain ⟨m1,m2⟩:=ha g' w' hg'
     refine⟨?_,fun o' ho'=>m2 o' (by simp[ho'])⟩
     rw[<-uq,nB (by rw[h3]; exact hnm g' fun o' ho'=>m2 o' (by simp[ho']))]
     exact m1)
    refine⟨dl',k1,by rw[k2,mM]; simp[h3],fun rest'=>?_⟩
    rw[List.append_assoc,h4,uq,k3]
end
section
set_option linter.unusedSimpArgs false
set_option linter.unusedVariables false
open Go.RowKit
variable {P:Program} {H H':ay} {g g':Gh} {w0 w w':World} {cx:Cx} {s:St} {z:Nat->Bool} {f lo:Nat}
def bR (z:Nat->Bool) (H:ay):ay:=H.mapIdx fun b B=>bif z b then .hole else B
theorem fh (z:Nat->Bool) (H:ay) (b:Nat):(bR z H)[b]? = (H[b]?).map fun B=>bif z b then .hole else B:=by simp[bR,List.getElem?_mapIdx]
theorem dk (z:Nat->Bool) (H:ay):(bR z H).length=H.length:=by simp[bR]
theorem eV {b:Nat} (h:z b=false):(bR z H)[b]? = H[b]?:=by rw[fh,h]; cases H[b]?<;>rfl
theorem rZ {b:Nat} {B:aD} (h:z b=true) (hB:H[b]? = some B):(bR z H)[b]? = some .hole:=by rw[fh,h,hB]; rfl
theorem fD {B:aD} (h:z H.length=false):bR z (H++[B])=bR z H++[B]:=by
 refine List.ext_getElem? fun b=>?_
 rw[fh]
 by_cases hb:b<H.length
 ·rw[List.getElem?_append_left hb,List.getElem?_append_left (by rw[dk]; exact hb),fh]
 ·by_cases e:b=H.length
  ·subst e
   rw[List.getElem?_append_right (Nat.le_refl _),List.getElem?_append_right (by rw[dk]; exact Nat.le_refl _),dk,h]
   simp
  ·rw[List.getElem?_eq_none (by simp; omega),List.getElem?_eq_none (by simp[dk]; omega)]
   rfl
theorem kZ {b:Nat} {B:aD} (h:z b=false):bR z (H.set b B)=(bR z H).set b B:=by
 refine List.ext_getElem? fun c=>?_
 rw[fh,List.getElem?_set,List.getElem?_set,dk]
 by_cases e:b=c
 ·subst e
  rw[if_pos rfl,if_pos rfl,h]
  split<;>rfl
 ·rw[if_neg e,if_neg e,fh]
theorem yM {z':Nat->Bool} {b:Nat} {B:aD} (hB:H[b]? = some B) (h1:z' b=false) (h2:∀ c,c≠b->z' c=z c):bR z' H=(bR z H).set b B:=by
 refine List.ext_getElem? fun c=>?_
 rw[fh,List.getElem?_set,dk]
 by_cases e:b=c
 ·subst e
  rw[if_pos rfl,if_pos (List.getElem?_eq_some_iff.1 hB).1,h1,hB]
  rfl
 ·rw[if_neg e,fh,h2 c (Ne.symm e)]
theorem rY (h:∀ b,z b=false):bR z H=H:=by
 refine List.ext_getElem? fun c=>?_
 rw[fh,h]
 cases H[c]?<;>rfl
theorem tC {a:A} {c:Value} {b:Nat} (h:VR H g w a c) (hb:blk? a=some b):∃ B,H[b]? = some B/\B≠.hole:=by
 cases a with
 | ptr b' o =>
  cases hb
  rw[VR] at h
  cases hq:H[b]? with
  | none=>rw[hq] at h; exact h.elim
  | some B=>rw[hq] at h; exact⟨B,rfl,fun e=>by subst e; exact h.elim⟩
 | ep b' i o =>
  cases hb
  rw[VR] at h
  cases hq:H[b]? with
  | none=>rw[hq] at h; exact h.elim
  | some B=>rw[hq] at h; exact⟨B,rfl,fun e=>by subst e; exact h.elim⟩
 | sl b' o n cl =>
  cases hb
  rw[VR] at h
  cases hq:H[b]? with
  | none=>rw[hq] at h; exact h.elim
  | some B=>rw[hq] at h; exact⟨B,rfl,fun e=>by subst e; exact h.elim⟩
 | mr b' =>
  cases hb
  rw[VR] at h
  cases hq:H[b]? with
  | none=>rw[hq] at h; exact h.elim
  | some B=>rw[hq] at h; exact⟨B,rfl,fun e=>by subst e; exact h.elim⟩
 | _=>cases hb
theorem zr {a:A} {c:Value} {b:Nat} (h:VR (bR z H) g w a c) (hb:blk? a=some b):z b=false:=by
 obtain ⟨B,h1,h2⟩:=tC h hb
 cases hz:z b with
 | false=>rfl
 | true =>
  rw[fh,hz] at h1
  cases hq:H[b]? with
  | none=>rw[hq] at h1; cases h1
  | some B'=>rw[hq] at h1; cases h1; exact absurd rfl h2
theorem Rel.CG:∀ (q:Nat) {H:ay} {g:Gh},Rel H g w0 w->∃ g',Rel (H++List.replicate q .hole) g' w0 w/\Ext H g w (H++List.replicate q .hole) g' w/\g'.S=g.S
 | 0,H,g,hr=>⟨g,by simpa using hr,by simpa using Ext.refl hr,rfl⟩
 | q+1,H,g,hr=>by
  obtain ⟨h1,h2⟩:=hr.push (Below.refl _ w) .hole none [] (fun k hk=>by cases hk) (fun _=>Gh.bz _ _ _ _)
  obtain ⟨g',e1,e2,e3⟩:=Rel.CG q h1
  have e:H++List.replicate (q+1) aD.hole=H++[.hole]++List.replicate q .hole:=by rw[List.replicate_succ,List.append_assoc]; rfl
  rw[e]
  exact⟨g',e1,h2.trans e2,e3⟩
theorem Rel.fill (hr:Rel H g w0 w) {w':World} (hb:Below w.heap.size w w') {b:Nat} (hB0:H[b]? = some .hole) {cs:List A} {arr:Array Value} {ty:TypeId} (hw:w'.heap[w.heap.size]? = some (.cells arr ty (0,0)))
  (hv:Ext H g w (H.set b (.box cs)) (g.put b (some w.heap.size) []) w'->bp (H.set b (.box cs)) (g.put b (some w.heap.size) []) w' cs arr.toList) :
  Rel (H.set b (.box cs)) (g.put b (some w.heap.size) []) w0 w'/\Ext H g w (H.set b (.box cs)) (g.put b (some w.heap.size) []) w':=by
 have hsz:w.heap.size<w'.heap.size:=(Array.getElem?_eq_some_iff.1 hw).1
 have hbl:b<H.length:=(List.getElem?_eq_some_iff.1 hB0).1
 have hget:∀ c,c≠b->(H.set b (.box cs))[c]? = H[c]?:=fun c hc=>List.getElem?_set_ne (Ne.symm hc)
 have hgetb:(H.set b (aD.box cs))[b]? = some (.box cs):=by rw[List.getElem?_set_self (by simpa using hbl)]
 have hmub:g.mu b=none:=hr.blk b _ hB0
 have he:Ext H g w (H.set b (.box cs)) (g.put b (some w.heap.size) []) w':=by
  refine⟨fun k o v hs hc=>?_,fun c B' hB'=>?_,fun k o ho=>(hb.block k (Array.getElem?_eq_some_iff.1 ho).1).trans ho,hb.size,fun k marr cl hs hm=>?_,fun k hk _=>hb.block k hk,fun c k h=>?_⟩
  rotate_right 1
  ·by_cases e:c=b
   ·subst e; rw[Gh.bz] at h; cases h; exact .inr (Nat.le_refl _)
   ·exact .inl ⟨c,by rwa [Gh.aJ _ _ _ e] at h⟩
  ·have hlt:=World.block_lt_of_cell? w ⟨k,o,none⟩ hc
   refine⟨(hb.cell (p:=⟨k,o,none⟩) hlt).trans hc,hs.1,fun c hck=>?_⟩
   have hne:c≠b:=fun e=>by subst e; rw[Gh.bz] at hck; cases hck; exact absurd hlt (Nat.lt_irrefl _)
   rw[Gh.aJ _ _ _ hne] at hck
   obtain ⟨es,els,h3,h4⟩:=hs.2 c hck
   exact⟨es,els,by rw[hget c hne]; exact h3,h4⟩
  ·by_cases e:c=b
   ·subst e
    rw[hB0] at hB'; cases hB'
    exact⟨_,hgetb,trivial⟩
   ·refine⟨B',by rw[hget c e]; exact hB',?_⟩
    cases B' with
    | box _=>exact Gh.aJ _ _ _ e
    | row wr es els=>cases wr with
     | true=>exact⟨rfl,rfl,Gh.aJ _ _ _ e⟩
     | false=>exact⟨rfl,⟨[],by rw[Gh.fa _ _ _ e]; simp⟩,(hr.blk c _ hB').len,Nat.le_refl _,fun _=>⟨Gh.aJ _ _ _ e,fun k arr ty hk' ha=>⟨arr,eI hb ha,Nat.le_refl _⟩⟩⟩
    | rng _=>exact⟨Gh.aJ _ _ _ e,rfl⟩
    | mp _ _ _=>exact Gh.aJ _ _ _ e
    | dead=>trivial
    | hole=>trivial
  ·have hlt:=(Array.getElem?_eq_some_iff.1 hm).1
   refine⟨(hb.block k hlt).trans hm,hs.1,fun c hck=>?_⟩
   have hne:c≠b:=fun e=>by subst e; rw[Gh.bz] at hck; cases hck; exact absurd hlt (Nat.lt_irrefl _)
   rw[Gh.aJ _ _ _ hne] at hck
   obtain ⟨es,els,h3,h4⟩:=hs.2 c hck
   exact⟨es,els,by rw[hget c hne]; exact h3,h4⟩
 refine⟨⟨hr.below.trans (hb.mono hr.below.size),fun c k hck=>?_,fun c d k h1 h2=>?_,hr.yV he,hr.xi he,fun c B' hB'=>?_⟩,he⟩
 ·by_cases e:c=b
  ·subst e; rw[Gh.bz] at hck; cases hck
   exact⟨by simpa using hbl,hr.below.size,hsz⟩
  ·rw[Gh.aJ _ _ _ e] at hck
   obtain ⟨h1,h2,h3⟩:=hr.dom c k hck
   exact⟨by simpa using h1,h2,Nat.lt_of_lt_of_le h3 hb.size⟩
 ·by_cases e:c=b
  ·by_cases e':d=b
   ·rw[e,e']
   ·subst e
    rw[Gh.bz] at h1; cases h1
    rw[Gh.aJ _ _ _ e'] at h2
    exact absurd (hr.dom d _ h2).2.2 (Nat.lt_irrefl _)
  ·by_cases e':d=b
   ·subst e'
    rw[Gh.bz] at h2; cases h2
    rw[Gh.aJ _ _ _ e] at h1
    exact absurd (hr.dom c _ h1).2.2 (Nat.lt_irrefl _)
   ·rw[Gh.aJ _ _ _ e] at h1
    rw[Gh.aJ _ _ _ e'] at h2
    exact hr.inj c d k h1 h2
 ·by_cases e:c=b
  ·subst e
   rw[hgetb] at hB'; cases hB'
   exact⟨w.heap.size,arr,ty,Gh.bz _ _ _ _,hw,hv he⟩
  ·rw[hget c e] at hB'
   have h:=hr.blk c B' hB'
   cases B' with
   | box cs=>obtain ⟨k,arr,ty,h1,h2,h3⟩:=h; exact⟨k,arr,ty,(Gh.aJ _ _ _ e).trans h1,eI hb h2,bp.ext he _ _ h3⟩
   | row wr es els=>cases wr with
    | true =>
     obtain ⟨ds,h1,h2,h3⟩:=h
     exact⟨ds,bn.ext he _ _ h1,h2,fun hp=>let ⟨k,arr,ty,e1,e2,e3⟩:=h3 hp; ⟨k,arr,ty,(Gh.aJ _ _ _ e).trans e1,eI hb e2,e3⟩⟩
    | false =>
     obtain ⟨h1,h2⟩:=h
     refine⟨?_,?_⟩
     ·rw[Gh.fa _ _ _ e]; exact bn.ext he _ _ h1
     ·rw[Gh.fa _ _ _ e]; exact h2
   | rng st=>obtain ⟨k,h1,h2⟩:=h; exact⟨k,(Gh.aJ _ _ _ e).trans h1,eI hb h2⟩
   | mp _ _ _=>obtain ⟨k,arr,cl,h1,h2,h3,h4⟩:=h; exact⟨k,arr,cl,(Gh.aJ _ _ _ e).trans h1,eI hb h2,h3,bp.ext he _ _ h4⟩
   | dead=>exact(Gh.aJ _ _ _ e).trans h
   | hole=>exact(Gh.aJ _ _ _ e).trans h
theorem ya (hr:Rel H g w0 w) {t:TypeId} {b:Nat} {cs:List A} (hB0:H[b]? = some .hole) (hz:gT P t=some cs) :
  ∃ d w' g',(Instr.alloc t true (.tuple #[])).run P w=.ok d w'/\Rel (H.set b (.box cs)) g' w0 w'/\Ext H g w (H.set b (.box cs)) g' w'/\VR (H.set b (.box cs)) g' w' (.ptr b 0) d/\g'.S=g.S:=by
 obtain ⟨i,z,hi,hzz,rfl⟩:=fF hz
 have hb:Below w.heap.size w (w.alloc (.cells z.cells t)):=(Below.refl _ w).alloc (Nat.le_refl _) _
 obtain ⟨h1,h2⟩:=hr.fill hb hB0 (cs:=z.cells.toList.map yT) (heap_alloc_new w _) (fun he=>jh _)
 refine⟨.pointer (some ⟨w.heap.size,0,none⟩),_,_,by simp[Instr.alloc,zeroValue,typeInfo,hi,hzz,newVar,newRow,newObj]; rfl,h1,h2,?_,rfl⟩
 rw[VR,List.getElem?_set_self (by simpa using (List.getElem?_eq_some_iff.1 hB0).1)]
 exact⟨w.heap.size,Gh.bz _ _ _ _,rfl⟩
def fN (H:ay) (b:Nat):Option (List (List A)):=match H[b]? with | some (.row false _ els)=>some els | _=>none
theorem uu {H:ay} {b:Nat} {C:aD} (h:H[b]? = some C) (hC:∀ es els,C≠aD.row false es els):fN H b=none:=by
 unfold fN
 rw[h]
 cases C with
 | row wr es els=>cases wr with
  | true=>rfl
  | false=>exact absurd rfl (hC es els)
 | _=>rfl
theorem sF {H H':ay} (h:∀ b,fN H b=fN H' b):∀ q,gS q H=gS q H'
 | 0=>rfl
 | q+1=>by
  funext b o m
  have hb:=h b
  have gen:∀ K:ay,gS (q+1) K b o m=match fN K b with | some els=>.imm (dm (gS q K) ((els.drop o).take m)) false | none=>.any:=fun K=>by
   unfold gS fN
   cases K[b]? with
   | none=>rfl
   | some B=>cases B with
    | row wr es els=>cases wr<;>rfl
    | _=>rfl
  rw[gen H,gen H',hb,sF h q]
theorem qb {H H':ay} (h:∀ b,fN H b=fN H' b):snap H=snap H':=by
 funext a
 unfold snap
 rw[sF h 4]
theorem tW {H H':ay} (h:∀ b,fN H b=fN H' b):dz H=dz H':=by
 funext a
 unfold dz A1
 rw[qb h]
def uh (z:Nat->Bool) (r:A×ay):A×ay:=(r.1,bR z r.2)
theorem cO {α β γ:Type} {q:Option α} {F:α->Option β} {G:α->Option γ} {h:γ->β} (hh:∀ a,F a=(G a).map h):q.bind F=(q.bind G).map h:=by
 cases q with
 | none=>rfl
 | some a=>exact hh a
theorem wb {t:TypeId} {a x:A} (hb:∀ b,blk? a=some b->z b=false):kf P t a x (bR z H) lo=(kf P t a x H lo).map (bR z):=by
 unfold kf
 cases db P t with
 | none=>rfl
 | some n =>
  cases x.cells? with
  | none=>rfl
  | some xs =>
   simp only[Option.bind_some]
   cases (n==0 || !(xs.length==n)) with
   | true=>rfl
   | false =>
    simp only[cond_false]
    cases a with
    | ptr b o =>
     have hz:=hb b rfl
     simp only[eV hz]
     split
     ·rename_i cs _
      cases (decide (lo<=b)&&decide (o+n<=cs.length)) with
      | false=>rfl
      | true=>simp only[cond_true,Option.map_some,kZ hz]
     ·rfl
    | ep b i o =>
     have hz:=hb b rfl
     simp only[eV hz]
     split
     ·rename_i es els _
      split
      ·rename_i cs _
       cases (decide (lo<=b)&&decide (o+n<=cs.length)) with
       | true=>simp only[cond_true,Option.map_some,kZ hz]
       | false =>
        simp only[cond_false]
        cases (decide (lo<=b)&&Nat.beq o 0&&Nat.beq (n / es*es) n&&decide (i+n / es<=els.length)) with
        | true=>simp only[cond_true,Option.map_some,kZ hz]
        | false=>rfl
      ·rfl
     ·rfl
    | _=>rfl
theorem sy {t:TypeId} {cs:List A} (hz:z H.length=false):rowOf P t cs (bR z H)=(rowOf P t cs H).map (uh z):=by
 unfold rowOf
 split
 ·cases db P _ with
  | none=>rfl
  | some es =>
   simp only[Option.bind_some]
   rename_i n e _
   cases (Nat.beq es 0 || Nat.beq n 0 || !Nat.beq cs.length (n*es)) with
   | true=>rfl
   | false=>simp only[cond_false,Option.map_some,uh,fD hz,dk]
 ·rfl
theorem wi {t:TypeId} {c:Bool} (hz:z H.length=false):n0 c P t (bR z H)=(n0 c P t H).map (uh z):=by
 unfold n0
 cases c with
 | true =>
  simp only[cond_true]
  unfold nu
  cases gT P t with
  | none=>rfl
  | some cs=>exact sy hz
 | false =>
  simp only[cond_false]
  unfold lJ
  cases gT P t with
  | none=>rfl
  | some cs=>simp only[Option.map_some,uh,fD hz,dk]
theorem AK {t:TypeId} {x:A} {c:Bool} (hz:z H.length=false):yd c P t x (bR z H)=(yd c P t x H).map (uh z):=by
 unfold yd
 cases c with
 | true =>
  simp only[cond_true]
  unfold tD
  cases x.cells? with
  | none=>rfl
  | some cs=>exact sy hz
 | false =>
  simp only[cond_false]
  unfold dq
  cases x.cells? with
  | none=>rfl
  | some cs=>simp only[Option.map_some,uh,fD hz,dk]
theorem qy {t:TypeId} {n c:A} (hz:z H.length=false):gX P t n c (bR z H)=(gX P t n c H).map (uh z):=by
 unfold gX gr
 refine cO fun e=>cO fun es=>cO fun by_=>cO fun zz=>cO fun n=>cO fun c=>?_
 cases (es==0 || !(zz.length==es) || !decide (c*by_<=eM) || !decide (c<=eM) || !decide (n<=c)) with
 | true=>rfl
 | false =>
  simp only[cond_false]
  cases n==c with
  | true=>simp only[cond_true,Option.map_some,uh,fD hz,dk]
  | false=>cases n==0 with
   | true=>simp only[cond_true,cond_false,Option.map_some,uh,fD hz,dk]
   | false=>rfl
theorem yL {t:TypeId} {n c:A} {b:Bool} (hz:z H.length=false):ug b P t n c (bR z H)=(ug b P t n c H).map (uh z):=by
 unfold ug
 cases b with
 | false=>exact qy hz
 | true =>
  simp only[cond_true]
  unfold mJ
  refine cO fun e=>cO fun es=>cO fun by_=>cO fun zz=>cO fun n=>cO fun c=>?_
  cases (es==0 || !(zz.length==es) || !decide (c*by_<=eM) || !decide (c<=eM) || !(n==c))<;>rfl
theorem wA {a:A} (hb:∀ b,blk? a=some b->z b=false):els? (bR z H) a=els? H a:=by
 cases a with
 | sl b o n c=>simp only[els?,eV (hb b rfl)]
 | v x=>cases x<;>rfl
 | _=>rfl
theorem xW {t:TypeId} {x y:A} (hx:∀ b,blk? x=some b->z b=false) (hy:∀ b,blk? y=some b->z b=false):ql P t x y (bR z H) lo=(ql P t x y H lo).map (uh z):=by
 unfold ql
 rw[wA hy]
 refine cO fun e=>cO fun es=>cO fun ys=>?_
 cases (es==0 || !(ys.all fun cs=>cs.length==es&&cs.all A.cell)) with
 | true=>rfl
 | false =>
  simp only[cond_false]
  cases x with
  | sl b o n c =>
   have hz:=hx b rfl
   simp only[eV hz]
   split
   ·rename_i es' els _
    cases (decide (lo<=b)&&es'==es) with
    | true=>simp only[cond_true,Option.map_some,uh,kZ hz]
    | false=>rfl
   ·rfl
  | _=>rfl
theorem AQ {t2:TypeId} {by_:Nat} {zz:List A} {a:A} (hb:∀ b,blk? a=some b->z b=false):ym P (bR z H) t2 by_ zz a=ym P H t2 by_ zz a:=by
 unfold ym
 rw[wA hb]
theorem uJ {t t2:TypeId} {wr:Bool} {x y:A} (hz:z H.length=false) (hx:∀ b,blk? x=some b->z b=false) (hy:∀ b,blk? y=some b->z b=false):cK P t t2 wr x y (bR z H) lo=(cK P t t2 wr x y H lo).map (uh z):=by
 unfold cK
 simp only[AQ hy]
 refine cO fun e=>cO fun es=>cO fun by_=>cO fun zz=>cO fun ys=>?_
 cases (es==0 || by_==0 || !(zz.length==es) || !(ys.all fun cs=>cs.length==es&&cs.all A.cell)) with
 | true=>rfl
 | false =>
  simp only[cond_false]
  cases x with
  | imm xs cl=>cases cl with
   | false=>rfl
   | true =>
    simp only[]
    cases !decide ((xs.length+ys.length)*by_<=eM) with
    | true=>rfl
    | false =>
     simp only[cond_false]
     cases wr&&xs.isEmpty with
     | true=>simp only[cond_true,Option.map_some,uh,fD hz,dk]
     | false =>
      simp only[cond_false]
      cases (xs.all fun cs=>cs.length==es&&cs.all A.cell) with
      | true=>simp only[cond_true,Option.map_some,uh,fD hz,dk]
      | false=>rfl
  | sl b o n c =>
   have hzb:=hx b rfl
   simp only[eV hzb]
   split
   ·rename_i es' els _
    cases (!decide ((n+ys.length)*by_<=eM) || !(es'==es) || !decide (o+n<=els.length)) with
    | true=>rfl
    | false =>
     simp only[cond_false]
     cases c with
     | true=>simp only[cond_true,Option.map_some,uh,fD hz,dk]
     | false =>
      simp only[cond_false]
      cases (decide (lo<=b)&&o==0&&n==els.length) with
      | true=>simp only[cond_true,Option.map_some,uh,kZ hzb]
      | false=>rfl
   ·rfl
  | _=>rfl
theorem Dw {a x:A} (hrow:∀ b,fN (bR z H) b=fN H b):b9 a (bR z H) x=b9 a H x:=by
 unfold b9
 rw[tW hrow]
theorem Cn {o:Oper} {fr:List (Nat×A)} (he:dP o=true) (hz:z H.length=false) (hrow:∀ b,fN (bR z H) b=fN H b) (hop:∀ y∈o.op.operands.toList,∀ b,blk? (bW cx ⟨fr,H⟩ y)=some b->z b=false) :
  bF cx f lo o ⟨fr,bR z H⟩ (fun a H=>some (a,H))=(bF cx f lo o ⟨fr,H⟩ (fun a H=>some (a,H))).map (uh z):=by
 have ho:∀ x,bW cx ⟨fr,bR z H⟩ x=bW cx ⟨fr,H⟩ x:=fun x=>by cases x<;>rfl
 have bm:∀ (q:Option (A×ay)),(q.map (uh z)).bind (fun r=>some (r.1,r.2))=(q.bind fun r=>some (r.1,r.2)).map (uh z):=fun q=>by cases q<;>rfl
 unfold dP at he
 split at he
 ·rename_i t ad v h
  unfold bF
  simp only[h,ho]
  rw[Dw hrow,wb (hop ad (by rw[h]; simp[Op.operands]))]
  cases kf cx.P t (bW cx ⟨fr,H⟩ ad) (b9 (bW cx ⟨fr,H⟩ ad) H (bW cx ⟨fr,H⟩ v)) H lo<;>rfl
 ·rename_i t h
  unfold bF
  simp only[h,ho]
  rw[wi hz,bm]
 ·rename_i t v h
  unfold bF
  simp only[h,ho]
  rw[AK hz,bm]
 ·rename_i t l c h
  unfold bF
  simp only[h,ho]
  rw[yL hz,bm]
 ·rename_i c h
  unfold bF
  simp only[h]
  have hopc:∀ y∈c.args.toList,∀ b,blk? (bW cx ⟨fr,H⟩ y)=some b->z b=false:=fun y hy=>hop y (by rw[h]; simp[Op.operands,Call.operands]; exact .inr (by simpa using hy))
  split at he
  ·rename_i hca
   unfold oY
   simp only[hca]
   split
   all_goals first | (rename_i hh _ _; cases hh; done) | (rename_i hh _ _; injection hh with hh; cases hh; done) | skip
   ·rename_i x y t t2 _ hargs _
    simp only[ho]
    rw[uJ hz (hopc x (by rw[hargs]; simp)) (hopc y (by rw[hargs]; simp)),bm]
   all_goals first | rfl | (rename_i hh _; injection hh with hh; cases hh; done)
  ·rename_i hca
   unfold oY
   simp only[hca]
   split
   all_goals first | (rename_i hh _ _; cases hh; done) | (rename_i hh _ _; injection hh with hh; cases hh; done) | skip
   ·rename_i x y t t2 _ hargs _
    simp only[ho]
    rw[xW (hopc x (by rw[hargs]; simp)) (hopc y (by rw[hargs]; simp)),bm]
   all_goals first | rfl | (rename_i hh _; injection hh with hh; cases hh; done)
  ·cases he
 ·cases he
end
section
set_option linter.unusedSimpArgs false
open Go.RowKit
section
variable {F:Fence} {n:Nat} {P:Program} {ops:Array Oper} {Q:Exit->Act->World->Prop}
def DV (F:Fence) (n:Nat) (P:Program) (o:Oper) (ev:Operand->Value) (w:World) (R:Value->World->Prop) (Rp:List PanicEntry->World->Prop):Prop :=
 xK F n P o ev w R∨∃ f args w',(execOp ev o).run P w=.ok (.enter f args) w'/\CallsIn F (n - 1) P f args w' fun
   | .returned v,w''=>R v w''
   | .panicked ch,w''=>Rp ch w''
   | _,_=>False
theorem sP (hWF:qT F) {i:Nat} {o:Oper} (ho:ops[i]? = some o) (hp:ma o=true) {a:Act} {w:World} {K:Act->World->Prop} {R:Value->World->Prop}
  (h:if Region.wanted o (yielded ops a.tmps)=true then DV F n P o a.eval w R (fun ch w'=>Q (.panic ch) a w') else R undef w) (hK:∀ v w',R v w'->K (a.put o.dst v) w'):wpOpIn F n P ops Q i K a w:=by
 by_cases hw:Region.wanted o (yielded ops a.tmps)=true
 ·rw[if_pos hw] at h
  rcases h with h | ⟨f,args,w',h1,h2⟩
  ·exact kv hWF ho hp (by rw[if_pos hw]; exact h) hK
  ·unfold wpOpIn
   simp only[ho]
   rw[if_pos hw]
   refine⟨fun f _=>hWF.2 f,?_⟩
   rw[Oper.semAt_eq _ _ _ (fun c hc=>by unfold ma at hp; rw[hc] at hp; cases hp),h1]
   have hd:F.depth.isSome=true->1<=n:=fun hs=>by rw[hWF.1] at hs; cases hs
   simp only[Oper.uponIn]
   exact⟨hd,h2.mono fun e w'' he=>by cases e<;>first | exact hK _ _ he | exact he | exact he.elim⟩
 ·exact kv hWF ho hp (by rw[if_neg hw] at h ⊢; exact h) hK
theorem sx {a0:Act} {w0:World} (hWF:qT F) (hm:P.follows .mixedOrders=true) (N m:Nat) (hN:a0.tmps.size=N) (gP:tj ops N=true) (chkt:fm ops m=true)
  (I:(Nat->Prop)->Act->World->Prop) (h0:∀ D,(∀ i,¬ D i)->I D a0 w0.drew)
  (hstep:∀ (D D':Nat->Prop) i o,i<m->ops[i]? = some o->(∀ j,D j->j<m)->¬ D i->(∀ j,fp ops i j=true->D j)->(∀ j k,D j->fp ops j k=true->D k)->(∀ j,D' j↔j=i∨D j)->∀ (a:Act) (w:World),I D a w->a.tmps.size=N->a.defers=a0.defers ->
   if Region.wanted o (yielded ops a.tmps)=true then DV F n P o a.eval w (fun v w'=>I D' (a.put o.dst v) w') (fun ch w'=>Q (.panic ch) a w') else I D' (a.put o.dst undef) w)
  (hend:∀ (D:Nat->Prop) (a:Act) (w:World),(∀ i,i<m->D i)->(∀ j,D j->j<m)->I D a w->a.defers=a0.defers->a.tmps.size=N->wpListIn F n P ops Q (ops.toList.drop m) a w) :
  LW F n P ops Q a0 w0:=by
 have chk1:∀ i o,ops[i]? = some o->ma o=true/\(∀ e∈o.after,Region.binds .any e=true->e.on<i):=by
  intro i o ho
  have hi:i<ops.size:=(Array.getElem?_eq_some_iff.1 ho).1
  have h:=List.all_eq_true.1 gP i (List.mem_range.2 hi)
  simp only[ho,Bool.and_eq_true] at h
  obtain ⟨⟨⟨⟨⟨h1,h2⟩,h3⟩,h4⟩,h5⟩,h6⟩:=h
  refine⟨h1,fun e he hb=>?_⟩
  have:=Array.all_eq_true_iff_forall_mem.1 h3 e he
  rw[hb] at this; simpa using this
 have hm2:m<=ops.size:=by
  simp only[fm,Bool.and_eq_true,decide_eq_true_eq] at chkt
  exact chkt.1.1
 have main:∀ (fuel:Nat) (listed:Array Bool) (a:Act) (w:World),Ay ops listed<=fuel->listed.size=ops.size->I (fun i=>eH ops listed i) a w->a.defers=a0.defers->a.tmps.size=N ->
   (∀ i o,ops[i]? = some o->eH ops listed i->∀ e∈o.after,Region.binds .any e=true->eH ops listed e.on)->(∀ i,m<=i->¬ eH ops listed i)->wpAnyIn F n P .any ops Q fuel listed a w:=by
  have getD_eq:∀ (listed:Array Bool) (i:Nat),i<listed.size->listed.getD i true=listed.getD i false:=fun listed i hi=>by simp[hi]
  intro fuel
  induction fuel with
  | zero =>
   intro listed a w hu hls hI hdf hsz hcl hnt
   have all:∀ i,i<ops.size->eH ops listed i:=fun i hi=>by
    cases hc:listed.getD i false with
    | true=>exact hc
    | false =>
     have hmem:i∈(List.range ops.size).filter (fun i=>!listed.getD i true):=List.mem_filter.2 ⟨List.mem_range.2 hi,by rw[getD_eq _ _ (by omega),hc]; rfl⟩
     have:=List.length_pos_of_mem hmem
     unfold Ay at hu; omega
   have hmm:m=ops.size:=Nat.le_antisymm hm2 (Nat.le_of_not_lt fun h=>hnt m (Nat.le_refl _) (all m h))
   exact pz chkt 0 ops.size (by omega) hm2 0 listed a w (Nat.le_refl _) hls (fun i hi=>⟨fun _=>hi,fun _=>all i hi⟩)
    (by rw[<-hmm]; exact hend _ a w (fun i hi=>all i (by omega)) (fun j hj=>Nat.lt_of_not_le fun hle=>hnt j hle hj) hI hdf hsz)
  | succ fuel ih =>
   intro listed a w hu hls hI hdf hsz hcl hnt
   by_cases hall:∀ i,i<m->eH ops listed i
   ·refine pz chkt (ops.size - m) m (by omega) (Nat.le_refl _) (fuel+1) listed a w ?_ hls (fun i hi=>⟨fun h=>Nat.lt_of_not_le fun hle=>hnt i hle h,fun h=>hall i h⟩)
     (hend _ a w hall (fun j hj=>Nat.lt_of_not_le fun hle=>hnt j hle hj) hI hdf hsz)
    refine Nat.le_trans ?_ hu
    unfold Ay
    have:((List.range ops.size).filter fun i=>decide (m<=i)).length=ops.size - m:=by
     rw[<-List.countP_eq_length_filter]
     have:∀ s,(List.range s).countP (fun i=>decide (m<=i))=s - m:=by
      intro s
      induction s with
      | zero=>simp
      | succ s ih=>rw[List.range_succ,List.countP_append,ih]; simp[List.countP_cons]; split<;>omega
     exact this _
    rw[<-this]
    rw[<-List.countP_eq_length_filter,<-List.countP_eq_length_filter]
    refine List.countP_mono_left fun i hi h=>?_
    have hi:=List.mem_range.1 hi
    have hn:=hnt i (by simpa using h)
    unfold eH at hn
    rw[getD_eq _ _ (by omega)]
    simpa using hn
   ·simp only[Classical.not_forall] at hall
    obtain ⟨i0,hi0,hni0⟩:=hall
    refine⟨fun hrd=>?_,fun i hi=>?_⟩
    ·exfalso
     have:∀ i,i<m->eH ops listed i:=by
      intro i
      induction i using Nat.strongRecOn with
      | _ i ih2 =>
       intro hi
       cases hc:listed.getD i false with
       | true=>exact hc
       | false =>
        have:i∈Region.ready .any ops listed:=by
         refine mem_ready.2 ⟨by rw[getD_eq _ _ (by omega)]; exact hc,_,Array.getElem?_eq_getElem (by omega),fun e he hb=>?_⟩
         have hlt:=(chk1 i _ (Array.getElem?_eq_getElem (by omega))).2 e he hb
         exact ih2 e.on hlt (by omega)
        rw[hrd] at this; cases this
     exact hni0 (this i0 hi0)
    obtain ⟨hun,o,ho,hall⟩:=mem_ready.1 hi
    have his:i<ops.size:=(Array.getElem?_eq_some_iff.1 ho).1
    have him:i<m:=Nat.lt_of_not_le fun hle=>by
     simp only[fm,Bool.and_eq_true] at chkt
     have h1:=List.all_eq_true.1 chkt.1.2 i (List.mem_range.2 his)
     simp only[Bool.or_eq_true,decide_eq_true_eq] at h1
     have h2:=List.all_eq_true.1 (h1.resolve_left (by omega)) i0 (List.mem_range.2 hi0)
     exact hni0 (kI hcl i i0 ⟨o,ho,hall⟩ h2)
    obtain ⟨c1,c3⟩:=chk1 i o ho
    have hnot:¬ eH ops listed i:=by unfold eH; rw[<-getD_eq _ _ (by omega),hun]; simp
    have come_set:∀ k,eH ops (listed.setIfInBounds i true) k↔k=i∨eH ops listed k:=fun k=>by
     unfold eH
     by_cases e:k=i
     ·subst e; simp[hls,his]
     ·rw[getD_set_ne false (Ne.symm e)]; simp[e]
    have hlt:∀ j,eH ops listed j->j<m:=fun j hj=>Nat.lt_of_not_le fun hle=>hnt j hle hj
    refine sP hWF ho c1 (R:=fun v w'=>I (fun k=>eH ops (listed.setIfInBounds i true) k) (a.put o.dst v) w') (hstep _ _ i o him ho hlt hnot (fun j hb=>kI hcl i j ⟨o,ho,hall⟩ hb) (fun j k hj hb=>?_) come_set a w hI hsz hdf) ?_
    ·cases hoj:ops[j]? with
     | none=>exact absurd (Array.getElem?_eq_none_iff.1 hoj) (by have:=hlt j hj; omega)
     | some oj=>exact kI hcl j k ⟨oj,hoj,hcl j oj hoj hj⟩ hb
    ·intro v w' hI'
     refine ih _ _ _ ?_ (by simpa using hls) hI' ?_ ?_ ?_ ?_
     ·have:=filter_lt (fun k=>!listed.getD k true) (fun k=>!(listed.setIfInBounds i true).getD k true) (List.range ops.size) (fun x hx hq=>by
       by_cases e:i=x
       ·subst e; rw[hun]; rfl
       ·rw[getD_set_ne true e] at hq; exact hq) ⟨i,List.mem_range.2 his,by rw[hun]; rfl,by simp[hls,his]⟩
      unfold Ay at *; omega
     ·cases hd:o.dst<;>simp[Act.put,hdf]
     ·cases hd:o.dst<;>simp[Act.put,hsz]
     ·intro k ok hok hk e he hb
      rw[come_set]
      rcases (come_set k).1 hk with rfl | hk
      ·rw[ho] at hok; cases hok
       exact .inr (hall e he hb)
      ·exact .inr (hcl k ok hok hk e he hb)
     ·intro k hk hc
      rcases (come_set k).1 hc with rfl | hc
      ·omega
      ·exact hnt k hk hc
 have h00:∀ i,¬ eH ops (Array.replicate ops.size false) i:=fun i hc=>by
  unfold eH at hc
  by_cases h:i<ops.size<;>simp[Array.getD,h] at hc
 refine Bp hm (main _ _ _ _ ?_ (by simp) (h0 _ h00) rfl hN ?_ ?_)
 ·unfold Ay
  exact Nat.le_trans (List.length_filter_le _ _) (by simp)
 ·intro i o _ hc; exact absurd hc (h00 i)
 ·intro i _ hc; exact h00 i hc
end
variable {H H':ay} {g g':Gh} {w0 w w':World} {cx:Cx} {s:St} {a:Act} {F:Fence} {n:Nat} {N lo:Nat} {mb:Mb} {H0:ay} {gs:Gh} {ws:World} {Bs:ay->Gh->World->Prop} {f:Nat} {ops:Array Oper}
theorem ry {call:aS} {o:Oper} {fr:List (Nat×A)} {H H':ay} (hk:bG o=0):gv cx call f o ⟨fr,H⟩=gv cx call f o ⟨fr,H'⟩:=by
 have ho:∀ x,bW cx ⟨fr,H⟩ x=bW cx ⟨fr,H'⟩ x:=fun x=>by cases x<;>rfl
 have hof:bW cx ⟨fr,H⟩=bW cx ⟨fr,H'⟩:=funext ho
 unfold bG at hk
 unfold gv bF
 split at hk
 all_goals first
  | (rename_i h; simp only[h,ho,hof]; done)
  | (rename_i h; simp only[h,ho,hof]; rfl)
  | (cases hk; done)
  | (split at hk<;>cases hk; done)
theorem A2 {H H':ay} {a:A} (h:mA a=true):dz H a=dz H' a:=by
 unfold mA at h
 unfold dz
 split
 ·cases h
 ·rename_i cs
  congr 1
  refine List.map_congr_left fun c hc=>?_
  have:=List.all_eq_true.1 h c hc
  unfold FB at this
  unfold A1
  split
  ·cases this
  ·rfl
  ·rfl
 ·rfl
theorem rE:∀ {l:List A},pe l=true->∀ a∈l,mA a=true
 | [],_,a,ha=>by cases ha
 | x :: l,h,a,ha=>by
  unfold pe at h
  cases hx:mA x with
  | false=>rw[hx] at h; cases h
  | true =>
   rw[hx] at h
   rcases List.mem_cons.1 ha with rfl | ha
   ·exact hx
   ·exact rE h a ha
theorem wJ {call:aS} {o:Oper} {fr:List (Nat×A)} {H H':ay} (hk:bG o=2) (hf:pe (partsOf cx ⟨fr,H⟩ o.op)=true):gv cx call f o ⟨fr,H⟩=gv cx call f o ⟨fr,H'⟩:=by
 have ho:∀ x,bW cx ⟨fr,H⟩ x=bW cx ⟨fr,H'⟩ x:=fun x=>by cases x<;>rfl
 unfold bG at hk
 split at hk<;>first | (cases hk; done) | (split at hk<;>cases hk; done) | skip
 rename_i t len parts h
 have hf:=rE hf
 unfold partsOf at hf
 rw[h] at hf
 simp only[] at hf
 unfold gv bF
 simp only[h]
 have:(parts.toList.map fun p=>(p.1,dz H (bW cx ⟨fr,H⟩ p.2)))=parts.toList.map fun p=>(p.1,dz H' (bW cx ⟨fr,H'⟩ p.2)):=by
  refine List.map_congr_left fun p hp=>?_
  rw[<-ho,A2 (hf _ (List.mem_map.2 ⟨p,hp,rfl⟩))]
 rw[this]
theorem nF {H H':ay} {x:A} (hb:∀ b,blk? x=some b->H'[b]? = H[b]?):fo H x=fo H' x:=by
 unfold fo
 cases x with
 | ptr b o=>simp only[]; rw[hb b rfl]
 | ep b i o=>simp only[]; rw[hb b rfl]
 | sl b o n c=>simp only[]; rw[hb b rfl]
 | mr b=>simp only[]; rw[hb b rfl]
 | _=>rfl
theorem vh {call:aS} {o:Oper} {fr:List (Nat×A)} {H H':ay} (hk:bG o=1) (hb:∀ b,blk? (addrOf cx ⟨fr,H⟩ o.op)=some b->H'[b]? = H[b]?):gv cx call f o ⟨fr,H⟩=gv cx call f o ⟨fr,H'⟩:=by
 have ho:∀ x,bW cx ⟨fr,H⟩ x=bW cx ⟨fr,H'⟩ x:=fun x=>by cases x<;>rfl
 have hof:bW cx ⟨fr,H⟩=bW cx ⟨fr,H'⟩:=funext ho
 unfold bG at hk
 split at hk<;>first | (cases hk; done) | skip
 ·rename_i t x h
  unfold addrOf at hb
  rw[h] at hb
  simp only[] at hb
  unfold gv bF
  simp only[h]
  have:nQ cx.P t (bW cx ⟨fr,H⟩ x) H=nQ cx.P t (bW cx ⟨fr,H'⟩ x) H':=by
   rw[<-ho]
   unfold nQ
   cases hx:bW cx ⟨fr,H⟩ x with
   | ptr b o=>simp only[]; rw[hb b (by rw[hx]; rfl)]
   | ep b i o=>simp only[]; rw[hb b (by rw[hx]; rfl)]
   | _=>rfl
  rw[this]
 ·rename_i t x i h
  unfold addrOf at hb
  rw[h] at hb
  simp only[] at hb
  unfold gv bF
  simp only[h]
  have:fy cx.P t (bW cx ⟨fr,H⟩ x) i H=fy cx.P t (bW cx ⟨fr,H'⟩ x) i H':=by
   rw[<-ho]
   unfold fy
   rw[nF hb]
  rw[this]
 ·rename_i t x i h
  unfold addrOf at hb
  rw[h] at hb
  simp only[] at hb
  unfold gv bF
  simp only[h]
  have:ax cx.P t (bW cx ⟨fr,H⟩ x) (bW cx ⟨fr,H⟩ i) H=ax cx.P t (bW cx ⟨fr,H'⟩ x) (bW cx ⟨fr,H'⟩ i) H':=by
   rw[<-ho,<-ho]
   unfold ax
   rw[nF hb]
   cases hx:bW cx ⟨fr,H⟩ x with
   | ptr b o=>rfl
   | ep b i o=>simp only[]; rw[hb b (by rw[hx]; rfl)]
   | sl b o n c=>simp only[]; rw[hb b (by rw[hx]; rfl)]
   | _=>rfl
  rw[this]
 ·rename_i t x lo hi mx h
  unfold addrOf at hb
  rw[h] at hb
  simp only[] at hb
  unfold gv bF
  simp only[h]
  have:∀ a b c,ef cx.P t (bW cx ⟨fr,H⟩ x) a b c H=ef cx.P t (bW cx ⟨fr,H'⟩ x) a b c H':=fun a b c=>by
   rw[<-ho]
   generalize hx:bW cx ⟨fr,H⟩ x=y at hb ⊢
   unfold ef
   split
   ·rfl
   ·rfl
   ·rename_i hb'
    rw[hb _ rfl]
   ·rfl
   ·rename_i hb'
    rw[hb _ rfl]
   ·rfl
  simp only[this]
  simp only[hof]
 ·rename_i x h
  unfold addrOf at hb
  rw[h] at hb
  simp only[] at hb
  unfold gv bF
  simp only[h]
  have:dF (bW cx ⟨fr,H⟩ x) H=dF (bW cx ⟨fr,H'⟩ x) H':=by
   rw[<-ho]
   have hr:=nF hb
   unfold dF
   cases hx:bW cx ⟨fr,H⟩ x with
   | ptr b o=>rw[hx] at hr; simp only[p5,hr]
   | ep b i o=>rw[hx] at hr; simp only[p5,hr]
   | fn q _ _=>cases q<;>rfl
   | _=>rfl
  rw[this]
 ·rename_i t1 t2 x h
  unfold addrOf at hb
  rw[h] at hb
  simp only[] at hb
  unfold gv bF
  simp only[h]
  have:cd cx.P t1 t2 (bW cx ⟨fr,H⟩ x) H=cd cx.P t1 t2 (bW cx ⟨fr,H'⟩ x) H':=by
   rw[<-ho]
   have he:wz H (bW cx ⟨fr,H⟩ x)=wz H' (bW cx ⟨fr,H⟩ x):=by
    unfold wz els?
    cases hx:bW cx ⟨fr,H⟩ x with
    | sl b o n c=>simp only[]; rw[hb b (by rw[hx]; rfl)]
    | v y=>rfl
    | _=>rfl
   generalize bW cx ⟨fr,H⟩ x=z at he
   unfold cd
   split
   ·rw[he]
   ·rfl
   ·rfl
  rw[this]
 ·rename_i t x q c h
  unfold addrOf at hb
  rw[h] at hb
  simp only[] at hb
  unfold gv bF
  simp only[h]
  have:fY cx.P t (bW cx ⟨fr,H⟩ x) (bW cx ⟨fr,H⟩ q) c H=fY cx.P t (bW cx ⟨fr,H'⟩ x) (bW cx ⟨fr,H'⟩ q) c H':=by
   rw[<-ho,<-ho]
   unfold fY
   cases hx:bW cx ⟨fr,H⟩ x with
   | mr b=>simp only[]; rw[hb b (by rw[hx]; rfl)]
   | _=>rfl
  rw[this]
 ·rename_i c h
  split at hk<;>first | (cases hk; done) | skip
  rename_i hc
  unfold addrOf at hb
  rw[h] at hb
  simp only[] at hb
  unfold gv bF
  simp only[h,hc]
  have hi:g8 (.call c)=false:=by unfold g8; simp only[hc]
  rw[hi,cond_false,cond_false]
  unfold oY
  simp only[hc]
  cases hx:c.args.toList with
  | nil=>rfl
  | cons y l =>
   rw[hx] at hb
   simp only[] at hb
   cases l with
   | nil =>
    cases c.argTypes.toList with
    | nil=>rfl
    | cons t ts=>cases ts with
     | nil =>
      simp only[]
      have:bM cx.P t (bW cx ⟨fr,H⟩ y) H=bM cx.P t (bW cx ⟨fr,H'⟩ y) H':=by
       rw[<-ho]
       unfold bM
       rw[nF hb]
      rw[this]
     | cons _ _=>rfl
   | cons _ _=>rfl
theorem iR {H:ay} {x:A} {b:Nat} (h:fo H x=true) (hb:blk? x=some b):∃ B,H[b]? = some B:=by
 unfold fo at h
 cases x with
 | ptr b' o=>cases hb; cases hq:H[b]? with
  | none=>simp only[hq] at h; cases h
  | some B=>exact⟨B,rfl⟩
 | ep b' i o=>cases hb; cases hq:H[b]? with
  | none=>simp only[hq] at h; cases h
  | some B=>exact⟨B,rfl⟩
 | sl b' o n c=>cases hb; cases hq:H[b]? with
  | none=>simp only[hq] at h; cases h
  | some B=>exact⟨B,rfl⟩
 | mr b'=>cases hb; cases hq:H[b]? with
  | none=>simp only[hq] at h; cases h
  | some B=>exact⟨B,rfl⟩
 | _=>cases hb
theorem tS {call:aS} {o:Oper} {s:St} {x:A} {b:Nat} (hk:bG o=1) (h1:gv cx call f o s=some x) (hb:blk? (addrOf cx s o.op)=some b):∃ B,s.H[b]? = some B:=by
 unfold bG at hk
 unfold addrOf at hb
 split at hk<;>first | (cases hk; done) | skip
 ·rename_i t y hx
  rw[hx] at hb
  simp only[] at hb
  unfold gv bF at h1
  simp only[hx] at h1
  obtain ⟨_,h1,_⟩:=bt h1
  unfold nQ at h1
  obtain ⟨_,_,h1⟩:=bt h1
  obtain ⟨_,h1⟩:=eK h1
  generalize bW cx s y=z at hb h1
  cases z with
  | ptr b2 o2=>cases hb; cases hq:s.H[b]? with
   | none=>simp only[hq] at h1; cases h1
   | some B=>exact⟨B,rfl⟩
  | ep b2 i2 o2=>cases hb; cases hq:s.H[b]? with
   | none=>simp only[hq] at h1; cases h1
   | some B=>exact⟨B,rfl⟩
  | sl b2 o2 n2 c2=>cases h1
  | mr _=>cases h1
  | _=>cases hb
 ·rename_i t y q hx
  rw[hx] at hb
  simp only[] at hb
  unfold gv bF at h1
  simp only[hx] at h1
  obtain ⟨_,h1,_⟩:=bt h1
  unfold fy at h1
  exact iR (bf h1).1 hb
 ·rename_i t y q hx
  rw[hx] at hb
  simp only[] at hb
  unfold gv bF at h1
  simp only[hx] at h1
  obtain ⟨_,h1,_⟩:=bt h1
  unfold ax at h1
  obtain ⟨_,_,h1⟩:=bt h1
  exact iR (bf h1).1 hb
 ·rename_i t y q1 q2 q3 hx
  rw[hx] at hb
  simp only[] at hb
  unfold gv bF at h1
  simp only[hx] at h1
  obtain ⟨_,h1,_⟩:=bt h1
  obtain ⟨_,h1⟩:=bf h1
  generalize bW cx s y=z at hb h1
  unfold ef at h1
  split at h1
  ·cases hb
  ·cases hb
  ·cases hb
   obtain ⟨_,_,h1⟩:=bt h1
   obtain ⟨_,_,h1⟩:=bt h1
   obtain ⟨_,_,h1⟩:=bt h1
   obtain ⟨hc,_⟩:=bf h1
   rw[Bool.and_eq_true] at hc
   have hc:=hc.2
   cases hq:s.H[b]? with
   | none=>rw[hq] at hc; cases hc
   | some B=>exact⟨B,rfl⟩
  ·cases hb
  ·cases hb
   obtain ⟨_,_,h1⟩:=bt h1
   obtain ⟨_,_,h1⟩:=bt h1
   obtain ⟨_,_,h1⟩:=bt h1
   obtain ⟨hc,_⟩:=bf h1
   rw[Bool.and_eq_true] at hc
   have hc:=hc.2
   cases hq:s.H[b]? with
   | none=>rw[hq] at hc; cases hc
   | some B=>exact⟨B,rfl⟩
  ·cases h1
 ·rename_i y hx
  rw[hx] at hb
  simp only[] at hb
  unfold gv bF at h1
  simp only[hx] at h1
  obtain ⟨_,h1,_⟩:=bt h1
  unfold dF at h1
  obtain ⟨hn,_⟩:=bf h1
  generalize bW cx s y=z at hb hn
  cases z with
  | ptr b2 o2=>exact iR (x:=.ptr b2 o2) hn hb
  | ep b2 i2 o2=>exact iR (x:=.ep b2 i2 o2) hn hb
  | sl b2 o2 n2 c2=>cases hn
  | mr _=>cases hn
  | _=>cases hb
 ·rename_i t1 t2 y hx
  rw[hx] at hb
  simp only[] at hb
  unfold gv bF at h1
  simp only[hx] at h1
  obtain ⟨_,h1,_⟩:=bt h1
  generalize bW cx s y=z at hb h1
  cases z with
  | sl b2 o2 n2 c2 =>
   cases hb
   cases hq:s.H[b]? with
   | some B=>exact⟨B,rfl⟩
   | none =>
    unfold cd at h1
    split at h1
    ·rename_i heq
     split at h1
     ·obtain ⟨_,h1,_⟩:=bt h1
      simp only[wz,els?,hq] at h1
      cases h1
     ·cases h1
    ·rename_i heq
     cases heq
    ·obtain ⟨_,h1,_⟩:=bt h1
     cases h1
  | ptr _ _ =>
   unfold cd at h1
   split at h1
   ·split at h1
    ·obtain ⟨_,h1,_⟩:=bt h1
     cases h1
    ·cases h1
   ·rename_i heq
    cases heq
   ·obtain ⟨_,h1,_⟩:=bt h1
    cases h1
  | ep _ _ _ =>
   unfold cd at h1
   split at h1
   ·split at h1
    ·obtain ⟨_,h1,_⟩:=bt h1
     cases h1
    ·cases h1
   ·rename_i heq
    cases heq
   ·obtain ⟨_,h1,_⟩:=bt h1
    cases h1
  | mr _ =>
   unfold cd at h1
   split at h1
   ·split at h1
    ·obtain ⟨_,h1,_⟩:=bt h1
     cases h1
    ·cases h1
   ·rename_i heq
    cases heq
   ·obtain ⟨_,h1,_⟩:=bt h1
    cases h1
  | _=>cases hb
 ·rename_i t y q c hx
  rw[hx] at hb
  simp only[] at hb
  unfold gv bF at h1
  simp only[hx] at h1
  obtain ⟨_,h1,_⟩:=bt h1
  generalize bW cx s y=z at hb h1
  unfold fY at h1
  obtain ⟨_,_,h1⟩:=bt h1
  obtain ⟨_,_,h1⟩:=bt h1
  cases z with
  | mr b2=>cases hb; cases hq:s.H[b]? with
   | none=>simp only[hq] at h1; cases h1
   | some B=>exact⟨B,rfl⟩
  | ptr _ _=>cases h1
  | ep _ _ _=>cases h1
  | sl _ _ _ _=>cases h1
  | _=>cases hb
 ·rename_i c hx
  split at hk<;>first | (cases hk; done) | skip
  rename_i hc
  rw[hx] at hb
  simp only[] at hb
  unfold gv bF at h1
  simp only[hx,hc] at h1
  have hi:g8 (.call c)=false:=by unfold g8; simp only[hc]
  rw[hi,cond_false] at h1
  unfold oY at h1
  simp only[hc] at h1
  cases hargs:c.args.toList with
  | nil=>rw[hargs] at hb; cases hb
  | cons y l =>
   rw[hargs] at hb h1
   simp only[] at hb h1
   split at h1<;>first | (cases h1; done) | skip
   all_goals first
    | (rename_i hh _ _; injection hh with hh; cases hh; done)
    | (rename_i hh _; injection hh with hh; cases hh; done)
    | skip
   rename_i x' t' _ hl _
   cases hl
   obtain ⟨_,h1,_⟩:=bt h1
   unfold bM at h1
   exact iR (bf h1).1 hb
theorem rv {call:aS} {o:Oper} {fr:List (Nat×A)} {H H':ay} (hk:bG o=2∨(bG o=4/\uo cx o=true)) (h:∀ b,fN H b=fN H' b):gv cx call f o ⟨fr,H⟩=gv cx call f o ⟨fr,H'⟩:=by
 have ho:∀ x,bW cx ⟨fr,H⟩ x=bW cx ⟨fr,H'⟩ x:=fun x=>by cases x<;>rfl
 have hof:bW cx ⟨fr,H⟩=bW cx ⟨fr,H'⟩:=funext ho
 rcases hk with hk | ⟨_,hk⟩
 ·unfold bG at hk
  split at hk<;>first | (cases hk; done) | (rename_i c _; split at hk<;>cases hk; done) | skip
  rename_i t len parts ho
  unfold gv bF
  simp only[ho,hof,tW h]
 ·unfold uo at hk
  split at hk
  ·rename_i c hc
   split at hk
   ·rename_i q hq
    rw[Bool.and_eq_true] at hk
    have hi:g8 o.op=true:=by unfold g8; rw[hc]; simp only[hq]
    unfold gv
    simp only[hc] at hi ⊢
    rw[hi,cond_true,cond_true]
    unfold iH eR
    simp only[hq]
    have hfv:∀ K,bW cx ⟨fr,K⟩ (.func q)=.fn (.func q) [] []:=fun _=>rfl
    rw[hfv,hfv]
    unfold qA
    simp only[hk.1,hk.2,cond_true,hof,qb h]
   ·cases hk
  ·cases hk
theorem Cr {call:aS} {o:Oper} {s:St} {H H':ay} (hk:Eu cx s o=true) (h:∀ b,fN H b=fN H' b):gv cx call f o ⟨s.fr,H⟩=gv cx call f o ⟨s.fr,H'⟩:=by
 have ho:∀ x,bW cx ⟨s.fr,H⟩ x=bW cx ⟨s.fr,H'⟩ x:=fun x=>by cases x<;>rfl
 have ho2:∀ x,bW cx ⟨s.fr,H'⟩ x=bW cx s x:=fun x=>by cases x<;>rfl
 have hof:bW cx ⟨s.fr,H⟩=bW cx ⟨s.fr,H'⟩:=funext ho
 have hof2:bW cx ⟨s.fr,H'⟩=bW cx s:=funext ho2
 unfold Eu at hk
 split at hk
 ·rename_i c hc
  have hi:g8 (.call c)=true:=by
   cases hi:g8 (.call c) with
   | true=>rfl
   | false=>rw[hi] at hk; cases hk
  rw[hi,cond_true] at hk
  have e1:iH cx ⟨s.fr,H⟩ (.call c)=iH cx s (.call c):=by unfold iH; rw[hof,hof2]
  have e2:iH cx ⟨s.fr,H'⟩ (.call c)=iH cx s (.call c):=by unfold iH; rw[hof2]
  have e3:eR cx ⟨s.fr,H⟩ (.call c)=eR cx ⟨s.fr,H'⟩ (.call c):=by unfold eR; rw[hof]
  unfold gv
  simp only[hc]
  rw[hi,cond_true,cond_true,e1,e2,e3]
  split at hk
  ·rename_i q first cap hfv
   rw[Bool.and_eq_true] at hk
   rw[hfv]
   unfold qA
   simp only[hk.1,hk.2,cond_true,qb h]
  ·cases hk
 ·cases hk
theorem AM {o:Oper} {x:A} {H':ay} (he:ye o=true) (h:bF cx f lo o s (fun a H=>some (a,H))=some (x,H')):∀ b,fN H' b=fN s.H b:=by
 have new:∀ B,(∀ es els,B≠aD.row false es els)->∀ b,fN (s.H++[B]) b=fN s.H b:=fun B hB b=>by
  unfold fN
  by_cases hb:b<s.H.length
  ·rw[List.getElem?_append_left hb]
  ·rw[List.getElem?_append_right (by omega),List.getElem?_eq_none (by omega:s.H.length<=b)]
   cases hx:[B][b - s.H.length]? with
   | none=>rfl
   | some C =>
    have:C=B:=by
     have:=List.mem_of_getElem? hx
     simpa using this
    subst this
    cases C with
    | row wr es els=>cases wr with
     | true=>rfl
     | false=>exact absurd rfl (hB es els)
    | _=>rfl
 have setb:∀ c B B0,s.H[c]? = some B0->(∀ es els,B0≠aD.row false es els)->(∀ es els,B≠aD.row false es els)->∀ b,fN (s.H.set c B) b=fN s.H b:=fun c B B0 h0 h1 h2 b=>by
  by_cases hb:b=c
  ·subst hb
   rw[uu (List.getElem?_set_self (List.getElem?_eq_some_iff.1 h0).1) h2,uu h0 h1]
  ·unfold fN
   rw[List.getElem?_set_ne (Ne.symm hb)]
 have nb:∀ cs es els,aD.box cs≠aD.row false es els:=fun _ _ _ h=>by cases h
 have nt:∀ es els es' els',aD.row true es els≠aD.row false es' els':=fun _ _ _ _ h=>by cases h
 have row:∀ {t cs y K},rowOf cx.P t cs s.H=some (y,K)->∃ es els,K=s.H++[.row true es els]:=fun {t cs y K} h=>by
  unfold rowOf at h
  split at h
  ·obtain ⟨es,_,h⟩:=bt h
   obtain ⟨_,h⟩:=eK h
   cases h
   exact⟨_,_,rfl⟩
  ·cases h
 unfold ye at he
 split at he
 ·rename_i t ad v ho
  unfold bF at h
  simp only[ho] at h
  obtain ⟨K,h1,h⟩:=bt h
  cases h
  unfold kf at h1
  obtain ⟨nn,_,h1⟩:=bt h1
  obtain ⟨xs,_,h1⟩:=bt h1
  obtain ⟨_,h1⟩:=eK h1
  split at h1
  ·split at h1
   ·rename_i hb
    obtain ⟨_,h1⟩:=bf h1
    cases h1
    exact setb _ _ _ hb (nb _) (nb _)
   ·cases h1
  ·split at h1
   ·rename_i hb
    split at h1
    ·rw[br] at h1
     split at h1
     ·cases h1
      exact setb _ _ _ hb (nt _ _) (nt _ _)
     ·obtain ⟨_,h1⟩:=bf h1
      cases h1
      exact setb _ _ _ hb (nt _ _) (nt _ _)
    ·cases h1
   ·cases h1
  ·cases h1
 ·rename_i t ho
  unfold bF at h
  simp only[ho] at h
  obtain ⟨⟨y,K⟩,h1,h⟩:=bt h
  cases h
  unfold n0 at h1
  rw[br] at h1
  split at h1
  ·unfold nu at h1
   obtain ⟨cs,_,h1⟩:=bt h1
   obtain ⟨es,els,rfl⟩:=row h1
   exact new _ (nt _ _)
  ·unfold lJ at h1
   obtain ⟨cs,_,h1⟩:=Option.map_eq_some_iff.1 h1
   cases h1
   exact new _ (nb _)
 ·rename_i t v ho
  unfold bF at h
  simp only[ho] at h
  obtain ⟨⟨y,K⟩,h1,h⟩:=bt h
  cases h
  unfold yd at h1
  rw[br] at h1
  split at h1
  ·unfold tD at h1
   obtain ⟨cs,_,h1⟩:=bt h1
   obtain ⟨es,els,rfl⟩:=row h1
   exact new _ (nt _ _)
  ·unfold dq at h1
   obtain ⟨cs,_,h1⟩:=Option.map_eq_some_iff.1 h1
   cases h1
   exact new _ (nb _)
 ·rename_i c ho
  unfold bF at h
  simp only[ho] at h
  split at he
  ·rename_i hca
   unfold oY at h
   simp only[hca] at h
   split at h
   all_goals first | (rename_i hh _ _; cases hh; done) | (rename_i hh _ _; injection hh with hh; cases hh; done) | skip
   ·rename_i x y t t2 _ hargs _
    obtain ⟨⟨z,K⟩,h1,h⟩:=bt h
    cases h
    unfold ql at h1
    obtain ⟨_,_,h1⟩:=bt h1
    obtain ⟨_,_,h1⟩:=bt h1
    obtain ⟨_,_,h1⟩:=bt h1
    obtain ⟨_,h1⟩:=eK h1
    split at h1
    ·split at h1
     ·rename_i hb
      obtain ⟨_,h1⟩:=bf h1
      cases h1
      exact setb _ _ _ hb (nt _ _) (nt _ _)
     ·cases h1
    ·cases h1
   all_goals first | (cases h; done) | (rename_i hh _; injection hh with hh; cases hh; done)
  ·cases he
 ·cases he
theorem pQ {o:Oper} {x:A} {H':ay} (he:dP o=true) (h:bF cx f lo o s (fun a H=>some (a,H))=some (x,H')):s.H.length<=H'.length/\∀ b,b<s.H.length->(∀ c,blk? (dv cx s o.op)=some c->b≠c)->H'[b]? = s.H[b]?:=by
 have new:∀ B,s.H.length<=(s.H++[B]).length/\∀ b,b<s.H.length->(∀ c,blk? (dv cx s o.op)=some c->b≠c)->(s.H++[B])[b]? = s.H[b]?:=fun B=>⟨by simp,fun b hb _=>List.getElem?_append_left hb⟩
 have setb:∀ c B,blk? (dv cx s o.op)=some c->s.H.length<=(s.H.set c B).length/\∀ b,b<s.H.length->(∀ c,blk? (dv cx s o.op)=some c->b≠c)->(s.H.set c B)[b]? = s.H[b]?:=fun c B hc=>⟨by simp,fun b _ hb=>List.getElem?_set_ne (Ne.symm (hb c hc))⟩
 have row:∀ {t cs y K},rowOf cx.P t cs s.H=some (y,K)->∃ B,K=s.H++[B]:=fun {t cs y K} h=>by
  unfold rowOf at h
  split at h
  ·obtain ⟨es,_,h⟩:=bt h
   obtain ⟨_,h⟩:=eK h
   cases h
   exact⟨_,rfl⟩
  ·cases h
 unfold dP at he
 split at he
 ·rename_i t ad v ho
  unfold bF at h
  simp only[ho] at h
  obtain ⟨K,h1,h⟩:=bt h
  cases h
  unfold kf at h1
  obtain ⟨nn,_,h1⟩:=bt h1
  obtain ⟨xs,_,h1⟩:=bt h1
  obtain ⟨_,h1⟩:=eK h1
  have ht:dv cx s o.op=bW cx s ad:=by unfold dv; rw[ho]
  cases hx:bW cx s ad with
  | ptr b oo =>
   simp only[hx] at h1
   split at h1
   ·obtain ⟨_,h1⟩:=bf h1
    cases h1
    exact setb b _ (by rw[ht,hx]; rfl)
   ·cases h1
  | ep b i oo =>
   simp only[hx] at h1
   split at h1
   ·split at h1
    ·rw[br] at h1
     split at h1
     ·cases h1
      exact setb b _ (by rw[ht,hx]; rfl)
     ·obtain ⟨_,h1⟩:=bf h1
      cases h1
      exact setb b _ (by rw[ht,hx]; rfl)
    ·cases h1
   ·cases h1
  | _=>simp only[hx] at h1; cases h1
 ·rename_i t ho
  unfold bF at h
  simp only[ho] at h
  obtain ⟨⟨y,K⟩,h1,h⟩:=bt h
  cases h
  unfold n0 at h1
  rw[br] at h1
  split at h1
  ·unfold nu at h1
   obtain ⟨cs,_,h1⟩:=bt h1
   obtain ⟨B,rfl⟩:=row h1
   exact new B
  ·unfold lJ at h1
   obtain ⟨cs,_,h1⟩:=Option.map_eq_some_iff.1 h1
   cases h1
   exact new _
 ·rename_i t v ho
  unfold bF at h
  simp only[ho] at h
  obtain ⟨⟨y,K⟩,h1,h⟩:=bt h
  cases h
  unfold yd at h1
  rw[br] at h1
  split at h1
  ·unfold tD at h1
   obtain ⟨cs,_,h1⟩:=bt h1
   obtain ⟨B,rfl⟩:=row h1
   exact new B
  ·unfold dq at h1
   obtain ⟨cs,_,h1⟩:=Option.map_eq_some_iff.1 h1
   cases h1
   exact new _
 ·rename_i t l c ho
  unfold bF at h
  simp only[ho] at h
  obtain ⟨⟨y,K⟩,h1,h⟩:=bt h
  cases h
  unfold ug at h1
  rw[br] at h1
  split at h1
  ·unfold mJ at h1
   obtain ⟨_,_,h1⟩:=bt h1
   obtain ⟨_,_,h1⟩:=bt h1
   obtain ⟨_,_,h1⟩:=bt h1
   obtain ⟨_,_,h1⟩:=bt h1
   obtain ⟨_,_,h1⟩:=bt h1
   obtain ⟨_,_,h1⟩:=bt h1
   obtain ⟨_,h1⟩:=eK h1
   cases h1
   exact⟨Nat.le_refl _,fun _ _ _=>rfl⟩
  unfold gX gr at h1
  obtain ⟨_,_,h1⟩:=bt h1
  obtain ⟨_,_,h1⟩:=bt h1
  obtain ⟨_,_,h1⟩:=bt h1
  obtain ⟨_,_,h1⟩:=bt h1
  obtain ⟨_,_,h1⟩:=bt h1
  obtain ⟨_,_,h1⟩:=bt h1
  obtain ⟨_,h1⟩:=eK h1
  rw[br] at h1
  split at h1
  ·cases h1; exact new _
  ·obtain ⟨_,h1⟩:=bf h1
   cases h1; exact new _
 ·rename_i c ho
  have ht:∀ x r,c.args.toList=x :: r->dv cx s o.op=bW cx s x:=fun x r hc=>by unfold dv; rw[ho]; simp only[hc]
  unfold bF at h
  simp only[ho] at h
  split at he
  ·rename_i hca
   unfold oY at h
   simp only[hca] at h
   split at h
   all_goals first | (rename_i hh _ _; cases hh; done) | (rename_i hh _ _; injection hh with hh; cases hh; done) | skip
   ·rename_i x y t t2 _ hargs _
    obtain ⟨⟨z,K⟩,h1,h⟩:=bt h
    cases h
    have ht:=ht x [y] hargs
    unfold cK at h1
    obtain ⟨_,_,h1⟩:=bt h1
    obtain ⟨_,_,h1⟩:=bt h1
    obtain ⟨_,_,h1⟩:=bt h1
    obtain ⟨_,_,h1⟩:=bt h1
    obtain ⟨_,_,h1⟩:=bt h1
    obtain ⟨_,h1⟩:=eK h1
    cases hx:bW cx s x with
    | imm xs cl =>
     simp only[hx] at h1
     cases cl with
     | false=>cases h1
     | true =>
      simp only[] at h1
      obtain ⟨_,h1⟩:=eK h1
      rw[br] at h1
      split at h1
      ·cases h1; exact new _
      ·obtain ⟨_,h1⟩:=bf h1
       cases h1; exact new _
    | sl b oo nn cl =>
     simp only[hx] at h1
     split at h1
     ·obtain ⟨_,h1⟩:=eK h1
      rw[br] at h1
      split at h1
      ·cases h1; exact new _
      ·obtain ⟨_,h1⟩:=bf h1
       cases h1
       exact setb b _ (by rw[ht,hx]; rfl)
     ·cases h1
    | _=>simp only[hx] at h1; cases h1
   all_goals first | (cases h; done) | (rename_i hh _; injection hh with hh; cases hh; done)
  ·rename_i hca
   unfold oY at h
   simp only[hca] at h
   split at h
   all_goals first | (rename_i hh _ _; cases hh; done) | (rename_i hh _ _; injection hh with hh; cases hh; done) | skip
   ·rename_i x y t t2 _ hargs _
    obtain ⟨⟨z,K⟩,h1,h⟩:=bt h
    cases h
    have ht:=ht x [y] hargs
    unfold ql at h1
    obtain ⟨_,_,h1⟩:=bt h1
    obtain ⟨_,_,h1⟩:=bt h1
    obtain ⟨_,_,h1⟩:=bt h1
    obtain ⟨_,h1⟩:=eK h1
    cases hx:bW cx s x with
    | sl b oo nn cl =>
     simp only[hx] at h1
     split at h1
     ·obtain ⟨_,h1⟩:=bf h1
      cases h1
      exact setb b _ (by rw[ht,hx]; rfl)
     ·cases h1
    | _=>simp only[hx] at h1; cases h1
   all_goals first | (cases h; done) | (rename_i hh _; injection hh with hh; cases hh; done)
  ·cases he
 ·cases he
def Alike (s s':St):Prop:=s'.H=s.H/\∀ t,look s'.fr t=look s.fr t
theorem Alike.refl (s:St):Alike s s:=⟨rfl,fun _=>rfl⟩
theorem Alike.trans {a b c:St} (h1:Alike a b) (h2:Alike b c):Alike a c:=⟨h2.1.trans h1.1,fun t=>(h2.2 t).trans (h1.2 t)⟩
theorem fM (s:St) (d:Option Nat) (x:A) (t:Nat):look (s.put d x).fr t=if d=some t then x else look s.fr t:=by
 cases d with
 | none=>simp[St.put]
 | some d =>
  show look ((d,x) :: s.fr) t=_
  rw[ek]
  by_cases e:d=t
  ·subst e; simp
  ·rw[if_neg e,if_neg (by simpa using e)]
theorem fW (s:St) (d:Option Nat) (x:A):(s.put d x).H=s.H:=by cases d<;>rfl
theorem Alike.lit {s:St} {t:Nat} {x:A} (h:look s.fr t=x):Alike s (s.put (some t) x):=⟨rfl,fun t'=>by
 rw[fM]
 split
 ·rename_i e
  cases e
  exact h.symm
 ·rfl⟩
def kF (cx:Cx) (call:aS) (f lo:Nat) (ops:Array Oper) (m:Nat) (fl:List (Nat×A)) (i:Nat) (o:Oper) (s s':St) (x:A):Prop :=
 (cX i fl=some x/\Alike (s.put o.dst x) s') ∨
 (cX i fl=none/\dP o=true/\∃ H',bF cx f lo o s (fun a H=>some (a,H))=some (x,H')/\Alike (({ s with H:=H' }:St).put o.dst x) s') ∨
 (cX i fl=none/\dP o=false/\gv cx call f o s=some x/\Alike (s.put o.dst x) s'/\((ji fl ops m i=true/\((om cx o=true∨wN ops i fl=true)∨Eu cx s o=true))∨bG o=0∨bG o=1∨((bG o=2∨(bG o=4/\uo cx o=true))/\Fs ops m i=true)∨(bG o=2/\pe (partsOf cx s o.op)=true)))
def HG (cx:Cx) (call:aS) (f:Nat) (ops:Array Oper) (fl:List (Nat×A)) (i:Nat) (o:Oper) (s s':St) (x:A):Prop :=
 ∃ t w,bT ops o=some (t,w)/\cX i fl=none/\dP o=false/\bG o=0/\Alike (s.put o.dst x) s'/\((∃ b,look s.fr t=.v (.bool b)/\if b==w then gv cx call f o s=some x else x=.v undef)∨((∃ y,look s.fr t=.v (.tuple y))/\x=.v undef))
def HH (cx:Cx) (call:aS) (f lo:Nat) (ops:Array Oper) (m:Nat) (fl:List (Nat×A)) (i:Nat) (o:Oper) (s s':St) (x:A):Prop :=
 ∃ t w b,bT ops o=some (t,w)/\cX i fl=none/\look s.fr t=.v (.bool b)/\((b==w)=true/\kF cx call f lo ops m fl i o s s' x∨(b==w)=false/\x=.v undef/\Alike (s.put o.dst x) s')
def mw (cx:Cx) (call:aS) (f lo:Nat) (ops:Array Oper) (m:Nat) (fl:List (Nat×A)) (i:Nat) (o:Oper) (s s':St) (x:A):Prop :=
 (o.guard=none/\kF cx call f lo ops m fl i o s s' x)∨HG cx call f ops fl i o s s' x∨HH cx call f lo ops m fl i o s s' x
theorem kF.alike {call:aS} {o:Oper} {m:Nat} {fl:List (Nat×A)} {i:Nat} {s s' s2:St} {x:A} (h:kF cx call f lo ops m fl i o s s' x) (h2:Alike s' s2):kF cx call f lo ops m fl i o s s2 x:=by
 rcases h with ⟨a,b⟩ | ⟨a,b,H',c,d⟩ | ⟨a,b,c,d,e⟩
 ·exact .inl ⟨a,b.trans h2⟩
 ·exact .inr (.inl ⟨a,b,H',c,d.trans h2⟩)
 ·exact .inr (.inr ⟨a,b,c,d.trans h2,e⟩)
theorem mw.alike {call:aS} {o:Oper} {m:Nat} {fl:List (Nat×A)} {i:Nat} {s s' s2:St} {x:A} (h:mw cx call f lo ops m fl i o s s' x) (h2:Alike s' s2):mw cx call f lo ops m fl i o s s2 x:=by
 rcases h with ⟨a,b⟩ | ⟨t,w,a,b,c,d,e,g⟩ | ⟨t,w,b,a1,a2,a3,a4⟩
 ·exact .inl ⟨a,b.alike h2⟩
 ·exact .inr (.inl ⟨t,w,a,b,c,d,e.trans h2,g⟩)
 ·refine .inr (.inr ⟨t,w,b,a1,a2,a3,?_⟩)
  rcases a4 with ⟨c,d⟩ | ⟨c,d,e⟩
  ·exact .inl ⟨c,d.alike h2⟩
  ·exact .inr ⟨c,d,e.trans h2⟩
theorem kF.look {call:aS} {o:Oper} {m:Nat} {fl:List (Nat×A)} {i:Nat} {s s':St} {x:A} (h:kF cx call f lo ops m fl i o s s' x) (t:Nat):look s'.fr t=if o.dst=some t then x else look s.fr t:=by
 rcases h with ⟨_,b⟩ | ⟨_,_,H',_,d⟩ | ⟨_,_,_,d,_⟩
 ·rw[b.2,fM]
 ·rw[d.2,fM]
 ·rw[d.2,fM]
theorem mw.look {call:aS} {o:Oper} {m:Nat} {fl:List (Nat×A)} {i:Nat} {s s':St} {x:A} (h:mw cx call f lo ops m fl i o s s' x) (t:Nat):look s'.fr t=if o.dst=some t then x else look s.fr t:=by
 rcases h with ⟨_,b⟩ | ⟨_,_,_,_,_,_,e,_⟩ | ⟨_,_,_,_,_,_,a4⟩
 ·exact b.look t
 ·rw[e.2,fM]
 ·rcases a4 with ⟨_,d⟩ | ⟨_,_,e⟩
  ·exact d.look t
  ·rw[e.2,fM]
theorem kF.heap {call:aS} {o:Oper} {m:Nat} {fl:List (Nat×A)} {i:Nat} {s s':St} {x:A} (h:kF cx call f lo ops m fl i o s s' x):(dP o=false∨(cX i fl).isSome=true->s'.H=s.H)/\s.H.length<=s'.H.length/\∀ b,b<s.H.length->(dP o=true->cX i fl=none->∀ c,blk? (dv cx s o.op)=some c->b≠c)->s'.H[b]? = s.H[b]?:=by
 rcases h with ⟨_,e⟩ | ⟨hn,he,H',h1,e⟩ | ⟨_,he,_,e,_⟩
 ·rw[e.1,fW]
  exact⟨fun _=>rfl,Nat.le_refl _,fun _ _ _=>rfl⟩
 ·obtain ⟨t1,t2⟩:=pQ he h1
  rw[e.1,fW]
  exact⟨fun h'=>(by rw[he,hn] at h'; rcases h' with h' | h'<;>cases h'),t1,fun b hb hc=>t2 b hb (hc he hn)⟩
 ·rw[e.1,fW]
  exact⟨fun _=>rfl,Nat.le_refl _,fun _ _ _=>rfl⟩
theorem mw.heap {call:aS} {o:Oper} {m:Nat} {fl:List (Nat×A)} {i:Nat} {s s':St} {x:A} (h:mw cx call f lo ops m fl i o s s' x):(dP o=false∨(cX i fl).isSome=true->s'.H=s.H)/\s.H.length<=s'.H.length/\∀ b,b<s.H.length->(dP o=true->cX i fl=none->∀ c,blk? (dv cx s o.op)=some c->b≠c)->s'.H[b]? = s.H[b]?:=by
 rcases h with ⟨_,b⟩ | ⟨_,_,_,_,_,_,e,_⟩ | ⟨_,_,_,_,_,_,a4⟩
 ·exact b.heap
 ·rw[e.1,fW]
  exact⟨fun _=>rfl,Nat.le_refl _,fun _ _ _=>rfl⟩
 ·rcases a4 with ⟨_,d⟩ | ⟨_,_,e⟩
  ·exact d.heap
  ·rw[e.1,fW]
   exact⟨fun _=>rfl,Nat.le_refl _,fun _ _ _=>rfl⟩
def fw (ops:Array Oper) (i j:Nat):Prop:=(fp ops i j || fp ops j i)=false
theorem gM {i:Nat} {e:A}:∀ {l:List (Nat×A)},ka ops i e l=true->∀ p∈l,fw ops i p.1->apart p.2 e=true
 | [],_,p,hp,_=>by cases hp
 | q :: l,h,p,hp,hu=>by
  unfold ka at h
  cases hb:(fp ops i q.1 || fp ops q.1 i) with
  | true =>
   rw[hb] at h
   rcases List.mem_cons.1 hp with rfl | hp
   ·unfold fw at hu; rw[hb] at hu; cases hu
   ·exact gM h p hp hu
  | false =>
   rw[hb] at h
   cases ha:apart q.2 e with
   | false=>rw[ha] at h; cases h
   | true =>
    rw[ha] at h
    rcases List.mem_cons.1 hp with rfl | hp
    ·exact ha
    ·exact gM h p hp hu
theorem hY {i:Nat} {a:A}:∀ {l:List (Nat×A)},kH ops i a l=true->∀ p∈l,fw ops i p.1->apart a p.2=true
 | [],_,p,hp,_=>by cases hp
 | q :: l,h,p,hp,hu=>by
  unfold kH at h
  cases hb:(fp ops i q.1 || fp ops q.1 i) with
  | true =>
   rw[hb] at h
   rcases List.mem_cons.1 hp with rfl | hp
   ·unfold fw at hu; rw[hb] at hu; cases hu
   ·exact hY h p hp hu
  | false =>
   rw[hb] at h
   cases ha:apart a q.2 with
   | false=>rw[ha] at h; cases h
   | true =>
    rw[ha] at h
    rcases List.mem_cons.1 hp with rfl | hp
    ·exact ha
    ·exact hY h p hp hu
theorem beq_spec {a b:Nat} (h:Nat.beq a b=true):a=b:=Nat.eq_of_beq_eq_true h
def Tr (cx:Cx) (call:aS) (f lo:Nat) (ops:Array Oper) (m:Nat) (fl:List (Nat×A)) (k:St->Option R) (r:R) (os:List Oper) (i:Nat) (effs seen:List (Nat×A)) (s:St):Prop :=
  ∃ (σ:Nat->St) (xs:Nat->A),Alike s (σ 0)/\k (σ os.length)=some r/\∀ (j:Nat) o,os[j]? = some o->mw cx call f lo ops m fl (i+j) o (σ j) (σ (j+1)) (xs j) ∧
   (cX (i+j) fl=none->dP o=true->(∀ p∈seen,fw ops (i+j) p.1->apart p.2 (dv cx (σ j) o.op)=true)/\∀ (j':Nat) o',j'<j->os[j']? = some o'->dP o'=false->bG o'=1->ji fl ops m (i+j')=false->fw ops (i+j) (i+j')->apart (addrOf cx (σ j') o'.op) (dv cx (σ j) o.op)=true) ∧
   (dP o=false->bG o=1->ji fl ops m (i+j)=false->(∀ p∈effs,fw ops (i+j) p.1->apart (addrOf cx (σ j) o.op) p.2=true)/\∀ (j':Nat) o',j'<j->os[j']? = some o'->cX (i+j') fl=none->dP o'=true->fw ops (i+j) (i+j')->apart (addrOf cx (σ j) o.op) (dv cx (σ j') o'.op)=true)
theorem qo {call:aS} {m:Nat} {fl:List (Nat×A)} {k:St->Option R} {r:R} (hfe:∀ i o a,cX i fl=some a->ops[i]? = some o->dP o=true) (hV:∀ {o:Oper} {s:St} (k:A->Option R),rz cx call f o s k=(gv cx call f o s).bind k):∀ (os:List Oper) (i:Nat) (effs seen:List (Nat×A)) (s:St),(∀ j o,os[j]? = some o->ops[i+j]? = some o)->fC cx call f lo ops m fl i os effs seen s k=some r->Tr cx call f lo ops m fl k r os i effs seen s
 | [],i,effs,seen,s,_,h=>⟨fun _=>s,fun _=>.any,Alike.refl _,h,fun j o ho=>by simp at ho⟩
 | o :: os,i,effs,seen,s,hos,h=>by
  have hos':∀ j o,os[j]? = some o->ops[i+1+j]? = some o:=fun j o' ho'=>by
   have:=hos (j+1) o' (by simpa using ho')
   rwa [show i+1+j=i+(j+1) by omega]
  have hoi:ops[i]? = some o:=by simpa using hos 0 o (by simp)
  have finG:∀ (s1 s':St) (x:A) (effs' seen':List (Nat×A)),Alike s s1->mw cx call f lo ops m fl i o s1 s' x->(∀ p∈effs,p∈effs')->(∀ p∈seen,p∈seen')->(cX i fl=none->dP o=true->(i,dv cx s1 o.op)∈effs'/\∀ p∈seen,fw ops i p.1->apart p.2 (dv cx s1 o.op)=true) ->
    (dP o=false->bG o=1->ji fl ops m i=false->(i,addrOf cx s1 o.op)∈seen'/\∀ p∈effs,fw ops i p.1->apart (addrOf cx s1 o.op) p.2=true)->fC cx call f lo ops m fl (i+1) os effs' seen' s' k=some r->Tr cx call f lo ops m fl k r (o :: os) i effs seen s:=by
   intro s1 s' x effs' seen' hal hst he1 hs1 hce hcp h
   obtain ⟨σ,xs,g0,g1,g2⟩:=qo hfe hV os (i+1) effs' seen' s' hos' h
   refine⟨fun j=>match j with | 0=>s1 | j+1=>σ j,fun j=>match j with | 0=>x | j+1=>xs j,hal,g1,fun j o1 ho1=>?_⟩
   cases j with
   | zero =>
    simp at ho1
    subst ho1
    refine⟨hst.alike g0,fun hn he=>⟨(hce hn he).2,fun j' o' hj'=>by omega⟩,fun he hk ho=>⟨(hcp he hk ho).2,fun j' o' hj'=>by omega⟩⟩
   | succ j =>
    obtain ⟨q2,q3,q4⟩:=g2 j o1 (by simpa using ho1)
    have e:i+1+j=i+(j+1):=by omega
    rw[e] at q2 q3 q4
    refine⟨q2,fun hn he=>⟨fun p hp=>(q3 hn he).1 p (hs1 p hp),fun j' o' hj' ho' he' hk' hod hu=>?_⟩,fun he hk hod=>⟨fun p hp=>(q4 he hk hod).1 p (he1 p hp),fun j' o' hj' ho' hn' he' hu=>?_⟩⟩
    ·cases j' with
     | zero =>
      simp at ho'
      subst ho'
      exact(q3 hn he).1 _ (hcp he' hk' hod).1 hu
     | succ j' =>
      refine(q3 hn he).2 j' o' (by omega) (by simpa using ho') he' hk' ?_ ?_
      ·rw[show i+1+j'=i+(j'+1) by omega]; exact hod
      ·rw[show i+1+j'=i+(j'+1) by omega]; exact hu
    ·cases j' with
     | zero =>
      simp at ho'
      subst ho'
      exact(q4 he hk hod).1 _ (hce hn' he').1 hu
     | succ j' =>
      refine(q4 he hk hod).2 j' o' (by omega) (by simpa using ho') ?_ he' ?_
      ·rw[show i+1+j'=i+(j'+1) by omega]; exact hn'
      ·rw[show i+1+j'=i+(j'+1) by omega]; exact hu
  have doB:∀ (s1:St),Alike s s1->(∀ s' x,kF cx call f lo ops m fl i o s1 s' x->mw cx call f lo ops m fl i o s1 s' x)->rq cx call f lo ops m fl i o effs seen s1 (fun effs seen s=>fC cx call f lo ops m fl (i+1) os effs seen s k)=some r->Tr cx call f lo ops m fl k r (o :: os) i effs seen s:=by
   intro s1 hal hA h
   have fin:∀ (s':St) (x:A) (effs' seen':List (Nat×A)),kF cx call f lo ops m fl i o s1 s' x->(∀ p∈effs,p∈effs')->(∀ p∈seen,p∈seen')->(cX i fl=none->dP o=true->(i,dv cx s1 o.op)∈effs'/\∀ p∈seen,fw ops i p.1->apart p.2 (dv cx s1 o.op)=true) ->
     (dP o=false->bG o=1->ji fl ops m i=false->(i,addrOf cx s1 o.op)∈seen'/\∀ p∈effs,fw ops i p.1->apart (addrOf cx s1 o.op) p.2=true)->fC cx call f lo ops m fl (i+1) os effs' seen' s' k=some r->Tr cx call f lo ops m fl k r (o :: os) i effs seen s:=fun s' x effs' seen' hst=>finG s1 s' x effs' seen' hal (hA _ _ hst)
   unfold rq at h
   cases hfl:cX i fl with
   | some a =>
    simp only[hfl] at h
    have he:=hfe i o a hfl hoi
    exact fin _ a effs seen (.inl ⟨hfl,Alike.refl _⟩) (fun p hp=>hp) (fun p hp=>hp) (fun h'=>(by rw[hfl] at h'; cases h')) (fun h'=>(by rw[he] at h'; cases h')) h
   | none =>
   simp only[hfl] at h
   rw[br] at h
   split at h
   ·rename_i he
    obtain ⟨hsn,h⟩:=bf h
    rw[gZ] at h
    obtain ⟨⟨x,H'⟩,h1,h⟩:=bt h
    exact fin _ x _ seen (.inr (.inl ⟨hfl,he,H',h1,Alike.refl _⟩)) (fun p hp=>by simp[hp]) (fun p hp=>hp) (fun _ _=>⟨by simp,gM hsn⟩) (fun h'=>(by rw[he] at h'; cases h')) h
   ·rename_i he
    have he:dP o=false:=by simpa using he
    rw[br] at h
    split at h
    ·rename_i hod
     simp only[Bool.and_eq_true,Bool.or_eq_true] at hod
     rw[hV] at h
     obtain ⟨x,h1,h⟩:=bt h
     exact fin _ x effs seen (.inr (.inr ⟨hfl,he,h1,Alike.refl _,.inl hod⟩)) (fun p hp=>hp) (fun p hp=>hp) (fun _ h'=>(by rw[he] at h'; cases h')) (fun _ _ h'=>(by rw[hod.1] at h'; cases h')) h
    ·rename_i hod
     rw[br] at h
     split at h
     ·rename_i hk
      rw[hV] at h
      obtain ⟨x,h1,h⟩:=bt h
      have hk:=beq_spec hk
      exact fin _ x effs seen (.inr (.inr ⟨hfl,he,h1,Alike.refl _,.inr (.inl hk)⟩)) (fun p hp=>hp) (fun p hp=>hp) (fun _ h'=>(by rw[he] at h'; cases h')) (fun _ h' _=>(by rw[hk] at h'; cases h')) h
     ·rw[br] at h
      split at h
      ·rename_i hk
       have hk:=beq_spec hk
       obtain ⟨hap,h⟩:=bf h
       rw[hV] at h
       obtain ⟨x,h1,h⟩:=bt h
       exact fin _ x effs _ (.inr (.inr ⟨hfl,he,h1,Alike.refl _,.inr (.inr (.inl hk))⟩)) (fun p hp=>hp) (fun p hp=>by simp[hp]) (fun _ h'=>(by rw[he] at h'; cases h')) (fun _ _ _=>⟨by simp,hY hap⟩) h
      ·rename_i hk1
       rw[br] at h
       split at h
       ·rename_i hk
        simp only[Bool.and_eq_true,Bool.or_eq_true] at hk
        have hk2:bG o=2∨(bG o=4/\uo cx o=true):=hk.1.imp beq_spec (fun h=>⟨beq_spec h.1,h.2⟩)
        rw[hV] at h
        obtain ⟨x,h1,h⟩:=bt h
        exact fin _ x effs seen (.inr (.inr ⟨hfl,he,h1,Alike.refl _,.inr (.inr (.inr (.inl ⟨hk2,hk.2⟩)))⟩)) (fun p hp=>hp) (fun p hp=>hp) (fun _ h'=>(by rw[he] at h'; cases h')) (fun _ h' _=>(by rcases hk2 with hk2 | hk2<;>(first | rw[hk2] at h' | rw[hk2.1] at h')<;>cases h')) h
       obtain ⟨hk,h⟩:=bf h
       have hk:=beq_spec hk
       obtain ⟨hfl2,h⟩:=bf h
       rw[hV] at h
       obtain ⟨x,h1,h⟩:=bt h
       exact fin _ x effs seen (.inr (.inr ⟨hfl,he,h1,Alike.refl _,.inr (.inr (.inr (.inr ⟨hk,hfl2⟩)))⟩)) (fun p hp=>hp) (fun p hp=>hp) (fun _ h'=>(by rw[he] at h'; cases h')) (fun _ h' _=>(by rw[hk] at h'; cases h')) h
  have doS:∀ (s1:St),Alike s s1->(∀ s',Alike (s1.put o.dst (.v undef)) s'->mw cx call f lo ops m fl i o s1 s' (.v undef))->vd cx ops m fl i o effs seen s1 (fun effs seen s=>fC cx call f lo ops m fl (i+1) os effs seen s k)=some r->Tr cx call f lo ops m fl k r (o :: os) i effs seen s:=by
   intro s1 hal hA h
   have fin:=fun effs' seen'=>finG s1 (s1.put o.dst (.v undef)) (.v undef) effs' seen' hal (hA _ (Alike.refl _))
   unfold vd at h
   rw[br] at h
   split at h
   ·rename_i he
    obtain ⟨hsn,h⟩:=bf h
    exact fin _ seen (fun p hp=>by simp[hp]) (fun p hp=>hp) (fun _ _=>⟨by simp,gM hsn⟩) (fun h'=>(by rw[he] at h'; cases h')) h
   ·rename_i he
    have he:dP o=false:=by simpa using he
    rw[br] at h
    split at h
    ·rename_i hk
     rw[br] at h
     split at h
     ·rename_i hod
      exact fin effs seen (fun p hp=>hp) (fun p hp=>hp) (fun _ h'=>(by rw[he] at h'; cases h')) (fun _ _ h'=>(by rw[hod] at h'; cases h')) h
     ·obtain ⟨hap,h⟩:=bf h
      exact fin effs _ (fun p hp=>hp) (fun p hp=>by simp[hp]) (fun _ h'=>(by rw[he] at h'; cases h')) (fun _ _ _=>⟨by simp,hY hap⟩) h
    ·rename_i hk
     exact fin effs seen (fun p hp=>hp) (fun p hp=>hp) (fun _ h'=>(by rw[he] at h'; cases h')) (fun _ h' _=>(by rw[h'] at hk; exact absurd rfl hk)) h
  unfold fC at h
  cases hgd:o.guard with
  | some _ =>
   simp only[hgd] at h
   cases hgs:bT ops o with
   | none=>rw[hgs] at h; cases h
   | some tw =>
    obtain ⟨t,w⟩:=tw
    simp only[hgs] at h
    rw[br] at h
    split at h
    ·rename_i hc
     simp only[Bool.and_eq_true,Bool.not_eq_true',Option.isNone_iff_eq_none] at hc
     obtain ⟨⟨hk,he⟩,hn⟩:=hc
     have hk:=beq_spec hk
     obtain ⟨x,h0,h⟩:=bt h
     refine finG s _ x effs seen (Alike.refl _) (.inr (.inl ⟨t,w,hgs,hn,he,hk,Alike.refl _,?_⟩)) (fun p hp=>hp) (fun p hp=>hp) (fun _ h'=>(by rw[he] at h'; cases h')) (fun _ h' _=>(by rw[hk] at h'; cases h')) h
     rcases mX h0 with ⟨b,hb,h0⟩ | ⟨y,hb,h0⟩
     ·refine .inl ⟨b,hb,?_⟩
      split at h0
      ·rename_i hbw; rw[if_pos hbw]; exact h0
      ·rename_i hbw; rw[if_neg hbw]; cases h0; rfl
     ·cases h0; exact .inr ⟨⟨y,hb⟩,rfl⟩
    ·obtain ⟨hn,h⟩:=bf h
     simp only[Option.isNone_iff_eq_none] at hn
     obtain ⟨b,hb,h⟩:=oP h
     have hl:look (s.put (some t) (.v (.bool b))).fr t=.v (.bool b):=by rw[fM,if_pos rfl]
     cases b with
     | true =>
      simp only[if_true] at h
      cases w with
      | true=>exact doB _ (Alike.lit hb) (fun s' x hE=>.inr (.inr ⟨t,true,true,hgs,hn,hl,.inl ⟨rfl,hE⟩⟩)) h
      | false=>exact doS _ (Alike.lit hb) (fun s' hE=>.inr (.inr ⟨t,false,true,hgs,hn,hl,.inr ⟨rfl,rfl,hE⟩⟩)) h
     | false =>
      simp only[Bool.false_eq_true,if_false] at h
      cases w with
      | true=>exact doS _ (Alike.lit hb) (fun s' hE=>.inr (.inr ⟨t,true,false,hgs,hn,hl,.inr ⟨rfl,rfl,hE⟩⟩)) h
      | false=>exact doB _ (Alike.lit hb) (fun s' x hE=>.inr (.inr ⟨t,false,false,hgs,hn,hl,.inl ⟨rfl,hE⟩⟩)) h
  | none =>
   simp only[hgd] at h
   exact doB s (Alike.refl _) (fun s' x hE=>.inl ⟨hgd,hE⟩) h
theorem vI {fl:List (Nat×A)} {m i e:Nat} (h:ji fl ops m i=true) (he:e<m) (hf:dx ops e=true) (hn:cX e fl=none):e=i∨fp ops i e=true∨fp ops e i=true:=by
 have:=List.all_eq_true.1 h e (List.mem_range.2 he)
 simp only[Bool.or_eq_true,Bool.not_eq_true',beq_iff_eq] at this
 rcases this with (((h | h) | h) | h) | h
 ·rw[hf] at h; cases h
 ·rw[hn] at h; cases h
 ·exact .inl h
 ·exact .inr (.inl h)
 ·exact .inr (.inr h)
theorem yi {m i j:Nat} (h:uU ops m=true) (hj:j<m) (hij:i<j) (h1:dx ops i=true) (h2:dx ops j=true):fp ops j i=true:=by
 have:=List.all_eq_true.1 (List.all_eq_true.1 h i (List.mem_range.2 (by omega))) j (List.mem_range.2 hj)
 simpa [h1,h2,hij] using this
theorem wq {m i j:Nat} (h:ri cx f ops m=true) (hj:j<m) (hij:i<j) (h1:dx ops i=true) (h2:dx ops j=true) (h3:rT cx f ops i=false) (h4:rT cx f ops j=false):fp ops j i=true:=by
 have:=List.all_eq_true.1 (List.all_eq_true.1 h i (List.mem_range.2 (by omega))) j (List.mem_range.2 hj)
 simpa [h1,h2,h3,h4,hij] using this
theorem rB {i:Nat}:∀ {fl:List (Nat×A)},wN ops i fl=true->∀ j a,cX j fl=some a->fp ops i j=true
 | [],_,j,a,h=>by cases h
 | p :: l,h,j,a,hj=>by
  unfold wN at h
  cases hb:fp ops i p.1 with
  | false=>rw[hb] at h; cases h
  | true =>
   rw[hb] at h
   unfold cX at hj
   cases he:Nat.beq p.1 j with
   | true=>rw[<-Nat.eq_of_beq_eq_true he]; exact hb
   | false=>rw[he] at hj; exact rB h j a hj
structure Hr (cx:Cx) (ops:Array Oper) (m:Nat) (H H1:ay) (fl:List (Nat×A)):Prop where
 at_:∀ i a,cX i fl=some a->i<m/\∃ o t b cs,ops[i]? = some o/\o.op=.alloc t/\a=.ptr b 0/\H.length<=b/\H1[b]? = some (.box cs)/\gT cx.P t=some cs
 inj:∀ i j b,cX i fl=some (.ptr b 0)->cX j fl=some (.ptr b 0)->i=j
 all:∀ b,H.length<=b->b<H1.length->∃ i,cX i fl=some (.ptr b 0)
 len:H.length<=H1.length
 low:∀ b,b<H.length->H1[b]? = H[b]?
theorem Hr.none {m:Nat} {H:ay}:Hr cx ops m H H []:=⟨fun i a h=>(by cases h),fun i j b h=>(by cases h),fun b h1 h2=>(by omega),Nat.le_refl _,fun _ _=>rfl⟩
theorem nZ {β:Type} {m:Nat} {r:β}:∀ (os:List Oper) (i:Nat) (H:ay) (k:List (Nat×A)->ay->Option β),(∀ j o,os[j]? = some o->ops[i+j]? = some o)->i+os.length<=m->ahead cx f i os H k=some r ->
  ∃ fl H1,k fl H1=some r/\Hr cx ops m H H1 fl/\(∀ j a,cX j fl=some a->i<=j)/\(∀ j,cX j fl=none->i<=j->j<i+os.length->rT cx f ops j=false)
 | [],i,H,k,_,_,h=>⟨[],H,h,.none,fun j a h=>(by cases h),fun j _ h1 h2=>(by simp at h2; omega)⟩
 | o :: os,i,H,k,hos,hm,h=>by
  have hos':∀ j o,os[j]? = some o->ops[i+1+j]? = some o:=fun j o' ho'=>by
   have:=hos (j+1) o' (by simpa using ho')
   rwa [show i+1+j=i+(j+1) by omega]
  have hoi:ops[i]? = some o:=by simpa using hos 0 o (by simp)
  simp only[List.length_cons] at hm
  unfold ahead at h
  cases hft:vi cx f o with
  | none =>
   simp only[hft] at h
   obtain ⟨fl,H1,h1,h2,h3,h4⟩:=nZ (m:=m) os (i+1) H k hos' (by omega) h
   refine⟨fl,H1,h1,h2,fun j a hj=>by have:=h3 j a hj; omega,fun j hj h5 h6=>?_⟩
   by_cases e:j=i
   ·subst e; unfold rT; rw[hoi]; simp[hft]
   ·exact h4 j hj (by omega) (by simp at h6; omega)
  | some t =>
   simp only[hft] at h
   obtain ⟨⟨y,H2⟩,ha,h⟩:=bt h
   unfold lJ at ha
   obtain ⟨cs,hz,ha⟩:=Option.map_eq_some_iff.1 ha
   cases ha
   obtain ⟨fl,H1,h1,h2,h3,h4⟩:=nZ (m:=m) os (i+1) _ _ hos' (by omega) h
   have hop:o.op=.alloc t:=by
    unfold vi at hft
    split at hft
    ·rename_i t' ho
     obtain ⟨_,e⟩:=eK hft
     cases e; exact ho
    ·cases hft
   have hl2:=h2.len
   simp only[List.length_append,List.length_cons,List.length_nil] at hl2
   have hnew:H1[H.length]? = some (.box cs):=by rw[h2.low _ (by simp)]; exact ei _ _
   have hof:∀ j,cX j ((i,A.ptr H.length 0) :: fl)=if i=j then some (.ptr H.length 0) else cX j fl:=fun j=>by
    show (bif Nat.beq i j then some (A.ptr H.length 0) else cX j fl)=_
    by_cases e:i=j
    ·subst e; simp
    ·rw[if_neg e,show Nat.beq i j=false from by cases hh:Nat.beq i j with | false=>rfl | true=>exact absurd (Nat.eq_of_beq_eq_true hh) e]; rfl
   have hni:cX i fl=none:=by
    cases hh:cX i fl with
    | none=>rfl
    | some a=>have:=h3 i a hh; omega
   refine⟨(i,.ptr H.length 0) :: fl,H1,h1,⟨fun j a hj=>?_,fun j j' b hj hj'=>?_,fun b hb1 hb2=>?_,by omega,fun b hb=>?_⟩,fun j a hj=>?_,fun j hj h5 h6=>?_⟩
   ·rw[hof] at hj
    split at hj
    ·rename_i e; subst e; cases hj
     exact⟨by omega,o,t,_,cs,hoi,hop,rfl,Nat.le_refl _,hnew,hz⟩
    ·obtain ⟨q1,o',t',b,cs',q2,q3,q4,q5,q6⟩:=h2.at_ j a hj
     simp only[List.length_append,List.length_cons,List.length_nil] at q5
     exact⟨q1,o',t',b,cs',q2,q3,q4,by omega,q6⟩
   ·rw[hof] at hj hj'
    have out:∀ j b,cX j fl=some (.ptr b 0)->b≠H.length:=fun j b hj e=>by
     obtain ⟨_,_,_,b',_,_,_,q4,q5,_⟩:=h2.at_ j _ hj
     cases q4
     simp only[List.length_append,List.length_cons,List.length_nil] at q5
     omega
    split at hj<;>split at hj'
    ·omega
    ·cases hj; exact absurd rfl (out _ _ hj')
    ·cases hj'; exact absurd rfl (out _ _ hj)
    ·exact h2.inj j j' b hj hj'
   ·by_cases e:b=H.length
    ·subst e; exact⟨i,by rw[hof,if_pos rfl]⟩
    ·obtain ⟨j,hj⟩:=h2.all b (by simp; omega) hb2
     refine⟨j,?_⟩
     rw[hof,if_neg (fun e=>by subst e; rw[hni] at hj; cases hj)]
     exact hj
   ·rw[h2.low b (by simp; omega),List.getElem?_append_left hb]
   ·rw[hof] at hj
    split at hj
    ·omega
    ·have:=h3 j a hj; omega
   ·rw[hof] at hj
    split at hj
    ·cases hj
    ·exact h4 j hj (by omega) (by simp at h6; omega)
open Classical in
theorem nV {call:aS} {fl:List (Nat×A)} {H1:ay} (hcall:dW cx Bs call) (hb0:Bs H0 gs ws) (horc:jA cx) (hF:gq F) (hmx:cx.P.follows .mixedOrders=true) {m:Nat} {k:E->St->Option R} {r:R} {Q:Exit->Act->World->Prop} (gP:tj ops N=true) (chkt:fm ops m=true) (hch:∀ i j,j<m->i<j->dx ops i=true->dx ops j=true->cX i fl=none->cX j fl=none->fp ops j i=true) (hfl:Hr cx ops m s.H H1 fl)
  (hg:Good cx N mb lo H0 gs ws w0 s g a w) (hd:∀ o∈ops.toList,∀ d,o.dst=some d->d<N)
  {kk:St->Option R} (hkk:∀ s,kk s=some r->fA cx call f lo ops (ops.toList.drop m) s k=some r) (h:fC cx call f lo ops m fl 0 (ops.toList.take m) [] [] ⟨s.fr,H1⟩ kk=some r)
  (hk:∀ s' g' a' w',Good cx N mb lo H0 gs ws w0 s' g' a' w'->k .normal s'=some r->Q .normal a' w')
  (hp:∀ x s' g' a' w' c,Good cx N mb lo H0 gs ws w0 s' g' a' w'->VR s'.H g' w' x c->k (.pan x) s'=some r->Q (.panic [{ v:=c,recovered:=false }]) a' w'):LW F n cx.P ops Q a w:=by
 have hfe:∀ i o a,cX i fl=some a->ops[i]? = some o->dP o=true:=fun i o a h1 h2=>by
  obtain ⟨_,o',t,_,_,q1,q2,_⟩:=hfl.at_ i a h1
  rw[h2] at q1; cases q1
  unfold dP; rw[q2]
 obtain ⟨σ,xs,hσ0,hz,htr⟩:=qo hfe (fun k=>qI k) _ _ _ _ _ (fun j o ho=>by
  rw[List.getElem?_take] at ho
  split at ho
  ·rw[Nat.zero_add]; rw[Array.getElem?_toList] at ho; exact ho
  ·cases ho) h
 have hσH:(σ 0).H=H1:=hσ0.1
 have hσf:∀ t,look (σ 0).fr t=look s.fr t:=hσ0.2
 have hm2:m<=ops.size:=by
  simp only[fm,Bool.and_eq_true,decide_eq_true_eq] at chkt
  exact chkt.1.1
 have hlen:(ops.toList.take m).length=m:=by rw[List.length_take]; simp; omega
 rw[hlen] at hz
 replace hz:=hkk _ hz
 have hget:∀ {i o},i<m->ops[i]? = some o->(ops.toList.take m)[i]? = some o:=fun {i o} him ho=>by
  rw[List.getElem?_take,if_pos him,Array.getElem?_toList]; exact ho
 have hop:∀ i,i<m->∃ o,ops[i]? = some o:=fun i hi=>⟨_,Array.getElem?_eq_getElem (by omega)⟩
 have hdst:∀ {i o},ops[i]? = some o->cg ops i=o.dst:=fun {i o} ho=>by unfold cg; rw[ho]; rfl
 have heff:∀ {i o},ops[i]? = some o->dx ops i=dP o:=fun {i o} ho=>by unfold dx; rw[ho]
 have hlt:∀ {i j},fp ops i j=true->j<i:=fun {i j} hb=>np gP (fJ i j hb)
 have hsel:∀ j,j<m->∀ o,ops[j]? = some o->mw cx call f lo ops m fl j o (σ j) (σ (j+1)) (xs j):=fun j hj o ho=>by
  have:=(htr j o (hget hj ho)).1
  rwa [Nat.zero_add] at this
 have fstep:∀ j,j<m->∀ o,ops[j]? = some o->∀ t,look (σ (j+1)).fr t=if o.dst=some t then xs j else look (σ j).fr t:=fun j hj o ho t=>(hsel j hj o ho).look t
 have fkeep:∀ t i j,i<=j->j<=m->(∀ q,i<=q->q<j->cg ops q≠some t)->look (σ j).fr t=look (σ i).fr t:=by
  intro t i j hij
  induction j with
  | zero =>
   intro _ _; obtain rfl:i=0:=by omega
   rfl
  | succ j ih =>
   intro hjm hq
   by_cases e:i=j+1
   ·subst e; rfl
   ·obtain ⟨o,ho⟩:=hop j (by omega)
    rw[fstep j (by omega) o ho,if_neg (by rw[<-hdst ho]; exact hq j (by omega) (by omega))]
    exact ih (by omega) (by omega) (fun q h1 h2=>hq q h1 (by omega))
 have hstep:∀ j,j<m->∀ o,ops[j]? = some o->(dx ops j=false∨(cX j fl).isSome=true->(σ (j+1)).H=(σ j).H)/\(σ j).H.length<=(σ (j+1)).H.length/\∀ b,b<(σ j).H.length->(dx ops j=true->cX j fl=none->∀ c,blk? (dv cx (σ j) o.op)=some c->b≠c)->(σ (j+1)).H[b]? = (σ j).H[b]?:=fun j hj o ho=>by
  have h:=(hsel j hj o ho).heap
  rw[heff ho]
  exact h
 have hlenm:∀ i j,i<=j->j<=m->(σ i).H.length<=(σ j).H.length:=by
  intro i j hij
  induction j with
  | zero =>
   intro _; obtain rfl:i=0:=by omega
   exact Nat.le_refl _
  | succ j ih =>
   intro hjm
   by_cases e:i=j+1
   ·subst e; exact Nat.le_refl _
   ·obtain ⟨o,ho⟩:=hop j (by omega)
    exact Nat.le_trans (ih (by omega) (by omega)) (hstep j (by omega) o ho).2.1
 have hsame:∀ i j,i<=j->j<=m->(∀ q,i<=q->q<j->dx ops q=false∨(cX q fl).isSome=true)->(σ j).H=(σ i).H:=by
  intro i j hij
  induction j with
  | zero =>
   intro _ _; obtain rfl:i=0:=by omega
   rfl
  | succ j ih =>
   intro hjm hq
   by_cases e:i=j+1
   ·subst e; rfl
   ·obtain ⟨o,ho⟩:=hop j (by omega)
    rw[(hstep j (by omega) o ho).1 (hq j (by omega) (by omega))]
    exact ih (by omega) (by omega) (fun q h1 h2=>hq q h1 (by omega))
 have hblk:∀ i j,i<=j->j<=m->∀ b,b<(σ i).H.length->(∀ q o,i<=q->q<j->ops[q]? = some o->dx ops q=true->cX q fl=none->∀ c,blk? (dv cx (σ q) o.op)=some c->b≠c)->(σ j).H[b]? = (σ i).H[b]?:=by
  intro i j hij
  induction j with
  | zero =>
   intro _ b _ _; obtain rfl:i=0:=by omega
   rfl
  | succ j ih =>
   intro hjm b hb hq
   by_cases e:i=j+1
   ·subst e; rfl
   ·obtain ⟨o,ho⟩:=hop j (by omega)
    rw[(hstep j (by omega) o ho).2.2 b (Nat.lt_of_lt_of_le hb (hlenm i j (by omega) (by omega))) (fun he hn=>hq j o (by omega) (by omega) ho he hn)]
    exact ih (by omega) (by omega) b hb (fun q o h1 h2=>hq q o h1 (by omega))
 have hnf:∀ {q},dx ops q=true->¬ (cX q fl=none)->(cX q fl).isSome=true:=fun _ h=>by cases hh:cX _ fl with | none=>exact absurd hh h | some _=>rfl
 let zm:(Nat->Prop)->Nat->Bool:=fun D b=>decide (∃ i,cX i fl=some (.ptr b 0)/\¬ D i)
 have zmT:∀ (D:Nat->Prop) (b:Nat),zm D b=true↔∃ i,cX i fl=some (.ptr b 0)/\¬ D i:=fun D b=>by simp only[zm,decide_eq_true_eq]
 have zmF:∀ (D:Nat->Prop) (b:Nat),zm D b=false↔∀ i,cX i fl=some (.ptr b 0)->D i:=fun D b=>by
  rw[Bool.eq_false_iff,ne_eq,zmT,not_exists]
  exact forall_congr' fun i=>⟨fun h1 h2=>Classical.byContradiction fun h3=>h1 ⟨h2,h3⟩,fun h1 h2=>h2.2 (h1 h2.1)⟩
 have zmlow:∀ (D:Nat->Prop) (b:Nat),b<s.H.length->zm D b=false:=fun D b hb=>(zmF D b).2 fun i hi=>by
  obtain ⟨_,_,_,b',_,_,_,q,q2,_⟩:=hfl.at_ i _ hi
  cases q; omega
 have zmhi:∀ (D:Nat->Prop) (b:Nat),H1.length<=b->zm D b=false:=fun D b hb=>(zmF D b).2 fun i hi=>by
  obtain ⟨_,_,_,b',_,_,_,q,_,q2,_⟩:=hfl.at_ i _ hi
  cases q
  have:=(List.getElem?_eq_some_iff.1 q2).1
  omega
 have hlen1:∀ j,j<=m->H1.length<=(σ j).H.length:=fun j hj=>by
  have:=hlenm 0 j (by omega) hj
  rw[hσH] at this; exact this
 refine sx (F:=F) ⟨hF.1,hF.2.1⟩ hmx N m hg.siz gP chkt (fun D a' W=>∃ (p:Nat) (g':Gh),p<=m/\(∀ i,i<m->dx ops i=true->cX i fl=none->(D i↔i<p))/\(∀ i b,cX i fl=some (.ptr b 0)->¬ D i->(σ p).H[b]? = H1[b]?)/\Rel (bR (zm D) (σ p).H) g' w0 W/\Ext s.H g w (bR (zm D) (σ p).H) g' W/\(∀ b,b<lo->b<s.H.length->(σ p).H[b]? = s.H[b]?)/\g'.S=g.S ∧
   (∀ t i,i<m->cg ops i=some t->D i->VR (bR (zm D) (σ p).H) g' W (xs i) (slot a' t))/\(∀ t,(∀ i,i<m->cg ops i=some t->¬ D i)->VR (bR (zm D) (σ p).H) g' W (look s.fr t) (slot a' t))) ?_ ?_ ?_
 ·intro D hD
  have hr:=hg.sr.rel
  obtain ⟨g',r1,r2,r3⟩:=Rel.CG (H1.length - s.H.length) (hr.eE (Below.refl _ _).drew)
  have r2:=(Ext.below hr (Below.refl _ _).drew).trans r2
  have hH0:bR (zm D) (σ 0).H=s.H++List.replicate (H1.length - s.H.length) .hole:=by
   rw[hσH]
   refine List.ext_getElem? fun b=>?_
   by_cases hb:b<s.H.length
   ·rw[eV (zmlow D b hb),List.getElem?_append_left hb]; exact hfl.low b hb
   ·by_cases hb1:b<H1.length
    ·obtain ⟨i,hi⟩:=hfl.all b (by omega) hb1
     rw[rZ ((zmT D b).2 ⟨i,hi,hD i⟩) (List.getElem?_eq_getElem hb1),List.getElem?_append_right (by omega),List.getElem?_replicate,if_pos (by omega)]
    ·have hl1:=hfl.len
     rw[List.getElem?_eq_none (by rw[dk]; exact Nat.le_of_not_lt hb1),List.getElem?_eq_none (by simp; omega)]
  refine⟨0,g',Nat.zero_le _,fun i _ _ _=>⟨fun h=>absurd h (hD i),fun h=>by omega⟩,fun i b _ _=>by rw[hσH],by rw[hH0]; exact r1,by rw[hH0]; exact r2,fun b _ hb=>by rw[hσH]; exact hfl.low b hb,r3,fun t i _ _ h=>absurd h (hD i),fun t _=>?_⟩
  rw[hH0]
  exact VR.ext r2 _ _ (hg.sr.fr t)
 ·rintro D D' i o him ho hDm hDi hbef hcl hD' a' W ⟨p,g',hpm,hpe,hpb,hrW,heW,hlow,hgS,hv1,hv2⟩ hsz _
  obtain ⟨c4,c5⟩:=mf gP ho
  obtain ⟨_,htA,htB⟩:=htr i o (hget him ho)
  rw[Nat.zero_add] at htA htB
  have hDlt:∀ {q},dx ops q=true->cX q fl=none->D q->q<p:=fun he hn h=>(hpe _ (hDm _ h) he hn).1 h
  have hlook:∀ t∈o.looksAt ops,VR (bR (zm D) (σ p).H) g' W (look (σ i).fr t) (a'.tmps.getD t undef):=fun t ht=>by
   by_cases hj:∃ j,cg ops j=some t/\fp ops i j=true
   ·obtain ⟨j,hjt,hjb⟩:=hj
    have hji:=hlt hjb
    have hv:=hv1 t j (by omega) hjt (hbef j hjb)
    obtain ⟨oj,hoj⟩:=hop j (by omega)
    have e1:look (σ (j+1)).fr t=xs j:=by rw[fstep j (by omega) oj hoj,if_pos (by rw[<-hdst hoj]; exact hjt)]
    rw[fkeep t (j+1) i (by omega) (by omega) (fun q h1 h2 hq=>by
     obtain ⟨oq,hoq⟩:=hop q (by omega)
     obtain ⟨c4',_⟩:=mf gP hoq
     exact c4' j t (by omega) (by rw[<-hdst hoq]; exact hq) hjt),e1]
    exact hv
   ·have hno:∀ j,cg ops j=some t->fp ops i j=false:=fun j hjt=>by
     cases hb:fp ops i j with
     | false=>rfl
     | true=>exact absurd ⟨j,hjt,hb⟩ hj
    have hs:=hv2 t (fun j hjm hjt hDj=>by
     rcases c5 j t hjt ht with rfl | h | h
     ·exact hDi hDj
     ·rw[hno j hjt] at h; cases h
     ·exact hDi (hcl j i hDj h))
    rw[fkeep t 0 i (by omega) (by omega) (fun q h1 h2 hq=>by
     rcases c5 q t hq ht with h | h | h
     ·omega
     ·rw[hno q hq] at h; cases h
     ·have:=hlt h; omega),hσf]
    exact hs
  have hopr:sQ cx ⟨(σ i).fr,bR (zm D) (σ p).H⟩ g' w0 o.op a'.eval W:=⟨hrW,fun y hy=>ox (fun t ht=>by
    refine hlook t ?_
    subst ht
    unfold Oper.looksAt
    exact List.mem_append.2 (.inl (List.mem_filterMap.2 ⟨.tmp t,hy,rfl⟩))) (fun G vs hG=>(hg.sr.gl G vs hG).ext heW),fun _=>rfl⟩
  have zsame:cX i fl=none->zm D'=zm D:=fun hn=>funext fun b=>by
   have:(zm D' b=true)↔(zm D b=true):=by
    rw[zmT,zmT]
    constructor
    ·rintro ⟨j,h1,h2⟩; exact⟨j,h1,fun h=>h2 ((hD' j).2 (.inr h))⟩
    ·rintro ⟨j,h1,h2⟩
     refine⟨j,h1,fun h=>?_⟩
     rcases (hD' j).1 h with rfl | h
     ·rw[hn] at h1; cases h1
     ·exact h2 h
   exact Bool.eq_iff_iff.2 this
  have fin:∀ (p':Nat) (g2:Gh) (W':World) (v:Value),p'<=m->(∀ j,j<m->dx ops j=true->cX j fl=none->(D' j↔j<p'))->(∀ j b,cX j fl=some (.ptr b 0)->¬ D' j->(σ p').H[b]? = H1[b]?)->Rel (bR (zm D') (σ p').H) g2 w0 W'->Ext (bR (zm D) (σ p).H) g' W (bR (zm D') (σ p').H) g2 W'->(∀ b,b<lo->b<s.H.length->(σ p').H[b]? = s.H[b]?)->g2.S=g.S->(∀ d,o.dst=some d->VR (bR (zm D') (σ p').H) g2 W' (xs i) v) ->
    ∃ (p:Nat) (g':Gh),p<=m/\(∀ i,i<m->dx ops i=true->cX i fl=none->(D' i↔i<p))/\(∀ i b,cX i fl=some (.ptr b 0)->¬ D' i->(σ p).H[b]? = H1[b]?)/\Rel (bR (zm D') (σ p).H) g' w0 W'/\Ext s.H g w (bR (zm D') (σ p).H) g' W'/\(∀ b,b<lo->b<s.H.length->(σ p).H[b]? = s.H[b]?)/\g'.S=g.S ∧
     (∀ t j,j<m->cg ops j=some t->D' j->VR (bR (zm D') (σ p).H) g' W' (xs j) (slot (a'.put o.dst v) t))/\(∀ t,(∀ j,j<m->cg ops j=some t->¬ D' j)->VR (bR (zm D') (σ p).H) g' W' (look s.fr t) (slot (a'.put o.dst v) t)):=by
   intro p' g2 W' v h1 h2 h2b h3 h4 h5 h6 h7
   refine⟨p',g2,h1,h2,h2b,h3,heW.trans h4,h5,h6,fun t j hjm hjt hDj=>?_,fun t ht=>?_⟩
   ·rcases (hD' j).1 hDj with rfl | hDj
    ·have hdt:o.dst=some t:=by rw[<-hdst ho]; exact hjt
     rw[hdt,fi (by rw[hsz]; exact hd o (by rw[<-Array.mem_def]; exact Array.mem_of_getElem? ho) t hdt)]
     exact h7 t hdt
    ·have hne:j≠i:=fun e=>hDi (e ▸ hDj)
     rw[dL (fun hdt=>c4 j t (Ne.symm hne) hdt hjt)]
     exact VR.ext h4 _ _ (hv1 t j hjm hjt hDj)
   ·rw[dL (fun hdt=>ht i him (by rw[hdst ho]; exact hdt) ((hD' i).2 (.inl rfl)))]
    exact VR.ext h4 _ _ (hv2 t (fun j hjm hjt hDj=>ht j hjm hjt ((hD' j).2 (.inr hDj))))
  have rowM:∀ b,fN (bR (zm D) (σ p).H) b=fN (σ p).H b:=fun b=>by
   cases hzb:zm D b with
   | false=>unfold fN; rw[eV hzb]
   | true =>
    obtain ⟨j,hj,hDj⟩:=(zmT D b).1 hzb
    obtain ⟨_,_,_,b',cs',_,_,q3,_,q5,_⟩:=hfl.at_ j _ hj
    cases q3
    have hB:=(hpb j b hj hDj).trans q5
    unfold fN
    rw[rZ hzb hB,hB]
  have hwant:(Region.wanted o (yielded ops a'.tmps)=false/\cX i fl=none/\(dP o=false∨(σ (i+1)).H=(σ i).H)/\xs i=.v undef)∨(Region.wanted o (yielded ops a'.tmps)=true/\kF cx call f lo ops m fl i o (σ i) (σ (i+1)) (xs i)):=by
   have htl:∀ {t want},bT ops o=some (t,want)->t∈o.looksAt ops:=fun {t want} hgs=>by
    rw[je] at hgs
    unfold Oper.looksAt
    split at hgs
    ·rename_i j want' hgd
     cases hdj:(ops[j]?).bind (·.dst) with
     | none=>rw[hdj] at hgs; cases hgs
     | some t' =>
      rw[hdj] at hgs
      cases hgs
      refine List.mem_append.2 (.inr ?_)
      rw[hgd]
      simp[hdj]
    ·cases hgs
   rcases hsel i him o ho with ⟨hgd,hse⟩ | ⟨t,want,hgs,hni,he,hk,hs1,hor⟩ | ⟨t,want,b,hgs,hni,hlb,hor⟩
   ·exact .inr ⟨by simp[Region.wanted,hgd],hse⟩
   ·have hv:=hlook t (htl hgs)
    rcases hor with ⟨b,hlb,hcond⟩ | ⟨⟨y,hlb⟩,hcond⟩
    ·rw[hlb,VR] at hv
     rw[jM hgs hv]
     split at hcond
     ·rename_i hbw
      exact .inr ⟨hbw,.inr (.inr ⟨hni,he,hcond,hs1,.inr (.inl hk)⟩)⟩
     ·rename_i hbw
      exact .inl ⟨by simpa using hbw,hni,.inl he,hcond⟩
    ·rw[hlb,VR] at hv
     rw[lW hgs hv]
     exact .inl ⟨rfl,hni,.inl he,hcond⟩
   ·have hv:=hlook t (htl hgs)
    rw[hlb,VR] at hv
    rw[jM hgs hv]
    rcases hor with ⟨hbw,hE⟩ | ⟨hbw,hx,hal⟩
    ·exact .inr ⟨hbw,hE⟩
    ·exact .inl ⟨hbw,hni,.inr (by rw[hal.1,fW]),hx⟩
  rcases hwant with ⟨hw,hni,he,hxu⟩ | ⟨hw,hse⟩
  ·rw[if_neg (by rw[hw]; simp)]
   cases hee:dP o with
   | false =>
    refine fin p g' W undef hpm (fun j hjm hje hjn=>⟨fun h'=>?_,fun h'=>(hD' j).2 (.inr ((hpe j hjm hje hjn).2 h'))⟩) (fun j b hj hnj=>hpb j b hj (fun h=>hnj ((hD' j).2 (.inr h)))) (by rw[zsame hni]; exact hrW) (by rw[zsame hni]; exact Ext.refl hrW) hlow hgS (fun d _=>by rw[hxu,VR])
    rcases (hD' j).1 h' with rfl | h'
    ·rw[heff ho,hee] at hje; cases hje
    ·exact hDlt hje hjn h'
   | true =>
    have hei:dx ops i=true:=by rw[heff ho]; exact hee
    have hpi:p<=i:=Nat.le_of_not_lt fun hlt'=>hDi ((hpe i him hei hni).2 hlt')
    have hHp:(σ i).H=(σ p).H:=hsame p i hpi (by omega) (fun q h2 h3=>by
     cases hq:dx ops q with
     | false=>exact .inl rfl
     | true =>
      by_cases hnq:cX q fl=none
      ·have:=hDlt hq hnq (hbef q (hch q i him h3 hq hei hnq hni)); omega
      ·exact .inr (hnf hq hnq))
    have hH2:(σ (i+1)).H=(σ p).H:=by
     rcases he with he | he
     ·rw[hee] at he; cases he
     ·rw[he,hHp]
    refine fin (i+1) g' W undef (by omega) (fun j hjm hje hjn=>⟨fun h'=>?_,fun h'=>?_⟩) (fun j b hj hnj=>by rw[hH2]; exact hpb j b hj (fun h=>hnj ((hD' j).2 (.inr h)))) (by rw[hH2,zsame hni]; exact hrW) (by rw[hH2,zsame hni]; exact Ext.refl hrW) (fun b hb hb'=>by rw[hH2]; exact hlow b hb hb') hgS (fun d _=>by rw[hxu,VR])
    ·rcases (hD' j).1 h' with rfl | h'
     ·omega
     ·have:=hDlt hje hjn h'; omega
    ·refine(hD' j).2 ?_
     by_cases e:j=i
     ·exact .inl e
     ·exact .inr (hbef j (hch j i him (by omega) hje hei hjn hni))
  rw[if_pos hw]
  refine .inl ?_
  rcases hse with ⟨hfi,hs1⟩ | ⟨hni,he,H',h1,hs1⟩ | ⟨hni,he,h1,hs1,hkind⟩
  ·
   obtain ⟨_,o',t,b,cs,q1,q2,q3,q4,q5,q6⟩:=hfl.at_ i _ hfi
   rw[ho] at q1; cases q1
   have hxi:xs i=.ptr b 0:=q3
   have hfb:cX i fl=some (.ptr b 0):=by rw[<-hxi]; exact hfi
   have hHb:(σ p).H[b]? = some (.box cs):=(hpb i b hfb hDi).trans q5
   have hhole:(bR (zm D) (σ p).H)[b]? = some .hole:=rZ ((zmT D b).2 ⟨i,hfb,hDi⟩) hHb
   have hmk:bR (zm D') (σ p).H=(bR (zm D) (σ p).H).set b (.box cs):=yM hHb ((zmF D' b).2 fun j hj=>(hD' j).2 (.inl (hfl.inj j i b hj hfb))) fun c hc=>by
    have:(zm D' c=true)↔(zm D c=true):=by
     rw[zmT,zmT]
     constructor
     ·rintro ⟨j,h1,h2⟩; exact⟨j,h1,fun h=>h2 ((hD' j).2 (.inr h))⟩
     ·rintro ⟨j,h1,h2⟩
      refine⟨j,h1,fun h=>?_⟩
      rcases (hD' j).1 h with rfl | h
      ·rw[hfb] at h1; cases h1; exact hc rfl
      ·exact h2 h
    exact Bool.eq_iff_iff.2 this
   obtain ⟨d,W',g2,r1,r2,r3,r4,r5⟩:=ya (P:=cx.P) hrW hhole q6
   have r1':(execOp a'.eval o).run cx.P W=.ok (.value d) W':=by
    unfold execOp
    simp only[q2]
    exact hX r1
   refine jO (.inl r1') ?_
   refine fin p g2 W' d hpm (fun j hjm hje hjn=>⟨fun h'=>?_,fun h'=>(hD' j).2 (.inr ((hpe j hjm hje hjn).2 h'))⟩) (fun j b' hj hnj=>hpb j b' hj (fun h=>hnj ((hD' j).2 (.inr h)))) (by rw[hmk]; exact r2) (by rw[hmk]; exact r3) hlow (r5.trans hgS) (fun _ _=>by rw[hmk,hxi]; exact r4)
   rcases (hD' j).1 h' with rfl | h'
   ·rw[hfb] at hjn; cases hjn
   ·exact hDlt hje hjn h'
  ·
   have hei:dx ops i=true:=by rw[heff ho]; exact he
   have hpi:p<=i:=Nat.le_of_not_lt fun hlt'=>hDi ((hpe i him hei hni).2 hlt')
   have hHp:(σ i).H=(σ p).H:=hsame p i hpi (by omega) (fun q h2 h3=>by
    cases hq:dx ops q with
    | false=>exact .inl rfl
    | true =>
     by_cases hnq:cX q fl=none
     ·have:=hDlt hq hnq (hbef q (hch q i him h3 hq hei hnq hni)); omega
     ·exact .inr (hnf hq hnq))
   have hst:(⟨(σ i).fr,(σ p).H⟩:St)=σ i:=by rw[<-hHp]
   have hzl:zm D (σ p).H.length=false:=zmhi D _ (hlen1 p hpm)
   have hbl:∀ y∈o.op.operands.toList,∀ b,blk? (bW cx ⟨(σ i).fr,(σ p).H⟩ y)=some b->zm D b=false:=fun y hy b hb=>zr (hopr.one y hy) (by rw[<-hb]; cases y<;>rfl)
   have h1m:bF cx f lo o ⟨(σ i).fr,bR (zm D) (σ p).H⟩ (fun a H=>some (a,H))=some (xs i,bR (zm D) H'):=by
    rw[Cn he hzl rowM hbl,hst,h1]; rfl
   obtain ⟨c,w',x,H2,g2,e1,e2,e3,e4,e5,e6,e7,e8⟩:=jW hopr h1m
   cases e2
   refine jO e1 ?_
   have hH1:(σ (i+1)).H=H':=by rw[hs1.1,fW]
   have hz':=zsame hni
   have htch:=pQ he h1
   refine fin (i+1) g2 w' c (by omega) (fun j hjm hje hjn=>⟨fun h'=>?_,fun h'=>?_⟩) (fun j b hj hnj=>?_) (by rw[hH1,hz']; exact e3) (by rw[hH1,hz']; exact e4) (fun b hb hb'=>?_) (e8.trans hgS) (fun d _=>by rw[hH1,hz']; first | exact e5 | exact e6 | exact e7)
   ·rcases (hD' j).1 h' with rfl | h'
    ·omega
    ·have:=hDlt hje hjn h'; omega
   ·refine(hD' j).2 ?_
    by_cases e:j=i
    ·exact .inl e
    ·exact .inr (hbef j (hch j i him (by omega) hje hei hjn hni))
   ·have hDj:¬ D j:=fun h=>hnj ((hD' j).2 (.inr h))
    obtain ⟨_,_,_,b',cs',_,_,q3,q4,q5,_⟩:=hfl.at_ j _ hj
    cases q3
    have hbH:b<(σ i).H.length:=Nat.lt_of_lt_of_le (List.getElem?_eq_some_iff.1 q5).1 (hlen1 i (by omega))
    rw[hH1,htch.2 b hbH (fun c hc e=>?_),hHp]
    ·exact hpb j b hj hDj
    ·subst e
     have hzb:zm D b=true:=(zmT D b).2 ⟨j,hj,hDj⟩
     have hza:zm D b=false:=by
      obtain ⟨y,hy,hty⟩:∃ y∈o.op.operands.toList,dv cx (σ i) o.op=bW cx (σ i) y:=by
       have hcs:blk? (dv cx (σ i) o.op)=some b:=hc
       unfold dv at hcs ⊢
       split at hcs
       ·rename_i t ad v hx; exact⟨ad,by rw[hx]; simp[Op.operands],rfl⟩
       ·rename_i c' hx
        split at hcs
        ·rename_i y l hl
         refine⟨y,?_,rfl⟩
         rw[hx]
         have:y∈c'.args.toList:=by rw[hl]; simp
         simp[Op.operands,Call.operands]
         exact .inr (by simpa using this)
        ·cases hcs
       ·cases hcs
      refine hbl y hy b ?_
      rw[hst,<-hty]; exact hc
     rw[hzb] at hza; cases hza
   ·have hb2:b<(σ i).H.length:=Nat.lt_of_lt_of_le hb' (by have:=hlenm 0 i (by omega) (by omega); rw[hσH] at this; exact Nat.le_trans hfl.len this)
    have h3:=(by first | exact e7 b hb (by rw[dk,<-hHp]; exact hb2) | exact e6 b hb (by rw[dk,<-hHp]; exact hb2):(bR (zm D) H')[b]? = (bR (zm D) (σ p).H)[b]?)
    rw[eV (zmlow D b hb'),eV (zmlow D b hb')] at h3
    rw[hH1,h3]
    exact hlow b hb hb'
  ·
   have hun:∀ q,q<m->dx ops q=true->cX q fl=none->((i<q/\q<p)∨(p<=q/\q<i))->fw ops i q:=fun q hqm hqe hqn hq=>by
    unfold fw
    rw[Bool.or_eq_false_iff]
    constructor
    ·cases hb:fp ops i q with
     | false=>rfl
     | true =>
      have h2:=hDlt hqe hqn (hbef q hb)
      have h3:=hlt hb
      omega
    ·cases hb:fp ops q i with
     | false=>rfl
     | true =>
      have h2:=hlt hb
      have h3:D q:=(hpe q hqm hqe hqn).2 (by omega)
      exact absurd (hcl q i h3 hb) hDi
   have hvo:∀ {y:Operand},y∈o.op.operands.toList->∀ {b:Nat},blk? (bW cx (σ i) y)=some b->zm D b=false/\∃ B,(σ p).H[b]? = some B:=fun {y} hy {b} hb=>by
    have hvr:=hopr.one y hy
    rw[show bW cx ⟨(σ i).fr,bR (zm D) (σ p).H⟩ y=bW cx (σ i) y from by cases y<;>rfl] at hvr
    have hz:=zr hvr hb
    obtain ⟨B,hB,_⟩:=tC hvr hb
    rw[eV hz] at hB
    exact⟨hz,B,hB⟩
   have haddr:bG o=1->∀ {b:Nat},blk? (addrOf cx (σ i) o.op)=some b->∃ y∈o.op.operands.toList,addrOf cx (σ i) o.op=bW cx (σ i) y:=fun h2 {b} hbs=>by
    unfold bG at h2
    split at h2<;>first | (cases h2; done) | skip
    ·rename_i t x hx; exact⟨x,by rw[hx]; simp[Op.operands],by unfold addrOf; rw[hx]⟩
    ·rename_i t x q hx; exact⟨x,by rw[hx]; simp[Op.operands],by unfold addrOf; rw[hx]⟩
    ·rename_i t x q hx; exact⟨x,by rw[hx]; simp[Op.operands],by unfold addrOf; rw[hx]⟩
    ·rename_i t x q1 q2 q3 hx; exact⟨x,by rw[hx]; simp[Op.operands],by unfold addrOf; rw[hx]⟩
    ·rename_i x hx; exact⟨x,by rw[hx]; simp[Op.operands],by unfold addrOf; rw[hx]⟩
    ·rename_i t1 t2 x hx; exact⟨x,by rw[hx]; simp[Op.operands],by unfold addrOf; rw[hx]⟩
    ·rename_i t x q c hx; exact⟨x,by rw[hx]; simp[Op.operands],by unfold addrOf; rw[hx]⟩
    ·rename_i c hx
     unfold addrOf at hbs ⊢
     rw[hx] at hbs ⊢
     simp only[] at hbs ⊢
     cases hargs:c.args.toList with
     | nil=>rw[hargs] at hbs; cases hbs
     | cons y l =>
      refine⟨y,?_,rfl⟩
      have:y∈c.args.toList:=by rw[hargs]; simp
      simp[Op.operands,Call.operands]
      exact .inr (by simpa using this)
   have hev:gv cx call f o ⟨(σ i).fr,(σ p).H⟩=some (xs i):=by
    have hsi:(⟨(σ i).fr,(σ i).H⟩:St)=σ i:=rfl
    rw[<-hsi] at h1
    have allSame:(∀ q,q<m->dx ops q=true->cX q fl=none->((i<q/\q<p)∨(p<=q/\q<i))->False)->(σ p).H=(σ i).H:=fun hno=>by
     rcases Nat.le_total i p with hip | hip
     ·exact hsame i p hip hpm (fun q h2 h3=>by
       cases hq:dx ops q with
       | false=>exact .inl rfl
       | true =>
        by_cases hnq:cX q fl=none
        ·by_cases e:q=i
         ·subst e; rw[heff ho,he] at hq; cases hq
         ·exact(hno q (by omega) hq hnq (.inl ⟨by omega,h3⟩)).elim
        ·exact .inr (hnf hq hnq))
     ·exact(hsame p i hip (by omega) (fun q h2 h3=>by
       cases hq:dx ops q with
       | false=>exact .inl rfl
       | true =>
        by_cases hnq:cX q fl=none
        ·exact(hno q (by omega) hq hnq (.inr ⟨h2,h3⟩)).elim
        ·exact .inr (hnf hq hnq))).symm
    cases hord:ji fl ops m i with
    | true =>
     rw[allSame (fun q hqm hqe hqn hq=>by
      have hu:=hun q hqm hqe hqn hq
      unfold fw at hu
      rw[Bool.or_eq_false_iff] at hu
      rcases vI hord hqm hqe hqn with h2 | h2 | h2
      ·omega
      ·rw[hu.1] at h2; cases h2
      ·rw[hu.2] at h2; cases h2)]
     exact h1
    | false =>
     rcases hkind with h2 | h2 | h2 | ⟨h2,h3⟩ | ⟨h2,h3⟩
     ·rw[hord] at h2; cases h2.1
     ·rw[ry h2 (H':=(σ i).H)]; exact h1
     ·rw[<-vh h2 (H:=(σ i).H) (fun b hb=>?_)]
      ·exact h1
      ·have hbV:∃ B,(σ p).H[b]? = some B:=by
        obtain ⟨y,hy,hay⟩:=haddr h2 hb
        exact(hvo hy (by rw[<-hay]; exact hb)).2
       obtain ⟨B,hB⟩:=hbV
       have hbp:b<(σ p).H.length:=(List.getElem?_eq_some_iff.1 hB).1
       have hap:∀ {e:A} {c:Nat},apart (addrOf cx (σ i) o.op) e=true->blk? e=some c->b≠c:=fun {e c} h4 h5 h6=>by
        have hb':blk? (addrOf cx (σ i) o.op)=some b:=hb
        unfold apart at h4
        simp only[hb',h5,h6,Nat.beq_refl] at h4
        cases h4
       rcases Nat.le_total i p with hip | hip
       ·
        have hbi:b<(σ i).H.length∨(σ i).H.length<=b:=Nat.lt_or_ge _ _
        rcases hbi with hbi | hbi
        ·exact hblk i p hip hpm b hbi (fun q oq h4 h5 hoq hqe hqn c hc=>by
          by_cases e:q=i
          ·subst e; rw[heff ho,he] at hqe; cases hqe
          ·have hu:=hun q (by omega) hqe hqn (.inl ⟨by omega,h5⟩)
           have hqA:=(htr q oq (hget (by omega) hoq)).2.1 (by rw[Nat.zero_add]; exact hqn) (by rw[<-heff hoq]; exact hqe)
           simp only[Nat.zero_add] at hqA
           exact hap (hqA.2 i o (by omega) (hget him ho) he h2 hord (by unfold fw at hu ⊢; rw[Bool.or_comm]; exact hu)) hc)
        ·exfalso
         obtain ⟨B',hB'⟩:=tS (s:=σ i) h2 h1 hb
         have:=(List.getElem?_eq_some_iff.1 hB').1
         omega
       ·exact(hblk p i hip (by omega) b hbp (fun q oq h4 h5 hoq hqe hqn c hc=>by
         have hu:=hun q (by omega) hqe hqn (.inr ⟨h4,h5⟩)
         exact hap ((htB he h2 hord).2 q oq h5 (hget (by omega) hoq) (by rw[Nat.zero_add]; exact hqn) (by rw[<-heff hoq]; exact hqe) (by rw[Nat.zero_add]; exact hu)) hc)).symm
     ·have hrow:∀ i j,i<=j->j<=m->(∀ q,i<=q->q<j->dx ops q=true->cX q fl=none->uS ops q=true)->∀ b,fN (σ j).H b=fN (σ i).H b:=by
       intro i j hij
       induction j with
       | zero =>
        intro _ _ b; obtain rfl:i=0:=by omega
        rfl
       | succ j ih =>
        intro hjm hq b
        by_cases e:i=j+1
        ·subst e; rfl
        ·obtain ⟨oj,hoj⟩:=hop j (by omega)
         have hprev:=ih (by omega) (by omega) (fun q h1 h2=>hq q h1 (by omega)) b
         have stE:kF cx call f lo ops m fl j oj (σ j) (σ (j+1)) (xs j)->fN (σ (j+1)).H b=fN (σ i).H b:=fun hE=>by
          rcases hE with ⟨_,ej⟩ | ⟨hnj,hej,H',hj1,ej⟩ | ⟨_,_,_,ej,_⟩
          ·rw[ej.1,fW]
           exact hprev
          ·have hc:=hq j (by omega) (by omega) (by rw[heff hoj]; exact hej) hnj
           unfold uS at hc
           rw[hoj] at hc
           rw[ej.1,fW]
           exact(AM hc hj1 b).trans hprev
          ·rw[ej.1,fW]
           exact hprev
         rcases hsel j (by omega) oj hoj with ⟨_,hE⟩ | ⟨_,_,_,_,_,_,ej,_⟩ | ⟨_,_,_,_,_,_,a4⟩
         ·exact stE hE
         ·rw[ej.1,fW]
          exact hprev
         ·rcases a4 with ⟨_,hE⟩ | ⟨_,_,ej⟩
          ·exact stE hE
          ·rw[ej.1,fW]
           exact hprev
      have hcalm:∀ q,q<m->dx ops q=true->cX q fl=none->((i<q/\q<p)∨(p<=q/\q<i))->uS ops q=true:=fun q hqm hqe hqn hq=>by
       have hu:=hun q hqm hqe hqn hq
       unfold fw at hu
       rw[Bool.or_eq_false_iff] at hu
       have:=List.all_eq_true.1 h3 q (List.mem_range.2 hqm)
       simp only[hqe,hu.1,hu.2,Bool.or_eq_true,Bool.not_eq_true',beq_iff_eq,Bool.false_eq_true,or_false,false_or,reduceCtorEq,Bool.not_true] at this
       rcases this with h | h
       ·exact h
       ·omega
      rw[rv h2 (H':=(σ i).H) (fun b=>?_)]
      ·exact h1
      ·rcases Nat.le_total i p with hip | hip
       ·exact hrow i p hip hpm (fun q h4 h5 hqe hqn=>by
         by_cases e:q=i
         ·subst e; rw[heff ho,he] at hqe; cases hqe
         ·exact hcalm q (by omega) hqe hqn (.inl ⟨by omega,h5⟩)) b
       ·exact(hrow p i hip (by omega) (fun q h4 h5 hqe hqn=>hcalm q (by omega) hqe hqn (.inr ⟨h4,h5⟩)) b).symm
     ·rw[<-wJ h2 (H:=(σ i).H) h3]; exact h1
   have hevm:gv cx call f o ⟨(σ i).fr,bR (zm D) (σ p).H⟩=some (xs i):=by
    have loc:om cx o=true->gv cx call f o ⟨(σ i).fr,bR (zm D) (σ p).H⟩=gv cx call f o ⟨(σ i).fr,(σ p).H⟩:=fun hl=>by
     unfold om at hl
     simp only[Bool.or_eq_true,Bool.and_eq_true] at hl
     rcases hl with ((hl | hl) | hl) | ⟨hl,hq⟩
     ·exact ry (beq_spec hl)
     ·refine(vh (beq_spec hl) fun b hb=>?_).symm
      have hb':blk? (addrOf cx (σ i) o.op)=some b:=hb
      obtain ⟨y,hy,hay⟩:=haddr (beq_spec hl) hb'
      exact eV (hvo hy (by rw[<-hay]; exact hb')).1
     ·exact rv (.inl (beq_spec hl)) rowM
     ·exact rv (.inr ⟨beq_spec hl,hq⟩) rowM
    have lk:∀ k,bG o=k->(k=0∨k=1∨k=2)->om cx o=true:=fun k hk h=>by
     unfold om
     rcases h with rfl | rfl | rfl<;>rw[hk]<;>rfl
    rcases hkind with ⟨_,(h2 | h2) | h2⟩ | h2 | h2 | ⟨h2 | ⟨h2,h3⟩,_⟩ | ⟨h2,_⟩
    ·rw[loc h2]; exact hev
    ·rw[rY fun b=>(zmF D b).2 fun j hj=>hbef j (rB h2 j _ hj)]; exact hev
    ·rw[Cr (H':=(σ p).H) h2 rowM]; exact hev
    ·rw[loc (lk 0 h2 (.inl rfl))]; exact hev
    ·rw[loc (lk 1 h2 (.inr (.inl rfl)))]; exact hev
    ·rw[loc (lk 2 h2 (.inr (.inr rfl)))]; exact hev
    ·rw[loc (by unfold om; rw[h2,h3]; rfl)]; exact hev
    ·rw[loc (lk 2 h2 (.inr (.inr rfl)))]; exact hev
   have hpo:=mP hcall horc hevm
   refine(hpo F n g' w0 W a'.eval hF hopr (fun G vs hG=>(hg.sr.gl G vs hG).ext heW) (hcall.up _ _ _ _ _ _ hb0 (hg.ext.trans heW))).mono ?_
   rintro v w' ⟨k1,k2,k3⟩
   refine fin p g' w' v hpm (fun j hjm hje hjn=>⟨fun h'=>?_,fun h'=>(hD' j).2 (.inr ((hpe j hjm hje hjn).2 h'))⟩) (fun j b hj hnj=>hpb j b hj (fun h=>hnj ((hD' j).2 (.inr h)))) (by rw[zsame hni]; exact k2) (by rw[zsame hni]; exact k3) hlow hgS (fun d _=>by rw[zsame hni]; exact k1)
   rcases (hD' j).1 h' with rfl | h'
   ·rw[heff ho,he] at hje; cases hje
   ·exact hDlt hje hjn h'
 ·rintro D a' W hall hDm ⟨p,g',hpm,hpe,hpb,hrW,heW,hlow,hgS,hv1,hv2⟩ hdf hsz
  have hmn:bR (zm D) (σ p).H=(σ p).H:=rY fun b=>(zmF D b).2 fun j hj=>hall j (hfl.at_ j _ hj).1
  rw[hmn] at hrW heW hv1 hv2
  have hHm:(σ m).H=(σ p).H:=hsame p m hpm (Nat.le_refl _) (fun q h2 h3=>by
   cases hq:dx ops q with
   | false=>exact .inl rfl
   | true =>
    by_cases hnq:cX q fl=none
    ·have:=(hpe q h3 hq hnq).1 (hall q h3); omega
    ·exact .inr (hnf hq hnq))
  refine fB (f:=f) (ops:=ops) hcall hb0 horc hF hk hp _ (σ m) g' a' W (fun o ho=>hd o (List.mem_of_mem_drop ho)) ⟨⟨by rw[hHm]; exact hrW,fun t=>?_,fun G vs hG=>by rw[hHm]; exact(hg.sr.gl G vs hG).ext heW⟩,by rw[hHm]; exact hg.ext.trans heW,?_,fun b hb hb'=>?_,hsz,(by rw[hdf]; exact hg.dfr.lZ heW.kept),Nat.le_trans hg.mbw heW.size,hgS.trans hg.st⟩ hz
  ·rw[hHm]
   by_cases ht:∃ i,i<m/\cg ops i=some t
   ·obtain ⟨i,him,hit⟩:=ht
    obtain ⟨oi,hoi⟩:=hop i him
    have e1:look (σ (i+1)).fr t=xs i:=by rw[fstep i him oi hoi,if_pos (by rw[<-hdst hoi]; exact hit)]
    rw[fkeep t (i+1) m (by omega) (Nat.le_refl _) (fun q h1 h2 hq=>by
     obtain ⟨oq,hoq⟩:=hop q h2
     obtain ⟨c4',_⟩:=mf gP hoq
     exact c4' i t (by omega) (by rw[<-hdst hoq]; exact hq) hit),e1]
    exact hv1 t i him hit (hall i him)
   ·rw[fkeep t 0 m (by omega) (Nat.le_refl _) (fun q h1 h2 hq=>ht ⟨q,h2,hq⟩),hσf]
    exact hv2 t (fun i him hit=>absurd ⟨i,him,hit⟩ ht)
  ·have:=hlenm 0 m (by omega) (Nat.le_refl _)
   rw[hσH] at this
   exact Nat.le_trans hg.len (Nat.le_trans hfl.len this)
  ·rw[hHm,hlow b hb (Nat.lt_of_lt_of_le hb' hg.len)]
   exact hg.low b hb hb'
end
end Go.Proofs.Ytdmgdjnadbakfaa
