/-
 Records of ranges over functions: they are made, they turn, they end.
-/
import Derived.Test.YtdmgdjnadbakfaaEvRgC
namespace Go.Proofs.Ytdmgdjnadbakfaa
open Go.RowKit
variable {H H':Heap} {g g':Gh} {w0 w w':World} {cx:Cx} {s:St} {a:Act} {N lo:Nat} {mb:Mb} {H0:Heap} {gs:Gh} {ws:World}
theorem Rel.rng (hr:Rel H g w0 w) {b l:Nat} {st:RSt} {r0:Loop} (hB:H[b]? = some (.rng st)) (B':Blk) (ko:Option Nat) (o':Obj) (hk:g.mu b=some l) (hw:w.heap[l]? = some (.loop r0))
  (hcase:(∃ st',B'=.rng st'/\ko=some l/\o'=.loop (recOf (g.lr b) st'))∨(B'=.dead/\ko=none)) :
  Rel (H.set b B') (g.put b ko (g.ga b)) w0 (w.putObj l o')/\Ext H g w (H.set b B') (g.put b ko (g.ga b)) (w.putObj l o'):=by
 have hlt:b<H.length:=(List.getElem?_eq_some_iff.1 hB).1
 have hll:l<w.heap.size:=(hr.dom b l hk).2.2
 have hoth:∀ j,j≠l->(w.putObj l o').heap[j]? = w.heap[j]?:=fun j hj=>World.putObj_heap_other hj
 have hsz:(w.putObj l o').heap.size=w.heap.size:=by simp
 have hkol:∀ k,ko=some k->k=l:=fun k hk'=>by
  rcases hcase with ⟨_,_,h,_⟩ | ⟨_,h⟩<;>rw[h] at hk'<;>cases hk'; rfl
 have he:Ext H g w (H.set b B') (g.put b ko (g.ga b)) (w.putObj l o'):=by
  refine⟨fun k o v hs hc=>?_,fun c C hC=>?_,fun k x h=>(hoth k (fun e=>by subst e; rw[hw] at h; cases h)).trans h,by rw[hsz]; exact Nat.le_refl _,fun k marr cl hs hm=>?_,fun k _ hn=>hoth k (fun e=>hn b (e ▸ hk)),fun c k h=>?_⟩
  rotate_right 1
  ·by_cases e:c=b
   ·subst e; rw[Gh.put_mu] at h; exact .inl ⟨c,(hkol k h) ▸ hk⟩
   ·exact .inl ⟨c,by rwa [Gh.put_mu' _ _ _ e] at h⟩
  ·have hne:k≠l:=fun e=>by
    subst e
    obtain ⟨o1,ho,hc1⟩:=cells_of_cell hc
    rw[hw] at ho; cases ho; cases hc1
   refine⟨(World.cell?_of_block (a:=⟨k,o,none⟩) (hoth k hne)).trans hc,hs.1,fun c hck=>?_⟩
   by_cases e:c=b
   ·subst e; rw[Gh.put_mu] at hck; exact absurd (hkol k hck) hne
   ·rw[Gh.put_mu' _ _ _ e] at hck
    obtain ⟨es,els,h1,h2⟩:=hs.2 c hck
    exact⟨es,els,by rw[List.getElem?_set_ne (Ne.symm e)]; exact h1,h2⟩
  ·by_cases e:c=b
   ·subst e
    rw[hB] at hC; cases hC
    refine⟨B',by rw[List.getElem?_set_self hlt],?_⟩
    rcases hcase with ⟨st',rfl,rfl,_⟩ | ⟨rfl,_⟩
    ·exact⟨by rw[Gh.put_mu,hk],rfl⟩
    ·trivial
   ·refine⟨C,by rw[List.getElem?_set_ne (Ne.symm e)]; exact hC,?_⟩
    have hne:∀ k,g.mu c=some k->k≠l:=fun k hk' e2=>e (hr.inj c b k hk' (e2 ▸ hk))
    cases C with
    | box _=>exact Gh.put_mu' _ _ _ e
    | row wr es' els'=>cases wr with
     | true=>exact⟨rfl,rfl,Gh.put_mu' _ _ _ e⟩
     | false=>exact⟨rfl,⟨[],by rw[Gh.put_ga' _ _ _ e]; simp⟩,(hr.blk c _ hC).len,Nat.le_refl _,fun _=>⟨Gh.put_mu' _ _ _ e,fun k arr ty hk' ha=>⟨arr,(hoth k (hne k hk')).trans ha,Nat.le_refl _⟩⟩⟩
    | rng _=>exact⟨Gh.put_mu' _ _ _ e,rfl⟩
    | mp _ _ _=>exact Gh.put_mu' _ _ _ e
    | dead=>trivial
    | hole=>trivial
  ·have hne:k≠l:=fun e=>by subst e; rw[hw] at hm; cases hm
   refine⟨(hoth k hne).trans hm,hs.1,fun c hck=>?_⟩
   by_cases e:c=b
   ·subst e; rw[Gh.put_mu] at hck; exact absurd (hkol k hck) hne
   ·rw[Gh.put_mu' _ _ _ e] at hck
    obtain ⟨es,els,h1,h2⟩:=hs.2 c hck
    exact⟨es,els,by rw[List.getElem?_set_ne (Ne.symm e)]; exact h1,h2⟩
 refine⟨⟨hr.below.trans ((Below.refl w0.heap.size w).grown (grownBy_putObj' w l _) (hr.below.size) (fun k e=>by cases e; exact(hr.dom b l hk).2.1)),fun c k hck=>?_,fun c d k h1 h2=>?_,hr.outE he,hr.ownE he,fun c C hC=>?_⟩,he⟩
 ·by_cases e:c=b
  ·subst e
   rw[Gh.put_mu] at hck
   rw[hkol k hck]
   exact⟨by simpa using hlt,(hr.dom c l hk).2.1,by rw[hsz]; exact hll⟩
  ·rw[Gh.put_mu' _ _ _ e] at hck
   have:=hr.dom c k hck
   exact⟨by simpa using this.1,this.2.1,by rw[hsz]; exact this.2.2⟩
 ·by_cases e:c=b
  ·by_cases e':d=b
   ·rw[e,e']
   ·subst e
    rw[Gh.put_mu] at h1
    rw[Gh.put_mu' _ _ _ e'] at h2
    rw[hkol k h1] at h2
    exact hr.inj _ _ l hk h2
  ·by_cases e':d=b
   ·subst e'
    rw[Gh.put_mu] at h2
    rw[Gh.put_mu' _ _ _ e] at h1
    rw[hkol k h2] at h1
    exact hr.inj _ _ l h1 hk
   ·rw[Gh.put_mu' _ _ _ e] at h1
    rw[Gh.put_mu' _ _ _ e'] at h2
    exact hr.inj c d k h1 h2
 ·by_cases e:c=b
  ·subst e
   rw[List.getElem?_set_self hlt] at hC; cases hC
   rcases hcase with ⟨st',rfl,rfl,rfl⟩ | ⟨rfl,rfl⟩
   ·exact⟨l,Gh.put_mu _ _ _ _,World.putObj_heap_same hll⟩
   ·exact Gh.put_mu _ _ _ _
  ·rw[List.getElem?_set_ne (Ne.symm e)] at hC
   have h:=hr.blk c C hC
   have hne:∀ k,g.mu c=some k->k≠l:=fun k hk' e2=>e (hr.inj c b k hk' (e2 ▸ hk))
   cases C with
   | box cs=>obtain ⟨k,arr,ty,h1,h2,h3⟩:=h; exact⟨k,arr,ty,(Gh.put_mu' _ _ _ e).trans h1,(hoth k (hne k h1)).trans h2,VRs.ext he _ _ h3⟩
   | row wr es' els'=>cases wr with
    | true =>
     obtain ⟨ds,h1,h2,h3⟩:=h
     exact⟨ds,VRss.ext he _ _ h1,h2,fun hp=>let ⟨k,arr,ty,e1,e2,e3⟩:=h3 hp; ⟨k,arr,ty,(Gh.put_mu' _ _ _ e).trans e1,(hoth k (hne k e1)).trans e2,e3⟩⟩
    | false =>
     obtain ⟨h1,h2⟩:=h
     refine⟨?_,?_⟩
     ·rw[Gh.put_ga' _ _ _ e]; exact VRss.ext he _ _ h1
     ·rw[Gh.put_ga' _ _ _ e]; exact h2
   | rng st=>obtain ⟨k,h1,h2⟩:=h; exact⟨k,(Gh.put_mu' _ _ _ e).trans h1,(hoth k (hne k h1)).trans h2⟩
   | mp _ _ _=>obtain ⟨k,arr,cl,h1,h2,h3,h4⟩:=h; exact⟨k,arr,cl,(Gh.put_mu' _ _ _ e).trans h1,(hoth k (hne k h1)).trans h2,h3,VRs.ext he _ _ h4⟩
   | dead=>exact(Gh.put_mu' _ _ _ e).trans h
   | hole=>exact(Gh.put_mu' _ _ _ e).trans h
def Gh.lrp (g:Gh) (b:Nat) (r:Loop):Gh:={ g with lr:=fun c=>if c=b then r else g.lr c }
theorem Rel.lrp (hr:Rel H g w0 w) (r:Loop):Rel H (g.lrp H.length r) w0 w/\Ext H g w H (g.lrp H.length r) w:=by
 have hlr:∀ {c:Nat} {B:Blk},H[c]? = some B->(g.lrp H.length r).lr c=g.lr c:=fun {c B} h=>by
  have:=(List.getElem?_eq_some_iff.1 h).1
  simp only[Gh.lrp]; rw[if_neg (by omega)]
 have he:Ext H g w H (g.lrp H.length r) w:=by
  refine⟨fun k o v hs hc=>⟨hc,hs⟩,fun b B hB=>⟨B,hB,?_⟩,fun _ _ h=>h,Nat.le_refl _,fun k arr cl hs hm=>⟨hm,hs⟩,fun _ _ _=>rfl,fun b k h=>.inl ⟨b,h⟩⟩
  cases B with
  | box _=>rfl
  | row wr es els=>cases wr with
   | true=>exact⟨rfl,rfl,rfl⟩
   | false=>exact⟨rfl,⟨[],by simp[Gh.lrp]⟩,(hr.blk b _ hB).len,Nat.le_refl _,fun _=>⟨rfl,fun k arr ty _ ha=>⟨arr,ha,Nat.le_refl _⟩⟩⟩
  | rng _=>exact⟨rfl,hlr hB⟩
  | mp _ _ _=>rfl
  | dead=>trivial
  | hole=>trivial
 refine⟨⟨hr.below,hr.dom,hr.inj,hr.out,hr.own,fun b B hB=>?_⟩,he⟩
 have h:=hr.blk b B hB
 cases B with
 | box cs=>obtain ⟨k,arr,ty,h1,h2,h3⟩:=h; exact⟨k,arr,ty,h1,h2,VRs.ext he _ _ h3⟩
 | row wr es els=>cases wr with
  | true=>obtain ⟨ds,h1,h2,h3⟩:=h; exact⟨ds,VRss.ext he _ _ h1,h2,h3⟩
  | false=>exact⟨VRss.ext he _ _ h.1,h.2⟩
 | rng st=>obtain ⟨k,h1,h2⟩:=h; exact⟨k,h1,by rw[hlr hB]; exact h2⟩
 | mp _ _ _=>obtain ⟨k,arr,cl,h1,h2,h3,h4⟩:=h; exact⟨k,arr,cl,h1,h2,h3,VRs.ext he _ _ h4⟩
 | dead=>exact h
 | hole=>exact h
theorem Rel.begin (hr:Rel H g w0 w) (r:Loop) (hr0:recOf r .ready=r) :
  Rel (H++[.rng .ready]) ((g.lrp H.length r).put H.length (some (w.heap.size+1)) []) w0 ((w.alloc (.deferred (some []))).alloc (.loop r)) ∧
  Ext H g w (H++[.rng .ready]) ((g.lrp H.length r).put H.length (some (w.heap.size+1)) []) ((w.alloc (.deferred (some []))).alloc (.loop r)):=by
 have hb1:Below w.heap.size w (w.alloc (.deferred (some []))):=(Below.refl _ w).alloc (Nat.le_refl _) _
 have r1:=hr.of_below hb1
 have e1:=Ext.below hr hb1
 obtain ⟨r2,e2⟩:=r1.lrp r
 have hs:(w.alloc (.deferred (some []))).heap.size=w.heap.size+1:=by simp
 have hb2:Below (w.alloc (.deferred (some []))).heap.size (w.alloc (.deferred (some []))) ((w.alloc (.deferred (some []))).alloc (.loop r)):=(Below.refl _ _).alloc (Nat.le_refl _) _
 obtain ⟨r3,e3⟩:=r2.push hb2 (.rng .ready) (some (w.heap.size+1)) [] (fun k hk=>by cases hk; exact⟨hs.symm,by simp⟩) (fun _=>⟨w.heap.size+1,Gh.put_mu _ _ _ _,by
  have:=World.alloc_heap_new (w.alloc (.deferred (some []))) (.loop r)
  rw[hs] at this
  rw[this]
  have:((g.lrp H.length r).put H.length (some (w.heap.size+1)) []).lr H.length=r:=by simp[Gh.put,Gh.lrp]
  rw[this,hr0]⟩)
 exact⟨r3,e1.trans (e2.trans e3)⟩
def ER (s:St) (g:Gh) (w:World):E->Exit->Prop
 | .normal,.normal=>True
 | .exit i,.exit j=>i=j
 | .goto i,.goto j=>i=j
 | .ret,.ret=>True
 | .pan x,.panic ch=>∃ c,ch=[{ v:=c,recovered:=false }]/\VR s.H g w x c
 | _,_=>False
def CodeSound (cx:Cx) (lo N:Nat) (Bs:Heap->Gh->World->Prop) (F1:St->(E->St->Option R)->Option R) (c:Code):Prop :=
 ∀ (F:Fence) (n:Nat) (mb:Mb) (w0:World) (r:R) (H0:Heap) (gs:Gh) (ws:World) (k:E->St->Option R) (Q:Exit->Act->World->Prop) (s:St) (g:Gh) (a:Act) (w:World),WideA F->Bs H0 gs ws->Good cx N mb lo H0 gs ws w0 s g a w->F1 s k=some r ->
  (∀ e e' s' g' a' w',Good cx N mb lo H0 gs ws w0 s' g' a' w'->ER s' g' w' e e'->k e s'=some r->Q e' a' w')->c.wpIn F n cx.P Q a w
theorem allLt_spec {N:Nat}:∀ {ps:List Nat},allLt N ps=true->∀ p∈ps,p<N
 | [],_,p,hp=>by cases hp
 | q :: ps,h,p,hp=>by
  unfold allLt at h
  obtain ⟨h1,h2⟩:=csomeB h
  rcases List.mem_cons.1 hp with rfl | hp
  ·simpa [Nat.blt_eq] using h1
  ·exact allLt_spec h2 p hp
theorem puts_VR:∀ (ps:List Nat) (as:List A) (cs:List Value) (fr:List (Nat×A)) (ts:Array Value),(∀ t,VR H g w (look fr t) (ts.getD t undef))->VRs H g w as cs->as.length=ps.length->(∀ p∈ps,p<ts.size) ->
  (∀ t,VR H g w (look (putsL ps as fr) t) (((ps.zip cs).foldl (fun ts p=>ts.setIfInBounds p.1 p.2) ts).getD t undef))/\((ps.zip cs).foldl (fun ts p=>ts.setIfInBounds p.1 p.2) ts).size=ts.size
 | [],as,cs,fr,ts,h,_,hl,_=>by
  have:as=[]:=List.eq_nil_of_length_eq_zero hl
  subst this
  exact⟨h,rfl⟩
 | p :: ps,[],cs,fr,ts,h,_,hl,_=>by cases hl
 | p :: ps,x :: as,cs,fr,ts,h,hv,hl,hlt=>by
  rw[VRs] at hv
  obtain ⟨d,ds,rfl,h1,h2⟩:=hv
  have hp:=hlt p (by simp)
  have:=puts_VR ps as ds ((p,x) :: fr) (ts.setIfInBounds p d) (fun t=>by
   rw[look_put]
   by_cases e:p=t
   ·subst e
    rw[if_pos rfl,Array.getD_eq_getD_getElem?,Array.getElem?_setIfInBounds_self_of_lt hp]
    exact h1
   ·rw[if_neg e,Array.getD_eq_getD_getElem?,Array.getElem?_setIfInBounds_ne e,<-Array.getD_eq_getD_getElem?]
    exact h t) h2 (by simpa using hl) (fun q hq=>by simpa using hlt q (by simp[hq]))
  exact⟨this.1,by simpa using this.2⟩
theorem rdy_spec {β:Type} {H:Heap} {b:Nat} {x:Option β} {r:β} (h:rdy H b x=some r):H[b]? = some (.rng .ready)/\x=some r:=by
 unfold rdy at h
 split at h
 ·rename_i e; exact⟨e,h⟩
 ·cases h
theorem bsy_spec {β:Type} {H:Heap} {b:Nat} {x:Option β} {r:β} (h:bsy H b x=some r):H[b]? = some (.rng .busy)/\x=some r:=by
 unfold bsy at h
 split at h
 ·rename_i e; exact⟨e,h⟩
 ·cases h
theorem Ext.rngs (he:Ext H g w H' g' w') {b:Nat} {st st':RSt} (h:H[b]? = some (.rng st)) (h':H'[b]? = some (.rng st')):g'.mu b=g.mu b/\g'.lr b=g.lr b:=by
 obtain ⟨B',hB',ht⟩:=he.blk b _ h
 rw[h'] at hB'
 cases hB'
 exact ht
theorem round_sound {Bs:Heap->Gh->World->Prop} {F1 F2:St->(E->St->Option R)->Option R} {ps:Array Nat} {asg body:Code} (h1:CodeSound cx lo N Bs F1 asg) (h2:CodeSound cx lo N Bs F2 body) {b lo' l:Nat} {fr:List (Nat×A)} {args:List A} {cargs:List Value} {r:R} {rec0:Loop}
  (hps:allLt N ps.toList=true) (hlob:lo<=b) (e1:rec0.params=ps) (e2:rec0.assign=asg) (e3:rec0.body=body) (hsz:rec0.tmps.size=N)
  (h:roundOf F1 F2 lo b ps.toList fr args H lo'=some r) {F:Fence} {n:Nat} (hF:WideA F) (hr:Rel H g w0 w) (hbs:Bs H g w) (hgl:∀ (G:Nat) (vs:List Value),cx.glob G=some vs->CellsAt H g w G 0 vs)
  (hfr:∀ t,VR H g w (look fr t) (rec0.tmps.getD t undef)) (hlr:g.lr b=rec0) (hv:VRs H g w args cargs) (hmu:g.mu b=some l):YieldAt F n cx.P l cargs.toArray w (CallPost H g w0 w lo' r):=by
 unfold roundOf at h
 obtain ⟨hc,h⟩:=csome h
 rw[Bool.and_eq_true] at hc
 have hlo:lo'<=lo:=by simpa [Nat.ble_eq] using hc.2
 have hlen:args.length=ps.toList.length:=by simpa using hc.1
 obtain ⟨hB,h⟩:=rdy_spec h
 have hrecAt:∀ {H2:Heap} {g2:Gh} {w2:World} {st:RSt},Rel H2 g2 w0 w2->Ext H g w H2 g2 w2->H2[b]? = some (.rng st)->g2.mu b=some l/\g2.lr b=rec0/\w2.heap[l]? = some (.loop (recOf rec0 st)):=fun {H2 g2 w2 st} hr2 he2 hB2=>by
  obtain ⟨m1,m2⟩:=he2.rngs hB hB2
  obtain ⟨k,k1,k2⟩:=hr2.blk b _ hB2
  rw[m1,hmu] at k1; cases k1
  rw[m2,hlr] at k2
  exact⟨m1.trans hmu,m2.trans hlr,k2⟩
 obtain ⟨_,_,hw⟩:=hrecAt hr (Ext.refl hr) hB
 have hcl:=hv.length
 have hy:=run_yield (P:=cx.P) (args:=cargs.toArray) hw (by show cargs.toArray.size=rec0.params.size; rw[e1]; simp at hlen ⊢; omega)
 refine⟨_,_,_,_,hy,roundIn_of_wpIn (hF.2.1 _) ?_⟩
 show rec0.assign.wpIn _ _ _ _ _ _
 rw[e2]
 have hfold:(((recOf rec0 .ready).params.zip cargs.toArray).foldl (fun tmps (t,a)=>tmps.setIfInBounds t a) (recOf rec0 .ready).tmps)=(ps.toList.zip cargs).foldl (fun ts p=>ts.setIfInBounds p.1 p.2) rec0.tmps:=by
  show ((rec0.params.zip cargs.toArray).foldl _ rec0.tmps)=_
  rw[e1,<-Array.foldl_toList,Array.toList_zip]
 have hp:=puts_VR ps.toList args cargs fr rec0.tmps hfr hv hlen (fun p hp=>by rw[hsz]; exact allLt_spec hps p hp)
 refine h1 (F.inRound l) n ⟨w.heap.size,[],false⟩ w0 r H g w _ _ ⟨putsL ps.toList args fr,H⟩ g _ w hF hbs ⟨⟨hr,fun t=>by
  show VR H g w _ (Array.getD (((recOf rec0 .ready).params.zip cargs.toArray).foldl (fun tmps (t,a)=>tmps.setIfInBounds t a) (recOf rec0 .ready).tmps) t undef)
  rw[hfold]; exact hp.1 t,hgl⟩,Ext.refl hr,Nat.le_refl _,fun _ _ _=>rfl,by
  show Array.size (((recOf rec0 .ready).params.zip cargs.toArray).foldl (fun tmps (t,a)=>tmps.setIfInBounds t a) (recOf rec0 .ready).tmps)=N
  rw[hfold,hp.2,hsz],MarksB.start _ _ _ _,Nat.le_refl _,rfl⟩ h ?_
 intro e e' s2 g2 a2 w2 hg2 he h
 cases e with
 | exit i=>cases h
 | goto i=>cases h
 | ret=>cases h
 | pan x=>cases h
 | normal =>
  cases e' with
  | normal =>
   obtain ⟨hB2,h⟩:=rdy_spec h
   obtain ⟨m2,l2,hw2⟩:=hrecAt hg2.sr.rel hg2.ext hB2
   have hbr:=run_beginRound (P:=cx.P) hw2 rfl
   obtain ⟨q1,q2⟩:=hg2.sr.rel.rng hB2 (.rng .busy) (some l) (.loop (recOf rec0 .busy)) m2 hw2 (.inl ⟨.busy,rfl,rfl,by rw[l2]⟩)
   refine⟨_,hbr,?_⟩
   have hg3:=hg2.step (dst:=none) (x:=.any) (c:=undef) q1 q2 (by simp) (lo_set s2.H _ hlob) rfl (by rw[VR]; trivial) (fun d hd=>by cases hd)
   show rec0.body.wpIn _ _ _ _ _ _
   rw[e3]
   refine h2 (F.inRound l) n ⟨w.heap.size,[],false⟩ w0 r H g w _ _ ⟨s2.fr,s2.H.set b (.rng .busy)⟩ _ a2 _ hF hbs hg3 h ?_
   intro e e' s3 g3 a3 w3 hg he h
   have fin:∀ (st:RSt) (jump:Option Code) (v:Bool),s3.H[b]? = some (.rng .busy)->jump.isNone=v->recOf rec0 st={ recOf rec0 .busy with state:=if jump.isNone then .ready else .done,pending:=jump }->r=(.ret (.v (.bool v)),s3.H.set b (.rng st)) ->
     ∃ x W,(Instr.endRound l jump).run cx.P w3=.ok x W/\CallPost H g w0 w lo' r (.returned x) W:=fun st jump v hB3 hjv hst hrr=>by
    obtain ⟨m3,l3,hw3⟩:=hrecAt hg.sr.rel hg.ext hB3
    have her:=run_endRound (P:=cx.P) jump hw3
    obtain ⟨p1,p2⟩:=hg.sr.rel.rng hB3 (.rng st) (some l) (.loop (recOf rec0 st)) m3 hw3 (.inl ⟨st,rfl,rfl,by rw[l3]⟩)
    subst hrr
    rw[<-hst] at her
    refine⟨_,_,her,_,p1,hg.ext.trans p2,by simpa using hg.len,fun c hc hc'=>?_,hg.st,?_⟩
    ·show (s3.H.set b (.rng st))[c]? = _
     rw[List.getElem?_set_ne (by omega)]
     exact hg.low c (by omega) hc'
    ·show VR _ _ _ (.v (.bool v)) (.bool jump.isNone)
     rw[VR,hjv]
   cases e with
   | normal=>cases e'<;>first
     | (obtain ⟨hB3,h⟩:=bsy_spec h; exact fin .ready none true hB3 rfl rfl (by cases h; rfl))
     | exact he.elim
   | exit i=>cases e'<;>first
     | (obtain rfl:i=_:=he; obtain ⟨hB3,h⟩:=bsy_spec h; exact fin (.done (.exit i)) (some (.exit i)) false hB3 rfl rfl (by cases h; rfl))
     | exact he.elim
   | goto i=>cases e'<;>first
     | (obtain rfl:i=_:=he; obtain ⟨hB3,h⟩:=bsy_spec h; exact fin (.done (.goto i)) (some (.goto i)) false hB3 rfl rfl (by cases h; rfl))
     | exact he.elim
   | ret=>cases e'<;>first
     | (obtain ⟨hB3,h⟩:=bsy_spec h; exact fin (.done .ret) (some .ret) false hB3 rfl rfl (by cases h; rfl))
     | exact he.elim
   | pan x=>cases h
  | _=>exact he.elim
end Go.Proofs.Ytdmgdjnadbakfaa
