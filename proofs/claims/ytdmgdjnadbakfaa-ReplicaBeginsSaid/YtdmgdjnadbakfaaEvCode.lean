/-
 Calls, regions, code: as the model's.
-/
import Derived.Test.YtdmgdjnadbakfaaEvLit
namespace Go.Proofs.Ytdmgdjnadbakfaa
open Go.RowKit
variable {H H':Heap} {g g':Gh} {w0 w w':World} {cx:Cx} {s:St} {a:Act} {F:Fence} {n:Nat}
def CallPost (H:Heap) (g:Gh) (w0 w:World) (lo:Nat) (r:R) (e:Ending) (w':World):Prop:=∃ g',Rel r.2 g' w0 w'/\Ext H g w r.2 g' w'/\H.length<=r.2.length/\(∀ b,b<lo->b<H.length->r.2[b]? = H[b]?)/\g'.S=g.S ∧
  match r.1,e with
  | .ret x,.returned c=>VR r.2 g' w' x c
  | .pan x,.panicked ch=>∃ c,ch=[{ v:=c,recovered:=false }]/\VR r.2 g' w' x c
  | _,_=>False
structure YlSound (cx:Cx) (Bs:Heap->Gh->World->Prop) (call:CallT):Prop where
 up:∀ (H:Heap) (g:Gh) (w:World) (H':Heap) (g':Gh) (w':World),Bs H g w->Ext H g w H' g' w'->Bs H' g' w'
 yl:∀ (b:Nat) (args:List A) (H:Heap) (lo:Nat) (r:R),call (cx.P.funcs.size+b) args H lo=some r->∀ (F:Fence) (n l:Nat) (g:Gh) (w0 w:World) (cargs:List Value),WideA F->Bs H g w->Rel H g w0 w ->
  (∀ (G:Nat) (vs:List Value),cx.glob G=some vs->CellsAt H g w G 0 vs)->VRs H g w args cargs->g.mu b=some l->YieldAt F n cx.P l cargs.toArray w (CallPost H g w0 w lo r)
structure CallSound (cx:Cx) (Bs:Heap->Gh->World->Prop) (call:CallT):Prop extends YlSound cx Bs call where
 fn:∀ (k:Nat) (args:List A) (H:Heap) (lo:Nat) (r:R),k<cx.P.funcs.size->call k args H lo=some r->∀ (F:Fence) (n:Nat) (g:Gh) (w0 w:World) (cargs:List Value),WideA F->F.round=none->Bs H g w->Rel H g w0 w ->
  (∀ (G:Nat) (vs:List Value),cx.glob G=some vs->CellsAt H g w G 0 vs)->VRs H g w args cargs->CallsIn F n cx.P k cargs.toArray w (CallPost H g w0 w lo r)
 ct:∀ (k:Nat) (args:List A) (H:Heap) (lo:Nat) (r:R),k<cx.P.funcs.size->cx.cut k≠0->cx.cut k<=H.length->call k args H lo=some r->r.2.length=H.length/\∀ b,cx.cut k<=b->r.2[b]? = H[b]?
theorem callable_lt {P:Program} {k:Nat} (hk:callable P k=true):k<P.funcs.size:=by
 unfold callable at hk
 cases hf:P.funcs[k]? with
 | none=>rw[hf] at hk; cases hk
 | some fn=>exact(Array.getElem?_eq_some_iff.1 hf).1
def OrcOK (cx:Cx):Prop:=∀ k args r,(cx.isOrc k=true∨cx.isOrcV k=true∨cx.deep k=true)->cx.C k args=some r->CallOK cx.P cx.glob k args r
theorem callK {ev:Operand->Value} {c:Call} {gop:Operand} (hc:c.callee=.value gop) {k:Nat} {ds es:Array Value} (hv:ev gop=.func (.func k) ds es) (hk:callable cx.P k=true) (ty:TypeId) (w:World) :
  (do let d <-resolve ev c ty; invoke d.target d.args:Sem Next).run cx.P w=.ok (.enter k (ds++c.args.map ev++es)) w:=by
 unfold callable at hk
 cases hf:cx.P.funcs[k]? with
 | none=>rw[hf] at hk; cases hk
 | some fn =>
  rw[hf] at hk
  simp only[Bool.and_eq_true,Bool.not_eq_true'] at hk
  have h1:¬ fn.body=none:=by intro hb; rw[hb] at hk; simp at hk
  have h2:¬ fn.name = "runtime.NumGoroutine" := by simpa using hk.2
  simp[resolve,hc,hv,Deferred.ofValue,invoke,callFunc,program,Sem.run,hf,h1,h2]
theorem callee_spec {ev:Operand->Value} {o:Oper} {k:Nat} {args:List A} (hs:OpR cx s g w0 o.op ev w) (h:callee? cx s o.op=some (k,args)):callable cx.P k=true ∧
  ∃ cargs:List Value,(execOp ev o).run cx.P w=.ok (.enter k cargs.toArray) w/\VRs s.H g w args cargs:=by
 unfold callee? at h
 split at h
 ·rename_i c ho
  rw[ho] at hs
  split at h
  ·rename_i gop hgop
   split at h
   ·rename_i k' first cap hf
    obtain ⟨hcb,h⟩:=csome h
    cases h
    have hgv:=hs.one gop (by simp[Op.operands,Call.operands,hgop])
    rw[hf,VR] at hgv
    obtain ⟨ds,es,hev,h1,h2⟩:=hgv
    refine⟨hcb,ds.toList++(c.args.toList.map ev)++es.toList,?_,(h1.append (hs.many _ (fun x hx=>by simp[Op.operands,Call.operands,hgop]; exact .inr (by simpa using hx)))).append h2⟩
    have:=callK (cx:=cx) hgop hev hcb o.type w
    unfold execOp
    rw[ho]
    refine this.trans ?_
    congr 2
    apply Array.ext'
    simp
   ·cases h
  ·cases h
 ·cases h
theorem yld_spec {ev:Operand->Value} {o:Oper} {b:Nat} {args:List A} (hs:OpR cx s g w0 o.op ev w) (h:yldOf? cx s o.op=some (b,args)) (hb:isRng s.H b=true) :
  ∃ (l:Nat) (cargs:List Value),(execOp ev o).run cx.P w=(Instr.yield l cargs.toArray).run cx.P w/\VRs s.H g w args cargs/\g.mu b=some l:=by
 have hblk:∃ st,s.H[b]? = some (.rng st):=by
  unfold isRng at hb
  split at hb
  ·rename_i st h; exact⟨st,h⟩
  ·cases hb
 obtain ⟨st,hst⟩:=hblk
 unfold yldOf? at h
 split at h
 ·rename_i c ho
  rw[ho] at hs
  split at h
  ·rename_i gop hgop
   split at h
   ·rename_i b' hf
    cases h
    have hgv:=hs.one gop (by simp[Op.operands,Call.operands,hgop])
    rw[hf,VR,hst] at hgv
    obtain ⟨l,hl,hev⟩:=hgv
    refine⟨l,c.args.toList.map ev,?_,hs.many _ (fun x hx=>by simp[Op.operands,Call.operands,hgop]; exact .inr (by simpa using hx)),hl⟩
    unfold execOp
    rw[ho]
    have ea:(c.args.toList.map ev).toArray=c.args.map ev:=by apply Array.ext'; simp
    rw[ea]
    simp[resolve,hgop,hev,Deferred.ofValue,invoke]
   ·cases h
  ·cases h
 ·cases h
theorem Marks.keptBy {B:Nat} {W W':World} {ds:List Deferred} (h:Marks B W ds) (hk:∀ (k:Nat) (x:Option (List Deferred)),W.heap[k]? = some (.deferred x)->W'.heap[k]? = some (.deferred x)):Marks B W' ds:=by
 obtain ⟨rs,e,h2,h3⟩:=h
 exact⟨rs,e,h2,fun r hr=>⟨(h3 r hr).1,hk r _ (h3 r hr).2⟩⟩
structure Mb where
 B:Nat
 base:List Deferred
 free:Bool
def MarksB (mb:Mb) (W:World) (ds:List Deferred):Prop:=∃ ms,ds=ms++mb.base/\Marks mb.B W ms/\(mb.free=false->ms=[])
theorem MarksB.keptBy {mb:Mb} {W W':World} {ds:List Deferred} (h:MarksB mb W ds) (hk:∀ (k:Nat) (x:Option (List Deferred)),W.heap[k]? = some (.deferred x)->W'.heap[k]? = some (.deferred x)):MarksB mb W' ds :=
 let ⟨ms,e,h1,h2⟩:=h; ⟨ms,e,h1.keptBy hk,h2⟩
theorem MarksB.start (B:Nat) (W:World) (ds:List Deferred) (fr:Bool):MarksB ⟨B,ds,fr⟩ W ds:=⟨[],rfl,Marks.nil _ _,fun _=>rfl⟩
structure Good (cx:Cx) (N:Nat) (mb:Mb) (lo:Nat) (H0:Heap) (gs:Gh) (ws w0:World) (s:St) (g:Gh) (a:Act) (w:World):Prop where
 sr:SR cx s g w0 a w
 ext:Ext H0 gs ws s.H g w
 len:H0.length<=s.H.length
 low:∀ b,b<lo->b<H0.length->s.H[b]? = H0[b]?
 siz:a.tmps.size=N
 dfr:MarksB mb w a.defers
 mbw:mb.B<=w.heap.size
 st:g.S=gs.S
variable {N lo:Nat} {mb:Mb} {H0:Heap} {gs:Gh} {ws:World} {Bs:Heap->Gh->World->Prop}
theorem Act.put_size (a:Act) (d:Option Nat) (v:Value):(a.put d v).tmps.size=a.tmps.size:=by cases d<;>simp[Act.put]
theorem Act.put_defers' (a:Act) (d:Option Nat) (v:Value):(a.put d v).defers=a.defers:=by cases d<;>rfl
theorem Good.step (h:Good cx N mb lo H0 gs ws w0 s g a w) {H':Heap} (hr:Rel H' g' w0 w') (he:Ext s.H g w H' g' w') (hl:s.H.length<=H'.length) (hlo:∀ b,b<lo->b<s.H.length->H'[b]? = s.H[b]?) (hst:g'.S=g.S) {dst:Option Nat} {x:A} {c:Value} (hx:VR H' g' w' x c) (hd:∀ d,dst=some d->d<N) :
  Good cx N mb lo H0 gs ws w0 (({ s with H:=H' }:St).put dst x) g' (a.put dst c) w':=by
 have hH:(({ s with H:=H' }:St).put dst x).H=H':=by cases dst<;>rfl
 refine⟨h.sr.step hr he hx (by rw[h.siz]; exact hd),by rw[hH]; exact h.ext.trans he,by rw[hH]; exact Nat.le_trans h.len hl,fun b hb hb'=>?_,by rw[Act.put_size]; exact h.siz,by rw[Act.put_defers']; exact h.dfr.keptBy he.kept,Nat.le_trans h.mbw he.size,hst.trans h.st⟩
 rw[hH,hlo b hb (Nat.lt_of_lt_of_le hb' h.len)]
 exact h.low b hb hb'
theorem Good.same (h:Good cx N mb lo H0 gs ws w0 s g a w) {dst:Option Nat} {x:A} {c:Value} (hx:VR s.H g w x c) (hd:∀ d,dst=some d->d<N):Good cx N mb lo H0 gs ws w0 (s.put dst x) g (a.put dst c) w :=
 h.step (H':=s.H) h.sr.rel (Ext.refl h.sr.rel) (Nat.le_refl _) (fun _ _ _=>rfl) rfl hx hd
theorem Good.lit (h:Good cx N mb lo H0 gs ws w0 s g a w) {t:Nat} {x:A} (hx:look s.fr t=x):Good cx N mb lo H0 gs ws w0 (s.put (some t) x) g a w:=by
 have hlk:∀ u,look (s.put (some t) x).fr u=look s.fr u:=fun u=>by
  show look ((t,x) :: s.fr) u=_
  rw[look_put]; split
  ·rename_i e; rw[<-e,hx]
  ·rfl
 exact⟨⟨h.sr.rel,fun u=>by rw[hlk]; exact h.sr.fr u,h.sr.gl⟩,h.ext,h.len,h.low,h.siz,h.dfr,h.mbw,h.st⟩
theorem bIfN_spec {β:Type} {x:A} {p q:Option β} {r:β} {H:Heap} {g:Gh} {w:World} {c:Value} (h:bIfN x p q=some r) (hv:VR H g w x c):∃ b,c=.bool b/\(if b=true then p else q)=some r:=by
 cases x with
 | nq els =>
  rw[VR] at hv
  obtain ⟨b,rfl,hb⟩:=hv
  refine⟨b,rfl,?_⟩
  simp only[bIfN,bNil] at h
  cases els with
  | nil =>
   simp only[both] at h
   split at h
   ·rename_i e
    cases b
    ·exact h
    ·simp only[if_true]; rw[e]; exact h
   ·cases h
  | cons a l =>
   cases b with
   | false=>exact h
   | true=>cases hb rfl
 | v y =>
  cases y with
  | bool b =>
   rw[VR] at hv
   subst hv
   refine⟨b,rfl,?_⟩
   cases b<;>exact h
  | _=>cases h
 | _=>cases h
theorem bIf_spec {β:Type} {x:A} {p q:Option β} {r:β} (h:bIf x p q=some r):∃ b,x=.v (.bool b)/\(if b then p else q)=some r:=by
 unfold bIf at h
 split at h
 ·rename_i b; exact⟨b,rfl,by cases b<;>exact h⟩
 ·cases h
theorem uponIn_of_value {Q:Exit->Act->World->Prop} {next:Act->World->Prop} {o:Oper} {res:Result Next} {c:Value} {w':World} (h:res=.ok (.value c) w'∨(res=.ok .skip w'/\c=undef)) (hn:next (a.put o.dst c) w'):o.uponIn F n cx.P a next Q res:=by
 rcases h with rfl | ⟨rfl,rfl⟩<;>exact hn
theorem wpIn_of_upon {Q:Exit->Act->World->Prop} {next:Act->World->Prop} {o:Oper} (hF:WideA F) (hnd:∀ c,o.op≠.defer c) (h:o.uponIn F n cx.P a next Q ((execOp a.eval o).run cx.P w)):o.wpIn F n cx.P a w next Q:=by
 refine⟨fun f _=>hF.2.1 f,?_⟩
 rw[Oper.semAt_eq _ _ _ hnd]
 exact h
theorem evOp1_notDefer {β:Type} {f lo:Nat} {o:Oper} {k:A->Heap->Option β} {r:β} (h:evOp1 cx f lo o s k=some r):∀ c,o.op≠.defer c:=fun c hc=>by
 unfold evOp1 at h; rw[hc] at h; cases h
theorem evOp_sound {call:CallT} (hcall:CallSound cx Bs call) (horc:OrcOK cx) (hF:WideA F) {f:Nat} {o:Oper} {k:St->Option R} {pan:A->St->Option R} {r:R} {next:Act->World->Prop} {Q:Exit->Act->World->Prop}
  (hb0:Bs H0 gs ws) (hg:Good cx N mb lo H0 gs ws w0 s g a w) (hd:∀ d,o.dst=some d->d<N) (h:evOp cx call f lo o s k pan=some r)
  (hk:∀ s' g' a' w',Good cx N mb lo H0 gs ws w0 s' g' a' w'->k s'=some r->next a' w')
  (hp:∀ x s' g' w' c,Good cx N mb lo H0 gs ws w0 s' g' a w'->VR s'.H g' w' x c->pan x s'=some r->Q (.panic [{ v:=c,recovered:=false }]) a w'):o.wpIn F n cx.P a w next Q:=by
 have hs:=hg.sr.opr o.op
 have direct:evOp1 cx f lo o s (fun x H=>k ({ s with H:=H }.put o.dst x))=some r->o.wpIn F n cx.P a w next Q:=fun h=>by
  obtain ⟨c,w',x,H',g',e1,e2,e3,e4,e5,e6,e7,e8⟩:=evOp1_sound hs h
  exact wpIn_of_upon hF (evOp1_notDefer h) (uponIn_of_value e1 (hk _ _ _ _ (hg.step e3 e4 e6 e7 e8 e5 hd) e2))
 unfold evOp at h
 split at h
 ·rename_i c x y ho
  obtain ⟨z,h0,h⟩:=bnd h
  obtain ⟨b,hb,h0⟩:=bIf_spec h0
  have hc:=hs.one c (by rw[ho]; simp[Op.operands])
  have hx:=hs.one x (by rw[ho]; simp[Op.operands])
  have hy:=hs.one y (by rw[ho]; simp[Op.operands])
  rw[hb,VR] at hc
  refine wpIn_of_upon hF (by rw[ho]; simp) (uponIn_of_value (c:=if b then a.eval x else a.eval y) (w':=w) (.inl ?_) ?_)
  ·unfold execOp
   rw[ho]
   simp[hc,asBool]
  ·cases b
   ·cases h0; exact hk _ _ _ _ (hg.same hy hd) h
   ·cases h0; exact hk _ _ _ _ (hg.same hx hd) h
 ·rename_i x ho
  have hx:=hs.one x (by rw[ho]; simp[Op.operands])
  unfold panK at h
  split at h
  ·rename_i t y hy
   rw[hy] at hx
   have hx':=hx
   rw[VR] at hx
   obtain ⟨d,hd',_⟩:=hx
   refine wpIn_of_upon hF (by rw[ho]; simp) ?_
   have hrun:(execOp a.eval o).run cx.P w=.halt (.panic (a.eval x)) w:=by
    unfold execOp
    rw[ho]
    show (do pure (.value (<-Instr.panic (a.eval x))):Sem Next).run cx.P w=_
    rw[hd']
    simp[Instr.panic,goPanic,Sem.run,Result.andThen]
   rw[hrun]
   exact hp _ s g w _ hg hx' h
  ·cases h
 ·rename_i t' n' parts ho
  rw[bcond] at h
  split at h
  ·obtain ⟨q,h1,h2⟩:=bnd h
   obtain ⟨d,w',g',e1,e2,e3,e4,e5,e6,e7⟩:=aBuildRow_sound hg.sr.rel lo h1 (hs.partsF parts (by rw[ho]; simp[Op.operands]; exact fun a b h=>⟨a,h⟩))
   refine wpIn_of_upon hF (by rw[ho]; simp) (uponIn_of_value (.inl ?_) (hk _ _ _ _ (hg.step e2 e3 e5 e6 e7 e4 hd) h2))
   unfold execOp
   rw[ho]
   exact vrun e1
  ·exact direct h
 ·rename_i t' n' c' ho
  rw[bcond] at h
  split at h
  ·obtain ⟨q,h1,h2⟩:=bnd h
   obtain ⟨d,w',g',e1,e2,e3,e4,e5,e6,e7⟩:=aMakeSliceK_sound hg.sr.rel lo h1 (hs.one n' (by rw[ho]; simp[Op.operands])) (hs.one c' (by rw[ho]; simp[Op.operands]))
   refine wpIn_of_upon hF (by rw[ho]; simp) (uponIn_of_value (.inl ?_) (hk _ _ _ _ (hg.step e2 e3 e5 e6 e7 e4 hd) h2))
   unfold execOp
   rw[ho]
   exact vrun e1
  ·exact direct h
 ·rename_i t' t'' x ho
  rw[bcond] at h
  split at h
  ·obtain ⟨q,h1,h2⟩:=bnd h
   obtain ⟨d,w',g',e1,e2,e3,e4,e5,e6,e7⟩:=aMark_sound hg.sr.rel h1 (hs.one x (by rw[ho]; simp[Op.operands]))
   refine wpIn_of_upon hF (by rw[ho]; simp) (uponIn_of_value (.inl ?_) (hk _ _ _ _ (hg.step e2 e3 e5 e6 e7 e4 hd) h2))
   unfold execOp
   rw[ho]
   exact vrun e1
  ·exact direct h
 ·rename_i c ho
  rw[bcond] at h
  split at h
  ·rw[dynCall_eq] at h
   unfold orE at h
   split at h
   ·rename_i p hy
    obtain ⟨b,args⟩:=p
    obtain ⟨hrb,h⟩:=csome h
    obtain ⟨l,cargs,hrun,hv,hl⟩:=yld_spec hs hy hrb
    refine wpIn_of_upon hF (by rw[ho]; simp) ?_
    replace h:=bnd h
    obtain ⟨⟨out,H'⟩,hy,h⟩:=h
    obtain ⟨fn',tm',as',bo',hrun',hR⟩:=hcall.yl b args s.H lo (out,H') hy F (n - 1) l g w0 w cargs hF (hcall.up _ _ _ _ _ _ hb0 hg.ext) hg.sr.rel hg.sr.gl hv hl
    rw[hrun,hrun',Oper.uponIn_round]
    refine⟨fun hd=>(by rw[hF.1] at hd; cases hd),hR.mono ?_⟩
    rintro e w' ⟨g',e1,e2,e3,e4,e6,e5⟩
    cases out with
    | ret x =>
     cases e with
     | returned c'=>exact hk _ _ _ _ (hg.step e1 e2 e3 e4 e6 e5 hd) h
     | panicked _=>exact e5.elim
     | outgrown=>exact e5.elim
    | pan x=>cases h
   replace h:=bnd h
   obtain ⟨⟨k',args⟩,hce,h⟩:=h
   obtain ⟨hcb,cargs,hrun,hv⟩:=callee_spec hs hce
   refine wpIn_of_upon hF (by rw[ho]; simp) ?_
   rw[hrun,Oper.uponIn_enter]
   refine⟨fun hd=>(by rw[hF.1] at hd; cases hd),?_⟩
   rw[bcond] at h
   split at h
   ·rename_i hiso
    replace h:=bnd h
    obtain ⟨y,hy,h⟩:=h
    have hr:=hg.sr.rel
    have hst:∀ k o,w.heap.size<=k->Stab s.H g k o:=fun k o hk=>⟨hr.out k o hk,fun b hb=>absurd (hr.dom b k hb).2.2 (by omega)⟩
    have hcallok:=horc k' _ y (.inl hiso) hy (Stab s.H g) w cargs hst (fun G vs hG j v hj=>let ⟨e1,e2⟩:=hg.sr.gl G vs hG j v hj; ⟨e1,e2,fun b hb=>by cases hb⟩) (snaps_VR hr hv)
    refine(callsIn_of_calls hF hcallok).mono ?_
    rintro e w' ⟨c',rfl,hb,hvr⟩
    exact hk _ _ _ _ (hg.step (H':=s.H) (hr.of_below hb) (Ext.below hr hb) (Nat.le_refl _) (fun _ _ _=>rfl) rfl (VR.back (fun _ _ h=>h) hvr) hd) h
   ·replace h:=bnd h
    obtain ⟨⟨out,H'⟩,hy,h⟩:=h
    have hci:CallsIn F.plain (n - 1) cx.P k' cargs.toArray w _:=hcall.fn k' args s.H lo (out,H') (callable_lt hcb) hy F.plain (n - 1) g w0 w cargs hF rfl (hcall.up _ _ _ _ _ _ hb0 hg.ext) hg.sr.rel hg.sr.gl hv
    have hci':CallsIn F (n - 1) cx.P k' cargs.toArray w _:=hci
    refine hci'.mono ?_
    rintro e w' ⟨g',e1,e2,e3,e4,e6,e5⟩
    cases out with
    | ret x =>
     cases e with
     | returned c'=>exact hk _ _ _ _ (hg.step e1 e2 e3 e4 e6 e5 hd) h
     | panicked _=>exact e5.elim
     | outgrown=>exact e5.elim
    | pan x =>
     cases e with
     | returned _=>exact e5.elim
     | panicked ch =>
      obtain ⟨c',rfl,hvr⟩:=e5
      have hg':=hg.step (dst:=none) (x:=x) e1 e2 e3 e4 e6 hvr (fun d hd=>by cases hd)
      exact hp x { s with H:=H' } g' w' c' hg' hvr h
     | outgrown=>exact e5.elim
  ·exact direct h
 ·exact direct h
theorem guard_spec {ops:Array Oper} {o:Oper} {t:Nat} {want:Bool} (h:guardSlot ops o=some (t,want)) {b:Bool} (hg:a.tmps.getD t undef=.bool b):Region.wanted o (yielded ops a.tmps)=(b==want):=by
 rw[guardSlot_eq] at h
 split at h
 ·rename_i j want' hgd
  cases hd:(ops[j]?).bind (·.dst) with
  | none=>rw[hd] at h; cases h
  | some t' =>
   rw[hd] at h
   cases h
   have ht:a.tmps[t]? = some (.bool b):=by
    rw[Array.getD_eq_getD_getElem?] at hg
    cases hx:a.tmps[t]? with
    | none=>rw[hx] at hg; cases hg
    | some v=>rw[hx] at hg; simp at hg; rw[hg]
   simp only[Region.wanted,hgd,yielded,hd,Option.bind_some,ht]
   cases b<;>cases want<;>rfl
 ·cases h
theorem guard_skip {ops:Array Oper} {o:Oper} {t:Nat} {want:Bool} (h:guardSlot ops o=some (t,want)) {y:Array Value} (hg:a.tmps.getD t undef=.tuple y):Region.wanted o (yielded ops a.tmps)=false:=by
 rw[guardSlot_eq] at h
 split at h
 ·rename_i j want' hgd
  cases hd:(ops[j]?).bind (·.dst) with
  | none=>rw[hd] at h; cases h
  | some t' =>
   rw[hd] at h
   cases h
   rw[Array.getD_eq_getD_getElem?] at hg
   simp only[Region.wanted,hgd,yielded,hd,Option.bind_some]
   cases hx:a.tmps[t]? with
   | none=>cases want<;>rfl
   | some v=>rw[hx] at hg; simp at hg; subst hg; cases want<;>rfl
 ·cases h
theorem gIf_spec {β:Type} {x:A} {want:Bool} {p q:Option β} {r:β} (h:gIf x want p q=some r):(∃ b,x=.v (.bool b)/\(if b==want then p else q)=some r)∨∃ y,x=.v (.tuple y)/\q=some r:=by
 unfold gIf at h
 split at h
 ·rename_i b; exact .inl ⟨b,rfl,by cases b<;>cases want<;>exact h⟩
 ·exact .inr ⟨_,rfl,h⟩
 ·cases h
end Go.Proofs.Ytdmgdjnadbakfaa
