/-
 Regions that draw their order: whatever it is, the interpreter's answer is the model's.
-/
import Derived.Test.YtdmgdjnadbakfaaEvCut
namespace Go.Proofs.Ytdmgdjnadbakfaa
open Go.RowKit
variable {H H':Heap} {g g':Gh} {w0 w w':World} {cx:Cx} {s:St} {a:Act} {F:Fence} {n:Nat} {N lo:Nat} {mb:Mb} {H0:Heap} {gs:Gh} {ws:World} {Bs:Heap->Gh->World->Prop}
def PureOK (cx:Cx) (Bs:Heap->Gh->World->Prop) (s:St) (o:Oper) (x:A):Prop:=∀ (F:Fence) (n:Nat) (g:Gh) (w0 W:World) (ev:Operand->Value),WideA F->OpR cx s g w0 o.op ev W->(∀ (G:Nat) (vs:List Value),cx.glob G=some vs->CellsAt s.H g W G 0 vs)->Bs s.H g W ->
 OpV F n cx.P o ev W fun v W'=>VR s.H g W' x v/\Rel s.H g w0 W'/\Ext s.H g W s.H g W'
theorem evBI_val {β:Type} {f lo:Nat} {dst:Option Nat} {c:Call} (k:A->Heap->Option β):evBI cx f lo dst c s k=(evBI cx f lo dst c s (fun x H=>some (x,H))).bind fun r=>k r.1 r.2:=by
 unfold evBI
 split<;>simp[Option.bind_assoc]
theorem evOp1_val {β:Type} {f lo:Nat} {o:Oper} (k:A->Heap->Option β):evOp1 cx f lo o s k=(evOp1 cx f lo o s (fun x H=>some (x,H))).bind fun r=>k r.1 r.2:=by
 unfold evOp1
 split
 case h_27=>exact evBI_val k
 all_goals simp[Option.bind_assoc]
theorem evOp1_heap {f lo:Nat} {o:Oper} {r:A×Heap} (h:evOp1 cx f lo o s (fun x H=>some (x,H))=some r) (hh:heapOp o.op=false):∃ x,r=(x,s.H):=by
 unfold evOp1 at h
 split at h
 all_goals first
  | cases h; done
  | (rename_i ho; rw[ho] at hh; cases hh; done)
  | (cases h; exact⟨_,rfl⟩)
  | (obtain ⟨y,_,h⟩:=bnd h; cases h; exact⟨_,rfl⟩)
theorem opV_of_ops {P:Program} {o:Oper} {ev:Operand->Value} {c:Value} {Rr:Value->World->Prop} (h:(execOp ev o).run P w=.ok (.value c) w'∨((execOp ev o).run P w=.ok .skip w'/\c=undef)) (hr:Rr c w'):OpV F n P o ev w Rr:=by
 unfold OpV
 rcases h with h | ⟨h,rfl⟩<;>rw[h]<;>exact hr
theorem pure_of_op1 {f lo:Nat} {o:Oper} {x:A} (h:evOp1 cx f lo o s (fun x H=>some (x,H))=some (x,s.H)):PureOK cx Bs s o x:=by
 intro F n g w0 W ev hF hs hgl hbs
 obtain ⟨c,w',x',H',g',e1,e2,e3,e4,e5,e6,e7,e8⟩:=evOp1_sound hs h
 cases e2
 obtain ⟨r1,r2,r3⟩:=Rel.back hs.rel e3 e4 e8 (fun _ _=>rfl)
 exact opV_of_ops e1 ⟨VR.to r3 x c (VR.under x c e5) e5,r1,r2⟩
theorem evV_spec {call:CallT} (hcall:CallSound cx Bs call) (horc:OrcOK cx) {f:Nat} {o:Oper} {x:A} (h:evV cx call f o s=some x):PureOK cx Bs s o x:=by
 have direct:∀ {lo:Nat},heapOp o.op=false->evOp1 cx f lo o s (fun x _=>some x)=some x->PureOK cx Bs s o x:=fun {lo} hh h=>by
  rw[evOp1_val] at h
  obtain ⟨q,h1,h2⟩:=bnd h
  obtain ⟨x',rfl⟩:=evOp1_heap h1 hh
  cases h2
  exact pure_of_op1 h1
 unfold evV at h
 split at h
 ·rename_i c x y ho
  obtain ⟨b,hb,h⟩:=bIf_spec h
  intro F n g w0 W ev hF hs hgl hbs
  have hc:=hs.one c (by rw[ho]; simp[Op.operands])
  have hx:=hs.one x (by rw[ho]; simp[Op.operands])
  have hy:=hs.one y (by rw[ho]; simp[Op.operands])
  rw[hb,VR] at hc
  refine opV_of_ops (c:=if b then ev x else ev y) (w':=W) (.inl ?_) ⟨by cases b<;>cases h<;>assumption,hs.rel,Ext.refl hs.rel⟩
  unfold execOp
  rw[ho]
  simp[hc,asBool]
 ·cases h
 ·cases h
 ·cases h
 ·cases h
 ·cases h
 ·cases h
 ·cases h
 ·cases h
 ·rename_i c ho
  rw[bcond] at h
  split at h
  ·rw[dynV_eq] at h
   replace h:=bnd h
   obtain ⟨x0,h,hx0⟩:=h
   cases hx0
   replace h:=bnd h
   obtain ⟨⟨k',args⟩,hce,h⟩:=h
   rw[bcond] at h
   split at h
   ·rename_i hiso
    have hy:=h
    intro F n g w0 W ev hF hs hgl hbs
    obtain ⟨hcb,cargs,hrun,hv⟩:=callee_spec hs hce
    unfold OpV
    rw[hrun]
    have hr:=hs.rel
    have hst:∀ k o,W.heap.size<=k->Stab s.H g k o:=fun k o hk=>⟨hr.out k o hk,fun b hb=>absurd (hr.dom b k hb).2.2 (by omega)⟩
    have hcallok:=horc k' _ x (.inr (.inl hiso)) hy (Stab s.H g) W cargs hst (fun G vs hG j v hj=>let ⟨e1,e2⟩:=hgl G vs hG j v hj; ⟨e1,e2,fun b hb=>by cases hb⟩) (snaps_VR hr hv)
    refine(callsIn_of_calls hF hcallok).mono ?_
    rintro e w' ⟨c',rfl,hb,hvr⟩
    exact⟨VR.back (fun _ _ h=>h) hvr,hr.of_below hb,Ext.below hr hb⟩
   ·replace h:=bnd h
    obtain ⟨⟨out,H'⟩,hy,h⟩:=h
    cases out with
    | pan x=>cases h
    | ret y =>
     obtain ⟨hu,h⟩:=csome (show (bif A.under s.H.length y then some y else none)=some x from h)
     cases h
     intro F n g w0 W ev hF hs hgl hbs
     obtain ⟨hcb,cargs,hrun,hv⟩:=callee_spec hs hce
     unfold OpV
     rw[hrun]
     have hci:CallsIn F.plain (n - 1) cx.P k' cargs.toArray W _:=hcall.fn k' args s.H s.H.length (.ret x,H') (callable_lt hcb) hy F.plain (n - 1) g w0 W cargs hF rfl hbs hs.rel hgl hv
     have hci':CallsIn F (n - 1) cx.P k' cargs.toArray W _:=hci
     refine hci'.mono ?_
     rintro e w' ⟨g',e1,e2,e3,e4,e6,e5⟩
     cases e with
     | returned c' =>
      obtain ⟨r1,r2,r3⟩:=Rel.back hs.rel e1 e2 e6 (fun b hb=>e4 b hb hb)
      exact⟨VR.to r3 x c' hu e5,r1,r2⟩
     | panicked _=>exact e5.elim
     | outgrown=>exact e5.elim
  ·split at h
   ·rename_i hcl
    rw[evOp1_val] at h
    obtain ⟨q,h1,h2⟩:=bnd h
    have hq:∃ x,q=(x,s.H):=by
     unfold evOp1 at h1
     rw[ho] at h1
     simp only at h1
     unfold evBI at h1
     split at h1
     ·obtain ⟨y,_,h1⟩:=bnd h1; cases h1; exact⟨_,rfl⟩
     ·rename_i he _ _; rw[hcl] at he; cases he
     ·rename_i he _ _; rw[hcl] at he; cases he
     ·rename_i he _; rw[hcl] at he; cases he
     ·rename_i he _; rw[hcl] at he; cases he
     ·cases h1
    obtain ⟨x',rfl⟩:=hq
    cases h2
    exact pure_of_op1 h1
   ·cases h
 ·rename_i h1 h2 h3 h4 h5 h6 h8 h9 h10 h7
  refine direct ?_ h
  cases ho:o.op<;>first
   | rfl
   | exact absurd ho (by intro hh; first | exact h2 _ hh | exact h3 _ _ hh | exact h4 _ _ _ hh | exact h5 _ _ _ hh | exact h6 _ hh | exact h7 _ hh | exact h8 _ _ hh | exact h9 _ _ _ _ hh | exact h10 _ _ _ _ hh)
def Fact (cx:Cx) (Bs:Heap->Gh->World->Prop) (ops:Array Oper) (s:St) (o:Oper) (x:A):Prop :=
 (o.guard=none/\PureOK cx Bs s o x)∨∃ t want,guardSlot ops o=some (t,want)/\((∃ b,look s.fr t=.v (.bool b)/\if b==want then PureOK cx Bs s o x else x=.v undef)∨((∃ y,look s.fr t=.v (.tuple y))/\x=.v undef))
theorem wpIn_of_OpV {o:Oper} {next:Act->World->Prop} {Q:Exit->Act->World->Prop} {Rr:Value->World->Prop} (hF:WideA F) (hnd:∀ c,o.op≠.defer c) (h:OpV F n cx.P o a.eval w Rr) (hn:∀ v w',Rr v w'->next (a.put o.dst v) w'):o.wpIn F n cx.P a w next Q:=by
 refine wpIn_of_upon hF hnd ?_
 unfold OpV at h
 split at h
 ·rename_i hr; rw[hr]; exact hn _ _ h
 ·rename_i hr; rw[hr]; exact hn _ _ h
 ·rename_i hr
  rw[hr,Oper.uponIn_enter]
  refine⟨fun hd=>(by rw[hF.1] at hd; cases hd),?_⟩
  refine h.mono ?_
  intro e w' he
  cases e with
  | returned c=>exact hn _ _ he
  | panicked _=>exact he.elim
  | outgrown=>exact he.elim
 ·rename_i hr
  rw[hr]
  exact⟨fun hd=>(by rw[hF.1] at hd; cases hd),h.mono hn⟩
 ·rename_i hr
  rw[hr]
  refine⟨fun hd=>(by rw[hF.1] at hd; cases hd),?_⟩
  refine h.mono ?_
  intro e w' he
  cases e with
  | returned c=>exact hn _ _ he
  | panicked _=>exact he.elim
  | outgrown=>exact he.elim
 ·exact h.elim
theorem evV_notDefer {call:CallT} {f:Nat} {o:Oper} {x:A} (h:evV cx call f o s=some x):∀ c,o.op≠.defer c:=fun c hc=>by
 unfold evV at h; rw[hc] at h; exact evOp1_notDefer (show evOp1 cx f 0 o s (fun a _=>some a)=some x from h) c hc
theorem evOps_sound {call:CallT} (hcall:CallSound cx Bs call) (hb0:Bs H0 gs ws) (horc:OrcOK cx) (hF:WideA F) {f:Nat} {ops:Array Oper} {k:E->St->Option R} {r:R} {Q:Exit->Act->World->Prop}
  (hk:∀ s' g' a' w',Good cx N mb lo H0 gs ws w0 s' g' a' w'->k .normal s'=some r->Q .normal a' w')
  (hp:∀ x s' g' a' w' c,Good cx N mb lo H0 gs ws w0 s' g' a' w'->VR s'.H g' w' x c->k (.pan x) s'=some r->Q (.panic [{ v:=c,recovered:=false }]) a' w') :
  ∀ (os:List Oper) (s:St) (g:Gh) (a:Act) (w:World),(∀ o∈os,∀ d,o.dst=some d->d<N)->Good cx N mb lo H0 gs ws w0 s g a w->evOps cx call f lo ops os s k=some r->wpListIn F n cx.P ops Q os a w
 | [],s,g,a,w,_,hg,h=>hk s g a w hg h
 | o :: os,s,g,a,w,hd,hg,h=>by
  have hd0:=hd o (by simp)
  have ih:=fun s g a w hg h=>evOps_sound (f:=f) (ops:=ops) hcall hb0 horc hF hk hp os s g a w (fun o ho=>hd o (by simp[ho])) hg h
  have one:evOp cx call f lo o s (fun s=>evOps cx call f lo ops os s k) (fun a s=>k (.pan a) s)=some r->o.wpIn F n cx.P a w (wpListIn F n cx.P ops Q os) Q:=fun h =>
   evOp_sound hcall horc hF hb0 hg hd0 h (fun s' g' a' w' hg' h'=>ih s' g' a' w' hg' h') (fun x s' g' w' c hg' hv h'=>hp x s' g' a w' c hg' hv h')
  have val:∀ {x:A},evV cx call f o s=some x->evOps cx call f lo ops os (s.put o.dst x) k=some r->o.wpIn F n cx.P a w (wpListIn F n cx.P ops Q os) Q:=fun {x} hx h =>
   wpIn_of_OpV hF (evV_notDefer hx) (evV_spec hcall horc hx F n g w0 w a.eval hF (hg.sr.opr o.op) hg.sr.gl (hcall.up _ _ _ _ _ _ hb0 hg.ext)) fun v w' hv =>
    ih _ _ _ _ (hg.step (H':=s.H) hv.2.1 hv.2.2 (Nat.le_refl _) (fun _ _ _=>rfl) rfl hv.1 hd0) h
  have skip:evOps cx call f lo ops os (s.put o.dst (.v undef)) k=some r->(∀ f,o.about cx.P w a.eval=some f->F.fn f)/\wpListIn F n cx.P ops Q os (a.put o.dst undef) w:=fun h =>
   ⟨fun f _=>hF.2.1 f,ih _ _ _ _ (hg.same (by rw[VR]) hd0) h⟩
  unfold evOps at h
  unfold wpListIn
  split at h
  ·rename_i hgd
   rw[if_pos (by simp[Region.wanted,hgd])]
   exact one h
  ·rename_i x hgd
   split at h
   ·cases h
   ·rename_i t want hgs
    have hv:=hg.sr.fr t
    rw[bcond] at h
    split at h
    ·obtain ⟨x,h0,h⟩:=bnd h
     rcases gIf_spec h0 with ⟨b,hb,h0⟩ | ⟨y,hb,h0⟩
     ·rw[hb,VR] at hv
      rw[guard_spec hgs hv]
      split at h0
      ·rename_i hbw
       rw[if_pos hbw]
       exact val h0 h
      ·rename_i hbw
       rw[if_neg hbw]
       cases h0
       exact skip h
     ·rw[hb,VR] at hv
      rw[guard_skip hgs hv]
      cases h0
      rw[if_neg (by simp)]
      exact skip h
    ·rcases gIf_spec h with ⟨b,hb,h⟩ | ⟨y,hb,h⟩
     ·rw[hb,VR] at hv
      rw[guard_spec hgs hv]
      split at h
      ·rename_i hbw
       rw[if_pos hbw]
       exact one h
      ·rename_i hbw
       rw[if_neg hbw]
       exact skip h
     ·rw[hb,VR] at hv
      rw[guard_skip hgs hv,if_neg (by simp)]
      exact skip h
theorem look_dst (s:St) (dst:Option Nat) (x:A) (u:Nat) (h:dst≠some u):look (s.put dst x).fr u=look s.fr u:=by
 cases dst with
 | none=>rfl
 | some d =>
  show look ((d,x) :: s.fr) u=_
  rw[look_put,if_neg (fun e=>h (by rw[e]))]
theorem look_dst' (s:St) (d:Nat) (x:A):look (s.put (some d) x).fr d=x:=by
 show look ((d,x) :: s.fr) d=_
 rw[look_put,if_pos rfl]
theorem evPre_spec {call:CallT} (hcall:CallSound cx Bs call) (horc:OrcOK cx) {f:Nat} {ops:Array Oper} {k:St->Option R} {r:R}:∀ (os:List Oper) (s:St),evPre cx call f ops os s k=some r ->
  ∃ z,k z=some r/\z.H=s.H/\(∀ t,(∀ o∈os,o.dst≠some t)->look z.fr t=look s.fr t) ∧
   ∀ (i:Nat) o,os[i]? = some o->∃ si x,si.H=s.H/\(∀ t,(∀ (j:Nat) o',j<i->os[j]? = some o'->o'.dst≠some t)->look si.fr t=look s.fr t)/\(∀ t,(∀ (j:Nat) o',i<=j->os[j]? = some o'->o'.dst≠some t)->look si.fr t=look z.fr t) ∧
    (∀ t,o.dst=some t->(∀ (j:Nat) o',i<j->os[j]? = some o'->o'.dst≠some t)->look z.fr t=x)/\Fact cx Bs ops si o x
 | [],s,h=>⟨s,h,rfl,fun _ _=>rfl,fun i o h=>by simp at h⟩
 | o :: os,s,h=>by
  have fin:∀ (s':St) (x:A),s'.H=s.H->(∀ u,look s'.fr u=look s.fr u)->Fact cx Bs ops s' o x->evPre cx call f ops os (s'.put o.dst x) k=some r ->
    ∃ z,k z=some r/\z.H=s.H/\(∀ t,(∀ o'∈o :: os,o'.dst≠some t)->look z.fr t=look s.fr t) ∧
     ∀ (i:Nat) o1,(o :: os)[i]? = some o1->∃ si x,si.H=s.H/\(∀ t,(∀ (j:Nat) o',j<i->(o :: os)[j]? = some o'->o'.dst≠some t)->look si.fr t=look s.fr t)/\(∀ t,(∀ (j:Nat) o',i<=j->(o :: os)[j]? = some o'->o'.dst≠some t)->look si.fr t=look z.fr t) ∧
      (∀ t,o1.dst=some t->(∀ (j:Nat) o',i<j->(o :: os)[j]? = some o'->o'.dst≠some t)->look z.fr t=x)/\Fact cx Bs ops si o1 x:=by
   intro s' x hH hl hf h
   obtain ⟨z,h1,h2,h3,h4⟩:=evPre_spec hcall horc os (s'.put o.dst x) h
   have hpH:(s'.put o.dst x).H=s.H:=by rw[<-hH]; cases o.dst<;>rfl
   have hz:∀ t,(∀ o'∈o :: os,o'.dst≠some t)->look z.fr t=look s.fr t:=fun t ht=>by
    rw[h3 t (fun o' ho'=>ht o' (by simp[ho'])),look_dst _ _ _ _ (ht o (by simp)),hl]
   refine⟨z,h1,h2.trans hpH,hz,fun i o1 ho1=>?_⟩
   cases i with
   | zero =>
    simp at ho1
    subst ho1
    refine⟨s',x,hH,fun t _=>hl t,fun t ht=>?_,fun t hd ht=>?_,hf⟩
    ·have hall:∀ o'∈o :: os,o'.dst≠some t:=fun o' ho'=>by
      obtain ⟨j,hj,rfl⟩:=List.getElem_of_mem ho'
      exact ht j _ (Nat.zero_le _) (List.getElem?_eq_getElem hj)
     rw[hz t hall,hl]
    ·rw[h3 t (fun o' ho'=>by
      obtain ⟨j,hj,rfl⟩:=List.getElem_of_mem ho'
      exact ht (j+1) _ (by omega) (by simp)),hd,look_dst']
   | succ i =>
    obtain ⟨si,x1,g1,g2,g3,g4,g5⟩:=h4 i o1 (by simpa using ho1)
    refine⟨si,x1,g1.trans hpH,fun t ht=>?_,fun t ht=>?_,fun t hd ht=>?_,g5⟩
    ·rw[g2 t (fun j o' hj ho'=>ht (j+1) o' (by omega) (by simpa using ho')),look_dst _ _ _ _ (ht 0 o (by omega) rfl),hl]
    ·exact g3 t (fun j o' hj ho'=>ht (j+1) o' (by omega) (by simpa using ho'))
    ·exact g4 t hd (fun j o' hj ho'=>ht (j+1) o' (by omega) (by simpa using ho'))
  unfold evPre at h
  split at h
  ·rename_i hgd
   obtain ⟨x,h1,h2⟩:=bnd h
   exact fin s x rfl (fun _=>rfl) (.inl ⟨hgd,evV_spec hcall horc h1⟩) h2
  ·rename_i q hgd
   split at h
   ·cases h
   ·rename_i t want hgs
    obtain ⟨x,h1,h2⟩:=bnd h
    refine fin s x rfl (fun _=>rfl) (.inr ⟨t,want,hgs,?_⟩) h2
    rcases gIf_spec h1 with ⟨b,hb,h1⟩ | ⟨y,hb,h1⟩
    ·refine .inl ⟨b,hb,?_⟩
     split at h1
     ·rename_i hbw; rw[if_pos hbw]; exact evV_spec hcall horc h1
     ·rename_i hbw; rw[if_neg hbw]; cases h1; rfl
    ·cases h1; exact .inr ⟨⟨y,hb⟩,rfl⟩
theorem waits_lt {ops:Array Oper} {N:Nat} (chk:rgOk ops N=true) {i j:Nat} (h:Waits ops i j):j<i:=by
 have lt:∀ {i o e},ops[i]? = some o->e∈o.after->Region.binds .any e=true->e.on<i:=fun {i o e} ho he hb=>by
  have hi:i<ops.size:=(Array.getElem?_eq_some_iff.1 ho).1
  have h:=List.all_eq_true.1 chk i (List.mem_range.2 hi)
  simp only[ho,Bool.and_eq_true] at h
  have:=Array.all_eq_true_iff_forall_mem.1 h.1.1.1.2 e he
  rw[hb] at this; simpa using this
 induction h with
 | edge ho he hb=>exact lt ho he hb
 | thru ho he hb _ ih=>exact Nat.lt_trans ih (lt ho he hb)
theorem rg_spec {ops:Array Oper} {N:Nat} (chk:rgOk ops N=true) {i:Nat} {o:Oper} (ho:ops[i]? = some o):(∀ j d,i≠j->o.dst=some d->dstOf ops j≠some d)/\(∀ j t,dstOf ops j=some t->t∈o.looksAt ops->i=j∨bef ops i j=true∨bef ops j i=true):=by
 have hi:i<ops.size:=(Array.getElem?_eq_some_iff.1 ho).1
 have h:=List.all_eq_true.1 chk i (List.mem_range.2 hi)
 simp only[ho,Bool.and_eq_true] at h
 obtain ⟨⟨⟨⟨⟨_,_⟩,_⟩,h4⟩,h5⟩,_⟩:=h
 have lt:∀ {j t},dstOf ops j=some t->j<ops.size:=fun {j t} hj=>by
  unfold dstOf at hj
  cases hx:ops[j]? with
  | none=>rw[hx] at hj; cases hj
  | some _=>exact(Array.getElem?_eq_some_iff.1 hx).1
 refine⟨fun j d hij hd hj=>?_,fun j t hj ht=>?_⟩
 ·have:=List.all_eq_true.1 h4 j (List.mem_range.2 (lt hj))
  rw[hd,hj] at this
  simp at this
  exact hij this
 ·have:=List.all_eq_true.1 h5 j (List.mem_range.2 (lt hj))
  rw[hj] at this
  simp[ht] at this
  rcases this with (h | h) | h
  ·exact .inl h
  ·exact .inr (.inl h)
  ·exact .inr (.inr h)
theorem evDraw_sound {call:CallT} (hcall:CallSound cx Bs call) (hb0:Bs H0 gs ws) (horc:OrcOK cx) (hF:WideA F) (hmx:cx.P.follows .mixedOrders=true) {f m:Nat} {ops:Array Oper} {k:E->St->Option R} {r:R} {Q:Exit->Act->World->Prop} (chk:rgOk ops N=true) (chkt:tailOk ops m=true)
  (hg:Good cx N mb lo H0 gs ws w0 s g a w) (hd:∀ o∈ops.toList,∀ d,o.dst=some d->d<N)
  (h:evPre cx call f ops (ops.toList.take m) s (fun s=>evOps cx call f lo ops (ops.toList.drop m) s k)=some r)
  (hk:∀ s' g' a' w',Good cx N mb lo H0 gs ws w0 s' g' a' w'->k .normal s'=some r->Q .normal a' w')
  (hp:∀ x s' g' a' w' c,Good cx N mb lo H0 gs ws w0 s' g' a' w'->VR s'.H g' w' x c->k (.pan x) s'=some r->Q (.panic [{ v:=c,recovered:=false }]) a' w'):LW F n cx.P ops Q a w:=by
 obtain ⟨z,hz,hzH,hzk,hfacts⟩:=evPre_spec hcall horc _ s h
 have hr:=hg.sr.rel
 have hget:∀ {i o},i<m->ops[i]? = some o->(ops.toList.take m)[i]? = some o:=fun {i o} him ho=>by
  rw[List.getElem?_take,if_pos him,Array.getElem?_toList]; exact ho
 have hget':∀ {i o},(ops.toList.take m)[i]? = some o->i<m/\ops[i]? = some o:=fun {i o} ho=>by
  rw[List.getElem?_take] at ho
  split at ho
  ·rename_i him; exact⟨him,by rwa [Array.getElem?_toList] at ho⟩
  ·cases ho
 have hdst:∀ {i o},ops[i]? = some o->dstOf ops i=o.dst:=fun {i o} ho=>by unfold dstOf; rw[ho]; rfl
 refine region_rg (F:=F) ⟨hF.1,hF.2.1⟩ hmx N m hg.siz chk chkt (fun W=>Rel s.H g w0 W/\Ext s.H g w s.H g W) (fun W W'=>Ext s.H g W s.H g W') (fun i v W=>∀ t,dstOf ops i=some t->VR s.H g W (look z.fr t) v)
  (fun i v W W' hv he t ht=>VR.ext he _ _ (hv t ht)) ⟨hr.of_below (Below.refl _ _).drew,Ext.below hr (Below.refl _ _).drew⟩ ?_ ?_
 ·rintro i o him ho a' W ⟨hrW,heW⟩ h1 h2 hsz
  obtain ⟨si,x,g1,g2,g3,g4,g5⟩:=hfacts i o (hget him ho)
  obtain ⟨c4,c5⟩:=rg_spec chk ho
  have hlook:∀ t∈o.looksAt ops,VR s.H g W (look si.fr t) (a'.tmps.getD t undef):=fun t ht=>by
   by_cases hj:∃ j,dstOf ops j=some t/\bef ops i j=true
   ·obtain ⟨j,hjt,hjb⟩:=hj
    have hji:=waits_lt chk (before_waits i j hjb)
    have hv:=h1 t ht j hjt hjb t hjt
    rw[g3 t (fun j' o' hij' ho' hd'=>by
     obtain ⟨_,ho''⟩:=hget' ho'
     obtain ⟨c4',_⟩:=rg_spec chk ho''
     exact c4' j t (by omega) hd' hjt)]
    exact hv
   ·have hno:∀ j,dstOf ops j=some t->bef ops i j=false:=fun j hjt=>by
     cases hb:bef ops i j with
     | false=>rfl
     | true=>exact absurd ⟨j,hjt,hb⟩ hj
    have hs:=h2 t ht hno
    unfold slot at hs
    rw[hs,g2 t (fun j o' hji ho' hd'=>by
     obtain ⟨hjm,ho''⟩:=hget' ho'
     have hjt:dstOf ops j=some t:=(hdst ho'').trans hd'
     rcases c5 j t hjt ht with h | h | h
     ·omega
     ·rw[hno j hjt] at h; cases h
     ·have:=waits_lt chk (before_waits j i h); omega)]
    exact VR.ext heW _ _ (hg.sr.fr t)
  have hopr:OpR cx si g w0 o.op a'.eval W:=⟨by rw[g1]; exact hrW,fun y hy=>opd_VR (fun t ht=>by
    rw[g1]
    refine hlook t ?_
    subst ht
    unfold Oper.looksAt
    exact List.mem_append.2 (.inl (List.mem_filterMap.2 ⟨.tmp t,hy,rfl⟩))) (fun G vs hG=>by rw[g1]; exact(hg.sr.gl G vs hG).ext heW),fun _=>rfl⟩
  have hx:∀ t,dstOf ops i=some t->look z.fr t=x:=fun t ht=>g4 t ((hdst ho).symm.trans ht) (fun j o' hij ho' hd'=>by
   obtain ⟨_,ho''⟩:=hget' ho'
   exact c4 j t (by omega) ((hdst ho).symm.trans ht) ((hdst ho'').trans hd'))
  have run:PureOK cx Bs si o x->OpV F n cx.P o a'.eval W (fun v w'=>(∀ t,dstOf ops i=some t->VR s.H g w' (look z.fr t) v)/\(Rel s.H g w0 w'/\Ext s.H g w s.H g w')/\Ext s.H g W s.H g w'):=fun hpo=>by
   refine(hpo F n g w0 W a'.eval hF hopr (fun G vs hG=>by rw[g1]; exact(hg.sr.gl G vs hG).ext heW) (by rw[g1]; exact hcall.up _ _ _ _ _ _ hb0 (hg.ext.trans heW))).mono ?_
   rintro v w' ⟨k1,k2,k3⟩
   rw[g1] at k1 k2 k3
   exact⟨fun t ht=>by rw[hx t ht]; exact k1,⟨k2,heW.trans k3⟩,k3⟩
  rcases g5 with ⟨hgd,hpo⟩ | ⟨t,want,hgs,hor⟩
  ·rw[if_pos (by simp[Region.wanted,hgd])]
   exact run hpo
  ·have htl:t∈o.looksAt ops:=by
    rw[guardSlot_eq] at hgs
    unfold Oper.looksAt
    split at hgs
    ·rename_i j want' hgd
     cases hdj:(ops[j]?).bind (·.dst) with
     | none=>rw[hdj] at hgs; cases hgs
     | some t' =>
      rw[hdj] at hgs
      cases hgs
      refine List.mem_append.2 (.inr ?_)
      rw[hgd]
      simp[hdj]
    ·cases hgs
   have hv:=hlook t htl
   have sk:x=.v undef->(∀ t',dstOf ops i=some t'->VR s.H g W (look z.fr t') undef)/\(Rel s.H g w0 W/\Ext s.H g w s.H g W)/\Ext s.H g W s.H g W:=fun hcond =>
    ⟨fun t' ht'=>by rw[hx t' ht',hcond,VR],⟨hrW,heW⟩,Ext.refl hrW⟩
   rcases hor with ⟨b,hlb,hcond⟩ | ⟨⟨y,hlb⟩,hcond⟩
   ·rw[hlb,VR] at hv
    rw[guard_spec hgs hv]
    split at hcond
    ·rename_i hbw
     rw[if_pos hbw]
     exact run hcond
    ·rename_i hbw
     rw[if_neg hbw]
     exact sk hcond
   ·rw[hlb,VR] at hv
    rw[guard_skip hgs hv,if_neg (by simp)]
    exact sk hcond
 ·rintro a' W ⟨hrW,heW⟩ hdf hsz hv hno _
  refine evOps_sound (f:=f) (ops:=ops) hcall hb0 horc hF hk hp _ z g a' W (fun o ho=>hd o (List.mem_of_mem_drop ho)) ⟨⟨by rw[hzH]; exact hrW,fun t=>?_,fun G vs hG=>by rw[hzH]; exact(hg.sr.gl G vs hG).ext heW⟩,by rw[hzH]; exact hg.ext.trans heW,by rw[hzH]; exact hg.len,by rw[hzH]; exact hg.low,hsz,(by rw[hdf]; exact hg.dfr.keptBy heW.kept),Nat.le_trans hg.mbw heW.size,hg.st⟩ hz
  rw[hzH]
  by_cases ht:∃ i,i<m/\dstOf ops i=some t
  ·obtain ⟨i,him,hit⟩:=ht
   exact hv i t him hit t hit
  ·have hs:=hno t (fun i him hit=>ht ⟨i,him,hit⟩)
   unfold slot at hs
   rw[hs,hzk t (fun o ho hd'=>by
    obtain ⟨i,hi,rfl⟩:=List.getElem_of_mem ho
    obtain ⟨him,ho'⟩:=hget' (List.getElem?_eq_getElem hi)
    exact ht ⟨i,him,(hdst ho').trans hd'⟩)]
   exact VR.ext heW _ _ (hg.sr.fr t)
end Go.Proofs.Ytdmgdjnadbakfaa
