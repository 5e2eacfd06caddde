/-
 Regions that draw, with one call that sees the heap's first blocks alone: whatever the order, the interpreter's answer is the model's.
-/
import Derived.Test.YtdmgdjnadbakfaaEvAct
namespace Go.Proofs.Ytdmgdjnadbakfaa
open Go.RowKit
variable {H H':Heap} {g g':Gh} {w0 w w':World} {cx:Cx} {s:St} {a:Act} {F:Fence} {n:Nat} {N lo:Nat} {mb:Mb} {H0:Heap} {gs:Gh} {ws:World} {Bs:Heap->Gh->World->Prop} {f:Nat} {ops:Array Oper}
theorem noGd_spec {o:Oper} (h:noGd o=true):o.guard=none:=by
 unfold noGd at h; split at h
 ·assumption
 ·cases h
theorem evL_spec {call:CallT} {k:List (Nat×A)->St->Option R} {r:R}:∀ (L:List Nat) (seen:List (Nat×A)) (s:St),evL cx call f ops L seen s k=some r ->
  ∃ (S:Nat->St) (x:Nat->A) (seen1:List (Nat×A)),S 0=s/\k seen1 (S L.length)=some r/\(∀ p∈seen,p∈seen1) ∧
   ∀ (p i:Nat),L[p]? = some i->∃ o,ops[i]? = some o/\o.guard=none/\(opKind o=0∨(opKind o=1/\(i,addrOf cx (S p) o.op)∈seen1)∨(opKind o=2/\flats (partsOf cx (S p) o.op)=true))/\evV cx call f o (S p)=some (x p)/\S (p+1)=(S p).put o.dst (x p)
 | [],seen,s,h=>⟨fun _=>s,fun _=>.any,seen,rfl,h,fun _ h=>h,fun p i hp=>by simp at hp⟩
 | i :: L,seen,s,h=>by
  unfold evL at h
  split at h
  ·cases h
  ·rename_i o ho
   obtain ⟨hc,h⟩:=csome h
   obtain ⟨hfl,h⟩:=csome h
   rw[okL,Bool.and_eq_true,Bool.or_eq_true,Bool.or_eq_true] at hc
   rw[evVk_eq] at h
   obtain ⟨x0,h1,h⟩:=bnd h
   obtain ⟨S,x,seen1,e1,e2,e3,e4⟩:=evL_spec L _ _ h
   refine⟨fun p=>match p with | 0=>s | p+1=>S p,fun p=>match p with | 0=>x0 | p+1=>x p,seen1,rfl,e2,fun p hp=>e3 p (by
    cases Nat.beq (opKind o) 1 with
    | true=>exact List.mem_cons_of_mem _ hp
    | false=>exact hp),fun p j hj=>?_⟩
   cases p with
   | zero =>
    simp at hj
    subst hj
    refine⟨o,ho,noGd_spec hc.1,?_,h1,e1⟩
    rcases hc.2 with (hk | hk) | hk
    ·exact .inl (beq_spec hk)
    ·exact .inr (.inl ⟨beq_spec hk,e3 _ (by rw[hk]; exact List.mem_cons_self ..)⟩)
    ·exact .inr (.inr ⟨beq_spec hk,by rw[hk] at hfl; exact hfl⟩)
   | succ p=>exact e4 p j (by simpa using hj)
def StepC (cx:Cx) (call:CallT) (f lo:Nat) (ops:Array Oper) (c q:Nat) (seen:List (Nat×A)) (i:Nat) (s:St) (x:A) (s':St):Prop :=
 ∃ o H',ops[i]? = some o/\s'=({ s with H:=H' }:St).put o.dst x ∧
  ((i≠c/\o.guard=none/\((isEff o=true/\seenAll ops i (touchA cx s o.op) seen=true)∨heapOp o.op=false)/\evOp1 cx f lo o s (fun a H=>some (a,H))=some (x,H')) ∨
   (i=c/\seenC ops c (cutM cx o) seen=true/\call q (fargs cx s o.op) s.H (loC cx o lo s.H)=some (.ret x,H')))
theorem evT_spec {call:CallT} {c q:Nat} {kp:A->Heap->Option R} {k:St->Option R} {r:R} {seen:List (Nat×A)} (hq:∀ o,ops[c]? = some o->∀ (s:St) (lo':Nat) (k:A->Heap->Option R) (kp:A->Heap->Option R),dynCall cx call (fvOf cx s o.op) (fargs cx s o.op) s.H lo' k kp=(call q (fargs cx s o.op) s.H lo').bind fun r=>outK r.1 (fun a=>k a r.2) (fun a=>kp a r.2)) :
  ∀ (L:List Nat) (s:St),evT cx call f lo ops c kp L seen s k=some r ->
  ∃ (S:Nat->St) (x:Nat->A) (P:Nat),S 0=s/\P<=L.length/\(∀ p i,p<P->L[p]? = some i->StepC cx call f lo ops c q seen i (S p) (x p) (S (p+1))) ∧
   ((P=L.length/\k (S P)=some r)∨(∃ o y H2,L[P]? = some c/\ops[c]? = some o/\call q (fargs cx (S P) o.op) (S P).H (loC cx o lo (S P).H)=some (.pan y,H2)/\kp y H2=some r))
 | [],s,h=>⟨fun _=>s,fun _=>.any,0,rfl,Nat.le_refl _,fun p i hp _=>absurd hp (Nat.not_lt_zero _),.inl ⟨rfl,h⟩⟩
 | i :: L,s,h=>by
  unfold evT at h
  split at h
  ·cases h
  rename_i o ho
  have go:∀ (x0:A) (H':Heap),StepC cx call f lo ops c q seen i s x0 (({ s with H:=H' }:St).put o.dst x0)->evT cx call f lo ops c kp L seen (({ s with H:=H' }:St).put o.dst x0) k=some r ->
    ∃ (S:Nat->St) (x:Nat->A) (P:Nat),S 0=s/\P<=(i :: L).length/\(∀ p j,p<P->(i :: L)[p]? = some j->StepC cx call f lo ops c q seen j (S p) (x p) (S (p+1))) ∧
     ((P=(i :: L).length/\k (S P)=some r)∨(∃ o y H2,(i :: L)[P]? = some c/\ops[c]? = some o/\call q (fargs cx (S P) o.op) (S P).H (loC cx o lo (S P).H)=some (.pan y,H2)/\kp y H2=some r)):=fun x0 H' hst h=>by
   obtain ⟨S,x,P,e1,e2,e3,e4⟩:=evT_spec hq L _ h
   refine⟨fun p=>match p with | 0=>s | p+1=>S p,fun p=>match p with | 0=>x0 | p+1=>x p,P+1,rfl,Nat.succ_le_succ e2,fun p j hp hj=>?_,?_⟩
   ·cases p with
    | zero =>
     simp at hj
     subst hj
     show StepC cx call f lo ops c q seen i s x0 (S 0)
     rw[e1]; exact hst
    | succ p=>exact e3 p j (by omega) (by simpa using hj)
   ·rcases e4 with ⟨e4,e5⟩ | ⟨o,y,H2,e4,e5⟩
    ·exact .inl ⟨by rw[e4]; rfl,e5⟩
    ·exact .inr ⟨o,y,H2,by simpa using e4,e5⟩
  cases hic:Nat.beq i c with
  | true =>
   rw[hic] at h
   simp only[cond_true] at h
   obtain rfl:=Nat.eq_of_beq_eq_true hic
   obtain ⟨hsn,h⟩:=csome h
   rw[hq o ho] at h
   obtain ⟨⟨out,H2⟩,hcl,h⟩:=bnd h
   cases out with
   | pan y=>exact⟨fun _=>s,fun _=>.any,0,rfl,Nat.zero_le _,fun p i hp _=>absurd hp (Nat.not_lt_zero _),.inr ⟨o,y,H2,rfl,ho,hcl,h⟩⟩
   | ret v=>exact go v H2 ⟨o,H2,ho,rfl,.inr ⟨rfl,hsn,hcl⟩⟩ h
  | false =>
   rw[hic] at h
   simp only[cond_false] at h
   obtain ⟨hc,h⟩:=csome h
   obtain ⟨hs,h⟩:=csome h
   rw[okT,Bool.and_eq_true,Bool.and_eq_true,Bool.or_eq_true,Bool.not_eq_true'] at hc
   rw[evOp1_val] at h
   obtain ⟨⟨x0,H'⟩,h1,h⟩:=bnd h
   refine go x0 H' ⟨o,H',ho,rfl,.inl ⟨fun e=>by subst e; simp at hic,noGd_spec hc.1.1,?_,h1⟩⟩ h
   rcases hc.1.2 with hk | hk
   ·exact .inl ⟨hk,by rw[hk] at hs; exact hs⟩
   ·exact .inr hk
theorem region_cut {call:CallT} (hcall:CallSound cx Bs call) (hb0:Bs H0 gs ws) (horc:OrcOK cx) (hF:WideA F) (hmx:cx.P.follows .mixedOrders=true) {k:E->St->Option R} {r:R} {Q:Exit->Act->World->Prop} {m:Nat} (chk:rgOk ops N=true) (chkt:tailOk ops m=true)
  (hg:Good cx N mb lo H0 gs ws w0 s g a w) (hd:∀ o∈ops.toList,∀ d,o.dst=some d->d<N)
  (O:List Nat) (M P pc:Nat) (S:Nat->St) (x:Nat->A) (hM:M<=P) (hpc:M<=pc) (hP:P<=O.length) (hO:∀ i:Nat,i<m->∃ p:Nat,O[p]? = some i) (hOs:∀ p i:Nat,O[p]? = some i->i<m) (hnd:∀ p q i:Nat,O[p]? = some i->O[q]? = some i->p=q)
  (hdep:∀ p q i j:Nat,O[p]? = some i->O[q]? = some j->bef ops i j=true->q<p) (hE:∀ p q i j:Nat,M<=q->q<p->O[p]? = some i->O[q]? = some j->bef ops i j=true)
  (h0:S 0=s) (hH:∀ p,p<=M->(S p).H=s.H) (hgd:∀ (p i:Nat) (o:Oper),O[p]? = some i->ops[i]? = some o->o.guard=none)
  (hlk:∀ (p i:Nat) (o:Oper),p<P->O[p]? = some i->ops[i]? = some o->∀ t,look (S (p+1)).fr t=if o.dst=some t then x p else look (S p).fr t)
  (Z:Prop) (hlen:∀ p,M<=p->p<P->(pc<=p->Z)->(S p).H.length<=(S (p+1)).H.length)
  (hpure:∀ (p i:Nat) (o:Oper),p<M->O[p]? = some i->ops[i]? = some o->∀ e,M+e<=P->(pc<M+e->Z)->(∀ q j:Nat,M<=q->q<M+e->O[q]? = some j->Unord ops i j)->evV cx call f o ⟨(S p).fr,(S (M+e)).H⟩=some (x p))
  (heff:∀ (p i:Nat) (o:Oper),M<=p->p<P->O[p]? = some i->ops[i]? = some o->∀ (g':Gh) (W:World) (ev:Operand->Value),OpR cx (S p) g' w0 o.op ev W->(∀ (G:Nat) (vs:List Value),cx.glob G=some vs->CellsAt (S p).H g' W G 0 vs)->Bs (S p).H g' W ->
   OpVP F n cx.P o ev W (fun v w'=>∃ g2,Rel (S (p+1)).H g2 w0 w'/\Ext (S p).H g' W (S (p+1)).H g2 w'/\(∀ b,b<lo->b<(S p).H.length->(S (p+1)).H[b]? = (S p).H[b]?)/\g2.S=g'.S/\VR (S (p+1)).H g2 w' (x p) v/\(p=pc->Z)) (fun _ _=>False))
  (hpan:∀ (i:Nat) (o:Oper),O[P]? = some i->ops[i]? = some o->∃ (H2:Heap) (y:A),k (.pan y) ⟨[],H2⟩=some r/\∀ (g':Gh) (W:World) (ev:Operand->Value),OpR cx (S P) g' w0 o.op ev W->(∀ (G:Nat) (vs:List Value),cx.glob G=some vs->CellsAt (S P).H g' W G 0 vs)->Bs (S P).H g' W ->
   OpVP F n cx.P o ev W (fun _ _=>False) (fun ch w'=>∃ c g2,ch=[{ v:=c,recovered:=false }]/\Rel H2 g2 w0 w'/\Ext (S P).H g' W H2 g2 w'/\(S P).H.length<=H2.length/\(∀ b,b<lo->b<(S P).H.length->H2[b]? = (S P).H[b]?)/\g2.S=g'.S/\VR H2 g2 w' y c))
  (hend:P=O.length->evOps cx call f lo ops (ops.toList.drop m) (S P) k=some r)
  (hk:∀ s' g' a' w',Good cx N mb lo H0 gs ws w0 s' g' a' w'->k .normal s'=some r->Q .normal a' w')
  (hp:∀ x s' g' a' w' c,Good cx N mb lo H0 gs ws w0 s' g' a' w'->VR s'.H g' w' x c->k (.pan x) s'=some r->Q (.panic [{ v:=c,recovered:=false }]) a' w'):LW F n cx.P ops Q a w:=by
 have hr:=hg.sr.rel
 have hm2:m<=ops.size:=by
  simp only[tailOk,Bool.and_eq_true,decide_eq_true_eq] at chkt
  exact chkt.1.1
 have hdst:∀ {i o},ops[i]? = some o->dstOf ops i=o.dst:=fun {i o} ho=>by unfold dstOf; rw[ho]; rfl
 have hop:∀ {p i:Nat},O[p]? = some i->∃ o,ops[i]? = some o:=fun {p i} h=>⟨_,Array.getElem?_eq_getElem (Nat.lt_of_lt_of_le (hOs _ _ h) hm2)⟩
 have hdlt:∀ {i t},dstOf ops i=some t->∃ o,ops[i]? = some o/\o.dst=some t:=fun {i t} h=>by
  unfold dstOf at h
  cases ho:ops[i]? with
  | none=>rw[ho] at h; cases h
  | some o=>rw[ho] at h; exact⟨o,rfl,h⟩
 have hat:∀ p:Nat,p<O.length->∃ (i:Nat) (o:Oper),O[p]? = some i/\ops[i]? = some o:=fun p h=>by
  have h1:=List.getElem?_eq_getElem h
  obtain ⟨o,ho⟩:=hop h1
  exact⟨_,o,h1,ho⟩
 have lookA:∀ t q j:Nat,O[q]? = some j->dstOf ops j=some t->∀ p,q<p->p<=P->look (S p).fr t=x q:=by
  intro t q j hq hj p
  obtain ⟨oj,hoj,hdj⟩:=hdlt hj
  induction p with
  | zero=>intro h; omega
  | succ p ih =>
   intro h1 h2
   by_cases e:q=p
   ·subst e; rw[hlk q j oj (by omega) hq hoj,if_pos hdj]
   ·obtain ⟨i,o,hi,ho⟩:=hat p (by omega)
    obtain ⟨c4,_⟩:=rg_spec chk ho
    rw[hlk p i o (by omega) hi ho,if_neg fun hdo=>c4 j t (fun e2=>e (hnd q p j hq (e2 ▸ hi))) hdo hj]
    exact ih (by omega) (by omega)
 have lookB:∀ t p:Nat,p<=P->(∀ q j:Nat,q<p->O[q]? = some j->dstOf ops j≠some t)->look (S p).fr t=look s.fr t:=by
  intro t p
  induction p with
  | zero=>intro _ _; rw[h0]
  | succ p ih =>
   intro h1 h2
   obtain ⟨i,o,hi,ho⟩:=hat p (by omega)
   rw[hlk p i o (by omega) hi ho,if_neg fun hdo=>h2 p i (by omega) hi (by rw[hdst ho]; exact hdo)]
   exact ih (by omega) fun q j hq hj=>h2 q j (by omega) hj
 have lenM:∀ e,M+e<=P->(pc<M+e->Z)->s.H.length<=(S (M+e)).H.length:=by
  intro e
  induction e with
  | zero=>intro _ _; rw[Nat.add_zero,hH M (Nat.le_refl _)]; exact Nat.le_refl _
  | succ e ih=>intro h hz; exact Nat.le_trans (ih (by omega) (fun h=>hz (by omega))) (hlen (M+e) (by omega) (by omega) (fun h=>hz (by omega)))
 refine region_inv (F:=F) ⟨hF.1,hF.2.1⟩ hmx N m hg.siz chk chkt (fun D a' W=>∃ (e:Nat) (g':Gh),M+e<=P/\(pc<M+e->Z)/\(∀ q j:Nat,M<=q->O[q]? = some j->(D j↔q<M+e))/\Rel (S (M+e)).H g' w0 W/\Ext s.H g w (S (M+e)).H g' W/\(∀ b,b<lo->b<s.H.length->(S (M+e)).H[b]? = s.H[b]?)/\g'.S=g.S ∧
   (∀ q j t:Nat,O[q]? = some j->dstOf ops j=some t->D j->VR (S (M+e)).H g' W (x q) (slot a' t))/\(∀ t,(∀ j,j<m->dstOf ops j=some t->¬ D j)->VR (S (M+e)).H g' W (look s.fr t) (slot a' t))) ?_ ?_ ?_
 ·intro D hD
  have hb:=Ext.below hr (Below.refl w.heap.size w).drew
  refine⟨0,g,hM,fun h=>by omega,fun q j hq _=>⟨fun h=>absurd h (hD j),fun h=>by omega⟩,?_,?_,fun b _ _=>?_,rfl,fun q j t _ _ h=>absurd h (hD j),fun t _=>?_⟩
  ·rw[Nat.add_zero,hH M (Nat.le_refl _)]; exact hr.of_below (Below.refl _ _).drew
  ·rw[Nat.add_zero,hH M (Nat.le_refl _)]; exact hb
  ·rw[Nat.add_zero,hH M (Nat.le_refl _)]
  ·rw[Nat.add_zero,hH M (Nat.le_refl _)]; exact VR.ext hb _ _ (hg.sr.fr t)
 ·rintro D D' i o him ho hDm hDi hbef hcl hD' a' W ⟨e,g',heP,heZ,hDe,hrW,heW,hlow,hgS,hv1,hv2⟩ hsz hdf
  obtain ⟨p,hpi⟩:=hO i him
  have hpl:p<O.length:=(List.getElem?_eq_some_iff.1 hpi).1
  obtain ⟨c4,c5⟩:=rg_spec chk ho
  rw[if_pos (by simp[Region.wanted,hgd p i o hpi ho])]
  have hbs:Bs (S (M+e)).H g' W:=hcall.up _ _ _ _ _ _ hb0 (hg.ext.trans heW)
  have hgl:∀ (G:Nat) (vs:List Value),cx.glob G=some vs->CellsAt (S (M+e)).H g' W G 0 vs:=fun G vs hG=>(hg.sr.gl G vs hG).ext heW
  have hlook:p<=P->∀ t∈o.looksAt ops,VR (S (M+e)).H g' W (look (S p).fr t) (a'.tmps.getD t undef):=fun hpP t ht=>by
   by_cases hj:∃ j,dstOf ops j=some t/\bef ops i j=true
   ·obtain ⟨j,hjt,hjb⟩:=hj
    obtain ⟨oj,hoj,_⟩:=hdlt hjt
    obtain ⟨q,hq⟩:=hO j (Nat.lt_trans (waits_lt chk (before_waits i j hjb)) him)
    have hqp:=hdep p q i j hpi hq hjb
    rw[lookA t q j hq hjt p hqp hpP]
    exact hv1 q j t hq hjt (hbef j hjb)
   ·have hno:∀ j,dstOf ops j=some t->bef ops i j=false:=fun j hjt=>by
     cases hb:bef ops i j with
     | false=>rfl
     | true=>exact absurd ⟨j,hjt,hb⟩ hj
    rw[lookB t p hpP fun q j hq hqj hjt=>by
     rcases c5 j t hjt ht with h | h | h
     ·subst h; have:=hnd p q i hpi hqj; omega
     ·rw[hno j hjt] at h; cases h
     ·have:=hdep q p j i hqj hpi h; omega]
    exact hv2 t fun j _ hjt hDj=>by
     rcases c5 j t hjt ht with h | h | h
     ·subst h; exact hDi hDj
     ·rw[hno j hjt] at h; cases h
     ·exact hDi (hcl j i hDj h)
  have hopr:p<=P->OpR cx ⟨(S p).fr,(S (M+e)).H⟩ g' w0 o.op a'.eval W:=fun hpP=>⟨hrW,fun y hy=>opd_VR (fun t ht=>by
    refine hlook hpP t ?_
    subst ht
    unfold Oper.looksAt
    exact List.mem_append.2 (.inl (List.mem_filterMap.2 ⟨.tmp t,hy,rfl⟩))) hgl,fun _=>rfl⟩
  have fin:p<P->∀ (e':Nat) (g2:Gh) (W':World) (v:Value),M+e'<=P->(pc<M+e'->Z)->(∀ q j:Nat,M<=q->O[q]? = some j->(D' j↔q<M+e'))->Rel (S (M+e')).H g2 w0 W'->Ext (S (M+e)).H g' W (S (M+e')).H g2 W'->(∀ b,b<lo->b<s.H.length->(S (M+e')).H[b]? = s.H[b]?)->g2.S=g.S->VR (S (M+e')).H g2 W' (x p) v ->
    ∃ (e:Nat) (g':Gh),M+e<=P/\(pc<M+e->Z)/\(∀ q j:Nat,M<=q->O[q]? = some j->(D' j↔q<M+e))/\Rel (S (M+e)).H g' w0 W'/\Ext s.H g w (S (M+e)).H g' W'/\(∀ b,b<lo->b<s.H.length->(S (M+e)).H[b]? = s.H[b]?)/\g'.S=g.S ∧
     (∀ q j t:Nat,O[q]? = some j->dstOf ops j=some t->D' j->VR (S (M+e)).H g' W' (x q) (slot (a'.put o.dst v) t))/\(∀ t,(∀ j,j<m->dstOf ops j=some t->¬ D' j)->VR (S (M+e)).H g' W' (look s.fr t) (slot (a'.put o.dst v) t)):=by
   intro hpP e' g2 W' v h1 hz' h2 h3 h4 h5 h6 h7
   refine⟨e',g2,h1,hz',h2,h3,heW.trans h4,h5,h6,fun q j t hq hjt hDj=>?_,fun t ht=>?_⟩
   ·rcases (hD' j).1 hDj with rfl | hDj
    ·have hdt:o.dst=some t:=by rw[<-hdst ho]; exact hjt
     rw[hdt,slot_put_same (by rw[hsz]; exact hd o (by rw[<-Array.mem_def]; exact Array.mem_of_getElem? ho) t hdt),hnd q p j hq hpi]
     exact h7
    ·have hne:j≠i:=fun e=>hDi (e ▸ hDj)
     rw[slot_put_other (fun hdt=>c4 j t (Ne.symm hne) hdt hjt)]
     exact VR.ext h4 _ _ (hv1 q j t hq hjt hDj)
   ·rw[slot_put_other (fun hdt=>ht i him (by rw[hdst ho]; exact hdt) ((hD' i).2 (.inl rfl)))]
    exact VR.ext h4 _ _ (hv2 t (fun j hjm hjt hDj=>ht j hjm hjt ((hD' j).2 (.inr hDj))))
  by_cases hpM:p<M
  ·
   have hun:∀ q j:Nat,M<=q->q<M+e->O[q]? = some j->Unord ops i j:=fun q j hq1 hq2 hq=>by
    unfold Unord
    rw[Bool.or_eq_false_iff]
    constructor
    ·cases hb:bef ops i j with
     | false=>rfl
     | true=>have:=hdep p q i j hpi hq hb; omega
    ·cases hb:bef ops j i with
     | false=>rfl
     | true=>exact absurd (hcl j i ((hDe q j hq1 hq).2 hq2) hb) hDi
   have hev:=hpure p i o hpM hpi ho e heP heZ hun
   refine .inl ((evV_spec hcall horc hev F n g' w0 W a'.eval hF (hopr (by omega)) hgl hbs).mono ?_)
   rintro v w' ⟨k1,k2,k3⟩
   refine fin (by omega) e g' w' v heP heZ (fun q j hq1 hq=>⟨fun h=>?_,fun h=>(hD' j).2 (.inr ((hDe q j hq1 hq).2 h))⟩) k2 k3 hlow hgS k1
   rcases (hD' j).1 h with rfl | h
   ·have:=hnd p q j hpi hq; omega
   ·exact(hDe q j hq1 hq).1 h
  ·
   have hpe:p=M+e:=by
    have h1:¬ p<M+e:=fun h=>hDi ((hDe p i (by omega) hpi).2 h)
    refine Nat.le_antisymm (Nat.le_of_not_lt fun h2=>?_) (by omega)
    obtain ⟨j,oj,hj,_⟩:=hat (M+e) (by omega)
    have:=(hDe (M+e) j (by omega) hj).1 (hbef j (hE p (M+e) i j (by omega) h2 hpi hj))
    omega
   subst hpe
   by_cases hpP:M+e<P
   ·refine(heff (M+e) i o (by omega) hpP hpi ho g' W a'.eval (hopr (by omega)) hgl hbs).elim (fun h=>.inl (h.mono ?_)) fun ⟨f',args,w',h1,h2⟩=>.inr ⟨f',args,w',h1,h2.mono fun e' w'' h=>?_⟩
    ·rintro v w' ⟨g2,k1,k2,k3,k4,k5,k6⟩
     refine fin hpP (e+1) g2 w' v (by omega) (fun _=>if he0:pc<M+e then heZ he0 else k6 (by omega)) (fun q j hq1 hq=>⟨fun h=>?_,fun h=>?_⟩) k1 k2 (fun b hb hb'=>?_) (k4.trans hgS) k5
     ·rcases (hD' j).1 h with rfl | h
      ·have:=hnd (M+e) q j hpi hq; omega
      ·have:=(hDe q j hq1 hq).1 h; omega
     ·refine(hD' j).2 ?_
      by_cases hq2:q=M+e
      ·subst hq2; rw[hq] at hpi; exact .inl (by cases hpi; rfl)
      ·exact .inr ((hDe q j hq1 hq).2 (by omega))
     ·rw[show M+(e+1)=M+e+1 from rfl,k3 b hb (Nat.lt_of_lt_of_le hb' (lenM e heP heZ))]; exact hlow b hb hb'
    ·cases e' with
     | returned v =>
      obtain ⟨g2,k1,k2,k3,k4,k5,k6⟩:=h
      refine fin hpP (e+1) g2 w'' v (by omega) (fun _=>if he0:pc<M+e then heZ he0 else k6 (by omega)) (fun q j hq1 hq=>⟨fun h=>?_,fun h=>?_⟩) k1 k2 (fun b hb hb'=>?_) (k4.trans hgS) k5
      ·rcases (hD' j).1 h with rfl | h
       ·have:=hnd (M+e) q j hpi hq; omega
       ·have:=(hDe q j hq1 hq).1 h; omega
      ·refine(hD' j).2 ?_
       by_cases hq2:q=M+e
       ·subst hq2; rw[hq] at hpi; exact .inl (by cases hpi; rfl)
       ·exact .inr ((hDe q j hq1 hq).2 (by omega))
      ·rw[show M+(e+1)=M+e+1 from rfl,k3 b hb (Nat.lt_of_lt_of_le hb' (lenM e heP heZ))]; exact hlow b hb hb'
     | panicked ch=>exact h.elim
     | outgrown=>exact h.elim
   ·obtain rfl:P=M+e:=by omega
    obtain ⟨H2,y,hky,hst⟩:=hpan i o hpi ho
    have pan:∀ (ch:List PanicEntry) (w':World),(∃ c g2,ch=[{ v:=c,recovered:=false }]/\Rel H2 g2 w0 w'/\Ext (S (M+e)).H g' W H2 g2 w'/\(S (M+e)).H.length<=H2.length/\(∀ b,b<lo->b<(S (M+e)).H.length->H2[b]? = (S (M+e)).H[b]?)/\g2.S=g'.S/\VR H2 g2 w' y c)->Q (.panic ch) a' w':=by
     rintro ch w' ⟨c,g2,rfl,k1,k2,k3,k4,k5,k6⟩
     have hx:=heW.trans k2
     refine hp y ⟨[],H2⟩ g2 a' w' c ⟨⟨k1,fun t=>by rw[show look [] t=.any from rfl,VR]; trivial,fun G vs hG=>(hg.sr.gl G vs hG).ext hx⟩,hg.ext.trans hx,Nat.le_trans hg.len (Nat.le_trans (lenM e heP heZ) k3),fun b hb hb'=>?_,hsz,?_,Nat.le_trans hg.mbw hx.size,k5.trans (hgS.trans hg.st)⟩ k6 hky
     ·have hb2:b<s.H.length:=Nat.lt_of_lt_of_le hb' hg.len
      show H2[b]? = _
      rw[k4 b hb (Nat.lt_of_lt_of_le hb2 (lenM e heP heZ)),hlow b hb hb2]
      exact hg.low b hb hb'
     ·rw[hdf]; exact hg.dfr.keptBy hx.kept
    refine(hst g' W a'.eval (hopr (Nat.le_refl _)) hgl hbs).elim (fun h=>.inl (h.mono fun _ _ h=>h.elim)) fun ⟨f',args,w',h1,h2⟩=>.inr ⟨f',args,w',h1,h2.mono fun e' w'' h=>?_⟩
    cases e' with
    | returned v=>exact h.elim
    | panicked ch=>exact pan ch w'' h
    | outgrown=>exact h.elim
 ·rintro D a' W hall hDm ⟨e,g',heP,heZ,hDe,hrW,heW,hlow,hgS,hv1,hv2⟩ hdf hsz
  have hdone:M+e=O.length:=by
   refine Nat.le_antisymm (by omega) (Nat.le_of_not_lt fun hlt=>?_)
   obtain ⟨j,oj,hj,_⟩:=hat (M+e) hlt
   have:=(hDe (M+e) j (by omega) hj).1 (hall j (hOs _ _ hj))
   omega
  obtain rfl:P=M+e:=by omega
  refine evOps_sound (f:=f) (ops:=ops) hcall hb0 horc hF hk hp _ (S (M+e)) g' a' W (fun o ho=>hd o (List.mem_of_mem_drop ho)) ⟨⟨hrW,fun t=>?_,fun G vs hG=>(hg.sr.gl G vs hG).ext heW⟩,hg.ext.trans heW,Nat.le_trans hg.len (lenM e heP heZ),fun b hb hb'=>?_,hsz,by rw[hdf]; exact hg.dfr.keptBy heW.kept,Nat.le_trans hg.mbw heW.size,hgS.trans hg.st⟩ (hend hdone)
  ·by_cases ht:∃ q j:Nat,O[q]? = some j/\dstOf ops j=some t
   ·obtain ⟨q,j,hq,hjt⟩:=ht
    rw[lookA t q j hq hjt (M+e) (by have:=(List.getElem?_eq_some_iff.1 hq).1; omega) (Nat.le_refl _)]
    exact hv1 q j t hq hjt (hall j (hOs q j hq))
   ·rw[lookB t (M+e) (Nat.le_refl _) fun q j _ hq hjt=>ht ⟨q,j,hq,hjt⟩]
    exact hv2 t fun j hj hjt=>absurd (let ⟨q,hq⟩:=hO j hj; ⟨q,j,hq,hjt⟩) ht
  ·have hb2:b<s.H.length:=Nat.lt_of_lt_of_le hb' hg.len
   rw[hlow b hb hb2]; exact hg.low b hb hb'
theorem isCutO_spec {o:Oper} (h:isCutO cx o=true):∃ c q,o.op=.call c/\c.callee=.value (.func q)/\callable cx.P q=true/\cx.isOrc q=false/\(cx.cut q≠0∨cx.fre q=true)/\cutM cx o=cx.cut q/\(∀ lo H,loC cx o lo H=bif cx.fre q then H.length else lo):=by
 unfold isCutO at h
 split at h
 ·rename_i c ho
  split at h
  ·rename_i q hq
   simp only[Bool.and_eq_true,Bool.not_eq_true',Bool.or_eq_true] at h
   refine⟨c,q,ho,hq,h.1.1,h.1.2,h.2.imp (fun h e=>by rw[e] at h; cases h) id,by unfold cutM; rw[ho]; simp only[hq],fun lo H=>by unfold loC; rw[ho]; simp only[hq]⟩
  ·cases h
 ·cases h
theorem chainT_spec:∀ {L ps:List Nat},chainT ops ps L=true->(∀ k∈ps,∀ i∈L,bef ops i k=true)/\L.Pairwise fun k i=>bef ops i k=true
 | [],ps,_=>⟨fun _ _ _ h=>(by cases h),.nil⟩
 | t :: L,ps,h=>by
  unfold chainT at h
  have h1:ps.all (fun p=>bef ops t p)=true:=by cases hh:ps.all (fun p=>bef ops t p)<;>simp_all
  rw[h1] at h
  obtain ⟨h2,h3⟩:=chainT_spec (L:=L) (ps:=t :: ps) h
  refine⟨fun k hk i hi=>?_,.cons (fun i hi=>h2 t (by simp) i hi) h3⟩
  rcases List.mem_cons.1 hi with rfl | hi
  ·exact List.all_eq_true.1 h1 k hk
  ·exact h2 k (by simp[hk]) i hi
theorem range_filter_pw (p:Nat->Bool) (n:Nat):((List.range n).filter p).Pairwise (· < ·):=List.Pairwise.filter _ List.pairwise_lt_range
theorem pw_get {α:Type} {R:α->α->Prop} {L:List α} (h:L.Pairwise R) {p q:Nat} {x y:α} (hp:L[p]? = some x) (hq:L[q]? = some y) (hpq:p<q):R x y:=by
 obtain ⟨h1,rfl⟩:=List.getElem?_eq_some_iff.1 hp
 obtain ⟨h2,rfl⟩:=List.getElem?_eq_some_iff.1 hq
 exact List.pairwise_iff_getElem.1 h p q h1 h2 hpq
theorem seenC_spec {c m:Nat}:∀ {l:List (Nat×A)},seenC ops c m l=true->∀ p∈l,bef ops c p.1=false->∀ b,blk? p.2=some b->m<=b
 | [],_,p,hp,_,_,_=>by cases hp
 | q :: l,h,p,hp,hb,b,hbl=>by
  unfold seenC at h
  cases hq:bef ops c q.1 with
  | true =>
   rw[hq] at h
   rcases List.mem_cons.1 hp with rfl | hp
   ·rw[hq] at hb; cases hb
   ·exact seenC_spec h p hp hb b hbl
  | false =>
   rw[hq] at h
   simp only[cond_false] at h
   cases hm:apartC m q.2 with
   | false=>rw[hm] at h; cases h
   | true =>
    rw[hm] at h
    rcases List.mem_cons.1 hp with rfl | hp
    ·unfold apartC at hm
     rw[hbl] at hm
     exact Nat.le_of_ble_eq_true hm
    ·exact seenC_spec h p hp hb b hbl
theorem evRgC_sound {call:CallT} (hcall:CallSound cx Bs call) (hb0:Bs H0 gs ws) (horc:OrcOK cx) (hF:WideA F) (hmx:cx.P.follows .mixedOrders=true) {c:Nat} {k:E->St->Option R} {r:R} {Q:Exit->Act->World->Prop}
  (hg:Good cx N mb lo H0 gs ws w0 s g a w) (hd:∀ o∈ops.toList,∀ d,o.dst=some d->d<N) (h:evRgC cx call f lo N ops c s k=some r)
  (hk:∀ s' g' a' w',Good cx N mb lo H0 gs ws w0 s' g' a' w'->k .normal s'=some r->Q .normal a' w')
  (hp:∀ x s' g' a' w' c,Good cx N mb lo H0 gs ws w0 s' g' a' w'->VR s'.H g' w' x c->k (.pan x) s'=some r->Q (.panic [{ v:=c,recovered:=false }]) a' w'):LW F n cx.P ops Q a w:=by
 unfold evRgC at h
 split at h
 ·cases h
 rename_i oc hoc
 obtain ⟨m,hm0,h⟩:=bnd h
 have hmt:tailOk ops m=true:=by
  unfold tailAt at hm0
  exact List.find?_some hm0
 have hm2:m<=ops.size:=by
  simp only[tailOk,Bool.and_eq_true,decide_eq_true_eq] at hmt
  exact hmt.1.1
 obtain ⟨hchk,h⟩:=csome h
 simp only[rgcOk,Bool.and_eq_true] at hchk
 obtain ⟨⟨⟨⟨⟨hcg,hcut⟩,chk⟩,hch⟩,hcl⟩,hTm⟩:=hchk
 obtain ⟨SL,xL,seen,hS0,h,_,hL⟩:=evL_spec _ _ _ h
 obtain ⟨cc,q,hop,hcal,hcb,hno,hc0,hcm,hloC⟩:=isCutO_spec hcut
 let L1:=restC ops c m
 let T:=chainC ops c m
 let M:=L1.length
 have hlt:∀ {i j},bef ops i j=true->j<i:=fun {i j} hb=>waits_lt chk (before_waits i j hb)
 have memL:∀ {i},i∈L1↔i<m/\i ∉ T:=fun {i}=>by
  simp only[L1,restC,List.mem_filter,List.mem_range,List.all_eq_true,Bool.not_eq_true']
  refine and_congr_right fun _=>⟨fun h hi=>?_,fun h j hj=>?_⟩
  ·have:=h i hi; simp at this
  ·cases hb:Nat.beq i j with
   | false=>rfl
   | true=>exact absurd (Nat.eq_of_beq_eq_true hb ▸ hj) h
 have hTm:∀ i∈T,i<m:=fun i hi=>Nat.le_of_ble_eq_true (List.all_eq_true.1 hTm i hi)
 have hcl:∀ i∈L1,∀ j∈T,bef ops i j=false:=fun i hi j hj=>by
  have:=List.all_eq_true.1 (List.all_eq_true.1 hcl i hi) j hj
  simpa using this
 have hcT:c∈T:=by
  show c∈preC ops c m++c :: _
  simp
 have pwL:L1.Pairwise (· < ·):=range_filter_pw _ _
 have hch2:=(chainT_spec hch).2
 have pwT:T.Pairwise (· < ·):=hch2.imp fun h=>hlt h
 obtain ⟨pt,hpt,hpt2⟩:=List.getElem_of_mem hcT
 have hptc:T[pt]? = some c:=by rw[List.getElem?_eq_getElem hpt,hpt2]
 let O:=L1++T
 have oL:∀ {p:Nat},p<M->O[p]? = L1[p]?:=fun {p} hp=>List.getElem?_append_left hp
 have oT:∀ {p:Nat},M<=p->O[p]? = T[p - M]?:=fun {p} hp=>List.getElem?_append_right hp
 have hOl:O.length=M+T.length:=List.length_append
 have kinds:∀ {p i:Nat},O[p]? = some i->(p<M/\L1[p]? = some i/\i<m/\i ∉ T)∨(M<=p/\T[p - M]? = some i/\i∈T):=fun {p i} hp=>by
  rcases Nat.lt_or_ge p M with h1 | h1
  ·rw[oL h1] at hp
   exact .inl ⟨h1,hp,memL.1 (List.mem_of_getElem? hp)⟩
  ·rw[oT h1] at hp
   exact .inr ⟨h1,hp,List.mem_of_getElem? hp⟩
 have hO:∀ i:Nat,i<m->∃ p:Nat,O[p]? = some i:=fun i hi=>by
  have:i∈O:=by
   show i∈L1++T
   rw[List.mem_append]
   by_cases e:i∈T
   ·exact .inr e
   ·exact .inl (memL.2 ⟨hi,e⟩)
  obtain ⟨p,hp,he⟩:=List.getElem_of_mem this
  exact⟨p,by rw[List.getElem?_eq_getElem hp,he]⟩
 have hOs:∀ p i:Nat,O[p]? = some i->i<m:=fun p i hp=>by
  rcases kinds hp with ⟨_,_,h,_⟩ | ⟨_,_,h⟩
  ·exact h
  ·exact hTm i h
 have pos:∀ {L:List Nat} {p q i j:Nat},L.Pairwise (· < ·)->L[p]? = some i->L[q]? = some j->j<i->q<p:=fun {L p q i j} pw hp hq hji=>by
  refine Nat.lt_of_not_le fun hle=>?_
  rcases Nat.lt_or_eq_of_le hle with h | h
  ·have:=pw_get pw hp hq h; omega
  ·subst h; rw[hp] at hq; cases hq; omega
 have inj:∀ {L:List Nat} {p q i:Nat},L.Pairwise (· < ·)->L[p]? = some i->L[q]? = some i->p=q:=fun {L p q i} pw hp hq=>by
  rcases Nat.lt_trichotomy p q with h | h | h
  ·have:=pw_get pw hp hq h; omega
  ·exact h
  ·have:=pw_get pw hq hp h; omega
 have hnd:∀ p q i:Nat,O[p]? = some i->O[q]? = some i->p=q:=fun p q i hp hq=>by
  rcases kinds hp with ⟨a1,a2,_,a3⟩ | ⟨a1,a2,a3⟩<;>rcases kinds hq with ⟨b1,b2,_,b3⟩ | ⟨b1,b2,b3⟩
  ·exact inj pwL a2 b2
  ·exact absurd b3 a3
  ·exact absurd a3 b3
  ·have:=inj pwT a2 b2; omega
 have hdep:∀ p q i j:Nat,O[p]? = some i->O[q]? = some j->bef ops i j=true->q<p:=fun p q i j hp hq hb=>by
  have hji:=hlt hb
  rcases kinds hp with ⟨a1,a2,_,a3⟩ | ⟨a1,a2,a3⟩<;>rcases kinds hq with ⟨b1,b2,_,b3⟩ | ⟨b1,b2,b3⟩
  ·exact pos pwL a2 b2 hji
  ·rw[hcl i (List.mem_of_getElem? a2) j b3] at hb; cases hb
  ·omega
  ·have:=pos pwT a2 b2 hji; omega
 have hE:∀ p q i j:Nat,M<=q->q<p->O[p]? = some i->O[q]? = some j->bef ops i j=true:=fun p q i j hq0 hqp hp hq=>by
  rw[oT (by omega)] at hp; rw[oT hq0] at hq
  exact pw_get hch2 hq hp (by omega)
 have gL:∀ {p i:Nat} {o:Oper},L1[p]? = some i->ops[i]? = some o->o.guard=none/\(opKind o=0∨(opKind o=1/\(i,addrOf cx (SL p) o.op)∈seen)∨(opKind o=2/\flats (partsOf cx (SL p) o.op)=true))/\evV cx call f o (SL p)=some (xL p)/\SL (p+1)=(SL p).put o.dst (xL p):=fun {p i o} hp ho=>by
  obtain ⟨o',e1,e2⟩:=hL p i hp
  rw[ho] at e1; cases e1
  exact e2
 have hSH:∀ p,p<=M->(SL p).H=s.H:=fun p=>by
  induction p with
  | zero=>intro _; rw[hS0]
  | succ p ih =>
   intro hp
   obtain ⟨i,hi⟩:∃ i,L1[p]? = some i:=⟨_,List.getElem?_eq_getElem (by show p<M; omega)⟩
   obtain ⟨o,ho⟩:∃ o,ops[i]? = some o:=⟨_,Array.getElem?_eq_getElem (Nat.lt_of_lt_of_le (memL.1 (List.mem_of_getElem? hi)).1 hm2)⟩
   rw[(gL hi ho).2.2.2,put_H]; exact ih (by omega)
 obtain ⟨ST,xT,PT,hT0,hPT,hT,hTe⟩:=evT_spec (q:=q) (fun o ho s lo' k kp=>by
  rw[hoc] at ho; cases ho
  have hfv:fvOf cx s oc.op=.fn (.func q) [] []:=by unfold fvOf; rw[hop]; simp only[hcal]; rfl
  rw[hfv]
  simp only[dynCall,hcb,hno,cond_true,cond_false,List.nil_append,List.append_nil]) _ _ h
 have hPT:PT<=T.length:=hPT
 have hT:∀ p i,p<PT->T[p]? = some i->StepC cx call f lo ops c q seen i (ST p) (xT p) (ST (p+1)):=hT
 have hT0:ST 0=SL M:=hT0
 let S:Nat->St:=fun p=>if p<=M then SL p else ST (p - M)
 let x:Nat->A:=fun p=>if p<M then xL p else xT (p - M)
 let pc:=M+pt
 have sL:∀ {p},p<=M->S p=SL p:=fun {p} hp=>if_pos hp
 have sT:∀ {p},M<=p->S p=ST (p - M):=fun {p} hp=>by
  by_cases h:p<=M
  ·obtain rfl:p=M:=by omega
   rw[sL (Nat.le_refl _),Nat.sub_self,hT0]
  ·exact if_neg h
 have xL':∀ {p},p<M->x p=xL p:=fun {p} hp=>if_pos hp
 have xT':∀ {p},M<=p->x p=xT (p - M):=fun {p} hp=>if_neg (by omega)
 have tT:∀ {p i:Nat},M<=p->p<M+PT->O[p]? = some i->StepC cx call f lo ops c q seen i (S p) (x p) (S (p+1)):=fun {p i} hp hp2 h1=>by
  rw[oT hp] at h1
  have:=hT _ i (by omega) h1
  rw[sT hp,xT' hp,sT (show M<=p+1 by omega),show p+1 - M=p - M+1 by omega]
  exact this
 have oC:∀ {p:Nat},O[p]? = some c->p=pc:=fun {p} hp=>hnd p pc c hp (by rw[oT (Nat.le_add_right _ _),show M+pt - M=pt by omega]; exact hptc)
 have oC':O[pc]? = some c:=by rw[oT (Nat.le_add_right _ _),show M+pt - M=pt by omega]; exact hptc
 let Z:Prop:=(S pc).H.length<=(S (pc+1)).H.length/\∀ b,b<(S pc).H.length->cx.cut q<=b->(S (pc+1)).H[b]? = (S pc).H[b]?
 have stepB:∀ {p i:Nat},M<=p->p<M+PT->(pc<=p->Z)->O[p]? = some i->(S p).H.length<=(S (p+1)).H.length/\∀ b,b<(S p).H.length->(∀ j a,(j,a)∈seen->blk? a=some b->Unord ops j i->False)∨(S (p+1)).H[b]? = (S p).H[b]?:=fun {p i} hp hp2 hz h1=>by
  obtain ⟨o,H',ho,hs',⟨hic,_,e1,e2⟩ | ⟨rfl,hsn,e2⟩⟩:=tT hp hp2 h1
  ·rw[hs',put_H]
   rcases e1 with ⟨e1,e4⟩ | e1
   ·obtain ⟨t1,t2⟩:=eff_touch e1 e2
    refine⟨t1,fun b hb=>?_⟩
    by_cases hc:∀ c,blk? (touchA cx (S p) o.op)=some c->b≠c
    ·exact .inr (t2 b hb hc)
    ·refine .inl fun j y hj hy hun=>hc fun c hcc e5=>?_
     subst e5
     have:=seenAll_spec e4 (j,y) hj (by unfold Unord at hun ⊢; rw[Bool.or_comm]; exact hun)
     unfold apart at this
     simp only[hy,hcc,Nat.beq_refl] at this
     cases this
   ·obtain ⟨y,hy⟩:=evOp1_heap e2 e1
    cases hy
    exact⟨Nat.le_refl _,fun b _=>.inr rfl⟩
  ·obtain rfl:=oC h1
   have hz:=hz (Nat.le_refl _)
   refine⟨hz.1,fun b hbl=>?_⟩
   by_cases hb:cx.cut q<=b
   ·exact .inr (hz.2 b hbl hb)
   ·rw[hoc] at ho; cases ho
    rw[hcm] at hsn
    refine .inl fun j y hj hy hun=>hb (seenC_spec hsn (j,y) hj ?_ b hy)
    unfold Unord at hun
    rw[Bool.or_eq_false_iff] at hun
    exact hun.2
 have atO:∀ p,p<O.length->∃ i,O[p]? = some i:=fun p hp=>⟨_,List.getElem?_eq_getElem hp⟩
 have lenE:∀ e,M+e<=M+PT->(pc<M+e->Z)->s.H.length<=(S (M+e)).H.length:=by
  intro e
  induction e with
  | zero=>intro _ _; rw[Nat.add_zero,sL (Nat.le_refl _),hSH M (Nat.le_refl _)]; exact Nat.le_refl _
  | succ e ih =>
   intro he hz
   obtain ⟨i,hi⟩:=atO (M+e) (by omega)
   exact Nat.le_trans (ih (by omega) fun h=>hz (by omega)) (stepB (by omega) (by omega) (fun h=>hz (by omega)) hi).1
 have post:∀ (st:St) (out:Out) (H2:Heap),call q (fargs cx st oc.op) st.H (loC cx oc lo st.H)=some (out,H2)->∀ (g':Gh) (W:World) (ev:Operand->Value),OpR cx st g' w0 oc.op ev W->(∀ (G:Nat) (vs:List Value),cx.glob G=some vs->CellsAt st.H g' W G 0 vs)->Bs st.H g' W->∃ args w',(execOp ev oc).run cx.P W=.ok (.enter q args) w'/\CallsIn F (n - 1) cx.P q args w' (CallPost st.H g' w0 W (loC cx oc lo st.H) (out,H2)):=fun st out H2 hcl2 g' W ev ho hgl hbs=>by
  have hce:callee? cx st oc.op=some (q,fargs cx st oc.op):=by
   unfold callee? fargs
   rw[hop]
   simp only[hcal,opd,hcb,cond_true,List.nil_append,List.append_nil]
  obtain ⟨_,cargs,hrun,hv⟩:=callee_spec ho hce
  have hci:CallsIn F.plain (n - 1) cx.P q cargs.toArray W _:=hcall.fn q _ st.H (loC cx oc lo st.H) (out,H2) (callable_lt hcb) hcl2 F.plain (n - 1) g' w0 W cargs hF rfl hbs ho.rel hgl hv
  exact⟨_,_,hrun,hci⟩
 have hlo':∀ (st:St) b,b<lo->b<st.H.length->b<loC cx oc lo st.H:=fun st b h1 h2=>by
  rw[hloC]
  cases cx.fre q with
  | true=>exact h2
  | false=>exact h1
 have hgL:∀ {p i:Nat} {o:Oper},p<M->O[p]? = some i->ops[i]? = some o->L1[p]? = some i:=fun {p i o} hp h1 _=>by rw[<-oL hp]; exact h1
 have hgd:∀ (p i:Nat) (o:Oper),O[p]? = some i->ops[i]? = some o->o.guard=none:=fun p i o hpi ho=>noGd_spec (List.all_eq_true.1 hcg o (List.mem_of_getElem? (i:=i) (by rw[List.getElem?_take,if_pos (hOs p i hpi),Array.getElem?_toList]; exact ho)))
 refine region_cut (f:=f) hcall hb0 horc hF hmx chk hmt hg hd O M (M+PT) pc S x (Nat.le_add_right _ _) (Nat.le_add_right _ _) (by omega) hO hOs hnd hdep hE (by rw[sL (Nat.zero_le _),hS0]) (fun p hp=>by rw[sL hp]; exact hSH p hp) hgd (fun p i o hp h1 ho t=>?_) Z (fun p h1 h2 hz=>?_) (fun p i o hp h1 ho e he hze hun=>?_) (fun p i o h1 h2 hpi ho g' W ev hopr hgl hbs=>?_) (fun i o hi ho=>?_) (fun hPe=>?_) hk hp
 ·rcases Nat.lt_or_ge p M with h2 | h2
  ·rw[sL (by omega),sL (by omega),xL' h2,(gL (hgL h2 h1 ho) ho).2.2.2,look_putO]
  ·obtain ⟨o',H',ho',hs',_⟩:=tT h2 hp h1
   rw[ho] at ho'; cases ho'
   rw[hs',look_putO]
 ·obtain ⟨i,hi⟩:=atO p (by omega)
  exact(stepB h1 h2 hz hi).1
 ·obtain ⟨_,e1,e2,_⟩:=gL (hgL hp h1 ho) ho
  rw[sL (by omega),xL' hp]
  have hsi:(⟨(SL p).fr,(SL p).H⟩:St)=SL p:=rfl
  rcases e1 with e1 | ⟨e1,e3⟩ | ⟨e1,e3⟩
  ·rw[evV_free e1 (H':=(SL p).H)]; exact e2
  ·rw[<-evV_one e1 (H:=(SL p).H) (fun b hb=>?_)]
   ·exact e2
   ·obtain ⟨B,hB⟩:=evV_there (s:=SL p) e1 e2 hb
    rw[hSH p (by omega)] at hB ⊢
    have hbl:=(List.getElem?_eq_some_iff.1 hB).1
    clear hsi
    induction e with
    | zero=>rw[Nat.add_zero,sL (Nat.le_refl _),hSH M (Nat.le_refl _)]
    | succ e ih =>
     obtain ⟨j,hj⟩:=atO (M+e) (by omega)
     rcases (stepB (by omega) (by omega) (fun h=>hze (by omega)) hj).2 b (Nat.lt_of_lt_of_le hbl (lenE e (by omega) (fun h=>hze (by omega)))) with h4 | h4
     ·exact(h4 i _ e3 hb (hun (M+e) j (by omega) (by omega) hj)).elim
     ·rw[show M+(e+1)=M+e+1 from rfl,h4]
      exact ih (by omega) (fun h=>hze (by omega)) fun q' j' h5 h6 h7=>hun q' j' h5 (by omega) h7
  ·rw[<-evV_flat e1 e3]; exact e2
 ·obtain ⟨o',H',ho',hs',⟨hic,_,e1,e2⟩ | ⟨hic,hsn,e2⟩⟩:=tT h1 h2 hpi
  ·rw[ho] at ho'; cases ho'
   obtain ⟨c',w',x',H3,g2,k1,k2,k3,k4,k5,k6,k7,k8⟩:=evOp1_sound hopr e2
   cases k2
   refine .inl (opV_of_ops k1 ⟨g2,?_,?_,?_,k8,?_,fun e=>(hic (by rw[e,oC'] at hpi; cases hpi; rfl)).elim⟩)
   ·rw[hs',put_H]; exact k3
   ·rw[hs',put_H]; exact k4
   ·rw[hs',put_H]; exact fun b hb hb'=>by first | exact k7 b hb hb' | exact k6 b hb hb'
   ·rw[hs',put_H]; first | exact k5 | exact k6
  ·subst hic
   rw[ho] at ho'; cases ho'
   rw[hoc] at ho; cases ho
   obtain rfl:=oC hpi
   obtain ⟨args,w',e1,e3⟩:=post (S pc) _ H' e2 g' W ev hopr hgl hbs
   refine .inr ⟨q,args,w',e1,e3.mono ?_⟩
   rintro e w'' ⟨g2,k1,k2,k3,k4,k6,k5⟩
   rw[hs',put_H]
   cases e with
   | returned c' =>
    refine⟨g2,k1,k2,fun b hb hb'=>k4 b (hlo' _ b hb hb') hb',k6,k5,fun _=>⟨by rw[hs',put_H]; exact k3,fun b hb hcb'=>?_⟩⟩
    rw[hs',put_H]
    cases hfr:cx.fre q with
    | true =>
     refine k4 b ?_ hb
     rw[hloC,hfr]
     exact hb
    | false=>exact(hcall.ct q _ _ _ _ (callable_lt hcb) (hc0.resolve_right (by rw[hfr]; simp)) (by omega) e2).2 b hcb'
   | panicked _=>exact k5.elim
   | outgrown=>exact k5.elim
 ·rcases hTe with ⟨hTe,_⟩ | ⟨o',y,H2,e0,e1,e2,e3⟩
  ·rw[oT (Nat.le_add_right _ _),show M+PT - M=PT by omega,hTe,List.getElem?_eq_none (Nat.le_refl _)] at hi
   cases hi
  ·rw[oT (Nat.le_add_right _ _),show M+PT - M=PT by omega,e0] at hi
   cases hi
   rw[hoc] at ho e1; cases ho; cases e1
   refine⟨H2,y,e3,fun g' W ev hopr hgl hbs=>?_⟩
   rw[sT (Nat.le_add_right _ _),show M+PT - M=PT by omega] at hopr hgl hbs ⊢
   obtain ⟨args,w',e1,e4⟩:=post (ST PT) _ H2 e2 g' W ev hopr hgl hbs
   refine .inr ⟨q,args,w',e1,e4.mono ?_⟩
   rintro e w'' ⟨g2,k1,k2,k3,k4,k6,k5⟩
   cases e with
   | returned _=>exact k5.elim
   | panicked ch =>
    obtain ⟨c',rfl,hv⟩:=k5
    exact⟨c',g2,rfl,k1,k2,k3,fun b hb hb'=>k4 b (hlo' _ b hb hb') hb',k6,hv⟩
   | outgrown=>exact k5.elim
 ·rcases hTe with ⟨hTe,hkT⟩ | ⟨o',y,H2,e0,_⟩
  ·rw[sT (Nat.le_add_right _ _),show M+PT - M=PT by omega]
   exact evOpsG_eq _ _ _ hkT
  ·have hl:PT=T.length:=by omega
   have e0':T[PT]? = some c:=e0
   rw[hl,List.getElem?_eq_none (Nat.le_refl _)] at e0'
   cases e0'
end Go.Proofs.Ytdmgdjnadbakfaa
