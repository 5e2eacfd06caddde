/-
 From what the interpreter answers to a law's statement: how arguments that came in are read as the interpreter's data.
-/
import Derived.Test.YtdmgdjnadbakfaaGreatEvAct
import Derived.LoopNIn
import Derived.RecoverIn
import Derived.Deep.QuietTactic
import Derived.BigQuiet
import Derived.WalkSmall
import Derived.Below
import Derived.ProofKit
import Derived.OpenShut
import Derived.ChangeOld
import Derived.Carry
namespace Go.Proofs.YtdmgdjnadbakfaaGreat
set_option linter.unusedVariables false
set_option linter.unusedSimpArgs false
set_option linter.defProp false
theorem XG {p:Prop} (h:p:=by rw[decide_eq_decide]; omega):p:=h
theorem XH {p:Prop} (h:p:=by rw[List.length_append]; omega):p:=h
def X0:=@decide_eq_false
def Yu:=@Nat.le_of_ble_eq_true
def YB:=@Nat.not_lt_zero
def YM:=@Bool.and_self
def YY:=@Bool.and_true
def Y2:=@List.mem_cons_of_mem
def Y3:=@List.drop_eq_nil_iff
def Zk:=@List.mem_cons_self
def Zo:=@Value.string.injEq
def Zu:=@decide_true
def Zw:=@Value.int.injEq
def Zy:=@Value.bool.injEq
def ZC:=@decide_false
def ZD:=@Nat.le_add_right
def ZY:=@List.reverse_singleton
def Z1:=@Nat.div_lt_iff_lt_mul
def qae:=@Oper.semAt_none
def qaf:=@and_true
def qag:=@true_and
def qah:=@not_true_eq_false
def qal:=@linearise_go_acc
def qam:=@Nat.mod_eq_of_lt
def qaD:=@beq_self_eq_true
def qaN:=@step_lone_go
def qaT:=@Bool.and_assoc
def qa9:=@Nat.sub_self
def qba:=@Frame.finish_atR
def qbb:=@decide_eq_decide
def qbl:=@fenced_calm
def qbs:=@List.take_left
def qbw:=@bounds_i64
def qbA:=@tryRecover_deferred
def qbF:=@Nat.sub_zero
def qbI:=@fenced_oper
def qbK:=@wpIn_seq
section
open Go.RowKit
variable {H H':aB} {g g':Gh} {w0 w w':World} {cx:Cx} {s:St} {a:Act} {F:Fence} {n:Nat} {N lo:Nat} {mb:Mb} {H0:aB} {gs:Gh} {ws:World} {Bs:aB->Gh->World->Prop} {f:Nat} {ops:Array Oper}
theorem my {o:Oper} (h:uX o=true):o.guard=none:=by
 unfold uX at h; split at h
 ·assumption
 ·cases h
theorem yF {call:bj} {k:List (Nat×A)->St->Option R} {r:R}:∀ (L:List Nat) (seen:List (Nat×A)) (s:St),Px cx call f ops L seen s k=some r ->
  ∃ (S:Nat->St) (x:Nat->A) (seen1:List (Nat×A)),S 0=s/\k seen1 (S L.length)=some r/\(∀ p∈seen,p∈seen1) ∧
   ∀ (p i:Nat),L[p]? = some i->∃ o,ops[i]? = some o/\o.guard=none/\(cd o=0∨(cd o=1/\(i,addrOf cx (S p) o.op)∈seen1)∨(cd o=2/\qy (partsOf cx (S p) o.op)=true))/\il cx call f o (S p)=some (x p)/\S (p+1)=(S p).put o.dst (x p)
 | [],seen,s,h=>⟨fun _=>s,fun _=>.any,seen,rfl,h,fun _ h=>h,fun p i hp=>by simp at hp⟩
 | i :: L,seen,s,h=>by
  unfold Px at h
  split at h
  ·cases h
  ·rename_i o ho
   obtain ⟨hc,h⟩:=br h
   obtain ⟨hfl,h⟩:=br h
   rw[Uj,XZ,YU,YU] at hc
   rw[sF] at h
   obtain ⟨x0,h1,h⟩:=bH h
   obtain ⟨S,x,seen1,e1,e2,e3,e4⟩:=yF L _ _ h
   refine⟨fun p=>match p with | 0=>s | p+1=>S p,fun p=>match p with | 0=>x0 | p+1=>x p,seen1,rfl,e2,fun p hp=>e3 p (by
    cases Nat.beq (cd o) 1 with
    | true=>exact Y2 _ hp
    | false=>exact hp),fun p j hj=>?_⟩
   cases p with
   | zero=>
    simp at hj
    subst hj
    refine⟨o,ho,my hc.1,?_,h1,e1⟩
    rcases hc.2 with (hk | hk) | hk
    ·exact .inl (beq_spec hk)
    ·exact .inr (.inl ⟨beq_spec hk,e3 _ (by rw[hk]; exact Zk ..)⟩)
    ·exact .inr (.inr ⟨beq_spec hk,by rw[hk] at hfl; exact hfl⟩)
   | succ p=>exact e4 p j (by simpa using hj)
def vf (cx:Cx) (call:bj) (f lo:Nat) (ops:Array Oper) (c q:Nat) (seen:List (Nat×A)) (i:Nat) (s:St) (x:A) (s':St):Prop:=
 ∃ o H',ops[i]? = some o/\s'=({ s with H:=H' }:St).put o.dst x ∧
  ((i≠c/\o.guard=none/\((dW o=true/\lH ops i (dE cx s o.op) seen=true)∨xj o.op=false)/\b7 cx f lo o s (fun a H=>some (a,H))=some (x,H')) ∨
   (i=c/\wh ops c (GK cx o) seen=true/\call q (fm cx s o.op) s.H (Gs cx o lo s.H)=some (.ret x,H')))
theorem yK {call:bj} {c q:Nat} {kp:A->aB->Option R} {k:St->Option R} {r:R} {seen:List (Nat×A)} (hq:∀ o,ops[c]? = some o->∀ (s:St) (lo':Nat) (k:A->aB->Option R) (kp:A->aB->Option R),dJ cx call (jz cx s o.op) (fm cx s o.op) s.H lo' k kp=(call q (fm cx s o.op) s.H lo').bind fun r=>cf r.1 (fun a=>k a r.2) (fun a=>kp a r.2)) :
  ∀ (L:List Nat) (s:St),Lr cx call f lo ops c kp L seen s k=some r ->
  ∃ (S:Nat->St) (x:Nat->A) (P:Nat),S 0=s/\P<=L.length/\(∀ p i,p<P->L[p]? = some i->vf cx call f lo ops c q seen i (S p) (x p) (S (p+1))) ∧
   ((P=L.length/\k (S P)=some r)∨(∃ o y H2,L[P]? = some c/\ops[c]? = some o/\call q (fm cx (S P) o.op) (S P).H (Gs cx o lo (S P).H)=some (.pan y,H2)/\kp y H2=some r))
 | [],s,h=>⟨fun _=>s,fun _=>.any,0,rfl,X1 _,fun p i hp _=>absurd hp (YB _),.inl ⟨rfl,h⟩⟩
 | i :: L,s,h=>by
  unfold Lr at h
  split at h
  ·cases h
  rename_i o ho
  have go:∀ (x0:A) (H':aB),vf cx call f lo ops c q seen i s x0 (({ s with H:=H' }:St).put o.dst x0)->Lr cx call f lo ops c kp L seen (({ s with H:=H' }:St).put o.dst x0) k=some r ->
    ∃ (S:Nat->St) (x:Nat->A) (P:Nat),S 0=s/\P<=(i :: L).length/\(∀ p j,p<P->(i :: L)[p]? = some j->vf cx call f lo ops c q seen j (S p) (x p) (S (p+1))) ∧
     ((P=(i :: L).length/\k (S P)=some r)∨(∃ o y H2,(i :: L)[P]? = some c/\ops[c]? = some o/\call q (fm cx (S P) o.op) (S P).H (Gs cx o lo (S P).H)=some (.pan y,H2)/\kp y H2=some r)):=fun x0 H' hst h=>by
   obtain ⟨S,x,P,e1,e2,e3,e4⟩:=yK hq L _ h
   refine⟨fun p=>match p with | 0=>s | p+1=>S p,fun p=>match p with | 0=>x0 | p+1=>x p,P+1,rfl,Nat.succ_le_succ e2,fun p j hp hj=>?_,?_⟩
   ·cases p with
    | zero=>
     simp at hj
     subst hj
     show vf cx call f lo ops c q seen i s x0 (S 0)
     rw[e1]; exact hst
    | succ p=>exact e3 p j j6 (by simpa using hj)
   ·rcases e4 with ⟨e4,e5⟩ | ⟨o,y,H2,e4,e5⟩
    ·exact .inl ⟨by rw[e4]; rfl,e5⟩
    ·exact .inr ⟨o,y,H2,by simpa using e4,e5⟩
  cases hic:Nat.beq i c with
  | true=>
   rw[hic] at h
   simp only[XY] at h
   obtain rfl:=Yq hic
   obtain ⟨hsn,h⟩:=br h
   rw[hq o ho] at h
   obtain ⟨⟨out,H2⟩,hcl,h⟩:=bH h
   cases out with
   | pan y=>exact⟨fun _=>s,fun _=>.any,0,rfl,YT _,fun p i hp _=>absurd hp (YB _),.inr ⟨o,y,H2,rfl,ho,hcl,h⟩⟩
   | ret v=>exact go v H2 ⟨o,H2,ho,rfl,.inr ⟨rfl,hsn,hcl⟩⟩ h
  | false=>
   rw[hic] at h
   simp only[XX] at h
   obtain ⟨hc,h⟩:=br h
   obtain ⟨hs,h⟩:=br h
   rw[Ul,XZ,XZ,YU,Za] at hc
   rw[iZ] at h
   obtain ⟨⟨x0,H'⟩,h1,h⟩:=bH h
   refine go x0 H' ⟨o,H',ho,rfl,.inl ⟨fun e=>by subst e; simp at hic,my hc.1.1,?_,h1⟩⟩ h
   rcases hc.1.2 with hk | hk
   ·exact .inl ⟨hk,by rw[hk] at hs; exact hs⟩
   ·exact .inr hk
theorem Bb {call:bj} (hcall:ek cx Bs call) (hb0:Bs H0 gs ws) (horc:kC cx) (hF:g9 F) (hmx:cx.P.follows .mixedOrders=true) {k:E->St->Option R} {r:R} {Q:Exit->Act->World->Prop} {m:Nat} (iX:uY ops N=true) (chkt:fO ops m=true)
  (hg:Good cx N mb lo H0 gs ws w0 s g a w) (hd:∀ o∈ops.toList,∀ d,o.dst=some d->d<N)
  (O:List Nat) (M P pc:Nat) (S:Nat->St) (x:Nat->A) (hM:M<=P) (hpc:M<=pc) (hP:P<=O.length) (hO:∀ i:Nat,i<m->∃ p:Nat,O[p]? = some i) (hOs:∀ p i:Nat,O[p]? = some i->i<m) (hnd:∀ p q i:Nat,O[p]? = some i->O[q]? = some i->p=q)
  (hdep:∀ p q i j:Nat,O[p]? = some i->O[q]? = some j->fX ops i j=true->q<p) (hE:∀ p q i j:Nat,M<=q->q<p->O[p]? = some i->O[q]? = some j->fX ops i j=true)
  (h0:S 0=s) (hH:∀ p,p<=M->(S p).H=s.H) (hgd:∀ (p i:Nat) (o:Oper),O[p]? = some i->ops[i]? = some o->o.guard=none)
  (hlk:∀ (p i:Nat) (o:Oper),p<P->O[p]? = some i->ops[i]? = some o->∀ t,look (S (p+1)).fr t=if o.dst=some t then x p else look (S p).fr t)
  (Z:Prop) (hlen:∀ p,M<=p->p<P->(pc<=p->Z)->(S p).H.length<=(S (p+1)).H.length)
  (hpure:∀ (p i:Nat) (o:Oper),p<M->O[p]? = some i->ops[i]? = some o->∀ e,M+e<=P->(pc<M+e->Z)->(∀ q j:Nat,M<=q->q<M+e->O[q]? = some j->gb ops i j)->il cx call f o ⟨(S p).fr,(S (M+e)).H⟩=some (x p))
  (heff:∀ (p i:Nat) (o:Oper),M<=p->p<P->O[p]? = some i->ops[i]? = some o->∀ (g':Gh) (W:World) (ev:Operand->Value),uK cx (S p) g' w0 o.op ev W->(∀ (G:Nat) (vs:List Value),cx.glob G=some vs->bQ (S p).H g' W G 0 vs)->Bs (S p).H g' W ->
   GA F n cx.P o ev W (fun v w'=>∃ g2,Rel (S (p+1)).H g2 w0 w'/\Ext (S p).H g' W (S (p+1)).H g2 w'/\(∀ b,b<lo->b<(S p).H.length->(S (p+1)).H[b]? = (S p).H[b]?)/\g2.S=g'.S/\VR (S (p+1)).H g2 w' (x p) v/\(p=pc->Z)) (fun _ _=>False))
  (hpan:∀ (i:Nat) (o:Oper),O[P]? = some i->ops[i]? = some o->∃ (H2:aB) (y:A),k (.pan y) ⟨[],H2⟩=some r/\∀ (g':Gh) (W:World) (ev:Operand->Value),uK cx (S P) g' w0 o.op ev W->(∀ (G:Nat) (vs:List Value),cx.glob G=some vs->bQ (S P).H g' W G 0 vs)->Bs (S P).H g' W ->
   GA F n cx.P o ev W (fun _ _=>False) (fun ch w'=>∃ c g2,ch=[{ v:=c,recovered:=false }]/\Rel H2 g2 w0 w'/\Ext (S P).H g' W H2 g2 w'/\(S P).H.length<=H2.length/\(∀ b,b<lo->b<(S P).H.length->H2[b]? = (S P).H[b]?)/\g2.S=g'.S/\VR H2 g2 w' y c))
  (hend:P=O.length->gk cx call f lo ops (ops.toList.drop m) (S P) k=some r)
  (hk:∀ s' g' a' w',Good cx N mb lo H0 gs ws w0 s' g' a' w'->k .normal s'=some r->Q .normal a' w')
  (hp:∀ x s' g' a' w' c,Good cx N mb lo H0 gs ws w0 s' g' a' w'->VR s'.H g' w' x c->k (.pan x) s'=some r->Q (.panic [{ v:=c,recovered:=false }]) a' w'):LW F n cx.P ops Q a w:=by
 have hr:=hg.sr.rel
 have hm2:m<=ops.size:=by
  simp only[fO,XZ,X6] at chkt
  exact chkt.1.1
 have hdst:∀ {i o},ops[i]? = some o->cK ops i=o.dst:=fun {i o} ho=>by unfold cK; rw[ho]; rfl
 have hop:∀ {p i:Nat},O[p]? = some i->∃ o,ops[i]? = some o:=fun {p i} h=>⟨_,Y1 (Yh (hOs _ _ h) hm2)⟩
 have hdlt:∀ {i t},cK ops i=some t->∃ o,ops[i]? = some o/\o.dst=some t:=fun {i t} h=>by
  unfold cK at h
  cases ho:ops[i]? with
  | none=>rw[ho] at h; cases h
  | some o=>rw[ho] at h; exact⟨o,rfl,h⟩
 have hat:∀ p:Nat,p<O.length->∃ (i:Nat) (o:Oper),O[p]? = some i/\ops[i]? = some o:=fun p h=>by
  have h1:=X3 h
  obtain ⟨o,ho⟩:=hop h1
  exact⟨_,o,h1,ho⟩
 have lookA:∀ t q j:Nat,O[q]? = some j->cK ops j=some t->∀ p,q<p->p<=P->look (S p).fr t=x q:=by
  intro t q j hq hj p
  obtain ⟨oj,hoj,hdj⟩:=hdlt hj
  induction p with
  | zero=>intro h; omega
  | succ p ih=>
   intro h1 h2
   by_cases e:q=p
   ·subst e; rw[hlk q j oj j6 hq hoj,X4 hdj]
   ·obtain ⟨i,o,hi,ho⟩:=hat p j6
    obtain ⟨c4,_⟩:=nk iX ho
    rw[hlk p i o j6 hi ho,X8 fun hdo=>c4 j t (fun e2=>e (hnd q p j hq (e2 ▸ hi))) hdo hj]
    exact ih j6 j6
 have lookB:∀ t p:Nat,p<=P->(∀ q j:Nat,q<p->O[q]? = some j->cK ops j≠some t)->look (S p).fr t=look s.fr t:=by
  intro t p
  induction p with
  | zero=>intro _ _; rw[h0]
  | succ p ih=>
   intro h1 h2
   obtain ⟨i,o,hi,ho⟩:=hat p j6
   rw[hlk p i o j6 hi ho,X8 fun hdo=>h2 p i j6 hi (by rw[hdst ho]; exact hdo)]
   exact ih j6 fun q j hq hj=>h2 q j j6 hj
 have lenM:∀ e,M+e<=P->(pc<M+e->Z)->s.H.length<=(S (M+e)).H.length:=by
  intro e
  induction e with
  | zero=>intro _ _; rw[Zr,hH M (X1 _)]; exact X1 _
  | succ e ih=>intro h hz; exact Yp (ih j6 (fun h=>hz j6)) (hlen (M+e) j6 j6 (fun h=>hz j6))
 refine ur (F:=F) ⟨hF.1,hF.2.1⟩ hmx N m hg.siz iX chkt (fun D a' W=>∃ (e:Nat) (g':Gh),M+e<=P/\(pc<M+e->Z)/\(∀ q j:Nat,M<=q->O[q]? = some j->(D j↔q<M+e))/\Rel (S (M+e)).H g' w0 W/\Ext s.H g w (S (M+e)).H g' W/\(∀ b,b<lo->b<s.H.length->(S (M+e)).H[b]? = s.H[b]?)/\g'.S=g.S ∧
   (∀ q j t:Nat,O[q]? = some j->cK ops j=some t->D j->VR (S (M+e)).H g' W (x q) (slot a' t))/\(∀ t,(∀ j,j<m->cK ops j=some t->¬ D j)->VR (S (M+e)).H g' W (look s.fr t) (slot a' t))) ?_ ?_ ?_
 ·intro D hD
  have hb:=Ext.below hr (Below.refl w.heap.size w).drew
  refine⟨0,g,hM,fun h=>j6,fun q j hq _=>⟨fun h=>absurd h (hD j),fun h=>j6⟩,?_,?_,fun b _ _=>?_,rfl,fun q j t _ _ h=>absurd h (hD j),fun t _=>?_⟩
  ·rw[Zr,hH M (X1 _)]; exact hr.jB (Below.refl _ _).drew
  ·rw[Zr,hH M (X1 _)]; exact hb
  ·rw[Zr,hH M (X1 _)]
  ·rw[Zr,hH M (X1 _)]; exact VR.ext hb _ _ (hg.sr.fr t)
 ·rintro D D' i o him ho hDm hDi hbef hcl hD' a' W ⟨e,g',heP,heZ,hDe,hrW,heW,hlow,hgS,hv1,hv2⟩ hsz hdf
  obtain ⟨p,hpi⟩:=hO i him
  have hpl:p<O.length:=(X2.1 hpi).1
  obtain ⟨c4,c5⟩:=nk iX ho
  rw[X4 (by simp[Region.wanted,hgd p i o hpi ho])]
  have hbs:Bs (S (M+e)).H g' W:=hcall.up _ _ _ _ _ _ hb0 (hg.ext.trans heW)
  have hgl:∀ (G:Nat) (vs:List Value),cx.glob G=some vs->bQ (S (M+e)).H g' W G 0 vs:=fun G vs hG=>(hg.sr.gl G vs hG).ext heW
  have hlook:p<=P->∀ t∈o.looksAt ops,VR (S (M+e)).H g' W (look (S p).fr t) (a'.tmps.getD t undef):=fun hpP t ht=>by
   by_cases hj:∃ j,cK ops j=some t/\fX ops i j=true
   ·obtain ⟨j,hjt,hjb⟩:=hj
    obtain ⟨oj,hoj,_⟩:=hdlt hjt
    obtain ⟨q,hq⟩:=hO j (Nat.lt_trans (oH iX (gC i j hjb)) him)
    have hqp:=hdep p q i j hpi hq hjb
    rw[lookA t q j hq hjt p hqp hpP]
    exact hv1 q j t hq hjt (hbef j hjb)
   ·have hno:∀ j,cK ops j=some t->fX ops i j=false:=fun j hjt=>by
     cases hb:fX ops i j with
     | false=>rfl
     | true=>exact absurd ⟨j,hjt,hb⟩ hj
    rw[lookB t p hpP fun q j hq hqj hjt=>by
     rcases c5 j t hjt ht with h | h | h
     ·subst h; have:=hnd p q i hpi hqj; omega
     ·rw[hno j hjt] at h; cases h
     ·have:=hdep q p j i hqj hpi h; omega]
    exact hv2 t fun j _ hjt hDj=>by
     rcases c5 j t hjt ht with h | h | h
     ·subst h; exact hDi hDj
     ·rw[hno j hjt] at h; cases h
     ·exact hDi (hcl j i hDj h)
  have hopr:p<=P->uK cx ⟨(S p).fr,(S (M+e)).H⟩ g' w0 o.op a'.eval W:=fun hpP=>⟨hrW,fun y hy=>p0 (fun t ht=>by
    refine hlook hpP t ?_
    subst ht
    unfold Oper.looksAt
    exact Y6.2 (.inl (qaV.2 ⟨.tmp t,hy,rfl⟩))) hgl,fun _=>rfl⟩
  have fin:p<P->∀ (e':Nat) (g2:Gh) (W':World) (v:Value),M+e'<=P->(pc<M+e'->Z)->(∀ q j:Nat,M<=q->O[q]? = some j->(D' j↔q<M+e'))->Rel (S (M+e')).H g2 w0 W'->Ext (S (M+e)).H g' W (S (M+e')).H g2 W'->(∀ b,b<lo->b<s.H.length->(S (M+e')).H[b]? = s.H[b]?)->g2.S=g.S->VR (S (M+e')).H g2 W' (x p) v ->
    ∃ (e:Nat) (g':Gh),M+e<=P/\(pc<M+e->Z)/\(∀ q j:Nat,M<=q->O[q]? = some j->(D' j↔q<M+e))/\Rel (S (M+e)).H g' w0 W'/\Ext s.H g w (S (M+e)).H g' W'/\(∀ b,b<lo->b<s.H.length->(S (M+e)).H[b]? = s.H[b]?)/\g'.S=g.S ∧
     (∀ q j t:Nat,O[q]? = some j->cK ops j=some t->D' j->VR (S (M+e)).H g' W' (x q) (slot (a'.put o.dst v) t))/\(∀ t,(∀ j,j<m->cK ops j=some t->¬ D' j)->VR (S (M+e)).H g' W' (look s.fr t) (slot (a'.put o.dst v) t)):=by
   intro hpP e' g2 W' v h1 hz' h2 h3 h4 h5 h6 h7
   refine⟨e',g2,h1,hz',h2,h3,heW.trans h4,h5,h6,fun q j t hq hjt hDj=>?_,fun t ht=>?_⟩
   ·rcases (hD' j).1 hDj with rfl | hDj
    ·have hdt:o.dst=some t:=by rw[<-hdst ho]; exact hjt
     rw[hdt,fK (by rw[hsz]; exact hd o (by rw[<-Array.mem_def]; exact qbr ho) t hdt),hnd q p j hq hpi]
     exact h7
    ·have hne:j≠i:=fun e=>hDi (e ▸ hDj)
     rw[dV (fun hdt=>c4 j t (YW hne) hdt hjt)]
     exact VR.ext h4 _ _ (hv1 q j t hq hjt hDj)
   ·rw[dV (fun hdt=>ht i him (by rw[hdst ho]; exact hdt) ((hD' i).2 (.inl rfl)))]
    exact VR.ext h4 _ _ (hv2 t (fun j hjm hjt hDj=>ht j hjm hjt ((hD' j).2 (.inr hDj))))
  by_cases hpM:p<M
  ·
   have hun:∀ q j:Nat,M<=q->q<M+e->O[q]? = some j->gb ops i j:=fun q j hq1 hq2 hq=>by
    unfold gb
    rw[YO]
    constructor
    ·cases hb:fX ops i j with
     | false=>rfl
     | true=>have:=hdep p q i j hpi hq hb; omega
    ·cases hb:fX ops j i with
     | false=>rfl
     | true=>exact absurd (hcl j i ((hDe q j hq1 hq).2 hq2) hb) hDi
   have hev:=hpure p i o hpM hpi ho e heP heZ hun
   refine .inl ((nV hcall horc hev F n g' w0 W a'.eval hF (hopr j6) hgl hbs).mono ?_)
   rintro v w' ⟨k1,k2,k3⟩
   refine fin j6 e g' w' v heP heZ (fun q j hq1 hq=>⟨fun h=>?_,fun h=>(hD' j).2 (.inr ((hDe q j hq1 hq).2 h))⟩) k2 k3 hlow hgS k1
   rcases (hD' j).1 h with rfl | h
   ·have:=hnd p q j hpi hq; omega
   ·exact(hDe q j hq1 hq).1 h
  ·
   have hpe:p=M+e:=by
    have h1:¬ p<M+e:=fun h=>hDi ((hDe p i j6 hpi).2 h)
    refine qaK (ZT fun h2=>?_) j6
    obtain ⟨j,oj,hj,_⟩:=hat (M+e) j6
    have:=(hDe (M+e) j j6 hj).1 (hbef j (hE p (M+e) i j j6 h2 hpi hj))
    omega
   subst hpe
   by_cases hpP:M+e<P
   ·refine(heff (M+e) i o j6 hpP hpi ho g' W a'.eval (hopr j6) hgl hbs).elim (fun h=>.inl (h.mono ?_)) fun ⟨f',args,w',h1,h2⟩=>.inr ⟨f',args,w',h1,h2.mono fun e' w'' h=>?_⟩
    ·rintro v w' ⟨g2,k1,k2,k3,k4,k5,k6⟩
     refine fin hpP (e+1) g2 w' v j6 (fun _=>if he0:pc<M+e then heZ he0 else k6 j6) (fun q j hq1 hq=>⟨fun h=>?_,fun h=>?_⟩) k1 k2 (fun b hb hb'=>?_) (k4.trans hgS) k5
     ·rcases (hD' j).1 h with rfl | h
      ·have:=hnd (M+e) q j hpi hq; omega
      ·have:=(hDe q j hq1 hq).1 h; omega
     ·refine(hD' j).2 ?_
      by_cases hq2:q=M+e
      ·subst hq2; rw[hq] at hpi; exact .inl (by cases hpi; rfl)
      ·exact .inr ((hDe q j hq1 hq).2 j6)
     ·rw[show M+(e+1)=M+e+1 from rfl,k3 b hb (Yh hb' (lenM e heP heZ))]; exact hlow b hb hb'
    ·cases e' with
     | returned v=>
      obtain ⟨g2,k1,k2,k3,k4,k5,k6⟩:=h
      refine fin hpP (e+1) g2 w'' v j6 (fun _=>if he0:pc<M+e then heZ he0 else k6 j6) (fun q j hq1 hq=>⟨fun h=>?_,fun h=>?_⟩) k1 k2 (fun b hb hb'=>?_) (k4.trans hgS) k5
      ·rcases (hD' j).1 h with rfl | h
       ·have:=hnd (M+e) q j hpi hq; omega
       ·have:=(hDe q j hq1 hq).1 h; omega
      ·refine(hD' j).2 ?_
       by_cases hq2:q=M+e
       ·subst hq2; rw[hq] at hpi; exact .inl (by cases hpi; rfl)
       ·exact .inr ((hDe q j hq1 hq).2 j6)
      ·rw[show M+(e+1)=M+e+1 from rfl,k3 b hb (Yh hb' (lenM e heP heZ))]; exact hlow b hb hb'
     | panicked ch=>exact h.elim
     | outgrown=>exact h.elim
   ·obtain rfl:P=M+e:=by omega
    obtain ⟨H2,y,hky,hst⟩:=hpan i o hpi ho
    have pan:∀ (ch:List PanicEntry) (w':World),(∃ c g2,ch=[{ v:=c,recovered:=false }]/\Rel H2 g2 w0 w'/\Ext (S (M+e)).H g' W H2 g2 w'/\(S (M+e)).H.length<=H2.length/\(∀ b,b<lo->b<(S (M+e)).H.length->H2[b]? = (S (M+e)).H[b]?)/\g2.S=g'.S/\VR H2 g2 w' y c)->Q (.panic ch) a' w':=by
     rintro ch w' ⟨c,g2,rfl,k1,k2,k3,k4,k5,k6⟩
     have hx:=heW.trans k2
     refine hp y ⟨[],H2⟩ g2 a' w' c ⟨⟨k1,fun t=>by rw[show look [] t=.any from rfl,VR]; trivial,fun G vs hG=>(hg.sr.gl G vs hG).ext hx⟩,hg.ext.trans hx,Yp hg.len (Yp (lenM e heP heZ) k3),fun b hb hb'=>?_,hsz,?_,Yp hg.mbw hx.size,k5.trans (hgS.trans hg.st)⟩ k6 hky
     ·have hb2:b<s.H.length:=Yh hb' hg.len
      show H2[b]? = _
      rw[k4 b hb (Yh hb2 (lenM e heP heZ)),hlow b hb hb2]
      exact hg.low b hb hb'
     ·rw[hdf]; exact hg.dfr.m9 hx.kept
    refine(hst g' W a'.eval (hopr (X1 _)) hgl hbs).elim (fun h=>.inl (h.mono fun _ _ h=>h.elim)) fun ⟨f',args,w',h1,h2⟩=>.inr ⟨f',args,w',h1,h2.mono fun e' w'' h=>?_⟩
    cases e' with
    | returned v=>exact h.elim
    | panicked ch=>exact pan ch w'' h
    | outgrown=>exact h.elim
 ·rintro D a' W hall hDm ⟨e,g',heP,heZ,hDe,hrW,heW,hlow,hgS,hv1,hv2⟩ hdf hsz
  have hdone:M+e=O.length:=by
   refine qaK j6 (ZT fun hlt=>?_)
   obtain ⟨j,oj,hj,_⟩:=hat (M+e) hlt
   have:=(hDe (M+e) j j6 hj).1 (hall j (hOs _ _ hj))
   omega
  obtain rfl:P=M+e:=j6
  refine gm (f:=f) (ops:=ops) hcall hb0 horc hF hk hp _ (S (M+e)) g' a' W (fun o ho=>hd o (YC ho)) ⟨⟨hrW,fun t=>?_,fun G vs hG=>(hg.sr.gl G vs hG).ext heW⟩,hg.ext.trans heW,Yp hg.len (lenM e heP heZ),fun b hb hb'=>?_,hsz,by rw[hdf]; exact hg.dfr.m9 heW.kept,Yp hg.mbw heW.size,hgS.trans hg.st⟩ (hend hdone)
  ·by_cases ht:∃ q j:Nat,O[q]? = some j/\cK ops j=some t
   ·obtain ⟨q,j,hq,hjt⟩:=ht
    rw[lookA t q j hq hjt (M+e) (by have:=(X2.1 hq).1; omega) (X1 _)]
    exact hv1 q j t hq hjt (hall j (hOs q j hq))
   ·rw[lookB t (M+e) (X1 _) fun q j _ hq hjt=>ht ⟨q,j,hq,hjt⟩]
    exact hv2 t fun j hj hjt=>absurd (let ⟨q,hq⟩:=hO j hj; ⟨q,j,hq,hjt⟩) ht
  ·have hb2:b<s.H.length:=Yh hb' hg.len
   rw[hlow b hb hb2]; exact hg.low b hb hb'
theorem zj {o:Oper} (h:xk cx o=true):∃ c q,o.op=.call c/\c.callee=.value (.func q)/\db cx.P q=true/\cx.isOrc q=false/\(cx.cut q≠0∨cx.fre q=true)/\GK cx o=cx.cut q/\(∀ lo H,Gs cx o lo H=bif cx.fre q then H.length else lo):=by
 unfold xk at h
 split at h
 ·rename_i c ho
  split at h
  ·rename_i q hq
   simp only[XZ,Za,YU] at h
   refine⟨c,q,ho,hq,h.1.1,h.1.2,h.2.imp (fun h e=>by rw[e] at h; cases h) id,by unfold GK; rw[ho]; simp only[hq],fun lo H=>by unfold Gs; rw[ho]; simp only[hq]⟩
  ·cases h
 ·cases h
theorem rM:∀ {L ps:List Nat},wP ops ps L=true->(∀ k∈ps,∀ i∈L,fX ops i k=true)/\L.Pairwise fun k i=>fX ops i k=true
 | [],ps,_=>⟨fun _ _ _ h=>(by cases h),.nil⟩
 | t :: L,ps,h=>by
  unfold wP at h
  have h1:ps.all (fun p=>fX ops t p)=true:=by cases hh:ps.all (fun p=>fX ops t p)<;>simp_all
  rw[h1] at h
  obtain ⟨h2,h3⟩:=rM (L:=L) (ps:=t :: ps) h
  refine⟨fun k hk i hi=>?_,.cons (fun i hi=>h2 t r7 i hi) h3⟩
  rcases YJ.1 hi with rfl | hi
  ·exact Yb.1 h1 k hk
  ·exact h2 k (by simp[hk]) i hi
theorem sv (p:Nat->Bool) (n:Nat):((List.range n).filter p).Pairwise (· < ·):=List.Pairwise.filter _ List.pairwise_lt_range
theorem xH {α:Type} {R:α->α->Prop} {L:List α} (h:L.Pairwise R) {p q:Nat} {x y:α} (hp:L[p]? = some x) (hq:L[q]? = some y) (hpq:p<q):R x y:=by
 obtain ⟨h1,rfl⟩:=X2.1 hp
 obtain ⟨h2,rfl⟩:=X2.1 hq
 exact List.pairwise_iff_getElem.1 h p q h1 h2 hpq
theorem p4 {c m:Nat}:∀ {l:List (Nat×A)},wh ops c m l=true->∀ p∈l,fX ops c p.1=false->∀ b,blk? p.2=some b->m<=b
 | [],_,p,hp,_,_,_=>by cases hp
 | q :: l,h,p,hp,hb,b,hbl=>by
  unfold wh at h
  cases hq:fX ops c q.1 with
  | true=>
   rw[hq] at h
   rcases YJ.1 hp with rfl | hp
   ·rw[hq] at hb; cases hb
   ·exact p4 h p hp hb b hbl
  | false=>
   rw[hq] at h
   simp only[XX] at h
   cases hm:cN m q.2 with
   | false=>rw[hm] at h; cases h
   | true=>
    rw[hm] at h
    rcases YJ.1 hp with rfl | hp
    ·unfold cN at hm
     rw[hbl] at hm
     exact Yu hm
    ·exact p4 h p hp hb b hbl
theorem yJ {call:bj} (hcall:ek cx Bs call) (hb0:Bs H0 gs ws) (horc:kC cx) (hF:g9 F) (hmx:cx.P.follows .mixedOrders=true) {c:Nat} {k:E->St->Option R} {r:R} {Q:Exit->Act->World->Prop}
  (hg:Good cx N mb lo H0 gs ws w0 s g a w) (hd:∀ o∈ops.toList,∀ d,o.dst=some d->d<N) (h:BV cx call f lo N ops c s k=some r)
  (hk:∀ s' g' a' w',Good cx N mb lo H0 gs ws w0 s' g' a' w'->k .normal s'=some r->Q .normal a' w')
  (hp:∀ x s' g' a' w' c,Good cx N mb lo H0 gs ws w0 s' g' a' w'->VR s'.H g' w' x c->k (.pan x) s'=some r->Q (.panic [{ v:=c,recovered:=false }]) a' w'):LW F n cx.P ops Q a w:=by
 unfold BV at h
 split at h
 ·cases h
 rename_i oc hoc
 obtain ⟨m,hm0,h⟩:=bH h
 have hmt:fO ops m=true:=by
  unfold rC at hm0
  exact List.find?_some hm0
 have hm2:m<=ops.size:=by
  simp only[fO,XZ,X6] at hmt
  exact hmt.1.1
 obtain ⟨hchk,h⟩:=br h
 simp only[JT,XZ] at hchk
 obtain ⟨⟨⟨⟨⟨hcg,hcut⟩,iX⟩,hch⟩,hcl⟩,hTm⟩:=hchk
 obtain ⟨SL,xL,seen,hS0,h,_,hL⟩:=yF _ _ _ h
 obtain ⟨cc,q,hop,hcal,hcb,hno,hc0,hcm,hloC⟩:=zj hcut
 let L1:=CA ops c m
 let T:=re ops c m
 let M:=L1.length
 have hlt:∀ {i j},fX ops i j=true->j<i:=fun {i j} hb=>oH iX (gC i j hb)
 have memL:∀ {i},i∈L1↔i<m/\i ∉ T:=fun {i}=>by
  simp only[L1,CA,qaJ,Yn,Yb,Za]
  refine and_congr_right fun _=>⟨fun h hi=>?_,fun h j hj=>?_⟩
  ·have:=h i hi; simp at this
  ·cases hb:Nat.beq i j with
   | false=>rfl
   | true=>exact absurd (Yq hb ▸ hj) h
 have hTm:∀ i∈T,i<m:=fun i hi=>Yu (Yb.1 hTm i hi)
 have hcl:∀ i∈L1,∀ j∈T,fX ops i j=false:=fun i hi j hj=>by
  have:=Yb.1 (Yb.1 hcl i hi) j hj
  simpa using this
 have hcT:c∈T:=by
  show c∈NO ops c m++c :: _
  simp
 have pwL:L1.Pairwise (· < ·):=sv _ _
 have hch2:=(rM hch).2
 have pwT:T.Pairwise (· < ·):=hch2.imp fun h=>hlt h
 obtain ⟨pt,hpt,hpt2⟩:=YR hcT
 have hptc:T[pt]? = some c:=by rw[X3 hpt,hpt2]
 let O:=L1++T
 have oL:∀ {p:Nat},p<M->O[p]? = L1[p]?:=fun {p} hp=>Yf hp
 have oT:∀ {p:Nat},M<=p->O[p]? = T[p - M]?:=fun {p} hp=>Yo hp
 have hOl:O.length=M+T.length:=Ye
 have kinds:∀ {p i:Nat},O[p]? = some i->(p<M/\L1[p]? = some i/\i<m/\i ∉ T)∨(M<=p/\T[p - M]? = some i/\i∈T):=fun {p i} hp=>by
  rcases ZZ p M with h1 | h1
  ·rw[oL h1] at hp
   exact .inl ⟨h1,hp,memL.1 (Yk hp)⟩
  ·rw[oT h1] at hp
   exact .inr ⟨h1,hp,Yk hp⟩
 have hO:∀ i:Nat,i<m->∃ p:Nat,O[p]? = some i:=fun i hi=>by
  have:i∈O:=by
   show i∈L1++T
   rw[Y6]
   by_cases e:i∈T
   ·exact .inr e
   ·exact .inl (memL.2 ⟨hi,e⟩)
  obtain ⟨p,hp,he⟩:=YR this
  exact⟨p,by rw[X3 hp,he]⟩
 have hOs:∀ p i:Nat,O[p]? = some i->i<m:=fun p i hp=>by
  rcases kinds hp with ⟨_,_,h,_⟩ | ⟨_,_,h⟩
  ·exact h
  ·exact hTm i h
 have pos:∀ {L:List Nat} {p q i j:Nat},L.Pairwise (· < ·)->L[p]? = some i->L[q]? = some j->j<i->q<p:=fun {L p q i j} pw hp hq hji=>by
  refine Zq fun hle=>?_
  rcases Nat.lt_or_eq_of_le hle with h | h
  ·have:=xH pw hp hq h; omega
  ·subst h; rw[hp] at hq; cases hq; omega
 have inj:∀ {L:List Nat} {p q i:Nat},L.Pairwise (· < ·)->L[p]? = some i->L[q]? = some i->p=q:=fun {L p q i} pw hp hq=>by
  rcases Nat.lt_trichotomy p q with h | h | h
  ·have:=xH pw hp hq h; omega
  ·exact h
  ·have:=xH pw hq hp h; omega
 have hnd:∀ p q i:Nat,O[p]? = some i->O[q]? = some i->p=q:=fun p q i hp hq=>by
  rcases kinds hp with ⟨a1,a2,_,a3⟩ | ⟨a1,a2,a3⟩<;>rcases kinds hq with ⟨b1,b2,_,b3⟩ | ⟨b1,b2,b3⟩
  ·exact inj pwL a2 b2
  ·exact absurd b3 a3
  ·exact absurd a3 b3
  ·have:=inj pwT a2 b2; omega
 have hdep:∀ p q i j:Nat,O[p]? = some i->O[q]? = some j->fX ops i j=true->q<p:=fun p q i j hp hq hb=>by
  have hji:=hlt hb
  rcases kinds hp with ⟨a1,a2,_,a3⟩ | ⟨a1,a2,a3⟩<;>rcases kinds hq with ⟨b1,b2,_,b3⟩ | ⟨b1,b2,b3⟩
  ·exact pos pwL a2 b2 hji
  ·rw[hcl i (Yk a2) j b3] at hb; cases hb
  ·omega
  ·have:=pos pwT a2 b2 hji; omega
 have hE:∀ p q i j:Nat,M<=q->q<p->O[p]? = some i->O[q]? = some j->fX ops i j=true:=fun p q i j hq0 hqp hp hq=>by
  rw[oT j6] at hp; rw[oT hq0] at hq
  exact xH hch2 hq hp j6
 have gL:∀ {p i:Nat} {o:Oper},L1[p]? = some i->ops[i]? = some o->o.guard=none/\(cd o=0∨(cd o=1/\(i,addrOf cx (SL p) o.op)∈seen)∨(cd o=2/\qy (partsOf cx (SL p) o.op)=true))/\il cx call f o (SL p)=some (xL p)/\SL (p+1)=(SL p).put o.dst (xL p):=fun {p i o} hp ho=>by
  obtain ⟨o',e1,e2⟩:=hL p i hp
  rw[ho] at e1; cases e1
  exact e2
 have hSH:∀ p,p<=M->(SL p).H=s.H:=fun p=>by
  induction p with
  | zero=>intro _; rw[hS0]
  | succ p ih=>
   intro hp
   obtain ⟨i,hi⟩:∃ i,L1[p]? = some i:=⟨_,X3 (by show p<M; omega)⟩
   obtain ⟨o,ho⟩:∃ o,ops[i]? = some o:=⟨_,Y1 (Yh (memL.1 (Yk hi)).1 hm2)⟩
   rw[(gL hi ho).2.2.2,gP]; exact ih j6
 obtain ⟨ST,xT,PT,hT0,hPT,hT,hTe⟩:=yK (q:=q) (fun o ho s lo' k kp=>by
  rw[hoc] at ho; cases ho
  have hfv:jz cx s oc.op=.fn (.func q) [] []:=by unfold jz; rw[hop]; simp only[hcal]; rfl
  rw[hfv]
  simp only[dJ,hcb,hno,XY,XX,Y5,YG]) _ _ h
 have hPT:PT<=T.length:=hPT
 have hT:∀ p i,p<PT->T[p]? = some i->vf cx call f lo ops c q seen i (ST p) (xT p) (ST (p+1)):=hT
 have hT0:ST 0=SL M:=hT0
 let S:Nat->St:=fun p=>if p<=M then SL p else ST (p - M)
 let x:Nat->A:=fun p=>if p<M then xL p else xT (p - M)
 let pc:=M+pt
 have sL:∀ {p},p<=M->S p=SL p:=fun {p} hp=>X4 hp
 have sT:∀ {p},M<=p->S p=ST (p - M):=fun {p} hp=>by
  by_cases h:p<=M
  ·obtain rfl:p=M:=by omega
   rw[sL (X1 _),qa9,hT0]
  ·exact X8 h
 have xL':∀ {p},p<M->x p=xL p:=fun {p} hp=>X4 hp
 have xT':∀ {p},M<=p->x p=xT (p - M):=fun {p} hp=>X8 j6
 have tT:∀ {p i:Nat},M<=p->p<M+PT->O[p]? = some i->vf cx call f lo ops c q seen i (S p) (x p) (S (p+1)):=fun {p i} hp hp2 h1=>by
  rw[oT hp] at h1
  have:=hT _ i j6 h1
  rw[sT hp,xT' hp,sT (show M<=p+1 by omega),show p+1 - M=p - M+1 by omega]
  exact this
 have oC:∀ {p:Nat},O[p]? = some c->p=pc:=fun {p} hp=>hnd p pc c hp (by rw[oT (ZD _ _),show M+pt - M=pt by omega]; exact hptc)
 have oC':O[pc]? = some c:=by rw[oT (ZD _ _),show M+pt - M=pt by omega]; exact hptc
 let Z:Prop:=(S pc).H.length<=(S (pc+1)).H.length/\∀ b,b<(S pc).H.length->cx.cut q<=b->(S (pc+1)).H[b]? = (S pc).H[b]?
 have stepB:∀ {p i:Nat},M<=p->p<M+PT->(pc<=p->Z)->O[p]? = some i->(S p).H.length<=(S (p+1)).H.length/\∀ b,b<(S p).H.length->(∀ j a,(j,a)∈seen->blk? a=some b->gb ops j i->False)∨(S (p+1)).H[b]? = (S p).H[b]?:=fun {p i} hp hp2 hz h1=>by
  obtain ⟨o,H',ho,hs',⟨hic,_,e1,e2⟩ | ⟨rfl,hsn,e2⟩⟩:=tT hp hp2 h1
  ·rw[hs',gP]
   rcases e1 with ⟨e1,e4⟩ | e1
   ·obtain ⟨t1,t2⟩:=rf e1 e2
    refine⟨t1,fun b hb=>?_⟩
    by_cases hc:∀ c,blk? (dE cx (S p) o.op)=some c->b≠c
    ·exact .inr (t2 b hb hc)
    ·refine .inl fun j y hj hy hun=>hc fun c hcc e5=>?_
     subst e5
     have:=iJ e4 (j,y) hj (by unfold gb at hun ⊢; rw[Bool.or_comm]; exact hun)
     unfold apart at this
     simp only[hy,hcc,Nat.beq_refl] at this
     cases this
   ·obtain ⟨y,hy⟩:=tu e2 e1
    cases hy
    exact⟨X1 _,fun b _=>.inr rfl⟩
  ·obtain rfl:=oC h1
   have hz:=hz (X1 _)
   refine⟨hz.1,fun b hbl=>?_⟩
   by_cases hb:cx.cut q<=b
   ·exact .inr (hz.2 b hbl hb)
   ·rw[hoc] at ho; cases ho
    rw[hcm] at hsn
    refine .inl fun j y hj hy hun=>hb (p4 hsn (j,y) hj ?_ b hy)
    unfold gb at hun
    rw[YO] at hun
    exact hun.2
 have atO:∀ p,p<O.length->∃ i,O[p]? = some i:=fun p hp=>⟨_,X3 hp⟩
 have lenE:∀ e,M+e<=M+PT->(pc<M+e->Z)->s.H.length<=(S (M+e)).H.length:=by
  intro e
  induction e with
  | zero=>intro _ _; rw[Zr,sL (X1 _),hSH M (X1 _)]; exact X1 _
  | succ e ih=>
   intro he hz
   obtain ⟨i,hi⟩:=atO (M+e) j6
   exact Yp (ih j6 fun h=>hz j6) (stepB j6 j6 (fun h=>hz j6) hi).1
 have post:∀ (st:St) (out:Out) (H2:aB),call q (fm cx st oc.op) st.H (Gs cx oc lo st.H)=some (out,H2)->∀ (g':Gh) (W:World) (ev:Operand->Value),uK cx st g' w0 oc.op ev W->(∀ (G:Nat) (vs:List Value),cx.glob G=some vs->bQ st.H g' W G 0 vs)->Bs st.H g' W->∃ args w',(execOp ev oc).run cx.P W=.ok (.enter q args) w'/\CallsIn F (n - 1) cx.P q args w' (ir st.H g' w0 W (Gs cx oc lo st.H) (out,H2)):=fun st out H2 hcl2 g' W ev ho hgl hbs=>by
  have hce:callee? cx st oc.op=some (q,fm cx st oc.op):=by
   unfold callee? fm
   rw[hop]
   simp only[hcal,cD,hcb,XY,Y5,YG]
  obtain ⟨_,cargs,hrun,hv⟩:=lh ho hce
  have hci:CallsIn F.plain (n - 1) cx.P q cargs.toArray W _:=hcall.fn q _ st.H (Gs cx oc lo st.H) (out,H2) (jx hcb) hcl2 F.plain (n - 1) g' w0 W cargs hF rfl hbs ho.rel hgl hv
  exact⟨_,_,hrun,hci⟩
 have hlo':∀ (st:St) b,b<lo->b<st.H.length->b<Gs cx oc lo st.H:=fun st b h1 h2=>by
  rw[hloC]
  cases cx.fre q with
  | true=>exact h2
  | false=>exact h1
 have hgL:∀ {p i:Nat} {o:Oper},p<M->O[p]? = some i->ops[i]? = some o->L1[p]? = some i:=fun {p i o} hp h1 _=>by rw[<-oL hp]; exact h1
 have hgd:∀ (p i:Nat) (o:Oper),O[p]? = some i->ops[i]? = some o->o.guard=none:=fun p i o hpi ho=>my (Yb.1 hcg o (Yk (i:=i) (by rw[Yi,X4 (hOs p i hpi),Yx]; exact ho)))
 refine Bb (f:=f) hcall hb0 horc hF hmx iX hmt hg hd O M (M+PT) pc S x (ZD _ _) (ZD _ _) j6 hO hOs hnd hdep hE (by rw[sL (YT _),hS0]) (fun p hp=>by rw[sL hp]; exact hSH p hp) hgd (fun p i o hp h1 ho t=>?_) Z (fun p h1 h2 hz=>?_) (fun p i o hp h1 ho e he hze hun=>?_) (fun p i o h1 h2 hpi ho g' W ev hopr hgl hbs=>?_) (fun i o hi ho=>?_) (fun hPe=>?_) hk hp
 ·rcases ZZ p M with h2 | h2
  ·rw[sL j6,sL j6,xL' h2,(gL (hgL h2 h1 ho) ho).2.2.2,gF]
  ·obtain ⟨o',H',ho',hs',_⟩:=tT h2 hp h1
   rw[ho] at ho'; cases ho'
   rw[hs',gF]
 ·obtain ⟨i,hi⟩:=atO p j6
  exact(stepB h1 h2 hz hi).1
 ·obtain ⟨_,e1,e2,_⟩:=gL (hgL hp h1 ho) ho
  rw[sL j6,xL' hp]
  have hsi:(⟨(SL p).fr,(SL p).H⟩:St)=SL p:=rfl
  rcases e1 with e1 | ⟨e1,e3⟩ | ⟨e1,e3⟩
  ·rw[tB e1 (H':=(SL p).H)]; exact e2
  ·rw[<-xb e1 (H:=(SL p).H) (fun b hb=>?_)]
   ·exact e2
   ·obtain ⟨B,hB⟩:=vy (s:=SL p) e1 e2 hb
    rw[hSH p j6] at hB ⊢
    have hbl:=(X2.1 hB).1
    clear hsi
    induction e with
    | zero=>rw[Zr,sL (X1 _),hSH M (X1 _)]
    | succ e ih=>
     obtain ⟨j,hj⟩:=atO (M+e) j6
     rcases (stepB j6 j6 (fun h=>hze j6) hj).2 b (Yh hbl (lenE e j6 (fun h=>hze j6))) with h4 | h4
     ·exact(h4 i _ e3 hb (hun (M+e) j j6 j6 hj)).elim
     ·rw[show M+(e+1)=M+e+1 from rfl,h4]
      exact ih j6 (fun h=>hze j6) fun q' j' h5 h6 h7=>hun q' j' h5 j6 h7
  ·rw[<-yL e1 e3]; exact e2
 ·obtain ⟨o',H',ho',hs',⟨hic,_,e1,e2⟩ | ⟨hic,hsn,e2⟩⟩:=tT h1 h2 hpi
  ·rw[ho] at ho'; cases ho'
   obtain ⟨c',w',x',H3,g2,k1,k2,k3,k4,k5,k6,k7,k8⟩:=lj hopr e2
   cases k2
   refine .inl (kP k1 ⟨g2,?_,?_,?_,k8,?_,fun e=>(hic (by rw[e,oC'] at hpi; cases hpi; rfl)).elim⟩)
   ·rw[hs',gP]; exact k3
   ·rw[hs',gP]; exact k4
   ·rw[hs',gP]; exact fun b hb hb'=>by first | exact k7 b hb hb' | exact k6 b hb hb'
   ·rw[hs',gP]; first | exact k5 | exact k6
  ·subst hic
   rw[ho] at ho'; cases ho'
   rw[hoc] at ho; cases ho
   obtain rfl:=oC hpi
   obtain ⟨args,w',e1,e3⟩:=post (S pc) _ H' e2 g' W ev hopr hgl hbs
   refine .inr ⟨q,args,w',e1,e3.mono ?_⟩
   rintro e w'' ⟨g2,k1,k2,k3,k4,k6,k5⟩
   rw[hs',gP]
   cases e with
   | returned c'=>
    refine⟨g2,k1,k2,fun b hb hb'=>k4 b (hlo' _ b hb hb') hb',k6,k5,fun _=>⟨by rw[hs',gP]; exact k3,fun b hb hcb'=>?_⟩⟩
    rw[hs',gP]
    cases hfr:cx.fre q with
    | true=>
     refine k4 b ?_ hb
     rw[hloC,hfr]
     exact hb
    | false=>exact(hcall.ct q _ _ _ _ (jx hcb) (hc0.resolve_right (by rw[hfr]; simp)) j6 e2).2 b hcb'
   | panicked _=>exact k5.elim
   | outgrown=>exact k5.elim
 ·rcases hTe with ⟨hTe,_⟩ | ⟨o',y,H2,e0,e1,e2,e3⟩
  ·rw[oT (ZD _ _),show M+PT - M=PT by omega,hTe,Y7 (X1 _)] at hi
   cases hi
  ·rw[oT (ZD _ _),show M+PT - M=PT by omega,e0] at hi
   cases hi
   rw[hoc] at ho e1; cases ho; cases e1
   refine⟨H2,y,e3,fun g' W ev hopr hgl hbs=>?_⟩
   rw[sT (ZD _ _),show M+PT - M=PT by omega] at hopr hgl hbs ⊢
   obtain ⟨args,w',e1,e4⟩:=post (ST PT) _ H2 e2 g' W ev hopr hgl hbs
   refine .inr ⟨q,args,w',e1,e4.mono ?_⟩
   rintro e w'' ⟨g2,k1,k2,k3,k4,k6,k5⟩
   cases e with
   | returned _=>exact k5.elim
   | panicked ch=>
    obtain ⟨c',rfl,hv⟩:=k5
    exact⟨c',g2,rfl,k1,k2,k3,fun b hb hb'=>k4 b (hlo' _ b hb hb') hb',k6,hv⟩
   | outgrown=>exact k5.elim
 ·rcases hTe with ⟨hTe,hkT⟩ | ⟨o',y,H2,e0,_⟩
  ·rw[sT (ZD _ _),show M+PT - M=PT by omega]
   exact ja _ _ _ hkT
  ·have hl:PT=T.length:=by omega
   have e0':T[PT]? = some c:=e0
   rw[hl,Y7 (X1 _)] at e0'
   cases e0'
end
section
open Go.RowKit
variable {H H':aB} {g g':Gh} {w0 w w':World} {cx:Cx} {s:St} {a:Act} {N lo:Nat} {mb:Mb} {H0:aB} {gs:Gh} {ws:World}
theorem Rel.rng (hr:Rel H g w0 w) {b l:Nat} {st:cX} {r0:Loop} (hB:H[b]? = some (.rng st)) (B':az) (ko:Option Nat) (o':Obj) (hk:g.mu b=some l) (hw:w.heap[l]? = some (.loop r0))
  (hcase:(∃ st',B'=.rng st'/\ko=some l/\o'=.loop (jD (g.lr b) st'))∨(B'=.dead/\ko=none)) :
  Rel (H.set b B') (g.put b ko (g.ga b)) w0 (w.putObj l o')/\Ext H g w (H.set b B') (g.put b ko (g.ga b)) (w.putObj l o'):=by
 have hlt:b<H.length:=(X2.1 hB).1
 have hll:l<w.heap.size:=(hr.dom b l hk).2.2
 have hoth:∀ j,j≠l->(w.putObj l o').heap[j]? = w.heap[j]?:=fun j hj=>Zp hj
 have hsz:(w.putObj l o').heap.size=w.heap.size:=r7
 have hkol:∀ k,ko=some k->k=l:=fun k hk'=>by
  rcases hcase with ⟨_,_,h,_⟩ | ⟨_,h⟩<;>rw[h] at hk'<;>cases hk'; rfl
 have he:Ext H g w (H.set b B') (g.put b ko (g.ga b)) (w.putObj l o'):=by
  refine⟨fun k o v hs hc=>?_,fun c C hC=>?_,fun k x h=>(hoth k (fun e=>by subst e; rw[hw] at h; cases h)).trans h,by rw[hsz]; exact X1 _,fun k marr cl hs hm=>?_,fun k _ hn=>hoth k (fun e=>hn b (e ▸ hk)),fun c k h=>?_⟩
  rotate_right 1
  ·by_cases e:c=b
   ·subst e; rw[Gh.bP] at h; exact .inl ⟨c,(hkol k h) ▸ hk⟩
   ·exact .inl ⟨c,by rwa [Gh.aQ _ _ _ e] at h⟩
  ·have hne:k≠l:=fun e=>by
    subst e
    obtain ⟨o1,ho,hc1⟩:=cells_of_cell hc
    rw[hw] at ho; cases ho; cases hc1
   refine⟨(ZH (a:=⟨k,o,none⟩) (hoth k hne)).trans hc,hs.1,fun c hck=>?_⟩
   by_cases e:c=b
   ·subst e; rw[Gh.bP] at hck; exact absurd (hkol k hck) hne
   ·rw[Gh.aQ _ _ _ e] at hck
    obtain ⟨es,els,h1,h2⟩:=hs.2 c hck
    exact⟨es,els,by rw[Yd (YW e)]; exact h1,h2⟩
  ·by_cases e:c=b
   ·subst e
    rw[hB] at hC; cases hC
    refine⟨B',by rw[Ym hlt],?_⟩
    rcases hcase with ⟨st',rfl,rfl,_⟩ | ⟨rfl,_⟩
    ·exact⟨by rw[Gh.bP,hk],rfl⟩
    ·trivial
   ·refine⟨C,by rw[Yd (YW e)]; exact hC,?_⟩
    have hne:∀ k,g.mu c=some k->k≠l:=fun k hk' e2=>e (hr.inj c b k hk' (e2 ▸ hk))
    cases C with
    | box _=>exact Gh.aQ _ _ _ e
    | row wr es' els'=>cases wr with
     | true=>exact⟨rfl,rfl,Gh.aQ _ _ _ e⟩
     | false=>exact⟨rfl,⟨[],by rw[Gh.fE _ _ _ e]; simp⟩,(hr.blk c _ hC).len,X1 _,fun _=>⟨Gh.aQ _ _ _ e,fun k arr ty hk' ha=>⟨arr,(hoth k (hne k hk')).trans ha,X1 _⟩⟩⟩
    | rng _=>exact⟨Gh.aQ _ _ _ e,rfl⟩
    | mp _ _ _=>exact Gh.aQ _ _ _ e
    | dead=>trivial
    | hole=>trivial
  ·have hne:k≠l:=fun e=>by subst e; rw[hw] at hm; cases hm
   refine⟨(hoth k hne).trans hm,hs.1,fun c hck=>?_⟩
   by_cases e:c=b
   ·subst e; rw[Gh.bP] at hck; exact absurd (hkol k hck) hne
   ·rw[Gh.aQ _ _ _ e] at hck
    obtain ⟨es,els,h1,h2⟩:=hs.2 c hck
    exact⟨es,els,by rw[Yd (YW e)]; exact h1,h2⟩
 refine⟨⟨hr.below.trans ((Below.refl w0.heap.size w).grown (qbh w l _) (hr.below.size) (fun k e=>by cases e; exact(hr.dom b l hk).2.1)),fun c k hck=>?_,fun c d k h1 h2=>?_,hr.A8 he,hr.zA he,fun c C hC=>?_⟩,he⟩
 ·by_cases e:c=b
  ·subst e
   rw[Gh.bP] at hck
   rw[hkol k hck]
   exact⟨by simpa using hlt,(hr.dom c l hk).2.1,by rw[hsz]; exact hll⟩
  ·rw[Gh.aQ _ _ _ e] at hck
   have:=hr.dom c k hck
   exact⟨by simpa using this.1,this.2.1,by rw[hsz]; exact this.2.2⟩
 ·by_cases e:c=b
  ·by_cases e':d=b
   ·rw[e,e']
   ·subst e
    rw[Gh.bP] at h1
    rw[Gh.aQ _ _ _ e'] at h2
    rw[hkol k h1] at h2
    exact hr.inj _ _ l hk h2
  ·by_cases e':d=b
   ·subst e'
    rw[Gh.bP] at h2
    rw[Gh.aQ _ _ _ e] at h1
    rw[hkol k h2] at h1
    exact hr.inj _ _ l h1 hk
   ·rw[Gh.aQ _ _ _ e] at h1
    rw[Gh.aQ _ _ _ e'] at h2
    exact hr.inj c d k h1 h2
 ·by_cases e:c=b
  ·subst e
   rw[Ym hlt] at hC; cases hC
   rcases hcase with ⟨st',rfl,rfl,rfl⟩ | ⟨rfl,rfl⟩
   ·exact⟨l,Gh.bP _ _ _ _,qaz hll⟩
   ·exact Gh.bP _ _ _ _
  ·rw[Yd (YW e)] at hC
   have h:=hr.blk c C hC
   have hne:∀ k,g.mu c=some k->k≠l:=fun k hk' e2=>e (hr.inj c b k hk' (e2 ▸ hk))
   cases C with
   | box cs=>obtain ⟨k,arr,ty,h1,h2,h3⟩:=h; exact⟨k,arr,ty,(Gh.aQ _ _ _ e).trans h1,(hoth k (hne k h1)).trans h2,bC.ext he _ _ h3⟩
   | row wr es' els'=>cases wr with
    | true=>
     obtain ⟨ds,h1,h2,h3⟩:=h
     exact⟨ds,bw.ext he _ _ h1,h2,fun hp=>let ⟨k,arr,ty,e1,e2,e3⟩:=h3 hp; ⟨k,arr,ty,(Gh.aQ _ _ _ e).trans e1,(hoth k (hne k e1)).trans e2,e3⟩⟩
    | false=>
     obtain ⟨h1,h2⟩:=h
     refine⟨?_,?_⟩
     ·rw[Gh.fE _ _ _ e]; exact bw.ext he _ _ h1
     ·rw[Gh.fE _ _ _ e]; exact h2
   | rng st=>obtain ⟨k,h1,h2⟩:=h; exact⟨k,(Gh.aQ _ _ _ e).trans h1,(hoth k (hne k h1)).trans h2⟩
   | mp _ _ _=>obtain ⟨k,arr,cl,h1,h2,h3,h4⟩:=h; exact⟨k,arr,cl,(Gh.aQ _ _ _ e).trans h1,(hoth k (hne k h1)).trans h2,h3,bC.ext he _ _ h4⟩
   | dead=>exact(Gh.aQ _ _ _ e).trans h
   | hole=>exact(Gh.aQ _ _ _ e).trans h
def Gh.B8 (g:Gh) (b:Nat) (r:Loop):Gh:={ g with lr:=fun c=>if c=b then r else g.lr c }
theorem Rel.B8 (hr:Rel H g w0 w) (r:Loop):Rel H (g.B8 H.length r) w0 w/\Ext H g w H (g.B8 H.length r) w:=by
 have hlr:∀ {c:Nat} {B:az},H[c]? = some B->(g.B8 H.length r).lr c=g.lr c:=fun {c B} h=>by
  have:=(X2.1 h).1
  simp only[Gh.B8]; rw[X8 j6]
 have he:Ext H g w H (g.B8 H.length r) w:=by
  refine⟨fun k o v hs hc=>⟨hc,hs⟩,fun b B hB=>⟨B,hB,?_⟩,fun _ _ h=>h,X1 _,fun k arr cl hs hm=>⟨hm,hs⟩,fun _ _ _=>rfl,fun b k h=>.inl ⟨b,h⟩⟩
  cases B with
  | box _=>rfl
  | row wr es els=>cases wr with
   | true=>exact⟨rfl,rfl,rfl⟩
   | false=>exact⟨rfl,⟨[],by simp[Gh.B8]⟩,(hr.blk b _ hB).len,X1 _,fun _=>⟨rfl,fun k arr ty _ ha=>⟨arr,ha,X1 _⟩⟩⟩
  | rng _=>exact⟨rfl,hlr hB⟩
  | mp _ _ _=>rfl
  | dead=>trivial
  | hole=>trivial
 refine⟨⟨hr.below,hr.dom,hr.inj,hr.out,hr.own,fun b B hB=>?_⟩,he⟩
 have h:=hr.blk b B hB
 cases B with
 | box cs=>obtain ⟨k,arr,ty,h1,h2,h3⟩:=h; exact⟨k,arr,ty,h1,h2,bC.ext he _ _ h3⟩
 | row wr es els=>cases wr with
  | true=>obtain ⟨ds,h1,h2,h3⟩:=h; exact⟨ds,bw.ext he _ _ h1,h2,h3⟩
  | false=>exact⟨bw.ext he _ _ h.1,h.2⟩
 | rng st=>obtain ⟨k,h1,h2⟩:=h; exact⟨k,h1,by rw[hlr hB]; exact h2⟩
 | mp _ _ _=>obtain ⟨k,arr,cl,h1,h2,h3,h4⟩:=h; exact⟨k,arr,cl,h1,h2,h3,bC.ext he _ _ h4⟩
 | dead=>exact h
 | hole=>exact h
theorem Rel.begin (hr:Rel H g w0 w) (r:Loop) (hr0:jD r .ready=r) :
  Rel (H++[.rng .ready]) ((g.B8 H.length r).put H.length (some (w.heap.size+1)) []) w0 ((w.alloc (.deferred (some []))).alloc (.loop r)) ∧
  Ext H g w (H++[.rng .ready]) ((g.B8 H.length r).put H.length (some (w.heap.size+1)) []) ((w.alloc (.deferred (some []))).alloc (.loop r)):=by
 have hb1:Below w.heap.size w (w.alloc (.deferred (some []))):=(Below.refl _ w).alloc (X1 _) _
 have r1:=hr.jB hb1
 have e1:=Ext.below hr hb1
 obtain ⟨r2,e2⟩:=r1.B8 r
 have hs:(w.alloc (.deferred (some []))).heap.size=w.heap.size+1:=r7
 have hb2:Below (w.alloc (.deferred (some []))).heap.size (w.alloc (.deferred (some []))) ((w.alloc (.deferred (some []))).alloc (.loop r)):=(Below.refl _ _).alloc (X1 _) _
 obtain ⟨r3,e3⟩:=r2.push hb2 (.rng .ready) (some (w.heap.size+1)) [] (fun k hk=>by cases hk; exact⟨hs.symm,r7⟩) (fun _=>⟨w.heap.size+1,Gh.bP _ _ _ _,by
  have:=qaL (w.alloc (.deferred (some []))) (.loop r)
  rw[hs] at this
  rw[this]
  have:((g.B8 H.length r).put H.length (some (w.heap.size+1)) []).lr H.length=r:=by simp[Gh.put,Gh.B8]
  rw[this,hr0]⟩)
 exact⟨r3,e1.trans (e2.trans e3)⟩
def ER (s:St) (g:Gh) (w:World):E->Exit->Prop
 | .normal,.normal=>True
 | .exit i,.exit j=>i=j
 | .goto i,.goto j=>i=j
 | .ret,.ret=>True
 | .pan x,.panic ch=>∃ c,ch=[{ v:=c,recovered:=false }]/\VR s.H g w x c
 | _,_=>False
def vc (cx:Cx) (lo N:Nat) (Bs:aB->Gh->World->Prop) (F1:St->(E->St->Option R)->Option R) (c:Code):Prop:=
 ∀ (F:Fence) (n:Nat) (mb:Mb) (w0:World) (r:R) (H0:aB) (gs:Gh) (ws:World) (k:E->St->Option R) (Q:Exit->Act->World->Prop) (s:St) (g:Gh) (a:Act) (w:World),g9 F->Bs H0 gs ws->Good cx N mb lo H0 gs ws w0 s g a w->F1 s k=some r ->
  (∀ e e' s' g' a' w',Good cx N mb lo H0 gs ws w0 s' g' a' w'->ER s' g' w' e e'->k e s'=some r->Q e' a' w')->c.wpIn F n cx.P Q a w
theorem ta {N:Nat}:∀ {ps:List Nat},ym N ps=true->∀ p∈ps,p<N
 | [],_,p,hp=>by cases hp
 | q :: ps,h,p,hp=>by
  unfold ym at h
  obtain ⟨h1,h2⟩:=EL h
  rcases YJ.1 hp with rfl | hp
  ·simpa [Nat.blt_eq] using h1
  ·exact ta h2 p hp
theorem Cv:∀ (ps:List Nat) (as:List A) (cs:List Value) (fr:List (Nat×A)) (ts:Array Value),(∀ t,VR H g w (look fr t) (ts.getD t undef))->bC H g w as cs->as.length=ps.length->(∀ p∈ps,p<ts.size) ->
  (∀ t,VR H g w (look (Cu ps as fr) t) (((ps.zip cs).foldl (fun ts p=>ts.setIfInBounds p.1 p.2) ts).getD t undef))/\((ps.zip cs).foldl (fun ts p=>ts.setIfInBounds p.1 p.2) ts).size=ts.size
 | [],as,cs,fr,ts,h,_,hl,_=>by
  have:as=[]:=Yl hl
  subst this
  exact⟨h,rfl⟩
 | p :: ps,[],cs,fr,ts,h,_,hl,_=>by cases hl
 | p :: ps,x :: as,cs,fr,ts,h,hv,hl,hlt=>by
  rw[bC] at hv
  obtain ⟨d,ds,rfl,h1,h2⟩:=hv
  have hp:=hlt p r7
  have:=Cv ps as ds ((p,x) :: fr) (ts.setIfInBounds p d) (fun t=>by
   rw[eT]
   by_cases e:p=t
   ·subst e
    rw[X4 rfl,YQ,qap hp]
    exact h1
   ·rw[X8 e,YQ,ZG e,<-YQ]
    exact h t) h2 (by simpa using hl) (fun q hq=>by simpa using hlt q (by simp[hq]))
  exact⟨this.1,by simpa using this.2⟩
theorem zI {β:Type} {H:aB} {b:Nat} {x:Option β} {r:β} (h:DI H b x=some r):H[b]? = some (.rng .ready)/\x=some r:=by
 unfold DI at h
 split at h
 ·rename_i e; exact⟨e,h⟩
 ·cases h
theorem qk {β:Type} {H:aB} {b:Nat} {x:Option β} {r:β} (h:BJ H b x=some r):H[b]? = some (.rng .busy)/\x=some r:=by
 unfold BJ at h
 split at h
 ·rename_i e; exact⟨e,h⟩
 ·cases h
theorem Ext.KX (he:Ext H g w H' g' w') {b:Nat} {st st':cX} (h:H[b]? = some (.rng st)) (h':H'[b]? = some (.rng st')):g'.mu b=g.mu b/\g'.lr b=g.lr b:=by
 obtain ⟨B',hB',ht⟩:=he.blk b _ h
 rw[h'] at hB'
 cases hB'
 exact ht
theorem zL {Bs:aB->Gh->World->Prop} {F1 F2:St->(E->St->Option R)->Option R} {ps:Array Nat} {asg body:Code} (h1:vc cx lo N Bs F1 asg) (h2:vc cx lo N Bs F2 body) {b lo' l:Nat} {fr:List (Nat×A)} {args:List A} {cargs:List Value} {r:R} {rec0:Loop}
  (hps:ym N ps.toList=true) (hlob:lo<=b) (e1:rec0.params=ps) (e2:rec0.assign=asg) (e3:rec0.body=body) (hsz:rec0.tmps.size=N)
  (h:roundOf F1 F2 lo b ps.toList fr args H lo'=some r) {F:Fence} {n:Nat} (hF:g9 F) (hr:Rel H g w0 w) (hbs:Bs H g w) (hgl:∀ (G:Nat) (vs:List Value),cx.glob G=some vs->bQ H g w G 0 vs)
  (hfr:∀ t,VR H g w (look fr t) (rec0.tmps.getD t undef)) (hlr:g.lr b=rec0) (hv:bC H g w args cargs) (hmu:g.mu b=some l):YieldAt F n cx.P l cargs.toArray w (ir H g w0 w lo' r):=by
 unfold roundOf at h
 obtain ⟨hc,h⟩:=br h
 rw[XZ] at hc
 have hlo:lo'<=lo:=by simpa [qak] using hc.2
 have hlen:args.length=ps.toList.length:=by simpa using hc.1
 obtain ⟨hB,h⟩:=zI h
 have hrecAt:∀ {H2:aB} {g2:Gh} {w2:World} {st:cX},Rel H2 g2 w0 w2->Ext H g w H2 g2 w2->H2[b]? = some (.rng st)->g2.mu b=some l/\g2.lr b=rec0/\w2.heap[l]? = some (.loop (jD rec0 st)):=fun {H2 g2 w2 st} hr2 he2 hB2=>by
  obtain ⟨m1,m2⟩:=he2.KX hB hB2
  obtain ⟨k,k1,k2⟩:=hr2.blk b _ hB2
  rw[m1,hmu] at k1; cases k1
  rw[m2,hlr] at k2
  exact⟨m1.trans hmu,m2.trans hlr,k2⟩
 obtain ⟨_,_,hw⟩:=hrecAt hr (Ext.refl hr) hB
 have hcl:=hv.length
 have hy:=run_yield (P:=cx.P) (args:=cargs.toArray) hw (by show cargs.toArray.size=rec0.params.size; rw[e1]; simp at hlen ⊢; omega)
 refine⟨_,_,_,_,hy,roundIn_of_wpIn (hF.2.1 _) ?_⟩
 show rec0.assign.wpIn _ _ _ _ _ _
 rw[e2]
 have hfold:(((jD rec0 .ready).params.zip cargs.toArray).foldl (fun tmps (t,a)=>tmps.setIfInBounds t a) (jD rec0 .ready).tmps)=(ps.toList.zip cargs).foldl (fun ts p=>ts.setIfInBounds p.1 p.2) rec0.tmps:=by
  show ((rec0.params.zip cargs.toArray).foldl _ rec0.tmps)=_
  rw[e1,<-Z9,Array.toList_zip]
 have hp:=Cv ps.toList args cargs fr rec0.tmps hfr hv hlen (fun p hp=>by rw[hsz]; exact ta hps p hp)
 refine h1 (F.inRound l) n ⟨w.heap.size,[],false⟩ w0 r H g w _ _ ⟨Cu ps.toList args fr,H⟩ g _ w hF hbs ⟨⟨hr,fun t=>by
  show VR H g w _ (Array.getD (((jD rec0 .ready).params.zip cargs.toArray).foldl (fun tmps (t,a)=>tmps.setIfInBounds t a) (jD rec0 .ready).tmps) t undef)
  rw[hfold]; exact hp.1 t,hgl⟩,Ext.refl hr,X1 _,fun _ _ _=>rfl,by
  show Array.size (((jD rec0 .ready).params.zip cargs.toArray).foldl (fun tmps (t,a)=>tmps.setIfInBounds t a) (jD rec0 .ready).tmps)=N
  rw[hfold,hp.2,hsz],iU.start _ _ _ _,X1 _,rfl⟩ h ?_
 intro e e' s2 g2 a2 w2 hg2 he h
 cases e with
 | exit i=>cases h
 | goto i=>cases h
 | ret=>cases h
 | pan x=>cases h
 | normal=>
  cases e' with
  | normal=>
   obtain ⟨hB2,h⟩:=zI h
   obtain ⟨m2,l2,hw2⟩:=hrecAt hg2.sr.rel hg2.ext hB2
   have hbr:=run_beginRound (P:=cx.P) hw2 rfl
   obtain ⟨q1,q2⟩:=hg2.sr.rel.rng hB2 (.rng .busy) (some l) (.loop (jD rec0 .busy)) m2 hw2 (.inl ⟨.busy,rfl,rfl,by rw[l2]⟩)
   refine⟨_,hbr,?_⟩
   have hg3:=hg2.step (dst:=none) (x:=.any) (c:=undef) q1 q2 r7 (oe s2.H _ hlob) rfl XI (fun d hd=>by cases hd)
   show rec0.body.wpIn _ _ _ _ _ _
   rw[e3]
   refine h2 (F.inRound l) n ⟨w.heap.size,[],false⟩ w0 r H g w _ _ ⟨s2.fr,s2.H.set b (.rng .busy)⟩ _ a2 _ hF hbs hg3 h ?_
   intro e e' s3 g3 a3 w3 hg he h
   have fin:∀ (st:cX) (jump:Option Code) (v:Bool),s3.H[b]? = some (.rng .busy)->jump.isNone=v->jD rec0 st={ jD rec0 .busy with state:=if jump.isNone then .ready else .done,pending:=jump }->r=(.ret (.v (.bool v)),s3.H.set b (.rng st)) ->
     ∃ x W,(Instr.endRound l jump).run cx.P w3=.ok x W/\ir H g w0 w lo' r (.returned x) W:=fun st jump v hB3 hjv hst hrr=>by
    obtain ⟨m3,l3,hw3⟩:=hrecAt hg.sr.rel hg.ext hB3
    have her:=run_endRound (P:=cx.P) jump hw3
    obtain ⟨p1,p2⟩:=hg.sr.rel.rng hB3 (.rng st) (some l) (.loop (jD rec0 st)) m3 hw3 (.inl ⟨st,rfl,rfl,by rw[l3]⟩)
    subst hrr
    rw[<-hst] at her
    refine⟨_,_,her,_,p1,hg.ext.trans p2,by simpa using hg.len,fun c hc hc'=>?_,hg.st,?_⟩
    ·show (s3.H.set b (.rng st))[c]? = _
     rw[Yd j6]
     exact hg.low c j6 hc'
    ·show VR _ _ _ (.v (.bool v)) (.bool jump.isNone)
     rw[VR,hjv]
   cases e with
   | normal=>cases e'<;>first
     | (obtain ⟨hB3,h⟩:=qk h; exact fin .ready none true hB3 rfl rfl (by cases h; rfl))
     | exact he.elim
   | exit i=>cases e'<;>first
     | (obtain rfl:i=_:=he; obtain ⟨hB3,h⟩:=qk h; exact fin (.done (.exit i)) (some (.exit i)) false hB3 rfl rfl (by cases h; rfl))
     | exact he.elim
   | goto i=>cases e'<;>first
     | (obtain rfl:i=_:=he; obtain ⟨hB3,h⟩:=qk h; exact fin (.done (.goto i)) (some (.goto i)) false hB3 rfl rfl (by cases h; rfl))
     | exact he.elim
   | ret=>cases e'<;>first
     | (obtain ⟨hB3,h⟩:=qk h; exact fin (.done .ret) (some .ret) false hB3 rfl rfl (by cases h; rfl))
     | exact he.elim
   | pan x=>cases h
  | _=>exact he.elim
end
section
open Go.RowKit
variable {F:Fence} {n:Nat} {P:Program}
theorem od {fn:Func} {tmps:Array Value} {R:Ending->World->Prop} {B:Nat} {ds:List Deferred}:∀ (ms:List Deferred) (u:FrameMode) (W:World),u≠.run->Marks B W ms ->
  (∀ W',eb B W W'->(∀ (k:Nat) (o:Loop),W.heap[k]? = some (.loop o)->W'.heap[k]? = some (.loop o))->LeavesInM F n P fn tmps R ds u W')->LeavesInM F n P fn tmps R (ms++ds) u W:=by
 intro ms u
 induction ms with
 | nil=>intro W _ _ h; exact h W (eb.refl _ _) (fun _ _ h=>h)
 | cons d ms ih=>
  rintro W hu ⟨rs,e,h2,h3⟩ h
  match rs,e,h2,h3 with
  | r :: rs,e,h2,h3=>
   cases e
   obtain ⟨hB,hr⟩:=h3 r r7
   refine⟨hu,.inl ⟨r,_,rfl,run_takeDeferred hr,ih _ hu ⟨rs,rfl,(qbe.1 h2).2,fun q hq=>⟨(h3 q (by simp[hq])).1,?_⟩⟩ fun W' hc hl=>?_⟩⟩
   ·have hne:q≠r:=fun e=>(qbe.1 h2).1 (e ▸ hq)
    exact(Zp hne).trans (h3 q (by simp[hq])).2
   ·exact h W' ((eb.putObj _ hB hr rfl).trans hc) (fun k o hk=>hl k o ((Zp (fun e=>by subst e; rw[hr] at hk; cases hk)).trans hk))
theorem Oper.Bl {o:Oper} {a:Act} {w:World} {K K':Act->World->Prop} {Q Q':Exit->Act->World->Prop} (hK:∀ a w,K a w->K' a w) (hQ:∀ e a w,e≠.normal->Q e a w->Q' e a w) (h:o.wpIn F n P a w K Q):o.wpIn F n P a w K' Q':=by
 unfold Oper.wpIn at *
 refine⟨h.1,?_⟩
 have hh:=h.2
 have lo:LetsOut Q->LetsOut Q':=fun ⟨a,w,h⟩=>⟨a,w,hQ _ _ _ r7 h⟩
 generalize (o.semAt F.round a.eval).run P w=r at *
 cases r with
 | ok x w'=>
  cases x<;>simp only[Oper.uponIn] at hh ⊢<;>first
   | exact hK _ _ hh
   | exact⟨hh.1,CallsIn.mono hh.2 (fun e w'' he=>by cases e<;>first | exact hK _ _ he | exact hQ _ _ _ r7 he | exact lo he)⟩
   | exact⟨hh.1,RowsIn.mono hh.2 (fun _ _ he=>hK _ _ he)⟩
   | exact⟨hh.1,RoundIn.mono hh.2 (fun e w'' he=>by cases e<;>first | exact hK _ _ he | exact hQ _ _ _ r7 he | exact lo he)⟩
   | exact hh.elim
 | halt x w'=>cases x<;>simp only[Oper.uponIn] at hh ⊢<;>first | exact hQ _ _ _ r7 hh | exact hh.elim
theorem nx {ops:Array Oper} {Q Q':Exit->Act->World->Prop} {os':List Oper} (hQ:∀ e a w,e≠.normal->Q e a w->Q' e a w) (hn:∀ a w,Q .normal a w->wpListIn F n P ops Q' os' a w):∀ (os:List Oper) (a:Act) (w:World),wpListIn F n P ops Q os a w->wpListIn F n P ops Q' (os++os') a w
 | [],a,w,h=>hn a w h
 | o :: os,a,w,h=>by
  rw[Yw]
  unfold wpListIn at h ⊢
  split
  ·rename_i hw; rw[X4 hw] at h; exact Oper.Bl (nx hQ hn os) hQ h
  ·rename_i hw; rw[X8 hw] at h; exact⟨h.1,nx hQ hn os _ _ h.2⟩
theorem ow {o:Oper} {d:Nat} (h:nj o=some d):o.dst=some d/\o.guard=none/\∀ (ev:Operand->Value) (w:World),(execOp ev o).run P w=.ok .recover w:=by
 unfold nj at h
 split at h
 ·rename_i c ho
  split at h
  ·rename_i hcal hargs
   cases hg:uX o with
   | false=>rw[hg] at h; cases h
   | true=>
    rw[hg] at h
    refine⟨h,by unfold uX at hg; split at hg<;>simp_all,fun ev w=>?_⟩
    unfold execOp
    rw[ho]
    simp[resolve,hcal,invoke,builtin]
  ·cases h
 ·cases h
theorem rF {Q:Exit->Act->List Frame->World->Prop} {a:Act} {cs cs':List Frame} {w:World} {id d:Nat} {ops:Array Oper} {o:Oper} {os:List Oper} {v:Value} (hl:ops.toList=o :: os) (hd:nj o=some d) (hFa:∀ f,F.fn f) (hro:F.round=none)
  (hrec:recoverD cs=some (v,cs')∨(recoverD cs=none/\cs'=cs/\v=.nilIface)) (h:wpListIn F n P ops (fun e a' w'=>Q e a' cs' w') os (a.put (some d) v) w):(Code.region id ops false).wpSIn F n P Q a cs w:=by
 obtain ⟨hdst,hgd,hrun⟩:=ow (P:=P) hd
 have ho:ops[0]? = some o:=by rw[<-Yx,hl]; rfl
 have hlen:cs'.length=cs.length:=by
  rcases hrec with h1 | ⟨_,rfl,_⟩
  ·exact recoverD_length h1
  ·rfl
 intro b k hb hr hFb hroom
 have hw:Region.wanted o (yielded ops a.tmps)=true:=by simp[Region.wanted,hgd]
 have hsz:List.range ops.size=0 :: List.range' 1 os.length:=by
  rw[<-Z7,hl,X9,List.range_eq_range',List.range'_succ]
 have h':wpOpsIn F n P ops (fun e a' w'=>Q e a' cs' w') (List.range' 1 os.length) (a.put (some d) v) w:=by
  rw[wpOpsIn_eq_wpListIn os 1 (fun j=>by rw[<-Yx,hl,qa6 1 j,qay])]
  exact h
 obtain ⟨e,a',w',q,harr⟩:=wp_opsIn _ _ _ h' b k cs' (hr.trans hro.symm) hFb (hlen ▸ hroom)
 have i0:(lone (b.atR a (.code (.region id ops false) :: k)) cs w).fenced P F:=qbl hFb hroom rfl
 have i1:(lone (b.atR a (.inRegion ops (0 :: List.range' 1 os.length) :: k)) cs w).fenced P F:=qbI hFb hroom ho (fun f _=>hFa f)
 refine⟨e,a',cs',w',hlen,q,.of_steps (.head i0 (hsz ▸ stepR_region) (.one i1 (qaN ?_))) harr⟩
 have hg:=stepGR_op (P:=P) (b:=b) (k:=k) (cs:=cs) (w:=w) (rest:=List.range' 1 os.length) ho hw
 rw[hr,qae] at hg
 have hfin:∀ v,(b.atR a (.inRegion ops (0 :: List.range' 1 os.length) :: k)).finish v=b.atR (a.put o.dst v) (.inRegion ops (List.range' 1 os.length) :: k):=by
  intro v; rw[qba,ho]; rfl
 have hk:(b.atR a (.inRegion ops (0 :: List.range' 1 os.length) :: k)).kind=.deferred:=hb
 have htr:=qbA hk cs
 rw[hg,<-hdst,<-hfin]
 simp only[Frame.atR,hr] at htr ⊢
 rcases hrec with h1 | ⟨h1,rfl,rfl⟩
 ·simp[stepG.apply,hrun,htr,h1]
 ·simp[stepG.apply,hrun,htr,h1]
theorem mz {ops:Array Oper} {i d j:Nat} {o:Oper} (ho:ops[i]? = some o):(lF ops i d)[j]? = if j=i then some { o with op:=.move (.tmp d) } else ops[j]?:=by
 unfold lF
 rw[ho]
 simp only
 have hi:=(X5.1 ho).1
 by_cases e:j=i
 ·subst e; rw[X4 rfl]; simp[hi]
 ·rw[X8 e,ZG (YW e)]
theorem uf {ops:Array Oper} {i d:Nat}:(lF ops i d).size=ops.size:=by
 unfold lF; split<;>simp
theorem zu {ops:Array Oper} {i d:Nat} {o:Oper} (ho:ops[i]? = some o) (t:Nat):Region.linearise .any (lF ops i d) t=Region.linearise .any ops t:=by
 have key:∀ (fuel t:Nat) (listed:Array Bool) (acc:List Nat),Region.linearise.go .any (lF ops i d) fuel t listed acc=Region.linearise.go .any ops fuel t listed acc:=by
  intro fuel
  induction fuel with
  | zero=>intro t listed acc; rfl
  | succ fuel ih=>
   intro t listed acc
   unfold Region.linearise.go
   simp only[uf,ih]
   have e:∀ j,((lF ops i d)[j]?).map (fun (o:Oper)=>o.after.all fun e=>!Region.binds .any e || listed.getD e.on false)=(ops[j]?).map (fun (o:Oper)=>o.after.all fun e=>!Region.binds .any e || listed.getD e.on false):=fun j=>by
    rw[mz ho]
    split
    ·rename_i h; subst h; rw[ho]; rfl
    ·rfl
   simp only[e]
 unfold Region.linearise
 rw[uf,key]
theorem E6 {ops:Array Oper}:∀ (fuel t:Nat) (listed:Array Bool) (L1:List Nat) (j:Nat) (L2:List Nat),Region.linearise.go .any ops fuel t listed []=L1++j :: L2->∀ (o:Oper) (e:Edge),ops[j]? = some o->e∈o.after->Region.binds .any e=true->listed.getD e.on false=true∨e.on∈L1
 | 0,t,listed,L1,j,L2,h,o,e,ho,he,hb=>by
  simp[Region.linearise.go] at h
 | fuel+1,t,listed,L1,j,L2,h,o,e,ho,he,hb=>by
  simp only[Region.linearise.go] at h
  change (match (Region.ready .any ops listed)[t % (Region.ready .any ops listed).length]? with
   | some i=>Region.linearise.go .any ops fuel (t / (Region.ready .any ops listed).length) (listed.setIfInBounds i true) [i]
   | none=>[].reverse)=_ at h
  split at h
  ·rename_i i hi
   rw[qal,ZY,Ze] at h
   have hrd:=(qaa.1 (Yk hi))
   cases L1 with
   | nil=>
    simp only[Y5,YH] at h
    obtain ⟨rfl,_⟩:=h
    obtain ⟨_,o',ho',hall⟩:=hrd
    rw[ho] at ho'; cases ho'
    exact .inl (hall e he hb)
   | cons x L1=>
    simp only[Yw,YH] at h
    obtain ⟨rfl,h⟩:=h
    rcases E6 fuel _ _ L1 j L2 h o e ho he hb with h1 | h1
    ·by_cases hx:e.on=i
     ·exact .inr (by rw[hx]; exact Zk ..)
     ·rw[Z4 false (YW hx)] at h1; exact .inl h1
    ·exact .inr (Y2 _ h1)
  ·simp at h
theorem E7 {ops:Array Oper} {i0:Nat} {o0:Oper} (ho:ops[i0]? = some o0) (hn:∀ e∈o0.after,Region.binds .any e=true->False):∀ (fuel t:Nat) (listed:Array Bool),listed.size=ops.size->CJ ops listed<=fuel->listed.getD i0 true=false->i0∈Region.linearise.go .any ops fuel t listed []
 | 0,t,listed,hs,hu,hl=>by
  exfalso
  have hi:=(X5.1 ho).1
  have hmem:i0∈(List.range ops.size).filter (fun i=>!listed.getD i true):=qaJ.2 ⟨Yn.2 hi,by rw[hl]; rfl⟩
  have:=ZX hmem
  unfold CJ at hu; omega
 | fuel+1,t,listed,hs,hu,hl=>by
  have hrd:i0∈Region.ready .any ops listed:=qaa.2 ⟨hl,o0,ho,fun e he hb=>(hn e he hb).elim⟩
  have hlen:=ZX hrd
  simp only[Region.linearise.go]
  change i0∈(match (Region.ready .any ops listed)[t % (Region.ready .any ops listed).length]? with
   | some i=>Region.linearise.go .any ops fuel (t / (Region.ready .any ops listed).length) (listed.setIfInBounds i true) [i]
   | none=>[].reverse)
  have hlt:t % (Region.ready .any ops listed).length<(Region.ready .any ops listed).length:=qax _ hlen
  rw[X3 hlt]
  simp only
  rw[qal,ZY,Ze]
  generalize hi:(Region.ready .any ops listed)[t % (Region.ready .any ops listed).length]=i
  have him:i∈Region.ready .any ops listed:=by rw[<-hi]; exact Y8 _
  obtain ⟨hun,o,hoi,_⟩:=qaa.1 him
  have his:i<ops.size:=(X5.1 hoi).1
  by_cases e:i=i0
  ·rw[e]; exact Zk ..
  ·refine Y2 _ (E7 ho hn fuel _ _ (by simpa using hs) ?_ (by rw[Z4 true e]; exact hl))
   have:=filter_lt (fun k=>!listed.getD k true) (fun k=>!(listed.setIfInBounds i true).getD k true) (List.range ops.size) (fun x hx hq=>by
    by_cases e:i=x
    ·subst e; rw[hun]; rfl
    ·rw[Z4 true e] at hq; exact hq) ⟨i,Yn.2 his,by rw[hun]; rfl,by simp[hs,his]⟩
   unfold CJ at hu ⊢
   omega
theorem E8 {ops:Array Oper} {i0:Nat}:∀ (fuel t:Nat) (listed:Array Bool),listed.getD i0 true=true->i0 ∉ Region.linearise.go .any ops fuel t listed []
 | 0,t,listed,h,hm=>by simp[Region.linearise.go] at hm
 | fuel+1,t,listed,h,hm=>by
  simp only[Region.linearise.go] at hm
  change i0∈(match (Region.ready .any ops listed)[t % (Region.ready .any ops listed).length]? with
   | some i=>Region.linearise.go .any ops fuel (t / (Region.ready .any ops listed).length) (listed.setIfInBounds i true) [i]
   | none=>[].reverse) at hm
  split at hm
  ·rename_i i hi
   rw[qal,ZY,Ze] at hm
   obtain ⟨hun,_⟩:=qaa.1 (Yk hi)
   have hne:i≠i0:=fun e=>by rw[e,h] at hun; cases hun
   rcases YJ.1 hm with hm | hm
   ·exact hne hm.symm
   ·exact E8 fuel _ _ (by rw[Z4 true hne]; exact h) hm
  ·simp at hm
theorem B1 {ops:Array Oper} {i0:Nat}:∀ (fuel t:Nat) (listed:Array Bool) (L1 L2:List Nat),listed.size=ops.size->Region.linearise.go .any ops fuel t listed []=L1++i0 :: L2->i0 ∉ L2
 | 0,t,listed,L1,L2,_,h=>by simp[Region.linearise.go] at h
 | fuel+1,t,listed,L1,L2,hs,h=>by
  simp only[Region.linearise.go] at h
  change (match (Region.ready .any ops listed)[t % (Region.ready .any ops listed).length]? with
   | some i=>Region.linearise.go .any ops fuel (t / (Region.ready .any ops listed).length) (listed.setIfInBounds i true) [i]
   | none=>[].reverse)=_ at h
  split at h
  ·rename_i i hi
   rw[qal,ZY,Ze] at h
   cases L1 with
   | nil=>
    simp only[Y5,YH] at h
    obtain ⟨rfl,h⟩:=h
    rw[<-h]
    obtain ⟨_,o,ho,_⟩:=qaa.1 (Yk hi)
    have:=(X5.1 ho).1
    exact E8 fuel _ _ (by simp[hs,this])
   | cons x L1=>
    simp only[Yw,YH] at h
    exact B1 fuel _ _ L1 L2 (by simpa using hs) h.2
  ·simp at h
theorem B4 {ops:Array Oper}:∀ (fuel t:Nat) (listed:Array Bool) (j:Nat),j∈Region.linearise.go .any ops fuel t listed []->∃ o,ops[j]? = some o
 | 0,t,listed,j,h=>by simp[Region.linearise.go] at h
 | fuel+1,t,listed,j,h=>by
  simp only[Region.linearise.go] at h
  change j∈(match (Region.ready .any ops listed)[t % (Region.ready .any ops listed).length]? with
   | some i=>Region.linearise.go .any ops fuel (t / (Region.ready .any ops listed).length) (listed.setIfInBounds i true) [i]
   | none=>[].reverse) at h
  split at h
  ·rename_i i hi
   rw[qal,ZY,Ze] at h
   obtain ⟨_,o,ho,_⟩:=qaa.1 (Yk hi)
   rcases YJ.1 h with h | h
   ·exact⟨o,by rw[h]; exact ho⟩
   ·exact B4 fuel _ _ j h
  ·simp at h
theorem vb {ops:Array Oper} {i d:Nat} {o:Oper} (ho:ops[i]? = some o) (tm:Array Value):yielded (lF ops i d) tm=yielded ops tm:=by
 funext j
 have e:((lF ops i d)[j]?).bind (·.dst)=(ops[j]?).bind (·.dst):=by
  rw[mz ho]
  by_cases h:j=i
  ·subst h; rw[X4 rfl,ho]; rfl
  ·rw[X8 h]
 unfold yielded
 rw[e]
theorem jo {ops:Array Oper} {Q:Exit->Act->World->Prop} {i d:Nat} {o:Oper} (ho:ops[i]? = some o):∀ (L:List Nat) (a:Act) (w:World),i ∉ L->wpOpsIn F n P (lF ops i d) Q L a w->wpOpsIn F n P ops Q L a w
 | [],a,w,_,h=>h
 | j :: L,a,w,hn,h=>by
  have hj:j≠i:=fun e=>hn (by rw[e]; exact Zk ..)
  have hL:i ∉ L:=fun e=>hn (Y2 _ e)
  unfold wpOpsIn at h ⊢
  rw[mz ho,X8 hj,vb ho] at h
  cases hoj:ops[j]? with
  | none=>rw[hoj] at h; exact jo ho L a w hL h
  | some oj=>
   rw[hoj] at h
   simp only at h ⊢
   split
   ·rename_i hw; rw[X4 hw] at h; exact Oper.wpIn_mono (fun a w h=>jo ho L a w hL h) h
   ·rename_i hw; rw[X8 hw] at h; exact⟨h.1,jo ho L _ _ hL h.2⟩
theorem Fj {o:Oper} {d:Nat} (h:jT d o=true):o.guard=none/\(∃ e,o.dst=some e/\e≠d)/\∀ (a:Act) (v:Value),execOp (a.put (some d) v).eval o=execOp a.eval o:=by
 unfold jT at h
 simp only[XZ] at h
 obtain ⟨⟨h1,h2⟩,h3⟩:=h
 refine⟨my h1,?_,fun a v=>?_⟩
 ·cases hd:o.dst with
  | none=>rw[hd] at h3; cases h3
  | some e=>rw[hd] at h3; exact⟨e,rfl,fun e2=>by subst e2; simp at h3⟩
 ·split at h2
  ·rename_i t x ho
   have hx:x≠d:=fun e=>by subst e; simp at h2
   unfold execOp
   rw[ho]
   simp only[Act.eval_put (a:=a) (dst:=some d) (v:=v) (x:=.tmp x) (fun e he=>by cases he; intro h; cases h; exact hx rfl)]
  ·cases h2
theorem Fi {o:Oper} {d:Nat} (h:jT d o=true) (ev:Operand->Value) (w:World):(∃ y w',(execOp ev o).run P w=.ok (.value y) w')∨(∃ x w',(execOp ev o).run P w=.halt x w'):=by
 unfold jT at h
 simp only[XZ] at h
 obtain ⟨⟨h1,h2⟩,h3⟩:=h
 split at h2
 ·rename_i t x ho
  unfold execOp
  rw[ho]
  simp only
  cases hr:(Instr.loadAt t (ev (.tmp x))).run P w with
  | ok y w'=>exact .inl ⟨y,w',by simp[hr]⟩
  | halt y w'=>exact .inr ⟨y,w',by simp[hr]⟩
 ·cases h2
theorem Cz {Q:Exit->Act->List Frame->World->Prop} {ops:Array Oper} {i0 d:Nat} {o0:Oper} {v:Value} {cs cs':List Frame} (ho:ops[i0]? = some o0) (hd:nj o0=some d) (hFa:∀ f,F.fn f) (hro:F.round=none) (hrec:recoverD cs=some (v,cs')∨(recoverD cs=none/\cs'=cs/\v=.nilIface)) {L2:List Nat} (hL2:i0 ∉ L2):∀ (L1:List Nat) (a:Act) (w:World),(∀ j∈L1,∃ o,ops[j]? = some o/\jT d o=true)->d<a.tmps.size ->
  wpOpsIn F n P (lF ops i0 d) (fun e a' w'=>match e with | .panic _=>False | e=>Q e a' cs' w') (L1++i0 :: L2) (a.put (some d) v) w->∀ (b:Frame) (k:List Item),b.kind=.deferred->b.roundOf=none->F.fn b.fn->F.room (cs.length+1+n) ->
  ∃ e a' cs2 w',cs2.length=cs.length/\Q e a' cs2 w'/\ArrivesIn (Machine.fenced P F) P (lone (b.atR a (.inRegion ops (L1++i0 :: L2) :: k)) cs w) b k cs2 e a' w'
 | [],a,w,hld,hds,h,b,k,hb,hr,hFb,hroom=>by
  obtain ⟨hdst,hgd,hrun⟩:=ow (P:=P) hd
  have hlen:cs'.length=cs.length:=by
   rcases hrec with h1 | ⟨_,rfl,_⟩
   ·exact recoverD_length h1
   ·rfl
  rw[Y5] at h ⊢
  unfold wpOpsIn at h
  rw[mz ho,X4 rfl] at h
  simp only at h
  rw[X4 (by simp[Region.wanted,hgd])] at h
  replace h:=h.2
  rw[hro,qae] at h
  have hev:(execOp (a.put (some d) v).eval { o0 with op:=.move (.tmp d) }).run P w=.ok (.value v) w:=by
   have:(a.put (some d) v).eval (.tmp d)=v:=fK hds
   simp[execOp,this]
  rw[hev,Oper.uponIn_value] at h
  have hpp:(a.put (some d) v).put o0.dst v=a.put (some d) v:=by
   rw[hdst]
   unfold Act.put
   simp
  rw[hpp] at h
  have h':=jo ho L2 _ w hL2 h
  obtain ⟨e,a',w',q,harr⟩:=wp_opsIn _ _ _ h' b k cs' (hr.trans hro.symm) hFb (hlen ▸ hroom)
  have hw:Region.wanted o0 (yielded ops a.tmps)=true:=by simp[Region.wanted,hgd]
  have i1:(lone (b.atR a (.inRegion ops (i0 :: L2) :: k)) cs w).fenced P F:=qbI hFb hroom ho (fun f _=>hFa f)
  have q':Q e a' cs' w':=by cases e<;>first | exact q | exact q.elim
  refine⟨e,a',cs',w',hlen,q',.of_steps (.one i1 (qaN ?_)) harr⟩
  have hg:=stepGR_op (P:=P) (b:=b) (k:=k) (cs:=cs) (w:=w) (rest:=L2) ho hw
  rw[hr,qae] at hg
  have hfin:∀ v,(b.atR a (.inRegion ops (i0 :: L2) :: k)).finish v=b.atR (a.put o0.dst v) (.inRegion ops L2 :: k):=by
   intro v; rw[qba,ho]; rfl
  have hk:(b.atR a (.inRegion ops (i0 :: L2) :: k)).kind=.deferred:=hb
  have htr:=qbA hk cs
  rw[hg,<-hdst,<-hfin]
  simp only[Frame.atR,hr] at htr ⊢
  rcases hrec with h1 | ⟨h1,rfl,rfl⟩
  ·simp[stepG.apply,hrun,htr,h1]
  ·simp[stepG.apply,hrun,htr,h1]
 | j :: L1,a,w,hld,hds,h,b,k,hb,hr,hFb,hroom=>by
  obtain ⟨oj,hoj,hlo⟩:=hld j (Zk ..)
  obtain ⟨hgd,⟨e0,hde,hne⟩,hsame⟩:=Fj hlo
  have hji:j≠i0:=fun e=>by
   subst e
   rw[ho] at hoj; cases hoj
   unfold nj at hd
   unfold jT at hlo
   split at hd
   ·rename_i c hc; rw[hc] at hlo; simp at hlo
   ·cases hd
  rw[Yw] at h ⊢
  unfold wpOpsIn at h
  rw[mz ho,X8 hji,hoj] at h
  simp only at h
  rw[X4 (by simp[Region.wanted,hgd])] at h
  replace h:=h.2
  rw[hro,qae,hsame] at h
  have hw:Region.wanted oj (yielded ops a.tmps)=true:=by simp[Region.wanted,hgd]
  rcases Fi (P:=P) hlo a.eval w with ⟨y,w1,hrun⟩ | ⟨x,w1,hrun⟩
  ·rw[hrun,Oper.uponIn_value,hde,Act.put_comm a v y (fun e he=>by cases he; intro h; cases h; exact hne rfl),<-hde] at h
   obtain ⟨e,a',cs2,w2,hl2,q,harr⟩:=Cz ho hd hFa hro hrec hL2 L1 (a.put oj.dst y) w1 (fun j hj=>hld j (Y2 _ hj)) (by rw[Act.qH]; exact hds) h b k hb hr hFb hroom
   have i1:(lone (b.atR a (.inRegion ops (j :: (L1++i0 :: L2)) :: k)) cs w).fenced P F:=qbI hFb hroom hoj (fun f _=>hFa f)
   refine⟨e,a',cs2,w2,hl2,q,.of_steps (.one i1 (qaN ?_)) harr⟩
   have hg:=stepGR_op (P:=P) (b:=b) (k:=k) (cs:=cs) (w:=w) (rest:=L1++i0 :: L2) hoj hw
   rw[hr,qae] at hg
   have hfin:∀ v,(b.atR a (.inRegion ops (j :: (L1++i0 :: L2)) :: k)).finish v=b.atR (a.put oj.dst v) (.inRegion ops (L1++i0 :: L2) :: k):=by
    intro v; rw[qba,hoj]; rfl
   rw[hg,<-hfin]
   simp[stepG.apply,hrun]
  ·rw[hrun] at h
   cases x<;>exact h.elim
theorem qO {Q:Exit->Act->List Frame->World->Prop} {a:Act} {cs cs':List Frame} {w:World} {id i0 d:Nat} {ops:Array Oper} {o0:Oper} {v:Value} (hm:P.follows .mixedOrders=true) (ho:ops[i0]? = some o0) (hd:nj o0=some d) (hna:o0.after=#[]) (hok:JS ops i0 d=true) (hFa:∀ f,F.fn f) (hro:F.round=none) (hds:d<a.tmps.size)
  (hrec:recoverD cs=some (v,cs')∨(recoverD cs=none/\cs'=cs/\v=.nilIface)) (h:LW F n P (lF ops i0 d) (fun e a' w'=>match e with | .panic _=>False | e=>Q e a' cs' w') (a.put (some d) v) w):(Code.region id ops true).wpSIn F n P Q a cs w:=by
 intro b k hb hr hFb hroom
 have h:=h (w.tape w.drawn (.order b.fn id))
 have hs:∀ (ops:Array Oper) t,Region.schedule (P.follows .mixedOrders) ops t=Region.linearise.go .any ops ops.size t (Array.replicate ops.size false) []:=fun ops t=>by
  simp only[Region.schedule,hm,qbC,Zh]; rfl
 have hsz:(Array.replicate ops.size false).size=ops.size:=r7
 have hrep:∀ i,(Array.replicate ops.size false).getD i false=false:=fun i=>by
  by_cases hi:i<ops.size<;>simp[hi]
 have hi0:=(X5.1 ho).1
 have i0l:(lone (b.atR a (.code (.region id ops true) :: k)) cs w).fenced P F:=qbl hFb hroom rfl
 have hL:=hs ops (w.tape w.drawn (.order b.fn id))
 have hL':Region.schedule (P.follows .mixedOrders) (lF ops i0 d) (w.tape w.drawn (.order b.fn id))=Region.schedule (P.follows .mixedOrders) ops (w.tape w.drawn (.order b.fn id)):=by
  have:=zu (d:=d) ho (w.tape w.drawn (.order b.fn id))
  simp only[Region.schedule,hm,qbC,Zh]
  exact this
 rw[hL'] at h
 have hmem:i0∈Region.schedule (P.follows .mixedOrders) ops (w.tape w.drawn (.order b.fn id)):=by
  rw[hL]
  refine E7 ho (fun e he _=>by rw[hna] at he; simp at he) _ _ _ hsz ?_ (by simp[hi0])
  unfold CJ
  exact Yp (qaF _ _) r7
 obtain ⟨L1,L2,hLe,hn1⟩:=List.eq_append_cons_of_mem hmem
 have hn2:i0 ∉ L2:=B1 _ _ _ L1 L2 hsz (hL ▸ hLe)
 have hgo:Region.linearise.go .any ops ops.size (w.tape w.drawn (.order b.fn id)) (Array.replicate ops.size false) []=L1++i0 :: L2:=hL ▸ hLe
 have hload:∀ (p:Nat) (j:Nat),L1[p]? = some j->∃ o,ops[j]? = some o/\jT d o=true:=by
  intro p
  induction p using Nat.strongRecOn with
  | _ p ih=>
   intro j hp
   have hjm:j∈L1:=Yk hp
   obtain ⟨o,hoj⟩:=B4 _ _ _ j (hgo ▸ List.mem_append_left _ hjm)
   have hjs:=(X5.1 hoj).1
   have hck:=Yb.1 hok j (Yn.2 hjs)
   rw[hoj] at hck
   simp only[YU] at hck
   rcases hck with h1 | h1 | h1
   ·exact absurd (Yq h1 ▸ hjm) hn1
   ·exact⟨o,hoj,h1⟩
   ·exfalso
    obtain ⟨q,hq1,hq2⟩:=Array.any_eq_true.1 h1
    rw[XZ,Za] at hq2
    obtain ⟨hp1,hpe⟩:=X2.1 hp
    have hsplit:L1++i0 :: L2=L1.take p++j :: (L1.drop (p+1)++i0 :: L2):=by
     rw[<-Yw,<-hpe,<-YF hp1,<-YD,YZ]
    rcases E6 _ _ _ (L1.take p) j _ (hgo.trans hsplit) o o.after[q] hoj (Array.getElem_mem _) hq2.1 with h2 | h2
    ·rw[hrep] at h2; cases h2
    ·obtain ⟨x,hx,hxe⟩:=YR h2
     rw[List.getElem_take] at hxe
     have hxp:x<p:=by rw[YV] at hx; omega
     obtain ⟨o',ho',hl'⟩:=ih x hxp o.after[q].on (by rw[<-hxe]; exact X3 _)
     unfold zk at hq2
     rw[ho'] at hq2
     simp only at hq2
     rw[hl'] at hq2
     exact absurd hq2.2 r7
 rw[hLe] at h
 obtain ⟨e,a',cs2,w2,hl,q,harr⟩:=Cz ho hd hFa hro hrec hn2 L1 a _ (fun j hj=>by
  obtain ⟨p,hp,hpe⟩:=YR hj
  exact hload p j (by rw[<-hpe]; exact X3 hp)) hds h b k hb hr hFb hroom
 refine⟨e,a',cs2,w2,hl,q,.of_steps (.one i0l ?_) harr⟩
 rw[<-hLe]
 exact stepR_region_draw
end
section
open Go.RowKit
variable {H H':aB} {g g':Gh} {w0 w w':World} {cx:Cx} {s:St} {a:Act} {F:Fence} {n:Nat} {N lo:Nat} {mb:Mb} {H0:aB} {gs:Gh} {ws:World}
theorem mo (fr:List (Nat×A)) (keep:List Nat) (t:Nat):look (keep.map fun t=>(t,look fr t)) t=look fr t∨look (keep.map fun t=>(t,look fr t)) t=.any:=by
 induction keep with
 | nil=>exact .inr rfl
 | cons u ks ih=>
  rw[YX,eT]
  split
  ·rename_i e; rw[e]; exact .inl rfl
  ·exact ih
theorem xu (fr:List (Nat×A)) (keep:List Nat) (t:Nat) (ht:look (keep.map fun t=>(t,look fr t)) t≠.any):t∈keep:=by
 induction keep with
 | nil=>exact absurd rfl ht
 | cons u ks ih=>
  rw[YX,eT] at ht
  split at ht
  ·rename_i e; subst e; simp
  ·exact Y2 _ (ih ht)
theorem Good.dU (hg:Good cx N mb lo H0 gs ws w0 s g a w) {keep:List Nat}:Good cx N mb lo H0 gs ws w0 (dU keep s) g a w:=
 ⟨⟨hg.sr.rel,fun t=>by
  show VR s.H g w (look (keep.map fun t=>(t,look s.fr t)) t) _
  rcases mo s.fr keep t with h | h
  ·rw[h]; exact hg.sr.fr t
  ·rw[h,VR]; trivial,hg.sr.gl⟩,hg.ext,hg.len,hg.low,hg.siz,hg.dfr,hg.mbw,hg.st⟩
theorem Good.FF (hg:Good cx N mb lo H0 gs ws w0 s g a w) {keep:List Nat} {L:Nat} (hL:H0.length<=L) (hLs:L<=s.H.length) {k:St->Option R} {r:R} (h:zv keep L s k=some r):∃ s' g',k s'=some r/\Good cx N mb lo H0 gs ws w0 s' g' a w/\s'.H.length=L:=by
 unfold zv at h
 obtain ⟨H',h1,h⟩:=bH h
 obtain ⟨h2,h⟩:=br h
 have mo:=mo s.fr keep
 have xu:=xu s.fr keep
 unfold trim at h1
 rw[bG] at h1
 split at h1
 ·rename_i hl
  have hl:s.H.length=L:=by simpa using hl
  cases h1
  refine⟨_,g,h,⟨⟨hg.sr.rel,fun t=>?_,hg.sr.gl⟩,hg.ext,hg.len,hg.low,hg.siz,hg.dfr,hg.mbw,hg.st⟩,hl⟩
  rcases mo t with h | h
  ·rw[h]; exact hg.sr.fr t
  ·rw[h,VR]; trivial
 ·rename_i hl
  obtain ⟨hall,h1⟩:=br h1
  cases h1
  have hl:¬ s.H.length=L:=by simpa using hl
  have hk:keep.all (fun t=>A.under L (look s.fr t))=true:=by
   have hb:Nat.beq s.H.length L=false:=by
    cases hb:Nat.beq s.H.length L with
    | true=>exact absurd (Yq hb) hl
    | false=>rfl
   rw[hb] at h2
   exact n8 _ _ _ h2
  have hu:∀ (b:Nat) B,b<L->s.H[b]? = some B->B.under L=true:=fun b B hb hB=>by
   refine Yb.1 hall B (Yk (i:=b) ?_)
   rw[Yi,X4 hb]; exact hB
  obtain ⟨r1,ag⟩:=hg.sr.rel.cut hLs hu
  refine⟨_,g.cut L,h,⟨⟨r1,fun t=>?_,fun G vs hG=>(hg.sr.gl G vs hG).to ag⟩,hg.ext.cut hL,u3,fun b hb hb'=>by rw[Yi,X4 j6]; exact hg.low b hb hb',hg.siz,hg.dfr,hg.mbw,hg.st⟩,u3⟩
  rcases mo t with h | h
  ·rw[h]
   by_cases hany:look s.fr t=.any
   ·rw[hany,VR]; trivial
   ·have htk:=xu t (by rw[h]; exact hany)
    exact VR.to ag _ _ (Yb.1 hk t htk) (hg.sr.fr t)
  ·rw[h,VR]; trivial
theorem tI (lo:Nat):∀ (ps:List (Nat×Nat×Nat)) {s:St} {g:Gh},Good cx N mb lo H0 gs ws w0 s g a w->∃ g',Good cx N mb lo H0 gs ws w0 (eu lo (AN ps) s) g' a w/\(eu lo (AN ps) s).H.length=s.H.length
 | [],s,g,h=>⟨g,h,rfl⟩
 | p :: ps,s,g,h=>by
  unfold AN
  split
  ·rename_i he
   obtain ⟨g',h1,_,h2⟩:=h.pE p
   obtain ⟨g'',h3,h4⟩:=tI lo ps h1
   exact⟨g'',h3,h4.trans (h2 he)⟩
  ·exact tI lo ps h
theorem Good.norm (hg:Good cx N mb lo H0 gs ws w0 s g a w) {keep:List Nat} {acts:List (Nat×Nat×Nat)} {n L:Nat} (hL:H0.length<=n) (hnL:n<=L) (hr:zN acts≠none->n+1<=L) (hLs:L<=s.H.length) {k:St->Option R} {r:R} (h:FE lo keep acts L s k=some r):∃ s' g',k s'=some r/\Good cx N mb lo H0 gs ws w0 s' g' a w/\s'.H.length=L:=by
 obtain ⟨g',h1,h2⟩:=tI lo acts hg
 unfold FE at h
 split at h
 ·exact h1.FF j6 j6 h
 ·rename_i p hp
  have hr:n+1<=L:=hr (by rw[hp]; exact Option.some_ne_none p)
  unfold JK at h
  rw[bG] at h
  split at h
  ·obtain ⟨s2,g2,h3,h4,h5⟩:=h1.FF (L:=L - 1) j6 j6 h
   obtain ⟨h6,h3⟩:=br h3
   obtain ⟨g3,h7,_,_⟩:=h4.pE p
   exact⟨_,g3,h3,h7.dU,Yq h6⟩
  ·exact h1.FF j6 j6 h
theorem rr {p:Prop} {a b:Code} (h:p∨(jO a&&jO b)=true):(p∨jO a=true)/\(p∨jO b=true):=by
 rcases h with h | h
 ·exact⟨.inl h,.inl h⟩
 ·rw[XZ] at h; exact⟨.inr h.1,.inr h.2⟩
def sy (cx:Cx) (rg:bj->bj):Prop:=∀ (Bs:aB->Gh->World->Prop) (base:bj),qb cx Bs base->ek cx Bs (rg base)
theorem De {P:Program} {x:A} {v:Value} {gf:Nat} {cap:List A} (h:Dd P x=some (gf,cap)) (hv:VR H g w x v):db P gf=true/\∃ es:Array Value,v=.func (.func gf) #[] es/\bC H g w cap es.toList:=by
 unfold Dd at h
 split at h
 ·obtain ⟨h1,h⟩:=br h
  cases h
  rw[VR] at hv
  obtain ⟨ds,es,e1,e2,e3⟩:=hv
  rw[bC] at e2
  have:ds=#[]:=by apply ZJ; simpa using e2
  subst this
  exact⟨h1,es,e1,e3⟩
 ·cases h
theorem ql {P:Program} {k:Nat} (hk:db P k=true) (args:Array Value) (w:World):(callFunc k args).run P w=.ok (.enter k args) w:=by
 unfold db at hk
 cases hf:P.funcs[k]? with
 | none=>rw[hf] at hk; cases hk
 | some fn=>
  rw[hf] at hk
  simp only[XZ,Za] at hk
  have h1:¬ fn.body=none:=by intro hb; rw[hb] at hk; simp at hk
  have h2:¬ fn.name = "runtime.NumGoroutine" := by simpa using hk.2
  simp[callFunc,program,Sem.run,hf,h1,h2]
theorem ig {P:Program} {b:Frame} {a:Act} {k:List Item} {cs:List Frame} {w:World} {c:Code}:step P (lone (b.atR a (.code (.scope c) :: k)) cs w)=.next (lone (b.atR a (.code c :: .inScope c :: k)) cs w):=
 qaN (by simp[stepG,stepG.exec,Frame.atR])
theorem uZ {P:Program} {b:Frame} {a:Act} {k:List Item} {cs:List Frame} {w:World} {c:Code}:step P (lone (b.atR a (.inScope c :: k)) cs w)=.next (lone (b.atR a k) cs w):=
 qaN (by simp[stepG,stepG.exec,Frame.atR])
theorem Bm {F:Fence} {n:Nat} {P:Program} {a:Act} {w:World} {Q:Exit->Act->World->Prop} {c:Code} (h:c.wpIn F n P (fun e a w=>match e with | .goto _=>False | e=>Q e a w) a w):(Code.scope c).wpIn F n P Q a w:=by
 intro b k cs hro hb hr
 have h0:(lone (b.atR a (.code (.scope c) :: k)) cs w).fenced P F:=qbl hb hr rfl
 obtain ⟨e,a₁,w₁,hq,harr⟩:=h b (.inScope c :: k) cs hro hb hr
 cases e with
 | normal=>exact⟨.normal,a₁,w₁,hq,.head h0 ig (StepsIn.trans harr (.one (qbl hb hr rfl) uZ))⟩
 | exit id'=>
  have hx:exitTo id' (.inScope c :: k)=exitTo id' k:=by simp[exitTo]
  exact⟨.exit id',a₁,w₁,hq,fun k' hk=>.head h0 ig (harr.1 k' (by rw[hx]; exact hk)),
   fun hr' hk=>let ⟨k₁,h1,h2⟩:=harr.2 hr' (by rw[hx]; exact hk); ⟨k₁,h1,.head h0 ig h2⟩⟩
 | goto l=>exact hq.elim
 | ret=>exact⟨_,a₁,w₁,hq,.of_steps (.one h0 ig) harr⟩
 | panic ch=>exact⟨_,a₁,w₁,hq,.of_steps (.one h0 ig) harr⟩
 | outgrown=>exact⟨_,a₁,w₁,hq,.of_steps (.one h0 ig) harr⟩
theorem qs {Bs:aB->Gh->World->Prop} {call:bj} (hcall:ek cx Bs call) (hb0:Bs H0 gs ws) (horc:kC cx) {F:Fence} {n:Nat} (hF:g9 F) (hmx:cx.P.follows .mixedOrders=true) {f:Nat} {ops:Array Oper} {k:E->St->Option R} {r:R} {Q:Exit->Act->World->Prop}
  (hg:Good cx N mb lo H0 gs ws w0 s g a w) (h:w8 cx call f lo N ops s k=some r)
  (hk:∀ s' g' a' w',Good cx N mb lo H0 gs ws w0 s' g' a' w'->k .normal s'=some r->Q .normal a' w')
  (hp:∀ x s' g' a' w' c,Good cx N mb lo H0 gs ws w0 s' g' a' w'->VR s'.H g' w' x c->k (.pan x) s'=some r->Q (.panic [{ v:=c,recovered:=false }]) a' w'):LW F n cx.P ops Q a w:=by
 unfold w8 at h
 obtain ⟨hd,h⟩:=br h
 have hd':∀ o∈ops.toList,∀ d,o.dst=some d->d<N:=fun o ho d hod=>by
  have:=Yb.1 hd o ho
  rw[hod] at this; simpa using this
 cases hci:Kh cx ops with
 | some c=>
  rw[hci] at h
  exact(yJ (f:=f) hcall hb0 horc hF hmx hg hd' h hk hp)
 | none=>
 rw[hci] at h
 replace h:=br h
 obtain ⟨iX,h⟩:=h
 replace h:=bH h
 obtain ⟨m,hm,h⟩:=h
 have hmt:fO ops m=true:=by
  unfold rC at hm
  exact List.find?_some hm
 rw[bG] at h
 split at h
 ·have htk:∀ j o,(ops.toList.take m)[j]? = some o->ops[0+j]? = some o:=fun j o ho=>by
   rw[Yi] at ho
   split at ho
   ·rw[YP]; rw[Yx] at ho; exact ho
   ·cases ho
  have hm2:m<=ops.size:=by
   simp only[fO,XZ,X6] at hmt
   exact hmt.1.1
  have htl:(ops.toList.take m).length=m:=by rw[YV]; simp; omega
  rw[bG] at h
  split at h
  ·rename_i hch
   exact(px (f:=f) (m:=m) hcall hb0 horc hF hmx iX hmt (fun i j h1 h2 h3 h4 _ _=>AA hch h1 h2 h3 h4) LB.none hg hd' (fun s h=>ja _ _ _ h) h hk hp)
  obtain ⟨hch,h⟩:=br h
  obtain ⟨fl,H1,h,hfl,_,hno⟩:=pF (ops:=ops) (m:=m) (ops.toList.take m) 0 s.H _ htk j6 h
  have hnf:∀ {i},i<m->dc i fl=none->tV cx f ops i=false:=fun {i} hi hn=>hno i hn (YT _) j6
  exact(px (f:=f) (m:=m) hcall hb0 horc hF hmx iX hmt (fun i j h1 h2 h3 h4 h5 h6=>yv hch h1 h2 h3 h4 (hnf j6 h5) (hnf h1 h6)) hfl hg hd' (fun s h=>ja _ _ _ h) h hk hp)
 exact(w6 (f:=f) (m:=m) hcall hb0 horc hF hmx iX hmt hg hd' (pI (fun s h=>ja _ _ _ h) (rk _ _ _ h)) hk hp)
theorem dK {Bs:aB->Gh->World->Prop} {call:bj} {rg:bj->bj} (hcall:ek cx Bs call) (hrg:sy cx rg) (horc:kC cx) (hmx:cx.P.follows .mixedOrders=true) {nf f:Nat}:∀ (c:Code) (F:Fence) (n:Nat) (mb:Mb) (w0:World) (r:R) (H0:aB) (gs:Gh) (ws:World) (k:E->St->Option R) (Q:Exit->Act->World->Prop) (s:St) (g:Gh) (a:Act) (w:World),g9 F->((F.round=none/\mb.free=true)∨jO c=true)->Bs H0 gs ws->Good cx N mb lo H0 gs ws w0 s g a w->py cx call rg nf f lo N c s k=some r ->
  (∀ e e' s' g' a' w',Good cx N mb lo H0 gs ws w0 s' g' a' w'->ER s' g' w' e e'->k e s'=some r->Q e' a' w')->c.wpIn F n cx.P Q a w
 | .skip,F,n,mb,w0,r,H0,gs,ws,k,Q,s,g,a,w,hF,hro,hb0,hg,h,hk=>wpIn_skip (hk .normal .normal _ _ _ _ hg trivial h)
 | .label l,F,n,mb,w0,r,H0,gs,ws,k,Q,s,g,a,w,hF,hro,hb0,hg,h,hk=>wpIn_label (hk .normal .normal _ _ _ _ hg trivial h)
 | .region id ops draw,F,n,mb,w0,r,H0,gs,ws,k,Q,s,g,a,w,hF,hro,hb0,hg,h,hk=>by
  rw[py] at h
  obtain ⟨s,g1,hg,h⟩:=Good.Jw _ hg h
  replace h:=br h
  obtain ⟨hd,h⟩:=h
  have hd':∀ o∈ops.toList,∀ d,o.dst=some d->d<N:=fun o ho d hod=>by
   have:=Yb.1 hd o ho
   rw[hod] at this; simpa using this
  cases draw with
  | false=>
   exact wpIn_region_list (gm (f:=f) (ops:=ops) hcall hb0 horc hF (fun s' g' a' w' hg' h'=>hk .normal .normal _ _ _ _ hg' trivial h') (fun x s' g' a' w' c hg' hv h'=>hk (.pan x) (.panic _) _ _ _ _ hg' ⟨c,rfl,hv⟩ h') _ s g1 a w hd' hg (ja _ _ _ h))
  | true=>
   simp only[XY] at h
   refine(qs (f:=f) hcall hb0 horc hF hmx hg (k:=k) ?_ (fun s' g' a' w' hg' h'=>hk .normal .normal _ _ _ _ hg' trivial h') (fun x s' g' a' w' c hg' hv h'=>hk (.pan x) (.panic _) _ _ _ _ hg' ⟨c,rfl,hv⟩ h')).wpIn
   unfold w8
   rw[hd]
   exact h
 | .seq x y,F,n,mb,w0,r,H0,gs,ws,k,Q,s,g,a,w,hF,hro,hb0,hg,h,hk=>by
  rw[py] at h
  cases hj:cx.join f (xn x) with
  | cons j js=>
   rw[hj] at h
   obtain ⟨r0,h0,h⟩:=bH (show ((py cx call rg nf f lo N x s (Jv (j :: js))).bind fun r=>NY r fun l H=>Ix (j :: js) l fun fr=>py cx call rg nf f lo N y ⟨fr,H⟩ k)=some r from h)
   refine qbK (dK hcall hrg horc hmx x F n mb w0 r0 H0 gs ws _ _ s g a w hF (rr hro).1 hb0 hg h0 fun e e' s' g' a' w' hg' he h'=>?_)
   cases e with
   | normal=>
    have hr:(Out.ret (.tup ((j :: js).map (look s'.fr))),s'.H)=r0:=Option.some.inj h'
    subst hr
    have h2:Ix (j :: js) ((j :: js).map (look s'.fr)) (fun fr=>py cx call rg nf f lo N y ⟨fr,s'.H⟩ k)=some r:=h
    rw[CI] at h2
    cases e'<;>first
     | exact dK hcall hrg horc hmx y F n mb w0 r H0 gs ws k Q (dU (j :: js) s') g' a' w' hF (rr hro).2 hb0 hg'.dU h2 hk
     | exact he.elim
   | _=>cases h'
  | nil=>
  rw[hj] at h
  replace h:py cx call rg nf f lo N x s (fun e s'=>match e with | .normal=>py cx call rg nf f lo N y s' k | e=>k e s')=some r:=h
  refine qbK (dK hcall hrg horc hmx x F n mb w0 r H0 gs ws _ _ s g a w hF (rr hro).1 hb0 hg h fun e e' s' g' a' w' hg' he h'=>?_)
  cases e with
  | normal=>cases e'<;>first
    | exact dK hcall hrg horc hmx y F n mb w0 r H0 gs ws k Q s' g' a' w' hF (rr hro).2 hb0 hg' h' hk
    | exact he.elim
  | exit i=>cases e'<;>first
    | exact hk _ _ _ _ _ _ hg' he h'
    | exact he.elim
  | goto i=>cases e'<;>first
    | exact hk _ _ _ _ _ _ hg' he h'
    | exact he.elim
  | ret=>cases e'<;>first
    | exact hk _ _ _ _ _ _ hg' he h'
    | exact he.elim
  | pan x=>cases e'<;>first
    | exact hk _ _ _ _ _ _ hg' he h'
    | exact he.elim
 | .cond c x y,F,n,mb,w0,r,H0,gs,ws,k,Q,s,g,a,w,hF,hro,hb0,hg,h,hk=>by
  rw[py] at h
  obtain ⟨b,hv,h⟩:=CR h (p0 (x:=c) (fun t _=>hg.sr.fr t) hg.sr.gl)
  refine wpIn_cond hv ?_
  cases b
  ·exact dK hcall hrg horc hmx y F n mb w0 r H0 gs ws k Q s g a w hF (rr hro).2 hb0 hg h hk
  ·exact dK hcall hrg horc hmx x F n mb w0 r H0 gs ws k Q s g a w hF (rr hro).1 hb0 hg h hk
 | .block id c,F,n,mb,w0,r,H0,gs,ws,k,Q,s,g,a,w,hF,hro,hb0,hg,h,hk=>by
  rw[py] at h
  refine wpIn_block (dK hcall hrg horc hmx c F n mb w0 r H0 gs ws _ _ s g a w hF hro hb0 hg h fun e e' s' g' a' w' hg' he h'=>?_)
  cases e with
  | exit i=>cases e' with
   | exit j=>
    obtain rfl:i=j:=he
    simp only[Exit.inBlock]
    simp only[bG] at h'
    split at h'
    ·rename_i hij
     rw[X4 (by simpa using hij)]
     exact hk .normal .normal _ _ _ _ hg' trivial h'
    ·rename_i hij
     rw[X8 (by simpa using hij)]
     exact hk (.exit i) (.exit i) _ _ _ _ hg' rfl h'
   | _=>exact he.elim
  | normal=>cases e'<;>first
    | exact hk _ .normal _ _ _ _ hg' he h'
    | exact he.elim
  | goto i=>cases e'<;>first
    | exact hk _ (.goto _) _ _ _ _ hg' he h'
    | exact he.elim
  | ret=>cases e'<;>first
    | exact hk _ .ret _ _ _ _ hg' he h'
    | exact he.elim
  | pan x=>cases e'<;>first
    | exact hk _ (.panic _) _ _ _ _ hg' he h'
    | exact he.elim
 | .scope c,F,n,mb,w0,r,H0,gs,ws,k,Q,s,g,a,w,hF,hro,hb0,hg,h,hk=>by
  rw[py] at h
  have hro':(F.round=none/\mb.free=true)∨jO c=true:=by
   rcases hro with h1 | h1
   ·exact .inl h1
   ·cases h1
  refine Bm (dK hcall hrg horc hmx c F n mb w0 r H0 gs ws _ _ s g a w hF hro' hb0 hg h fun e e' s' g' a' w' hg' he h'=>?_)
  cases e with
  | exit i=>cases e'<;>first
    | exact hk _ (.exit _) _ _ _ _ hg' he h'
    | exact he.elim
  | normal=>cases e'<;>first
    | exact hk _ .normal _ _ _ _ hg' he h'
    | exact he.elim
  | goto i=>cases h'
  | ret=>cases e'<;>first
    | exact hk _ .ret _ _ _ _ hg' he h'
    | exact he.elim
  | pan x=>cases e'<;>first
    | exact hk _ (.panic _) _ _ _ _ hg' he h'
    | exact he.elim
 | .loop c,F,n,mb,w0,r,H0,gs,ws,k,Q,s,g,a,w,hF,hro,hb0,hg,h,hk=>by
  rw[py] at h
  unfold Gk at h
  have hrst:=sZ lo (cx.acts f (cA c)) (dU (cx.keep f (cA c)) s)
  obtain ⟨g0,hg0,hl0⟩:=hg.dU (keep:=cx.keep f (cA c)) |>.acts (cx.acts f (cA c))
  have rounds:∀ (m:Nat) (s':St) (g':Gh) (a':Act) (w':World),Good cx N mb lo H0 gs ws w0 s' g' a' w'->(eu lo (cx.acts f (cA c)) (dU (cx.keep f (cA c)) s)).H.length<=s'.H.length->iter lo (cx.keep f (cA c)) (cx.acts f (cA c)) (eu lo (cx.acts f (cA c)) (dU (cx.keep f (cA c)) s)).H.length (fun s k=>py cx call rg nf f lo N c s k) (fun i s=>k (.exit i) s) (fun l s=>k (.goto l) s) (fun s=>k .ret s) (fun a s=>k (.pan a) s) m s'=some r->Code.roundsIn F n cx.P c Q m a' w':=by
   intro m
   induction m with
   | zero=>intro s' g' a' w' _ _ h; cases h
   | succ m ih=>
    intro s1 g1 a' w' hg1 hl h
    rw[iter] at h
    rw[roundsIn_succ]
    refine dK hcall hrg horc hmx c F n mb w0 r s1.H g1 w' _ _ s1 g1 a' w' hF hro (hcall.up _ _ _ _ _ _ hb0 hg1.ext) ⟨hg1.sr,Ext.refl hg1.sr.rel,X1 _,fun _ _ _=>rfl,hg1.siz,hg1.dfr,hg1.mbw,rfl⟩ h fun e e' s2 g2 a2 w2 hg2 he h2=>?_
    have hg3:Good cx N mb lo H0 gs ws w0 s2 g2 a2 w2:=⟨hg2.sr,hg1.ext.trans hg2.ext,Yp hg1.len hg2.len,fun b hb hb'=>(hg2.low b hb (Yh hb' hg1.len)).trans (hg1.low b hb hb'),hg2.siz,hg2.dfr,hg2.mbw,hg2.st.trans hg1.st⟩
    have hlen2:(eu lo (cx.acts f (cA c)) (dU (cx.keep f (cA c)) s)).H.length<=s2.H.length:=by have:=hg2.len; omega
    have hg4:Good cx N mb lo H0 gs ws w0 (dU (cx.keep f (cA c)) s2) g2 a2 w2:=hg3.dU
    cases e with
    | normal=>cases e'<;>first
      | (obtain ⟨s3,g3,h3,hg5,hl5⟩:=hg3.norm hg.len hl0 hrst hlen2 h2
         exact ih s3 g3 a2 w2 hg5 j6 h3)
      | exact he.elim
    | exit i=>cases e'<;>first
      | exact hk (.exit i) (.exit _) _ _ _ _ hg4 he h2
      | exact he.elim
    | goto i=>cases e'<;>first
      | exact hk (.goto i) (.goto _) _ _ _ _ hg4 he h2
      | exact he.elim
    | ret=>cases e'<;>first
      | exact hk .ret .ret _ _ _ _ hg4 he h2
      | exact he.elim
    | pan x=>cases e'<;>first
      | exact hk (.pan x) (.panic _) _ _ _ _ hg4 he h2
      | exact he.elim
  exact wpIn_loop_rounds nf (rounds nf (dU (cx.keep f (cA c)) (eu lo (cx.acts f (cA c)) (dU (cx.keep f (cA c)) s))) g0 a w hg0.dU (X1 _) h)
 | .exit id,F,n,mb,w0,r,H0,gs,ws,k,Q,s,g,a,w,hF,hro,hb0,hg,h,hk=>wpIn_exit (hk (.exit id) (.exit id) _ _ _ _ hg rfl h)
 | .goto l,F,n,mb,w0,r,H0,gs,ws,k,Q,s,g,a,w,hF,hro,hb0,hg,h,hk=>wpIn_goto (hk (.goto l) (.goto l) _ _ _ _ hg rfl h)
 | .ret,F,n,mb,w0,r,H0,gs,ws,k,Q,s,g,a,w,hF,hro,hb0,hg,h,hk=>wpIn_ret (hk .ret .ret _ _ _ _ hg trivial h)
 | .rangeFunc gop ps asg body,F,n,mb,w0,r,H0,gs,ws,k,Q,s,g,a,w,hF,hro,hb0,hg,h,hk=>by
  rw[py] at h
  unfold oD at h
  obtain ⟨g,hg,_⟩:=hg.acts (cx.acts f (Bd body))
  generalize eu lo (cx.acts f (Bd body)) s=s at h hg
  obtain ⟨⟨gf,cap⟩,hfn,h⟩:=bH h
  obtain ⟨iX,h⟩:=br h
  obtain ⟨⟨out,H2⟩,hcl,h⟩:=bH h
  simp only[XZ] at iX
  obtain ⟨⟨⟨c2,c3⟩,c4⟩,c1⟩:=iX
  have hlo:lo<=s.H.length:=by simpa [qak] using c1
  obtain ⟨hro,hfree⟩:F.round=none/\mb.free=true:=hro.elim id (fun h=>by cases h)
  obtain ⟨hcb,es,hgv,hcv⟩:=De hfn (p0 (x:=gop) (fun t _=>hg.sr.fr t) hg.sr.gl)
  refine wpIn_rangeFunc ?_
  intro fn hfnF
  rw[hro]
  obtain ⟨rec0,hrec⟩:∃ rec0:Loop,rec0={ state:=.ready,pending:=none,fn:=fn,tmps:=a.tmps,params:=ps,assign:=asg,body:=body,defers:=w.heap.size }:=⟨_,rfl⟩
  have hrr:jD rec0 .ready=rec0:=by rw[hrec]; rfl
  obtain ⟨W1,hW1⟩:∃ W1,(w.alloc (.deferred (some []))).alloc (.loop rec0)=W1:=⟨_,rfl⟩
  obtain ⟨hr1,he1⟩:=hg.sr.rel.begin rec0 hrr
  rw[hW1] at hr1 he1
  obtain ⟨g1,hg1⟩:∃ g1,(g.B8 s.H.length rec0).put s.H.length (some (w.heap.size+1)) []=g1:=⟨_,rfl⟩
  have hmu1:g1.mu s.H.length=some (w.heap.size+1):=by rw[<-hg1]; exact Gh.bP _ _ _ _
  have hlr1:g1.lr s.H.length=rec0:=by rw[<-hg1]; simp[Gh.put,Gh.B8]
  have hst1:g1.S=g.S:=by rw[<-hg1]; rfl
  rw[hg1] at hr1 he1
  have hB1:(s.H++[az.rng .ready])[s.H.length]? = some (.rng .ready):=r7
  have hsz1:W1.heap.size=w.heap.size+2:=by rw[<-hW1]; simp
  have hD1:W1.heap[w.heap.size]? = some (.deferred (some [])):=by
   rw[<-hW1]; exact(Below.heap_alloc _ _ _ r7).trans (qaL w _)
  have hfr1:∀ t,VR s.H g w (look (dU (cx.keep f (Bd body)) s).fr t) (a.tmps.getD t undef):=fun t=>(hg.dU (keep:=cx.keep f (Bd body))).sr.fr t
  have hy:qb cx (fun H g w=>Bs H g w/\Ext (s.H++[.rng .ready]) g1 W1 H g w) (sx cx.P.funcs.size call s.H.length (roundOf (fun s k=>py cx call rg nf f lo N asg s k) (fun s k=>py cx call rg nf f lo N body s k) lo s.H.length ps.toList (dU (cx.keep f (Bd body)) s).fr)):=by
   refine⟨fun H g w H' g' w' hb he=>⟨hcall.up _ _ _ _ _ _ hb.1 he,hb.2.trans he⟩,fun b args H lo' r' hy F' n' l g' w0' w' cargs hF' hb hr' hgl' hv' hmu'=>?_⟩
   unfold sx at hy
   rw[bG] at hy
   split at hy
   ·rename_i hbb
    have hbb:b=s.H.length:=by have:=Yq hbb; omega
    subst hbb
    have hB':∃ st,H[s.H.length]? = some (.rng st):=by
     obtain ⟨B',hB',ht⟩:=hb.2.blk _ _ hB1
     cases B' with
     | rng st=>exact⟨st,hB'⟩
     | dead=>have h1:=hr'.blk _ _ hB'; rw[show g'.mu s.H.length=none from h1] at hmu'; cases hmu'
     | box _=>exact ht.elim
     | mp _ _ _=>exact ht.elim
     | hole=>exact ht.elim
     | row wr _ _=>cases wr<;>exact ht.elim
    obtain ⟨st',hB'⟩:=hB'
    obtain ⟨m1,m2⟩:=hb.2.KX hB1 hB'
    have hex:=he1.trans hb.2
    exact zL (rec0:=rec0) (Bs:=Bs)
     (fun F n mb w0 r H0 gs ws k Q s g a w hF hb0 hg h hk=>dK hcall hrg horc hmx asg F n mb w0 r H0 gs ws k Q s g a w hF (.inr c3) hb0 hg h hk)
     (fun F n mb w0 r H0 gs ws k Q s g a w hF hb0 hg h hk=>dK hcall hrg horc hmx body F n mb w0 r H0 gs ws k Q s g a w hF (.inr c4) hb0 hg h hk)
     c2 hlo (by rw[hrec]) (by rw[hrec]) (by rw[hrec]) (by rw[hrec]; exact hg.siz) hy hF' hr' hb.1 hgl' (fun t=>by rw[hrec]; exact VR.ext hex _ _ (hfr1 t)) (m2.trans hlr1) hv' hmu'
   ·exact hcall.yl b args H lo' r' hy F' n' l g' w0' w' cargs hF' hb.1 hr' hgl' hv' hmu'
  have hv1:bC (s.H++[.rng .ready]) g1 W1 (.yld s.H.length :: cap) (.func (.yield (w.heap.size+1)) #[] #[] :: es.toList):=by
   rw[bC]
   refine⟨_,_,rfl,?_,bC.ext he1 _ _ hcv⟩
   rw[VR,hB1]
   exact⟨_,hmu1,rfl⟩
  have hgl1:∀ (G:Nat) (vs:List Value),cx.glob G=some vs->bQ (s.H++[.rng .ready]) g1 W1 G 0 vs:=fun G vs hG=>(hg.sr.gl G vs hG).ext he1
  have hci:=(hrg _ _ hy).fn gf _ _ lo (out,H2) (jx hcb) hcl F (n - 1) g1 w0 W1 _ hF hro ⟨hcall.up _ _ _ _ _ _ hb0 (hg.ext.trans he1),Ext.refl hr1⟩ hr1 hgl1 hv1
  refine⟨w.heap.size+1,[{ target:=.collected w.heap.size,args:=#[] }],W1,{ target:=.fn (.func gf) es,args:=#[.func (.yield (w.heap.size+1)) #[] #[]] },W1,gf,
   #[.func (.yield (w.heap.size + 1)) #[] #[]] ++ es, W1, ?_, ?_, ?_, ?_, fun h => (by rw [hF.1] at h; cases h), ?_⟩
  ·rw[<-hW1,hrec]; exact run_enterLoop_outer _ _ _ _ _
  ·simp only[resolve,hgv]
   simp[go_sem]
  ·intro f' _; exact hF.2.1 f'
  ·simp[invoke,ql hcb]
  ·have ea:(Value.func (.yield (w.heap.size+1)) #[] #[] :: es.toList).toArray=#[.func (.yield (w.heap.size+1)) #[] #[]]++es:=by apply ZJ; simp
   rw[<-ea]
   refine hci.mono ?_
   rintro e W2 ⟨g2,e1,e2,e3,e4,e6,e5⟩
   cases out with
   | pan x=>cases h
   | ret x=>
    cases e with
    | panicked _=>exact e5.elim
    | outgrown=>exact e5.elim
    | returned c=>
     have fin:∀ (st:cX) (e:E),st≠.busy->H2[s.H.length]? = some (.rng st)->k e ⟨s.fr,H2.set s.H.length .dead⟩=some r ->
       ∃ W3,(Instr.endLoop (w.heap.size+1)).run cx.P W2=.ok (jD rec0 st).pending W3/\∃ g3,Good cx N mb lo H0 gs ws w0 ⟨s.fr,H2.set s.H.length .dead⟩ g3 { a with defers:={ target:=.collected w.heap.size,args:=#[] } :: a.defers } W3:=fun st e hnb hB2 h=>by
      obtain ⟨m1,m2⟩:=e2.KX hB1 hB2
      obtain ⟨l2,hl2,hw2⟩:=e1.blk _ _ hB2
      rw[m1,hmu1] at hl2; cases hl2
      rw[m2,hlr1] at hw2
      have hel:=run_endLoop (P:=cx.P) hw2 (by cases st<;>first | (intro h; cases h; done) | exact absurd rfl hnb)
      obtain ⟨p1,p2⟩:=e1.rng hB2 .dead none (.loop { jD rec0 st with state:=.exhausted }) (m1.trans hmu1) hw2 (.inr ⟨rfl,rfl⟩)
      have hex:=he1.trans (e2.trans p2)
      have hlen:s.H.length<=H2.length:=by have:(s.H++[az.rng .ready]).length<=H2.length:=e3; simp at this; omega
      refine⟨_,hel,_,⟨p1,fun t=>VR.ext hex _ _ (hg.sr.fr t),fun G vs hG=>(hg.sr.gl G vs hG).ext hex⟩,hg.ext.trans hex,by simp; exact Yp hg.len hlen,fun c hc hc'=>?_,hg.siz,?_,Yp hg.mbw hex.size,?_⟩
      ·have hcs:c<s.H.length:=Yh hc' hg.len
       show (H2.set s.H.length .dead)[c]? = _
       rw[Yd j6,e4 c hc r8,Yf hcs]
       exact hg.low c hc hc'
      ·obtain ⟨ms,q1,q2,q3⟩:=hg.dfr
       refine⟨_ :: ms,by show _ :: a.defers=_; rw[q1]; rfl,Marks.cons (q2.m9 hex.kept) hg.mbw ((e2.trans p2).kept _ _ hD1) (fun r hr=>?_),fun h=>by rw[hfree] at h; cases h⟩
       have:=q2.lt hr
       omega
      ·show g2.S=gs.S
       rw[e6,hst1]; exact hg.st
     replace h:Be s.H.length H2 (fun e H=>k e ⟨s.fr,H⟩)=some r:=h
     unfold Be nm at h
     split at h
     ·rename_i hB2
      obtain ⟨W3,hel,g3,hg3⟩:=fin .ready .normal r7 hB2 h
      exact⟨none,W3,hel,hk .normal .normal _ _ _ _ hg3 trivial h⟩
     ·rename_i i hB2
      obtain ⟨W3,hel,g3,hg3⟩:=fin (.done (.exit i)) (.exit i) r7 hB2 h
      exact⟨some (.exit i),W3,hel,wpIn_exit (hk (.exit i) (.exit i) _ _ _ _ hg3 rfl h)⟩
     ·rename_i i hB2
      obtain ⟨W3,hel,g3,hg3⟩:=fin (.done (.goto i)) (.goto i) r7 hB2 h
      exact⟨some (.goto i),W3,hel,wpIn_goto (hk (.goto i) (.goto i) _ _ _ _ hg3 rfl h)⟩
     ·rename_i hB2
      obtain ⟨W3,hel,g3,hg3⟩:=fin (.done .ret) .ret r7 hB2 h
      exact⟨some .ret,W3,hel,wpIn_ret (hk .ret .ret _ _ _ _ hg3 trivial h)⟩
     ·cases h
 | .refuse _,F,n,mb,w0,r,H0,gs,ws,k,Q,s,g,a,w,hF,hro,hb0,hg,h,hk=>by cases h
theorem AY (args:List A) (t:Nat):look (frame args) t=(args[t]?).getD .any:=by
 have gen:∀ (args:List A) (i t:Nat),look ((args.zipIdx i).map fun p=>(p.2,p.1)) t=if i<=t then (args[t - i]?).getD .any else .any:=by
  intro args
  induction args with
  | nil=>intro i t; simp[look]
  | cons x r ih=>
   intro i t
   rw[List.zipIdx_cons,YX,eT,ih]
   by_cases e:i=t
   ·subst e; simp
   ·rw[X8 e]
    by_cases hlt:i<t
    ·rw[X4 j6,X4 j6]
     rw[show t - i=(t - (i+1))+1 by omega,qay]
    ·rw[X8 j6,X8 j6]
 have:=gen args 0 t
 simpa [frame] using this
theorem uV {P:Program} {t:TypeId} {c d:Value} (h:(Instr.loadAt t c).run P w=.ok d w):(do loadVar t (<-asAddr c):Sem Value).run P w=.ok d w:=by
 unfold Instr.loadAt at h
 cases c with
 | pointer p=>cases p with
  | some p=>simpa [Instr.sureAddr,asAddr] using h
  | none=>simp[Instr.sureAddr,stuck,Sem.run,Result.andThen] at h
 | _=>simp[Instr.sureAddr,stuck,Sem.run,Result.andThen] at h
def KA (tmps:Array Value):ResultVar->Sem Value
 | .tmp t=>pure (tmps.getD t undef)
 | .cell a t=>do loadVar t (<-asAddr (tmps.getD a undef))
theorem qt (hs:SR cx s g w0 a w) {r:ResultVar} {x:A} (h:tz cx s r=some x):∃ c,(KA a.tmps r).run cx.P w=.ok c w/\VR s.H g w x c:=by
 cases r with
 | tmp t=>cases h; exact⟨_,rfl,hs.fr t⟩
 | cell b t=>
  obtain ⟨d,h1,h2⟩:=rL hs.rel h (hs.fr b)
  exact⟨d,uV h1,h2⟩
theorem qu (hs:SR cx s g w0 a w):∀ {rs:List ResultVar} {xs:List A},pJ cx s rs=some xs->∃ cs:List Value,(rs.mapM (KA a.tmps)).run cx.P w=.ok cs w/\bC s.H g w xs cs/\cs.length=rs.length
 | [],xs,h=>by simp only[pJ,YK] at h; subst h; exact⟨[],r7,H4,rfl⟩
 | r :: rs,xs,h=>by
  rw[pJ] at h
  obtain ⟨y,hy,h⟩:=bH h
  obtain ⟨ys,hys,h⟩:=bH h
  cases h
  obtain ⟨c,h1,h2⟩:=qt hs hy
  obtain ⟨cs,h3,h4,h5⟩:=qu hs hys
  refine⟨c :: cs,?_,by rw[bC]; exact⟨c,cs,rfl,h2,h4⟩,by simp[h5]⟩
  rw[List.mapM_cons,Yy,h1]
  simp only[Yt,Yy,h3,Z6]
theorem Bc (fn:Func) (tmps:Array Value):results fn tmps=(do let vs <-fn.results.mapM (KA tmps); pure (if h:vs.size=1 then vs[0] else .tuple vs)):=by
 unfold results
 congr 1
theorem yI (hs:SR cx s g w0 a w) {fn:Func} {x:A} (h:BU cx fn s=some x):∃ c,(results fn a.tmps).run cx.P w=.ok c w/\VR s.H g w x c:=by
 rw[Bc,Array.mapM_eq_mapM_toList]
 unfold BU at h
 split at h
 ·rename_i r hr
  obtain ⟨c,h1,h2⟩:=qt hs h
  refine⟨c,?_,h2⟩
  rw[hr]
  simp[h1]
 ·rename_i hne
  obtain ⟨xs,hxs,h⟩:=bH h
  cases h
  obtain ⟨cs,h1,h2,h3⟩:=qu hs hxs
  refine⟨.tuple cs.toArray,?_,by rw[VR]; exact⟨_,rfl,by simpa using h2⟩⟩
  have hn1:cs.length≠1:=fun h1'=>by
   obtain ⟨r,hr⟩:=List.length_eq_one_iff.1 (show fn.results.toList.length=1 by omega)
   exact hne r hr
  simp[h1,hn1]
theorem te {k m:Nat} (h:k<m):Nat.ble m k=false:=by
 cases hb:Nat.ble m k with
 | false=>rfl
 | true=>rw[qak] at hb; omega
theorem Good.calm (hg:Good cx N mb lo H0 gs ws w0 s g a w) {B:Nat} (hB:ws.heap.size<=B) (hb:w0.heap.size<=B) (hc:eb B w w') (hl:∀ (k:Nat) (o:Loop),w.heap[k]? = some (.loop o)->w'.heap[k]? = some (.loop o)) (fr:Bool):Good cx N ⟨0,a.defers,fr⟩ lo H0 gs ws w0 s g a w':=
 have h0:=hg.sr.rel.yu hc
 ⟨⟨hg.sr.rel.calm hb hc hl,fun t=>VR.fB h0 _ _ (hg.sr.fr t),fun G vs hG=>(hg.sr.gl G vs hG).fB h0⟩,hg.ext.calm hg.sr.rel hB hc,hg.len,hg.low,hg.siz,iU.start _ _ _ _,YT _,hg.st⟩
theorem yr {fn:Func} {f:Nat} {r:R} (hg:Good cx N mb lo H0 gs ws w0 s g a w) (h:(oD (eu lo (cx.acts f 3000000) s) fun s=>m0 cx fn s)=some r):∃ v,(results fn a.tmps).run cx.P w=.ok v w/\ir H0 gs w0 ws lo r (.returned v) w:=by
 obtain ⟨g1,hg',_⟩:=Good.acts (cx.acts f 3000000) hg
 replace h:m0 cx fn (eu lo (cx.acts f 3000000) s)=some r:=h
 generalize eu lo (cx.acts f 3000000) s=s' at hg' h
 obtain ⟨x,hx,hrx⟩:=bH ((Dc cx fn s').symm.trans h)
 cases hrx
 obtain ⟨v,h1,h2⟩:=yI hg'.sr hx
 exact⟨v,h1,g1,hg'.sr.rel,hg'.ext,hg'.len,hg'.low,hg'.st,h2⟩
theorem tH {args:List A} {cargs:List Value} {m:Nat} (hv:bC H g w args cargs):∀ t,VR H g w (look (frame args) t) ((cargs.toArray++Array.replicate m undef).getD t undef):=fun t=>by
 rw[AY,YQ]
 cases ha:args[t]? with
 | none=>rw[Option.getD_none,VR]; trivial
 | some x=>
  obtain ⟨d,hd,hvd⟩:=hv.get ha
  rw[qan (by simpa using (X2.1 hd).1)]
  simp[hd]
  exact hvd
theorem zJ:∀ {l:List Oper} {b i d:Nat},recAt b l=some (i,d)->b<=i
 | [],b,i,d,h=>by cases h
 | o :: os,b,i,d,h=>by
  unfold recAt at h
  split at h
  ·cases h; exact X1 _
  ·have:=zJ h; omega
theorem uq:∀ {l:List Oper} {b i d:Nat},recAt b l=some (i,d)->∃ o,l[i - b]? = some o/\nj o=some d
 | [],b,i,d,h=>by cases h
 | o :: os,b,i,d,h=>by
  unfold recAt at h
  split at h
  ·rename_i d' hd
   cases h
   exact⟨o,by rw[qa9]; rfl,hd⟩
  ·obtain ⟨o',h1,h2⟩:=uq h
   have hb:b+1<=i:=zJ h
   refine⟨o',?_,h2⟩
   rw[show i - b=i - (b+1)+1 by omega]
   exact h1
theorem yH {Bs:aB->Gh->World->Prop} {call:bj} {rg:bj->bj} (hcall:ek cx Bs call) (hrg:sy cx rg) (horc:kC cx) (hmx:cx.P.follows .mixedOrders=true) {nf q lo:Nat} {cap:List A} {v:A} {H:aB} {k:aB->Option R} {r:R} (h:yG cx call rg nf lo q cap v H k=some r) {F:Fence} {n:Nat} {g:Gh} {w0 w:World} {ccap:List Value} {u:FrameMode} {cv:Value}
  (hF:g9 F) (hro:F.round=none) (hbs:Bs H g w) (hr:Rel H g w0 w) (hgl:∀ (G:Nat) (vs:List Value),cx.glob G=some vs->bQ H g w G 0 vs) (hv:bC H g w cap ccap) (hcv:VR H g w v cv) (hu:u=.panicking [{ v:=cv,recovered:=false }]∨(u=.returning/\cv=.nilIface)) :
  CallsDIn F n cx.P q ccap.toArray u w fun e u' w'=>(∃ x,e=.returned x)/\settle u'=.returning/\∃ H' g',Rel H' g' w0 w'/\Ext H g w H' g' w'/\H.length<=H'.length/\(∀ b,b<lo->b<H.length->H'[b]? = H[b]?)/\g'.S=g.S/\k H'=some r:=by
 unfold yG at h
 obtain ⟨fn,hfn,h⟩:=bH h
 obtain ⟨c,hc,h⟩:=bH h
 split at h
 ·rename_i id ops rest
  split at h
  ·rename_i o os hops
   obtain ⟨d,hd,h⟩:=bH h
   obtain ⟨hchk,h⟩:=br h
   simp only[Uk,XZ,X6] at hchk
   obtain ⟨⟨⟨hle,hdo⟩,hnr⟩,hre⟩:=hchk
   have hres:fn.results=#[]:=by
    have:fn.results.toList=[]:=by simpa using hre
    apply ZJ; simpa using this
   have hl:=hv.length
   have hdst:o.dst=some d:=(ow (P:=cx.P) hd).1
   have hd':∀ o∈ops.toList,∀ d,o.dst=some d->d<fn.ntmps:=fun o ho d hod=>by
    have:=Yb.1 hdo o ho
    rw[hod] at this; simpa using this
   refine callsDIn_of_wpSIn hfn hc (hF.2.1 q) fun c₀ cs hu0=>?_
   obtain ⟨u',hset,hrec⟩:∃ u',settle u'=.returning/\(recoverD (c₀ :: cs)=some (cv,{ c₀ with mode:=u' } :: cs)∨(recoverD (c₀ :: cs)=none/\({ c₀ with mode:=u' } :: cs:List Frame)=c₀ :: cs/\cv=.nilIface)):=by
    rcases hu with hu | ⟨hu,hcn⟩
    ·refine⟨.panicking [{ v:=cv,recovered:=true }],rfl,.inl ?_⟩
     have e:=hu0.trans hu
     simp only[recoverD,e]
    ·refine⟨.returning,rfl,.inr ⟨?_,?_,hcn⟩⟩
     ·have e:=hu0.trans hu
      simp only[recoverD,e]
     ·have:({ c₀ with mode:=.returning }:Frame)=c₀:=by rw[<-hu,<-hu0]
      rw[this]
   refine wpSIn_seq (rF hops hd (fun f=>hF.2.1 f) hro hrec ?_)
   have hsz:(ccap.toArray++Array.replicate (fn.ntmps - ccap.toArray.size) undef).size=fn.ntmps:=r8
   have hdl:d<fn.ntmps:=hd' o (by rw[hops]; simp) d hdst
   have hg0:Good cx fn.ntmps ⟨0,[],false⟩ lo H g w w0 ⟨(d,v) :: frame cap,H⟩ g (({ tmps:=ccap.toArray++Array.replicate (fn.ntmps - ccap.toArray.size) undef,defers:=[] }:Act).put (some d) cv) w:=by
    refine⟨⟨hr,fun t=>?_,hgl⟩,Ext.refl hr,X1 _,fun _ _ _=>rfl,by rw[Act.qH]; exact hsz,iU.start _ _ _ _,YT _,rfl⟩
    show VR H g w (look ((d,v) :: frame cap) t) (slot _ t)
    rw[eT]
    split
    ·rename_i e; subst e; rw[fK (by rw[hsz]; exact hdl)]; exact hcv
    ·rename_i e; rw[dV (fun e2=>e (by cases e2; rfl))]; exact tH hv t
   refine gm (f:=q) (ops:=ops) hcall hbs horc hF (fun s' g' a' w' hg' h'=>?_) (fun x s' g' a' w' c hg' hvx h'=>by cases h') os _ g _ w (fun o' ho'=>hd' o' (by rw[hops]; simp[ho'])) hg0 h
   refine wpSIn_of_wpIn hro ?_
   refine dK hcall hrg horc hmx rest F n ⟨0,[],false⟩ w0 r H g w _ _ s' g' a' w' hF (.inr hnr) hbs hg' h' fun e e' s2 g2 a2 w2 hg2 he h2=>?_
   have hdf:a2.defers=[]:=by
    obtain ⟨ms,q1,_,q3⟩:=hg2.dfr
    rw[q1,q3 rfl]; rfl
   have fin:∀ x:Value,k s2.H=some r->(∃ y:Value,Ending.returned x=.returned y)/\settle u'=.returning/\∃ H' g',Rel H' g' w0 w2/\Ext H g w H' g' w2/\H.length<=H'.length/\(∀ b,b<lo->b<H.length->H'[b]? = H[b]?)/\g'.S=g.S/\k H'=some r:=fun x hk=>⟨⟨x,rfl⟩,hset,s2.H,g2,hg2.sr.rel,hg2.ext,hg2.len,hg2.low,hg2.st,hk⟩
   have hrs:(results fn a2.tmps).run cx.P w2=.ok (.tuple #[]) w2:=by simp[results,hres]
   cases e with
   | normal=>cases e'<;>first
     | exact⟨hdf,u',rfl,_,hrs,fin _ h2⟩
     | exact he.elim
   | ret=>cases e'<;>first
     | exact⟨hdf,u',rfl,_,hrs,fin _ h2⟩
     | exact he.elim
   | pan x=>cases h2
   | exit i=>cases h2
   | goto i=>cases h2
  ·cases h
 ·rename_i id ops
  obtain ⟨⟨i0,d⟩,hra,h⟩:=bH h
  obtain ⟨hchk,h⟩:=br h
  simp only[Um,XZ,X6] at hchk
  obtain ⟨⟨⟨⟨hle,hdl⟩,hok⟩,hna0⟩,hre⟩:=hchk
  obtain ⟨o0,ho0,hd⟩:=uq hra
  rw[qbF,Yx] at ho0
  have hna:o0.after=#[]:=by
   rw[ho0] at hna0
   have:o0.after.toList=[]:=by simpa using hna0
   apply ZJ; simpa using this
  have hres:fn.results=#[]:=by
   have:fn.results.toList=[]:=by simpa using hre
   apply ZJ; simpa using this
  have hl:=hv.length
  have hsz:(ccap.toArray++Array.replicate (fn.ntmps - ccap.toArray.size) undef).size=fn.ntmps:=r8
  refine callsDIn_of_wpSIn hfn hc (hF.2.1 q) fun c₀ cs hu0=>?_
  obtain ⟨u',hset,hrec⟩:∃ u',settle u'=.returning/\(recoverD (c₀ :: cs)=some (cv,{ c₀ with mode:=u' } :: cs)∨(recoverD (c₀ :: cs)=none/\({ c₀ with mode:=u' } :: cs:List Frame)=c₀ :: cs/\cv=.nilIface)):=by
   rcases hu with hu | ⟨hu,hcn⟩
   ·refine⟨.panicking [{ v:=cv,recovered:=true }],rfl,.inl ?_⟩
    have e:=hu0.trans hu
    simp only[recoverD,e]
   ·refine⟨.returning,rfl,.inr ⟨?_,?_,hcn⟩⟩
    ·have e:=hu0.trans hu
     simp only[recoverD,e]
    ·have:({ c₀ with mode:=.returning }:Frame)=c₀:=by rw[<-hu,<-hu0]
     rw[this]
  refine qO hmx ho0 hd hna hok (fun f=>hF.2.1 f) hro (by rw[hsz]; exact hdl) hrec ?_
  have hg0:Good cx fn.ntmps ⟨0,[],false⟩ lo H g w w0 ⟨(d,v) :: frame cap,H⟩ g (({ tmps:=ccap.toArray++Array.replicate (fn.ntmps - ccap.toArray.size) undef,defers:=[] }:Act).put (some d) cv) w:=by
   refine⟨⟨hr,fun t=>?_,hgl⟩,Ext.refl hr,X1 _,fun _ _ _=>rfl,by rw[Act.qH]; exact hsz,iU.start _ _ _ _,YT _,rfl⟩
   show VR H g w (look ((d,v) :: frame cap) t) (slot _ t)
   rw[eT]
   split
   ·rename_i e; subst e; rw[fK (by rw[hsz]; exact hdl)]; exact hcv
   ·rename_i e; rw[dV (fun e2=>e (by cases e2; rfl))]; exact tH hv t
  refine qs hcall hbs horc hF hmx hg0 h (fun s2 g2 a2 w2 hg2 h2=>?_) (fun x s' g' a' w' c hg' hvx h'=>by cases h')
  have hdf:a2.defers=[]:=by
   obtain ⟨ms,q1,_,q3⟩:=hg2.dfr
   rw[q1,q3 rfl]; rfl
  have fin:∀ x:Value,k s2.H=some r->(∃ y:Value,Ending.returned x=.returned y)/\settle u'=.returning/\∃ H' g',Rel H' g' w0 w2/\Ext H g w H' g' w2/\H.length<=H'.length/\(∀ b,b<lo->b<H.length->H'[b]? = H[b]?)/\g'.S=g.S/\k H'=some r:=fun x hk=>⟨⟨x,rfl⟩,hset,s2.H,g2,hg2.sr.rel,hg2.ext,hg2.len,hg2.low,hg2.st,hk⟩
  have hrs:(results fn a2.tmps).run cx.P w2=.ok (.tuple #[]) w2:=by simp[results,hres]
  exact⟨hdf,u',rfl,_,hrs,fin _ h2⟩
 ·cases h
theorem tY:∀ {os init:List Oper} {o:Oper},zp os=some (init,o)->os=init++[o]
 | [],_,_,h=>by cases h
 | [x],_,_,h=>by
  simp only[zp,YK,Prod.mk.injEq] at h
  rw[<-h.1,<-h.2]; rfl
 | x :: y :: os,init,o,h=>by
  unfold zp at h
  simp only[YE] at h
  obtain ⟨⟨i,o'⟩,h1,h2⟩:=h
  cases h2
  rw[tY h1]; rfl
theorem AB {o:Oper} {q:Nat} {cap:List A} (h:EP cx s o=some (q,cap)) (hs:SR cx s g w0 a w):o.guard=none/\o.dst=none/\db cx.P q=true/\∃ es:Array Value,bC s.H g w cap es.toList/\(execOp a.eval o).run cx.P w=.ok (.defer { target:=.fn (.func q) es,args:=#[] }) w:=by
 unfold EP at h
 split at h
 ·rename_i c ho
  split at h
  ·rename_i gop hcal hargs
   split at h
   ·rename_i q' cap' hop
    obtain ⟨hc,h⟩:=br h
    cases h
    simp only[Uh,XZ] at hc
    have hvr:=p0 (cx:=cx) (x:=gop) (fun t _=>hs.fr t) hs.gl
    rw[hop,VR] at hvr
    obtain ⟨ds,es,e1,e2,e3⟩:=hvr
    rw[bC] at e2
    have hds:ds=#[]:=by apply ZJ; simpa using e2
    subst hds
    have hca:c.args=#[]:=by apply ZJ; simpa using hargs
    refine⟨my hc.1.2,by simpa using hc.2,hc.1.1,es,e3,?_⟩
    unfold execOp
    rw[ho]
    simp[resolve,hcal,e1,Deferred.ofValue,hca]
   ·cases h
  ·cases h
 ·cases h
theorem pr {Bs:aB->Gh->World->Prop} {call:bj} {rg:bj->bj} (hcall:ek cx Bs call) (hrg:sy cx rg) (horc:kC cx) (hmx:cx.P.follows .mixedOrders=true) {n f lo:Nat} {args:List A} {H:aB} {r:R} (h:aE cx call rg n f args H lo=some r) {F:Fence} {d:Nat} {g:Gh} {w0 w:World} {cargs:List Value} (hF:g9 F) (hro:F.round=none) (hbs:Bs H g w) (hr:Rel H g w0 w)
  (hgl:∀ (G:Nat) (vs:List Value),cx.glob G=some vs->bQ H g w G 0 vs) (hv:bC H g w args cargs):CallsIn F d cx.P f cargs.toArray w (ir H g w0 w lo r):=by
 rw[aE] at h
 obtain ⟨fn,hfn,h⟩:=bH h
 obtain ⟨c,hc,h⟩:=bH h
 obtain ⟨hle,h⟩:=br h
 have hle:=X7 hle
 have hl:=hv.length
 refine callsIn_of_wp_marks hfn hc (hF.2.1 f) ?_ hro
 have hsz:(cargs.toArray++Array.replicate (fn.ntmps - cargs.toArray.size) undef).size=fn.ntmps:=r8
 have hfr:=tH (m:=fn.ntmps - cargs.toArray.size) hv
 have hbase:w0.heap.size<=w.heap.size:=hr.below.size
 have hg0:∀ b,Good cx fn.ntmps ⟨w.heap.size,[],b⟩ lo H g w w0 ⟨frame args,H⟩ g { tmps:=cargs.toArray++Array.replicate (fn.ntmps - cargs.toArray.size) undef,defers:=[] } w:=fun b=>⟨⟨hr,hfr,hgl⟩,Ext.refl hr,X1 _,fun _ _ _=>rfl,hsz,iU.start _ _ _ _,X1 _,rfl⟩
 cases hdf:zf c with
 | false=>
  rw[hdf] at h
  refine dK (cx:=cx) (N:=fn.ntmps) (lo:=lo) (nf:=n) (f:=f) hcall hrg horc hmx c F d ⟨w.heap.size,[],true⟩ w0 r H g w _ _ ⟨frame args,H⟩ g _ w hF (.inl ⟨hro,rfl⟩) hbs (hg0 true) h fun e e' s' g' a' w' hg' he h'=>?_
  obtain ⟨ms,q1,q2,_⟩:=hg'.dfr
  have hret:(oD (eu lo (cx.acts f 3000000) s') fun s=>m0 cx fn s)=some r->LeavesInM F d cx.P fn a'.tmps (ir H g w0 w lo r) a'.defers .returning w':=fun h'=>by
   rw[q1]
   refine od ms .returning w' r7 q2 fun W' hcm hlm=>?_
   obtain ⟨v,h1,h2⟩:=yr (hg'.calm (X1 _) hbase hcm hlm true) h'
   exact⟨v,h1,h2⟩
  cases e with
  | normal=>cases e'<;>first
    | exact hret h'
    | exact he.elim
  | ret=>cases e'<;>first
    | exact hret h'
    | exact he.elim
  | pan x=>cases e'<;>first
    | (obtain ⟨c',rfl,hvr⟩:=he
       cases h'
       show LeavesInM F d cx.P fn a'.tmps _ a'.defers (.panicking _) w'
       rw[q1]
       refine od ms _ w' r7 q2 fun W' hcm hlm=>?_
       have hg2:=hg'.calm (X1 _) hbase hcm hlm true
       exact⟨g',hg2.sr.rel,hg2.ext,hg2.len,hg2.low,hg2.st,c',rfl,VR.fB (hg'.sr.rel.yu hcm) _ _ hvr⟩)
    | exact he.elim
  | exit i=>cases h'
  | goto i=>cases h'
 | true=>
  rw[hdf] at h
  replace h:w5 cx call rg n f lo fn c args H=some r:=h
  unfold w5 at h
  split at h
  ·rename_i c0 id ops rest _
   obtain ⟨hchk,h⟩:=br h
   rw[Ui,XZ] at hchk
   have hd':∀ o∈ops.toList,∀ d,o.dst=some d->d<fn.ntmps:=fun o ho d hod=>by
    have:=Yb.1 hchk.1 o ho
    rw[hod] at this; simpa using this
   have hem:∀ {s':St} {g':Gh} {a':Act} {w':World},Good cx fn.ntmps ⟨w.heap.size,[],false⟩ lo H g w w0 s' g' a' w'->a'.defers=[]:=fun hg'=>by
    obtain ⟨ms,q1,_,q3⟩:=hg'.dfr
    rw[q1,q3 rfl]; rfl
   refine qbK (dK hcall hrg horc hmx c0 F d ⟨w.heap.size,[],false⟩ w0 r H g w _ _ ⟨frame args,H⟩ g _ w hF (.inr hchk.2) hbs (hg0 false) h fun e e' s1 g1 a1 w1 hg1 he h=>?_)
   cases e with
   | normal=>
    cases e' with
    | normal=>
     obtain ⟨⟨init,dop⟩,hla,h⟩:=bH h
     have hsp:=tY hla
     refine qbK (wpIn_region_list ?_)
     rw[hsp]
     refine nx (Q:=fun e a w2=>e=.normal/\wpListIn F d cx.P ops _ [dop] a w2) (fun e a w2 he h=>absurd h.1 he) (fun a w2 h=>h.2) init a1 w1 ?_
     refine gm (f:=f) (ops:=ops) hcall hbs horc hF (fun s2 g2 a2 w2 hg2 h=>⟨rfl,?_⟩) (fun x s' g' a' w' c hg' hvx h=>by cases h) init s1 g1 a1 w1 (fun o ho=>hd' o (by rw[hsp]; simp[ho])) hg1 h
     obtain ⟨⟨q,cap⟩,hcl,h⟩:=bH h
     obtain ⟨k1,k2,hcb,es,hes,hrun⟩:=AB (o:=dop) hcl hg2.sr
     unfold wpListIn
     rw[X4 (by simp[Region.wanted,k1])]
     refine⟨fun f _=>hF.2.1 f,?_⟩
     rw[hro,qae,hrun,Oper.uponIn_defer,k2,hem hg2]
     obtain ⟨dd,hdd⟩:∃ dd:Deferred,dd={ target:=.fn (.func q) es,args:=#[] }:=⟨_,rfl⟩
     rw[<-hdd]
     refine dK hcall hrg horc hmx rest F d ⟨w.heap.size,[dd],true⟩ w0 r s2.H g2 w2 _ _ s2 g2 { a2 with defers:=[dd] } w2 hF (.inl ⟨hro,rfl⟩) (hcall.up _ _ _ _ _ _ hbs hg2.ext) ⟨⟨hg2.sr.rel,hg2.sr.fr,hg2.sr.gl⟩,Ext.refl hg2.sr.rel,X1 _,fun _ _ _=>rfl,hg2.siz,iU.start _ _ _ _,hg2.mbw,rfl⟩ h fun e e' s3 g3 a3 w3 hg30 he h=>?_
     have hg3:Good cx fn.ntmps ⟨w.heap.size,[dd],true⟩ lo H g w w0 s3 g3 a3 w3:=⟨hg30.sr,hg2.ext.trans hg30.ext,Yp hg2.len hg30.len,fun b hb hb'=>(hg30.low b hb (Yh hb' hg2.len)).trans (hg2.low b hb hb'),hg30.siz,hg30.dfr,hg30.mbw,hg30.st.trans hg2.st⟩
     obtain ⟨ms,q1,q2,_⟩:=hg3.dfr
     replace q1:a3.defers=ms++[dd]:=q1
     have key:∀ (u:FrameMode) (x:A) (cv:Value),(u=.panicking [{ v:=cv,recovered:=false }]∨(u=.returning/\cv=.nilIface))->VR s3.H g3 w3 x cv->yG cx call rg n lo q cap x s3.H (fun H=>oD (eu lo (cx.acts f 3000000) ⟨s3.fr,H⟩) fun s=>m0 cx fn s)=some r->LeavesInM F d cx.P fn a3.tmps (ir H g w0 w lo r) a3.defers u w3:=fun u x cv hu hx h=>by
      rw[q1]
      have hrunu:u≠.run:=by rcases hu with rfl | ⟨rfl,_⟩<;>simp
      refine od ms u w3 hrunu q2 fun W' hcm hlm=>?_
      have hg4:=hg3.calm (X1 _) hbase hcm hlm true
      have h0:=hg3.sr.rel.yu hcm
      refine⟨hrunu,.inr ⟨fun hs=>(by rw[hF.1] at hs; cases hs),.func q,es,q,es,by rw[hdd],?_,fun f _=>hF.2.1 f,?_⟩⟩
      ·rw[hdd]
       have:=ql hcb (#[]++es) W'
       simpa [invoke] using this
      ·have hcap:bC s3.H g3 W' cap es.toList:=bC.fB h0 _ _ (bC.ext hg30.ext _ _ hes)
       have hrc:CallsDIn F.plain (d - 1) cx.P q es.toList.toArray u W' _:=yH (F:=F.plain) (n:=d - 1) hcall hrg horc hmx h hF rfl (hcall.up _ _ _ _ _ _ hbs hg4.ext) hg4.sr.rel hg4.sr.gl hcap (VR.fB h0 _ _ hx) hu
       rw[show es.toList.toArray=es by simp] at hrc
       have hrc':CallsDIn F (d - 1) cx.P q es u W' _:=hrc
       refine hrc'.mono ?_
       rintro e u' w4 ⟨⟨v,rfl⟩,hset,H',g',j1,j2,j3,j4,j5,hk⟩
       show LeavesInM F d cx.P fn a3.tmps _ [] (settle u') w4
       rw[hset]
       have hx2:=hg4.ext.trans j2
       obtain ⟨v',l1,l2⟩:=yr (a:=a3) (mb:=⟨0,a3.defers,true⟩) (s:=⟨s3.fr,H'⟩) ⟨⟨j1,fun t=>VR.ext j2 _ _ (hg4.sr.fr t),fun G vs hG=>(hg4.sr.gl G vs hG).ext j2⟩,hx2,Yp hg4.len j3,fun b hb hb'=>(j4 b hb (Yh hb' hg4.len)).trans (hg4.low b hb hb'),hg4.siz,iU.start _ _ _ _,YT _,j5.trans hg4.st⟩ hk
       exact⟨v',l1,l2⟩
     have hni:VR s3.H g3 w3 (.v .nilIface) .nilIface:=s8
     cases e with
     | normal=>cases e' with
      | normal=>exact key .returning (.v .nilIface) .nilIface (.inr ⟨rfl,rfl⟩) hni h
      | _=>exact he.elim
     | ret=>cases e' with
      | ret=>exact key .returning (.v .nilIface) .nilIface (.inr ⟨rfl,rfl⟩) hni h
      | _=>exact he.elim
     | pan x=>cases e' with
      | panic ch=>
       obtain ⟨c',rfl,hvr⟩:=he
       exact key _ x c' (.inl rfl) hvr h
      | _=>exact he.elim
     | exit i=>cases h
     | goto i=>cases h
    | _=>exact he.elim
   | _=>cases h
  ·cases h
theorem yn {p:az->Bool} {H:aB} {m:Nat} (h:(H.take m).all p=true) (b:Nat) (B:az) (hb:b<m) (hB:H[b]? = some B):p B=true:=
 Yb.1 h B (Yk (i:=b) (by rw[Yi,X4 hb]; exact hB))
theorem qn {m:Nat} {f:aB->Option R} {args:List A} {H:aB} {r:R} (h:oP m f args H=some r):bh m args=true/\(H.take m).all (az.under m)=true/\∃ o H1,f (H.take m)=some (o,H1)/\m<=H1.length/\(H1.take m).all (az.under m)=true/\qG m o=true/\r=(o,H1.take m++H.drop m):=by
 unfold oP at h
 obtain ⟨h1,h⟩:=br h
 obtain ⟨⟨o,H1⟩,h2,h⟩:=bH h
 obtain ⟨h3,h⟩:=br h
 rw[XZ] at h1
 simp only[XZ] at h3
 cases h
 exact⟨h1.1,h1.2,o,H1,h2,Yu h3.1.1,h3.1.2,h3.2,rfl⟩
theorem EM {k:Nat} {H:aB}:cutAt cx k H<=H.length:=by
 unfold cutAt
 cases hb:Nat.ble (cx.cut k) H.length with
 | true=>exact Yu hb
 | false=>exact X1 _
theorem pv (horc:kC cx) (hmx:cx.P.follows .mixedOrders=true):∀ n,sy cx (bq cx n)
 | 0=>fun Bs base hy=>⟨⟨hy.up,fun b args H lo r h=>hy.yl b args H lo r (by
   rw[bq,bG,X4 (by rw[qak]; omega)] at h; exact h)⟩,(fun k args H lo r hk h=>by rw[bq,te hk] at h; cases h),fun k args H lo r hk _ _ h=>by rw[bq,te hk] at h; cases h⟩
 | n+1=>fun Bs base hy=>by
  refine⟨⟨hy.up,fun b args H lo r h=>hy.yl b args H lo r (by
   rw[bq,bG,X4 (by rw[qak]; omega)] at h; exact h)⟩,?_,fun k args H lo r hk h0 hm h=>?_⟩
  rotate_left 1
  ·rw[bq,te hk] at h
   replace h:(bif gD cx k H then oP (cutAt cx k H) (fun H=>aE cx (bq cx n Hi) (bq cx n) n k args H lo) args H else bif gO cx k H then kG cx k args H else aE cx (bq cx n base) (bq cx n) n k args H lo)=some r:=h
   have hc:gD cx k H=true:=by
    unfold gD
    have:Nat.beq (cx.cut k) 0=false:=by
     cases hb:Nat.beq (cx.cut k) 0 with
     | false=>rfl
     | true=>exact absurd (Yq hb) h0
    rw[this,Y0 hm]; rfl
   have hcm:cutAt cx k H=cx.cut k:=by unfold cutAt; rw[Y0 hm]; rfl
   simp only[hc,XY,hcm] at h
   obtain ⟨_,_,o,H1,_,hm1,_,_,rfl⟩:=qn h
   refine⟨XN,fun b hb=>?_⟩
   rw[Yo u3,YV,Zj,Zn hm1]
   congr 1; omega
  intro f args H lo r hkc h F d g w0 w cargs hF hro hbs hr hgl hv
  have hrg:=pv horc hmx n
  have hcall:=hrg Bs base hy
  rw[bq,te hkc] at h
  replace h:(bif gD cx f H then oP (cutAt cx f H) (fun H=>aE cx (bq cx n Hi) (bq cx n) n f args H lo) args H else bif gO cx f H then kG cx f args H else aE cx (bq cx n base) (bq cx n) n f args H lo)=some r:=h
  cases hc:gD cx f H with
  | false=>
   rw[hc] at h
   cases hd:gO cx f H with
   | false=>rw[hd] at h; exact pr hcall hrg horc hmx h hF hro hbs hr hgl hv
   | true=>
    rw[hd] at h
    replace h:kG cx f args H=some r:=h
    unfold kG at h
    obtain ⟨y,hy,h⟩:=bH h
    obtain ⟨hv1,h⟩:=br h
    cases h
    have hdp:cx.deep f=true:=by
     unfold gO at hd
     cases hq:cx.deep f with
     | true=>rfl
     | false=>rw[hq] at hd; cases hd
    have hcallok:=horc f _ y (.inr (.inr hdp)) hy g.S w cargs hr.out (fun G vs hG j v hj=>let ⟨e1,e2⟩:=hgl G vs hG j v hj; ⟨e1,e2.1,fun b hb=>by cases hb⟩) (wi hr 6 _ _ hv)
    refine(iW hF hcallok).mono ?_
    rintro e w' ⟨c',rfl,hb,hvr⟩
    refine⟨g,hr.jB hb,Ext.below hr hb,X1 _,fun _ _ _=>rfl,rfl,?_⟩
    cases y with
    | v x=>rw[VR] at hvr; show VR H g w' (.v x) c'; rw[VR]; exact hvr
    | _=>cases hv1
  | true=>
   simp only[hc,XY] at h
   obtain ⟨hu1,hu2,o,H1,h9,hm1,hu3,hu4,rfl⟩:=qn h
   have hm:=EM (cx:=cx) (k:=f) (H:=H)
   obtain ⟨hr',ag⟩:=hr.rZ hm (yn hu2)
   have hno:qb cx (fun _ _ _=>True) Hi:=⟨fun _ _ _ _ _ _ _ _=>trivial,fun _ _ _ _ _ h=>by cases h⟩
   refine(pr (hrg _ _ hno) hrg horc hmx h9 hF hro trivial hr' (fun G vs hG=>(hgl G vs hG).to ag) (bC.to ag _ _ hu1 hv)).mono ?_
   rintro e w' ⟨g1,k1,k2,k3,k4,k6,k5⟩
   obtain ⟨g2,e1,e2,e3,ag2⟩:=hr.join hm k1 k2 hm1 k6 (yn hu3)
   refine⟨g2,e1,e2,XN,fun b hb hb'=>?_,e3,?_⟩
   ·by_cases hbm:b<cutAt cx f H
    ·rw[Yf u3,Yi,X4 hbm,k4 b hb u3,Yi,X4 hbm]
    ·rw[Yo u3,YV,Zj,Zn hm1]
     congr 1; omega
   ·cases o with
    | ret x=>cases e with
     | returned c=>exact VR.to ag2 _ _ hu4 k5
     | panicked _=>exact k5
     | outgrown=>exact k5
    | pan x=>cases e with
     | panicked ch=>obtain ⟨c,rfl,hv⟩:=k5; exact⟨c,rfl,VR.to ag2 _ _ hu4 hv⟩
     | returned _=>exact k5
     | outgrown=>exact k5
theorem Db {n k:Nat} {args:List A} {H:aB} {lo:Nat} {r:R} (h:dS cx n k args H lo=some r):k<cx.P.funcs.size:=by
 refine Zq fun hle=>?_
 have hb:Nat.ble cx.P.funcs.size k=true:=by rw[qak]; exact hle
 unfold dS at h
 cases n with
 | zero=>rw[bq,hb] at h; cases h
 | succ n=>rw[bq,hb] at h; cases h
theorem wK (horc:kC cx) (hmx:cx.P.follows .mixedOrders=true) {n k:Nat} {args:List A} {x:A} {H':aB} (h:dS cx n k args [] 0=some (.ret x,H')):fh cx.P cx.glob k args (aK H' x):=by
 intro S w cargs hS hgl hv
 have hr:Rel [] (G0 S) w w:=⟨Below.refl _ _,fun b k h=>(by cases h),fun b c k h=>(by cases h),hS,fun b k o h=>(by cases h),fun b B h=>(by simp at h)⟩
 have hno:qb cx (fun _ _ _=>True) Hi:=⟨fun _ _ _ _ _ _ _ _=>trivial,fun _ _ _ _ _ h=>by cases h⟩
 have hkc:=Db h
 have hc:=(pv horc hmx n _ _ hno).fn k args [] 0 _ hkc h Fence.wide 0 (G0 S) w w cargs Bj rfl trivial hr hgl hv
 refine(callsIn_wide.1 hc).mono ?_
 rintro e w' ⟨g',e1,e2,_,_,e5,e6⟩
 cases e with
 | returned c=>
  refine⟨c,rfl,e1.below,?_⟩
  exact VR.fB (H:=[]) (g:=G0 g'.S) ⟨fun k o v hs hc=>⟨hc,by have:=hs.1; rw[show (G0 g'.S).S=g'.S from rfl,e5] at this; exact this,fun b hb=>(by cases hb)⟩,fun b B hB=>(by simp at hB),fun k arr cl hs hm=>⟨hm,by have:=hs.1; rw[show (G0 g'.S).S=g'.S from rfl,e5] at this; exact this,fun b hb=>(by cases hb)⟩⟩ _ _ (Gi e1 x c e6)
 | panicked _=>exact e6.elim
 | outgrown=>exact e6.elim
end
section
open Go.RowKit
end
section
open Go.RowKit Go.ChangeShapes Go.WideShapes Go.ChangeAt Go.Deep
theorem pz {H:Type} {enc:TypeId×Value->H} {P:Program} (hl:laidOutB P=true) {W W':World} (hb:Below W.heap.size W W') :
  ∀ (ts:List TypeId) (vs:List Value) (ds:List (DataW H)) (ps:List MemPlace),ts.all (fun t=>P.readableRec t&&decide (t<P.types.size))=true ->
   DataW.TrodAll enc P W 0 (fun _=>true) true ts vs ds ps->DataW.TrodAll enc P W' 0 (fun b=>decide (b<W.heap.size)) true ts vs ds ps
 | [],[],[],ps,_,h=>h
 | t :: ts,v :: vs,d :: ds,ps,hr,h=>by
  obtain ⟨p,q,h1,h2,rfl⟩:=h
  simp only[qaX,XZ,X6] at hr
  have lt:∀ x∈p,x.block<W.heap.size:=by obtain ⟨m,hm⟩:=h1; exact DataW.trod_lt m _ _ _ hm
  exact⟨p,q,Below.trod hl hr.1.1 hr.1.2 h1 hb lt,pz hl hb ts vs ds q hr.2 h2,rfl⟩
 | [],_ :: _,_,_,_,h=>h.elim
 | [],[],_ :: _,_,_,h=>h.elim
 | _ :: _,[],_,_,_,h=>h.elim
 | _ :: _,_ :: _,[],_,_,h=>h.elim
theorem oG {H:Type} {enc:TypeId×Value->H} {P:Program} {W:World} {base:Nat} {sp:Nat->Bool} {held:Bool} :
  ∀ (ts:List TypeId) (vs:List Value) (ds:List (DataW H)) (ps:List MemPlace),DataW.TrodAll enc P W base sp held ts vs ds ps->vs.length=ts.length/\ds.length=ts.length
 | [],[],[],_,_=>⟨rfl,rfl⟩
 | t :: ts,v :: vs,d :: ds,ps,h=>by
  obtain ⟨p,q,_,h2,_⟩:=h
  have:=oG ts vs ds q h2
  simp[this.1,this.2]
 | [],_ :: _,_,_,h=>h.elim
 | [],[],_ :: _,_,h=>h.elim
 | _ :: _,[],_,_,h=>h.elim
 | _ :: _,_ :: _,[],_,h=>h.elim
theorem rW {H:Type} {enc:TypeId×Value->H} {P:Program} {W:World} {base:Nat} {sp:Nat->Bool} {held:Bool} :
  ∀ (ts:List TypeId) (vs:List Value) (ds:List (DataW H)) (ps:List MemPlace),DataW.TrodAll enc P W base sp held ts vs ds ps ->
   ∀ (j:Nat) (t:TypeId) (v:Value),ts[j]? = some t->vs[j]? = some v->∃ d p,DataW.Trod enc P W base sp held t v d p
 | t :: ts,v :: vs,d :: ds,ps,h,j,t',v',hj,hv=>by
  obtain ⟨p,q,h1,h2,_⟩:=h
  cases j with
  | zero=>cases hj; cases hv; exact⟨d,p,h1⟩
  | succ j=>exact rW ts vs ds q h2 j t' v' hj hv
 | [],[],[],_,_,_,_,_,hj,_=>by simp at hj
 | [],_ :: _,_,_,h,_,_,_,_,_=>h.elim
 | [],[],_ :: _,_,h,_,_,_,_,_=>h.elim
 | _ :: _,[],_,_,h,_,_,_,_,_=>h.elim
 | _ :: _,_ :: _,[],_,h,_,_,_,_,_=>h.elim
def sK {H:Type} (enc:TypeId×Value->H) (P:Program) (W:World) (base:Nat) (ts:Array TypeId) (args:Array Value):Prop:=
 args.size=ts.size/\∀ (j:Nat) t v,ts[j]? = some t->args[j]? = some v->Value.okWide P W .any base t v/\∃ d p,DataW.Trod enc P W 0 (fun _=>true) true t v d p
theorem xr {H:Type} {enc:TypeId×Value->H} {P:Program} {f:Nat} {fn:Func} {s:ChangeSpec} {tb:TypeId} (hv:s.vars=[]) (hres:fn.resultTypes=#[tb]) (htb:P.underlying tb=some .bool)
  (hl:laidOutB P=true) (hread:fn.params.toList.all (fun t=>P.readableRec t&&decide (t<P.types.size))=true)
  (hs:∀ ds:List (DataW H),ds.length=fn.params.size->s.fn H ds={ results:=[.lit (.bool true)],args:=ds })
  (W:World) (base:Nat) (args:Array Value) (ds gs:List (DataW H)) (before:List MemPlace)
  (hval:∀ (j:Nat) t v,fn.params[j]? = some t->args[j]? = some v->Value.okWide P W .any base t v)
  (hW:DataW.Whole enc P fn.params.toList s.vars false W args.toList ds gs before)
  (walk:sK enc P W base fn.params args->Calls P f args W fun e W'=>e=.returned (.bool true)/\Below W.heap.size W W') :
  Calls P f args W fun e W'=>∃ v,e=.returned v/\s.post enc P fn false true false false W args v W':=by
 have hW':=hW
 obtain ⟨p,q,hA,hV,rfl,hfz,hnd⟩:=hW
 rw[hv] at hV
 obtain ⟨rfl,rfl⟩:=trodVars_none hV
 have hlen:=oG _ _ _ _ hA
 refine(walk ⟨by simpa using hlen.1,fun j t v hj hv=>⟨hval j t v hj hv,?_⟩⟩).mono fun e W' ⟨he,bel⟩=>?_
 ·exact rW _ _ _ _ hA j t v (by simpa using hj) (by simpa using hv)
 ·subst he
  have e1:s.fn H (ds++[])={ results:=[.lit (.bool true)],args:=ds }:=by rw[YG]; exact hs ds (by simpa using hlen.2)
  refine⟨_,rfl,ds,[],_,[],p,[],hW',?_,?_,?_,bel.frame _,fun h=>by cases h⟩
  ·rw[e1,hres]
   exact trodAll_mk1 (shut_bool htb _)
  ·rw[e1]
   exact pz hl bel _ _ _ _ hread hA
  ·rw[e1,hv]; exact rfl
theorem Dk {H:Type} {enc:TypeId×Value->H} {P:Program} {W:World} {base:Nat} {ts:Array TypeId} {args:Array Value} (h:sK enc P W base ts args) (j:Nat) {t:TypeId} {v:Value} (hj:ts[j]? = some t) (hv:args[j]? = some v) (ht:P.underlying t=some (.int .i64)) :
  ∃ n:Int,v=.int .i64 n/\-9223372036854775808<=n/\n<=9223372036854775807:=by
 obtain ⟨ok,d,p,htr⟩:=h.2 j t v hj hv
 obtain ⟨n,rfl,rfl,rfl,hw⟩:=open_int ht ok htr
 exact⟨n,rfl,(qbw hw).1,(qbw hw).2⟩
end
section
theorem p3 {α β:Type} (P:Program) (f:α->Sem β):∀ (m:Sem α),cZ P (m >>= f)=(cZ P m).bind fun a=>cZ P (f a)
 | .pure a=>rfl
 | .program k=>p3 P f (k P)
 | .mark _ k=>p3 P f k
 | .load .. | .store .. | .new .. | .shape .. | .freeze .. | .frozen .. | .getObj .. | .setObj .. | .choose .. | .sys .. | .halt _=>rfl
theorem rv (P:Program) (t:TypeId):cZ P (underlying t)=P.underlying t:=by
 unfold underlying
 show cZ P (match P.underlying t with | some d=>pure d | none=>stuck "no such type")=_
 cases P.underlying t<;>rfl
@[simp] theorem Md {β:Type} (b:Bool) (x y:Option β):di (.v (.bool b)) x y=bif b then x else y:=rfl
@[simp] theorem MX {β:Type} (b:Bool) (x y:Option β):qC (.v (.bool b)) true x y=bif b then x else y:=rfl
@[simp] theorem Ls {β:Type} (b:Bool) (x y:Option β):qC (.v (.bool b)) false x y=bif b then y else x:=by cases b<;>rfl
@[simp] theorem Lt {β:Type} (w:Bool) (x y:Option β):qC (.v undef) w x y=y:=by cases w<;>rfl
@[simp] theorem NK (k:IntKind) (n:Int):(Value.int k n).oneCell'=true:=rfl
@[simp] theorem Lv (b:Bool):(Value.bool b).oneCell'=true:=rfl
@[simp] theorem JN (s:ByteArray):(Value.string s).oneCell'=true:=rfl
section
variable (P:Program) (t s d:TypeId) (i j:Bool) (k:IntKind) (a b:Int) (p q:Bool) (H:aB) (lo:Nat)
@[simp] theorem aV:kT P .eql t i j (.v (.int k a)) (.v (.int k b))=some (.v (.bool (a==b))):=by cases k<;>rfl
@[simp] theorem bf:kT P .neq t i j (.v (.int k a)) (.v (.int k b))=some (.v (.bool (a != b))):=by cases k<;>rfl
@[simp] theorem aW:kT P .lss t i j (.v (.int k a)) (.v (.int k b))=some (.v (.bool (decide (a<b)))):=by cases k<;>rfl
@[simp] theorem eP:kT P .leq t i j (.v (.int k a)) (.v (.int k b))=some (.v (.bool (decide (a<=b)))):=by cases k<;>rfl
@[simp] theorem cF:kT P .gtr t i j (.v (.int k a)) (.v (.int k b))=some (.v (.bool (decide (b<a)))):=by cases k<;>rfl
@[simp] theorem fj:kT P .geq t i j (.v (.int k a)) (.v (.int k b))=some (.v (.bool (decide (b<=a)))):=by cases k<;>rfl
@[simp] theorem aM:kT P .add t i j (.v (.int k a)) (.v (.int k b))=some (.v (.int k (k.wrap (a+b)))):=by cases k<;>rfl
@[simp] theorem du:kT P .sub t i j (.v (.int k a)) (.v (.int k b))=some (.v (.int k (k.wrap (a - b)))):=by cases k<;>rfl
@[simp] theorem qc:kT P .mul t i j (.v (.int k a)) (.v (.int k b))=some (.v (.int k (k.wrap (a*b)))):=by cases k<;>rfl
def lI (a b:ByteArray):Bool:=a.toList==b.toList
theorem mN (x y:ByteArray):kT P .eql t i j (.v (.string x)) (.v (.string y))=some (.v (.bool (lI x y))):=rfl
theorem Aj (x y:ByteArray):kT P .neq t i j (.v (.string x)) (.v (.string y))=some (.v (.bool (!lI x y))):=rfl
theorem sS (hb:b≠0):kT P .rem t i j (.v (.int k a)) (.v (.int k b))=some (.v (.int k (a.tmod b))):=by
 have h:cZ P (do eqGuard .rem t (rep i) (rep j) (.int k a) (.int k b); binOp .rem t (.int k a) (.int k b))=some (.int k (a.tmod b)):=by
  show cZ P (binOp .rem t (.int k a) (.int k b))=_
  simp only[binOp,ne_eq,qah,ZU,Op.intDiv,X8 hb]; rfl
 show (cZ P _).map zw=_
 rw[h]; rfl
theorem sR (hb:b≠0):kT P .quo t i j (.v (.int k a)) (.v (.int k b))=some (.v (.int k (k.wrap (a.tdiv b)))):=by
 have h:cZ P (do eqGuard .quo t (rep i) (rep j) (.int k a) (.int k b); binOp .quo t (.int k a) (.int k b))=some (.int k (k.wrap (a.tdiv b))):=by
  show cZ P (binOp .quo t (.int k a) (.int k b))=_
  simp only[binOp,ne_eq,qah,ZU,Op.intDiv,X8 hb]; rfl
 show (cZ P _).map zw=_
 rw[h]; rfl
@[simp] theorem Pr:gB P .not (.v (.bool p))=some (.v (.bool (!p))):=rfl
@[simp] theorem Pq:gB P .neg (.v (.int k a))=some (.v (.int k (k.wrap (0 - a)))):=rfl
@[simp] theorem GG (l:List A) (n:Nat):nL (.tup l) n=l[n]?:=rfl
@[simp] theorem S1 (x:Value):snap H (.v x)=.v x:=rfl
@[simp] theorem PI (L:Nat) (x:Value):A.under L (.v x)=true:=rfl
@[simp] theorem Sl (L:Nat) (x:Value) (H':aB):oy L (.ret (.v x),H')=some (.v x):=rfl
@[simp] theorem NN (x:A) (f g:A->Option R):cf (.ret x) f g=f x:=rfl
@[simp] theorem NM (x:A) (f g:A->Option R):cf (.pan x) f g=g x:=rfl
@[simp] theorem Lp {α β:Type} (x y:α) (f:α->Option β):(bif p then some x else some y).bind f=f (bif p then x else y):=by cases p<;>rfl
@[simp] theorem QW (x y:Value):(bif p then A.v x else A.v y)=A.v (bif p then x else y):=by cases p<;>rfl
@[simp] theorem Lq (x y:Bool):(bif p then Value.bool x else Value.bool y)=Value.bool (bif p then x else y):=by cases p<;>rfl
@[simp] theorem Ml (x y:Int):(bif p then Value.int k x else Value.int k y)=Value.int k (bif p then x else y):=by cases p<;>rfl
theorem aU {l:IntKind} (hs:P.underlying s=some (.int l)) (hd:P.underlying d=some (.int k)):bz P s d (.v (.int l a)) H=some (.v (.int k (k.wrap a))):=by
 simp only[bz,hs,hd]
 have h:cZ P (convert s d (.int l a))=some (.int k (k.wrap a)):=by
  unfold convert
  simp only[p3,rv,hs,hd,XV]
  rfl
 show (cZ P _).map zw=_
 rw[h]; rfl
end
end
section
variable {ρ γ σ α β τ:Type}
def J (φ:ρ->γ->Prop) (L:Option σ) (kL:σ->Option ρ) (R:Option α) (K:α->Option γ):Prop:=∀ r,R.bind K=some r->∃ s,L.bind kL=some s/\φ s r
variable {φ:ρ->γ->Prop} {kL:σ->Option ρ} {K:α->Option γ} {R X Y:Option α}
theorem J.st {x:Option τ} {v:τ} {k:τ->Option σ} (h:x=some v) (hk:J φ (k v) kL R K):J φ (x.bind k) kL R K:=by
 rw[h]; exact hk
theorem J.s {x:Option τ} {k:τ->Option σ} (v:τ) (hk:J φ (k v) kL R K) (h:x=some v:=by kernel_rfl):J φ (x.bind k) kL R K:=J.st h hk
theorem J.s2 {τ':Type} {x:Option τ'} {y:τ'->Option τ} {k:τ->Option σ} (v:τ) (hk:J φ (k v) kL R K) (h:x.bind y=some v:=by kernel_rfl):J φ (x.bind fun a=>(y a).bind k) kL R K:=by
 rw[<-Ys]; exact J.st h hk
def MZ (x:Option (A×aB)):A×aB:=match x with | some p=>p | none=>(.any,[])
def MY (x:Option aB):aB:=match x with | some p=>p | none=>[]
theorem J.sq {x:Option (A×aB)} {k:A×aB->Option σ} (p:A) (hk:J φ (k (p,(MZ x).2)) kL R K) (h:x=some (p,(MZ x).2):=by kernel_rfl):J φ (x.bind k) kL R K:=J.st h hk
theorem J.sh {x:Option aB} {k:aB->Option σ} (hk:J φ (k (MY x)) kL R K) (h:x=some (MY x):=by kernel_rfl):J φ (x.bind k) kL R K:=J.st h hk
theorem J.bd {x:Option τ} {k:τ->Option σ} {X:Option β} {Y:β->Option α} {g:β->τ} (h:x=X.map g) (hk:∀ y,J φ (k (g y)) kL (Y y) K):J φ (x.bind k) kL (X.bind Y) K:=by
 intro r hr
 rw[Ys] at hr
 cases X with
 | none=>cases hr
 | some y=>rw[h]; exact hk y r hr
theorem J.bg {x:Option τ} {k:τ->Option σ} {X:Option β} {Y:β->Option α} (ψ:τ->β->Prop) (h:J ψ x some X some) (hk:∀ t y,ψ t y->J φ (k t) kL (Y y) K):J φ (x.bind k) kL (X.bind Y) K:=by
 intro r hr
 rw[Ys] at hr
 cases X with
 | none=>cases hr
 | some y=>
  obtain ⟨s,h1,h2⟩:=h y rfl
  have:x=some s:=by cases x<;>simp_all
  rw[this]
  exact hk s y h2 r hr
theorem J.bi {x y:Option σ} {b:Bool} (h1:J φ x kL X K) (h2:J φ y kL Y K):J φ (di (.v (.bool b)) x y) kL (cond b X Y) K:=by
 cases b
 ·exact h2
 ·exact h1
theorem J.hU {x y:Option σ} (h1:J φ x kL R K):J φ (aY (.v (.bool true)) x y) kL R K:=h1
theorem J.kS {x y:Option σ} (h1:J φ y kL R K):J φ (aY (.v (.bool false)) x y) kL R K:=h1
theorem J.bX {x y:Option σ} {b:Bool} (h1:J φ x kL X K) (h2:J φ y kL Y K):J φ (aY (.v (.bool b)) x y) kL (cond b X Y) K:=by
 cases b
 ·exact h2
 ·exact h1
theorem J.cT {x y:Option σ} {c:Bool} (h:c=true) (h1:J φ x kL R K):J φ (cond c x y) kL R K:=by rw[h]; exact h1
def jL {T:Type} (i:Int) (a b:T):Option T:=bif decide (i=0) then some a else bif decide (i=1) then some b else none
theorem J.a2 {T:Type} {x:Option τ} {k:τ->Option σ} {i:Int} {f:T->τ} {a b:T} {Y:T->Option α} (h0:i.toNat=0->x=some (f a)) (h1:i.toNat=1->x=some (f b)) (hk:∀ y,J φ (k (f y)) kL (Y y) K):J φ (x.bind k) kL ((jL i a b).bind Y) K:=by
 unfold jL
 by_cases h:i=0
 ·rw[h0 (by rw[h]; rfl),XW h]; exact hk a
 ·rw[X0 h]
  by_cases h':i=1
  ·rw[h1 (by rw[h']; rfl),XW h']; exact hk b
  ·rw[X0 h']; intro r hr; cases hr
theorem J.gd {L:Option σ} {b:Bool} (h:b=true->J φ L kL R K):J φ L kL (cond b R none) K:=by
 cases b
 ·intro r hr; cases hr
 ·exact h rfl
theorem J.sp {L:Option σ} {b:Bool} (h1:b=true->J φ L kL X K) (h2:b=false->J φ L kL Y K):J φ L kL (cond b X Y) K:=by
 cases b
 ·exact h2 rfl
 ·exact h1 rfl
theorem J.nn {L:Option σ}:J φ L kL none K:=fun r hr=>by cases hr
theorem J.uc {a:A} {r:List A} {k:A->List A->Option σ} (h:J φ (k a r) kL R K):J φ (bE (a :: r) k) kL R K:=h
theorem J.u4 {a b c d:A} {r:List A} {k:A->A->A->A->List A->Option σ} (h:J φ (k a b c d r) kL R K):J φ (bE (a :: b :: c :: d :: r) fun a l=>bE l fun b l=>bE l fun c l=>bE l fun d l=>k a b c d l) kL R K:=h
theorem gv {β γ:Type} (l:List A) (f:A->List A->Option β) (k:β->Option γ):(bE l f).bind k=bE l fun a r=>(f a r).bind k:=by
 cases l<;>rfl
theorem J.gZ {a:A} {f g:A->Option Go.Proofs.YtdmgdjnadbakfaaGreat.R} {kL:Go.Proofs.YtdmgdjnadbakfaaGreat.R->Option ρ} (h:J φ (g a) kL R K):J φ (cf (.pan a) f g) kL R K:=h
theorem J.pk {t:TypeId} {y:A} {k:A->Option σ} (h:J φ (k (.ifc t y)) kL R K):J φ (Du (.ifc t y) k) kL R K:=h
theorem J.ob {b:Bool} {v p:A} {f g:A->Option Go.Proofs.YtdmgdjnadbakfaaGreat.R} {kL:Go.Proofs.YtdmgdjnadbakfaaGreat.R->Option ρ} (h1:J φ (cf (.ret v) f g) kL X K) (h2:J φ (cf (.pan p) f g) kL Y K):J φ (cf (bif b then Out.ret v else Out.pan p) f g) kL (cond b X Y) K:=by
 cases b
 ·exact h2
 ·exact h1
theorem J.lf {s:σ} {x:α} {r:ρ} {y:γ} (h1:kL s=some r) (h2:K x=some y) (h:φ r y):J φ (some s) kL (some x) K:=fun z hz=>by
 rw[XV,h2] at hz
 cases hz
 exact⟨r,h1,h⟩
theorem J.lg {ψ:τ->β->Prop} {s:τ} {x:β} (h:ψ s x):J ψ (some s) some (some x) some:=fun r hr=>by cases hr; exact⟨s,rfl,h⟩
theorem J.lv {T:Type} {f:T->A} {v:A} {H:aB} {y:T} (h:aK H v=f y):J (fun (o:Go.Proofs.YtdmgdjnadbakfaaGreat.R) y=>∃ v,o.1=.ret v/\aK o.2 v=f y) (some (Out.ret v,H)) some (some y) some:=.lf rfl rfl ⟨_,rfl,h⟩
theorem J.cl {x:Option τ} {x':Option τ} {k:τ->Option σ} (h:x=x') (hk:J φ x' (fun r=>(k r).bind kL) R K):J φ (x.bind k) kL R K:=by
 intro r hr
 obtain ⟨s,h1,h2⟩:=hk r hr
 exact⟨s,by rw[Ys,h]; exact h1,h2⟩
theorem J.bb {x:Option τ} {k:τ->Option σ} (h:J φ x (fun r=>(k r).bind kL) R K):J φ (x.bind k) kL R K:=by
 intro r hr
 obtain ⟨s,h1,h2⟩:=h r hr
 exact⟨s,by rw[Ys]; exact h1,h2⟩
theorem J.as {L:Option σ} {X:Option β} {Y:β->Option α} (h:J φ L kL X (fun x=>(Y x).bind K)):J φ L kL (X.bind Y) K:=by
 intro r hr
 rw[Ys] at hr
 exact h r hr
theorem J.un {L:Option σ} {K':γ->Option γ} (hK:K'=some) (h:J φ L kL R K):J φ L kL (R.bind K) K':=by
 intro r hr
 subst hK
 exact h r (by simpa using hr)
theorem J.ex {L:Option σ} {x:α} (h:J φ L kL (K x) some):J φ L kL (some x) K:=by
 intro r hr
 exact h r (by simpa using hr)
theorem J.lp {L:Option σ} {L':Option σ} (h:L=L') (hk:J φ L' kL R K):J φ L kL R K:=h ▸ hk
theorem J.gU {x y:Option σ} {w:Bool} (h:J φ y kL R K):J φ (qC (.v undef) w x y) kL R K:=h
theorem J.ok {a:A} {f g:A->Option Go.Proofs.YtdmgdjnadbakfaaGreat.R} {kL:Go.Proofs.YtdmgdjnadbakfaaGreat.R->Option ρ} (h:J φ (f a) kL R K):J φ (cf (.ret a) f g) kL R K:=h
theorem J.cr {s:τ} {k:τ->Option σ} (h:J φ (k s) kL R K):J φ (some s) (fun r=>(k r).bind kL) R K:=h
theorem J.ra {x y:Option σ} {b:Bool} (h:b=true) (h1:J φ x kL R K):J φ (di (.v (.bool b)) x y) kL R K:=by subst h; exact h1
theorem J.q9 {x y:Option σ} {b:Bool} (h:b=false) (h1:J φ y kL R K):J φ (di (.v (.bool b)) x y) kL R K:=by subst h; exact h1
theorem J.AV {x y:Option τ} {k:τ->Option σ} {b:Bool} (h1:b=true->J φ (x.bind k) kL X K) (h2:b=false->J φ (y.bind k) kL Y K):J φ ((qC (.v (.bool b)) true x y).bind k) kL (cond b X Y) K:=by
 cases b
 ·exact h2 rfl
 ·exact h1 rfl
theorem J.E9 {x y:Option τ} {k:τ->Option σ} {b:Bool} (h1:b=false->J φ (x.bind k) kL X K) (h2:b=true->J φ (y.bind k) kL Y K):J φ ((qC (.v (.bool b)) false x y).bind k) kL (cond b Y X) K:=by
 cases b
 ·exact h1 rfl
 ·exact h2 rfl
theorem yZ {β:Type} {x y:Option β} {b:Bool} (h:b=true):qC (.v (.bool b)) true x y=x:=by subst h; rfl
theorem yY {β:Type} {x y:Option β} {b:Bool} (h:b=false):qC (.v (.bool b)) true x y=y:=by subst h; rfl
theorem lC {β:Type} {x y:Option β} {b:Bool} (h:b=true):qC (.v (.bool b)) false x y=y:=by subst h; rfl
theorem lB {β:Type} {x y:Option β} {b:Bool} (h:b=false):qC (.v (.bool b)) false x y=x:=by subst h; rfl
def aA:Nat:=1208925819614629174706176
def cI (k:IntKind) (n:Int):List A:=[.v (.int k n)]
def c8 (c:UInt8):List A:=[.v (.int .u8 (c.toNat:Int))]
def cB (b:Bool):List A:=[.v (.bool b)]
def cS (s:ByteArray):List A:=[.v (.string s)]
def cL {T:Type} (f:T->List A) (l:List T):List A:=[.imm (l.map f) false]
def cj {T:Type} (f:T->List A):Prop:=∀ g x,bc g (f x)=f x
theorem cP {T:Type} {f:T->List A} (hf:cj f) (g:Nat->Nat->Nat->A) (l:List T):dx g (l.map f)=l.map f:=by
 induction l with
 | nil=>rfl
 | cons x l ih=>rw[YX,dx,hf,ih]
def dq {T:Type} (f:T->List A):Prop:=∀ L x,bh L (f x)=true
theorem c9 {T:Type} {f:T->List A} (hf:dq f) (L:Nat) (l:List T):aR L (l.map f)=true:=by
 induction l with
 | nil=>rfl
 | cons x l ih=>rw[YX,aR,hf,ih]; rfl
theorem lu (k:IntKind):dq (cI k):=fun _ _=>rfl
theorem ln:dq c8:=fun _ _=>rfl
theorem lq:dq cB:=fun _ _=>rfl
theorem lA:dq cS:=fun _ _=>rfl
theorem lz {T:Type} {f:T->List A} (hf:dq f):dq (cL f):=fun L x=>by
 show (aR L (x.map f)&&true)=true
 rw[c9 hf]; rfl
theorem uz (g:Nat->Nat->Nat->A):∀ (a b:List A),bc g (a++b)=bc g a++bc g b
 | [],b=>by simp only[Y5,bc]
 | x :: a,b=>by simp only[Yw,bc,uz g a b]
theorem uG (L:Nat):∀ (a b:List A),bh L (a++b)=(bh L a&&bh L b)
 | [],b=>by simp only[Y5,bh,Yg]
 | x :: a,b=>by simp only[Yw,bh,uG L a b,qaT]
theorem jN (k:IntKind):cj (cI k):=fun _ _=>rfl
theorem dh:cj c8:=fun _ _=>rfl
theorem ft:cj cB:=fun _ _=>rfl
theorem ll:cj cS:=fun _ _=>rfl
theorem ff {T:Type} {f:T->List A} (hf:cj f):cj (cL f):=fun g x=>by
 show [cO g (.imm (x.map f) false)]=_
 simp only[cO,cP hf]; rfl
theorem bJ:(∀ (H:aB) (a:A),snap H a=cO (iQ 4 H) a)/\(∀ (g:Nat->Nat->Nat->A) (b o m:Nat) (c:Bool),cO g (.sl b o m c)=g b o m)/\(∀ (g:Nat->Nat->Nat->A) (els:List (List A)) (c:Bool),cO g (.imm els c)=.imm (dx g els) false)/\(∀ (g:Nat->Nat->Nat->A) (cs:List A),cO g (.agg cs)=.agg (bc g cs))/\(∀ (g:Nat->Nat->Nat->A) (cs:List A),cO g (.tup cs)=.tup (bc g cs))/\(∀ (g:Nat->Nat->Nat->A) (t:TypeId) (x:A),cO g (.ifc t x)=.ifc t (cO g x))/\(∀ (g:Nat->Nat->Nat->A) (k:IntKind) (ks:List Int) (vs:List A),cO g (.mv k ks vs)=.mv k ks (bc g vs))/\(∀ (g:Nat->Nat->Nat->A) (x:Value),cO g (.v x)=.v x)/\(∀ (g:Nat->Nat->Nat->A) (f:Fn),cO g (.fn f [] [])=.fn f [] [])/\(∀ (g:Nat->Nat->Nat->A),bc g []=[])/\(∀ (g:Nat->Nat->Nat->A) (a:A) (as:List A),bc g (a :: as)=cO g a :: bc g as)/\(∀ (g:Nat->Nat->Nat->A),dx g []=[])/\(∀ (g:Nat->Nat->Nat->A) (a:List A) (as:List (List A)),dx g (a :: as)=bc g a :: dx g as)/\(∀ {T:Type} {f:T->List A} (hf:cj f) (g:Nat->Nat->Nat->A) (l:List T),dx g (l.map f)=l.map f)/\(∀ (g:Nat->Nat->Nat->A) (a b:List A),bc g (a++b)=bc g a++bc g b)/\(∀ k,cj (cI k))/\cj c8/\cj cB/\cj cS/\(∀ {T:Type} {f:T->List A} (hf:cj f),cj (cL f)):=
 ⟨fun _ _=>rfl,fun _ _ _ _ _=>rfl,fun _ _ _=>rfl,fun _ _=>rfl,fun _ _=>rfl,fun _ _ _=>rfl,fun _ _ _ _=>rfl,fun _ _=>rfl,fun _ _=>rfl,fun _=>rfl,fun _ _ _=>rfl,fun _=>rfl,fun _ _ _=>rfl,cP,uz,jN,dh,ft,ll,ff⟩
def eF {T U:Type} (f:T->U):Prop:=∀ x y,f x=f y->x=y
theorem map_inj {T:Type} {f:T->List A} (hf:eF f):∀ (l l':List T),l.map f=l'.map f↔l=l'
 | [],[]=>r7
 | [],_ :: _=>r7
 | _ :: _,[]=>r7
 | x :: l,y :: l'=>by
  simp only[YX,YH,map_inj hf l l']
  exact⟨fun h=>⟨hf x y h.1,h.2⟩,fun h=>⟨by rw[h.1],h.2⟩⟩
theorem Jq (k:IntKind):eF (cI k):=fun x y h=>by simpa [cI] using h
theorem vM:eF c8:=fun x y h=>by
 simp only[c8,YH,A.v.injEq,Zw,qaf,qag] at h
 exact UInt8.toNat_inj.1 j6
theorem vN:eF cB:=fun x y h=>by simpa [cB] using h
theorem Jr {T:Type} {f:T->List A} (hf:eF f):eF (cL f):=fun x y h=>by
 simp only[cL,YH,A.imm.injEq,qaf,map_inj hf] at h
 exact h
noncomputable def bO {X:Type} (e:X->List A) (G:X->Option A) (args:List A):Option A:=open Classical in if h:∃ x,e x=args then G h.choose else none
theorem aS {X:Type} {e:X->List A} (G:X->Option A) (inj:eF e) (x:X):bO e G (e x)=G x:=by
 unfold bO
 have h:∃ y,e y=e x:=⟨x,rfl⟩
 rw[dif_pos h,inj _ _ h.choose_spec]
theorem uj {X:Type} {e:X->List A} {G:X->Option A} {args:List A} {r:A} (h:bO e G args=some r):∃ x,e x=args/\G x=some r:=by
 unfold bO at h
 split at h
 ·rename_i hx; exact⟨_,hx.choose_spec,h⟩
 ·cases h
theorem dX {X Y:Type} {e:X->List A} {F:X->Option Y} {f:Y->A} {args:List A} {r:A} (h:bO e (fun x=>(F x).map f) args=some r):∃ x y,e x=args/\F x=some y/\f y=r:=by
 obtain ⟨x,hx,h⟩:=uj h
 simp only[YE] at h
 obtain ⟨y,hy,h⟩:=h
 exact⟨x,y,hx,hy,h⟩
theorem Tk:(∀ {T:Type} (a:T) (as:List T) (b:T) (bs:List T),(a :: as=b :: bs)=(a=b/\as=bs))/\(∀ a b:Value,(A.v a=A.v b)=(a=b))/\(∀ a b:List A,(A.agg a=A.agg b)=(a=b))/\(∀ (a:List (List A)) (c:Bool) (b:List (List A)) (d:Bool),(A.imm a c=A.imm b d)=(a=b/\c=d))/\(∀ (k:IntKind) (n:Int) (k':IntKind) (n':Int),(Value.int k n=Value.int k' n')=(k=k'/\n=n'))/\(∀ a b:Bool,(Value.bool a=Value.bool b)=(a=b))/\(∀ a b:ByteArray,(Value.string a=Value.string b)=(a=b))/\(∀ p:Prop,(p/\True)=p)/\(∀ p:Prop,(True/\p)=p):=
 ⟨fun a as b bs=>YH a as b bs,fun a b=>A.v.injEq a b,fun a b=>A.agg.injEq a b,fun a c b d=>A.imm.injEq a c b d,fun k n k' n'=>Zw k n k' n',fun a b=>Zy a b,fun a b=>Zo a b,fun p=>qaf p,fun p=>qag p⟩
def fW (C:Nat->List A->Option A) (k:Nat) (c:List A->Option A):Nat->List A->Option A:=fun j args=>bif Nat.beq j k then c args else C j args
theorem kI {cx:Cx} {n k:Nat} {base:bj} {args:List A} {H:aB} {lo:Nat} (h:Nat.ble cx.P.funcs.size k=false) (h2:gD cx k H=false:=by rfl) (h3:gO cx k H=false:=by rfl):bq cx (n+1) base k args H lo=aE cx (bq cx n base) (bq cx n) n k args H lo:=by
 rw[bq,h,h2,h3]; rfl
theorem aw {cx:Cx} {n k:Nat} {args:List A} {H:aB} {lo:Nat} (h:Nat.ble cx.P.funcs.size k=false) (h2:gD cx k H=false:=by rfl) (h3:gO cx k H=false:=by rfl):dS cx (n+1) k args H lo=aE cx (dS cx n) (bq cx n) n k args H lo:=kI h h2 h3
theorem yx {cx:Cx} {k:Nat}:gD cx k []=false:=by
 unfold gD
 cases hb:Nat.beq (cx.cut k) 0 with
 | true=>rfl
 | false=>cases hk:cx.cut k with
  | zero=>rw[hk] at hb; cases hb
  | succ m=>rfl
theorem wT {cx:Cx} {k:Nat}:gO cx k []=false:=by
 unfold gO
 cases cx.deep k<;>rfl
theorem AH {cx:Cx} {n k:Nat} {args:List A} {lo:Nat} {r:Go.Proofs.YtdmgdjnadbakfaaGreat.R} (h:aE cx (dS cx n) (bq cx n) n k args [] lo=some r):dS cx (n+1) k args [] lo=some r:=by
 refine(aw (te ?_) yx wT).trans h
 unfold aE at h
 cases hf:cx.P.funcs[k]? with
 | none=>rw[hf] at h; cases h
 | some fn=>exact(X5.1 hf).1
theorem lJ {q b:Nat} {call:bj} {rnd:List A->aB->Nat->Option Go.Proofs.YtdmgdjnadbakfaaGreat.R} {args:List A} {H:aB} {lo:Nat}:sx q call b rnd (q+b) args H lo=rnd args H lo:=by
 unfold sx; rw[show Nat.beq (q+b) (q+b)=true from r7]; rfl
theorem Da {cx:Cx} {b:Nat} {base:bj} {args:List A} {H:aB} {lo:Nat}:∀ {m:Nat},bq cx m base (cx.P.funcs.size+b) args H lo=base (cx.P.funcs.size+b) args H lo:=fun {m}=>by
 cases m<;>rw[bq,show Nat.ble cx.P.funcs.size (cx.P.funcs.size+b)=true from by simp[qak]]<;>rfl
theorem gK {β:Type} {H:aB} {b:Nat} {x:Option β} (h:H[b]? = some (.rng .ready)):DI H b x=x:=by unfold DI; rw[h]
theorem gI {β:Type} {H:aB} {b:Nat} {x:Option β} (h:H[b]? = some (.rng .busy)):BJ H b x=x:=by unfold BJ; rw[h]
section
variable {β:Type} {H:aB} {b:Nat} {kn:aB->Option β} {kx kg:Nat->aB->Option β} {kr:aB->Option β}
theorem zM (h:H[b]? = some (.rng .ready)):nm b H kn kx kg kr=kn (H.set b .dead):=by unfold nm; rw[h]
theorem K7 (h:H[b]? = some (.rng (.done .ret))):nm b H kn kx kg kr=kr (H.set b .dead):=by unfold nm; rw[h]
end
section
variable {cx:Cx} {call:bj} {q lo b:Nat} {first cap args:List A} {H:aB} {k pan:A->aB->Option Go.Proofs.YtdmgdjnadbakfaaGreat.R} {kL:Go.Proofs.YtdmgdjnadbakfaaGreat.R->Option ρ}
theorem J.dC (h1:db cx.P q=true) (h2:cx.isOrc q=false) (h:J φ ((call q (first++args++cap) H lo).bind fun r=>cf r.1 (fun a=>k a r.2) (fun a=>pan a r.2)) kL R K):J φ (dJ cx call (.fn (.func q) first cap) args H lo k pan) kL R K:=by
 unfold dJ; simp only[h1,h2,XY,XX]; exact h
theorem J.dY (h1:zl H b=true) (h:J φ ((call (cx.P.funcs.size+b) args H lo).bind fun r=>cf r.1 (fun a=>k a r.2) (fun _=>none)) kL R K):J φ (dJ cx call (.yld b) args H lo k pan) kL R K:=by
 unfold dJ; simp only[h1,XY]; exact h
end
theorem J.vC {cx:Cx} {call:bj} {q:Nat} {first cap args:List A} {H:aB} {k:A->Option σ} (h1:db cx.P q=true) (h2:cx.isOrcV q=false) (h:J φ (((call q (first++args++cap) H H.length).bind fun r=>oy H.length r).bind k) kL R K):J φ (sd cx call (.fn (.func q) first cap) args H k) kL R K:=by
 unfold sd; simp only[h1,h2,XY,XX]; exact h
theorem xD {cx:Cx} (horc:kC cx) (hmx:cx.P.follows .mixedOrders=true) {γ:Type} {n k:Nat} {args:List A} {f:γ->A} {F:Option γ} {y:γ}
  (h:J (fun (o:Go.Proofs.YtdmgdjnadbakfaaGreat.R) y=>∃ v,o.1=.ret v/\aK o.2 v=f y) (aE cx (dS cx (n+8)) (bq cx (n+8)) (n+8) k args [] 0) some F some) (hF:F=some y):fh cx.P cx.glob k args (f y):=by
 obtain ⟨s,h1,v,h2,h3⟩:=h y (by rw[hF]; rfl)
 obtain ⟨o,H⟩:=s
 have h2:o=.ret v:=h2
 subst h2
 rw[show ∀ x:Option Go.Proofs.YtdmgdjnadbakfaaGreat.R,x.bind some=x from fun x=>by cases x<;>rfl] at h1
 have h1:dS cx (n+9) k args [] 0=some (.ret v,H):=AH h1
 have:=wK horc hmx h1
 rwa [show aK H v=f y from h3] at this
abbrev wr (k:IntKind) (n:Int):Int:=k.wrap n
def p5 (k:IntKind) (x y:Int):Int:=k.wrap (x*2 ^ (min y.toNat k.bits))
def oz (k:IntKind) (x y:Int):Int:=x.fdiv (2 ^ (min y.toNat k.bits))
def qg (k:IntKind) (x y:Int):Int:=k.wrap ((BitVec.ofInt k.bits x &&& BitVec.ofInt k.bits y).toNat:Int)
def nG (k:IntKind) (x y:Int):Int:=k.wrap ((BitVec.ofInt k.bits x ||| BitVec.ofInt k.bits y).toNat:Int)
def sw (k:IntKind) (x y:Int):Int:=k.wrap ((BitVec.ofInt k.bits x ^^^ BitVec.ofInt k.bits y).toNat:Int)
section
variable {P:Program} {t:TypeId} {i j:Bool} {k k2:IntKind} {a b:Int}
theorem sU (hb:0<=b):kT P .shl t i j (.v (.int k a)) (.v (.int k2 b))=some (.v (.int k (p5 k a b))):=by
 have h:cZ P (do eqGuard .shl t (rep i) (rep j) (.int k a) (.int k2 b); binOp .shl t (.int k a) (.int k2 b))=some (.int k (p5 k a b)):=by
  show cZ P (binOp .shl t (.int k a) (.int k2 b))=_
  simp only[binOp,Op.shift,X8 (Int.not_lt.2 hb)]; rfl
 show (cZ P _).map zw=_
 rw[h]; rfl
theorem lZ (hb:0<=b):kT P .shr t i j (.v (.int k a)) (.v (.int k2 b))=some (.v (.int k (oz k a b))):=by
 have h:cZ P (do eqGuard .shr t (rep i) (rep j) (.int k a) (.int k2 b); binOp .shr t (.int k a) (.int k2 b))=some (.int k (oz k a b)):=by
  show cZ P (binOp .shr t (.int k a) (.int k2 b))=_
  simp only[binOp,Op.shift,X8 (Int.not_lt.2 hb)]; rfl
 show (cZ P _).map zw=_
 rw[h]; rfl
theorem pj:kT P .and t i j (.v (.int k a)) (.v (.int k b))=some (.v (.int k (qg k a b))):=by
 have h:cZ P (do eqGuard .and t (rep i) (rep j) (.int k a) (.int k b); binOp .and t (.int k a) (.int k b))=some (.int k (qg k a b)):=by
  show cZ P (binOp .and t (.int k a) (.int k b))=_
  simp only[binOp,ne_eq,qah,ZU,Op.intBits]; rfl
 show (cZ P _).map zw=_
 rw[h]; rfl
theorem ix:kT P .or t i j (.v (.int k a)) (.v (.int k b))=some (.v (.int k (nG k a b))):=by
 have h:cZ P (do eqGuard .or t (rep i) (rep j) (.int k a) (.int k b); binOp .or t (.int k a) (.int k b))=some (.int k (nG k a b)):=by
  show cZ P (binOp .or t (.int k a) (.int k b))=_
  simp only[binOp,ne_eq,qah,ZU,Op.intBits]; rfl
 show (cZ P _).map zw=_
 rw[h]; rfl
theorem pn:kT P .xor t i j (.v (.int k a)) (.v (.int k b))=some (.v (.int k (sw k a b))):=by
 have h:cZ P (do eqGuard .xor t (rep i) (rep j) (.int k a) (.int k b); binOp .xor t (.int k a) (.int k b))=some (.int k (sw k a b)):=by
  show cZ P (binOp .xor t (.int k a) (.int k b))=_
  simp only[binOp,ne_eq,qah,ZU,Op.intBits]; rfl
 show (cZ P _).map zw=_
 rw[h]; rfl
end
theorem fU {n:Int} (h:(decide (0<=n)&&decide (n<256))=true):((UInt8.ofNat n.toNat).toNat:Int)=n:=by
 simp only[XZ,X6] at h
 rw[UInt8.toNat_ofNat',qam j6]
 omega
def bt {T:Type} (l:List T) (i:Int):Option T:=bif decide (0<=i) then l[i.toNat]? else none
theorem GX {P:Program} {t e:TypeId} {es:Nat} {T:Type} (f:T->List A) (l:List T) (c:Bool) (k:IntKind) (i:Int) (H:aB) (h1:P.underlying t=some (.slice e)) (h2:df P e=some es) (h3:∀ x,(f x).length=es) :
  c7 P t (.imm (l.map f) c) (.v (.int k i)) H=(bt l i).map fun x=>.ip (f x):=by
 unfold c7 idx bt
 rw[h1]
 by_cases hi:0<=i
 ·simp only[hi,Zu,XY,XV,fT,h2,Yj]
  cases l[i.toNat]? with
  | none=>rfl
  | some x=>simp[h3]
 ·simp only[hi,ZC,XX,qaC,Option.map_none]
theorem Hc {P:Program} {t e:TypeId} {T:Type} (f:T->List A) (l:List T) (c:Bool) (H:aB) (h1:P.underlying t=some (.slice e)):qX P t (.imm (l.map f) c) H=some (.v (.int .i64 l.length)):=by
 unfold qX
 rw[h1]
 simp[fT]
section
variable {P:Program} {t e es by_:Nat} {T:Type} {f:T->List A}
def eJ (l:List T) (lo hi:Int):Option (List T):=bif decide (0<=lo)&&decide (lo<=hi)&&decide (hi<=l.length) then some ((l.drop lo.toNat).take (hi.toNat - lo.toNat)) else none
def cU (b:Nat) (l l2:List T):Option (List T):=bif decide ((l.length+l2.length)*b<=fg) then some (l++l2) else none
def nz (f:T->List A):Prop:=∀ x,(f x).all A.cell=true
theorem Mi (k:IntKind):nz (cI k):=fun _=>rfl
theorem Jj:nz c8:=fun _=>rfl
theorem Mh:nz cB:=fun _=>rfl
theorem Mj {U:Type} {g:U->List A}:nz (cL g):=fun _=>rfl
theorem vn (hl:∀ x,(f x).length=es) (hc:nz f) (l:List T):((l.map f).all fun cs=>cs.length==es&&cs.all A.cell)=true:=by
 rw[List.all_map]
 exact Yb.2 fun x _=>by simp[hl,hc x]
def rG (H:aB) (y:A) (f:T->List A) (l:List T):Prop:=els? H y=some (l.map f)
theorem bk (l:List T) (c:Bool) (H:aB):rG H (.imm (l.map f) c) f l:=rfl
theorem sE (s:ByteArray) (H:aB):rG H (.v (.string s)) c8 s.data.toList:=rfl
theorem BQ {P:Program} {H:aB} {t2 by_:Nat} {z:List A} {y:A} (h:om P t2=true):AE P H t2 by_ z y=els? H y:=by unfold AE; rw[h]; rfl
theorem vl (hl:∀ x,(f x).length=es) (hc:nz f) (h0:es≠0) (hb:by_≠0) {z:List A} (hz:z.length=es) (l2:List T) :
  (es==0 || by_==0 || !(z.length==es) || !((l2.map f).all fun cs=>cs.length==es&&cs.all A.cell))=false:=by
 rw[vn hl hc]
 simp[h0,hb,hz]
theorem GH {t2:Nat} {z:List A} (h1:nC P t=some e) (h2:df P e=some es) (h3:mS P e=some by_) (h4:iR P e=some z) (hz:z.length=es) (h0:es≠0) (hb:by_≠0) (hn:om P t2=true)
  (hl:∀ x,(f x).length=es) (hc:nz f) {H:aB} {lo:Nat} {l l2:List T} {y:A} (hy:rG H y f l2) :
  bp P t t2 false (.imm (l.map f) true) y H lo=(cU by_ l l2).map fun r=>(.sl H.length 0 r.length false,H++[.row false es (r.map f)]):=by
 unfold bp
 rw[h1,XV,h2,XV,h3,XV,h4,XV,BQ hn,show els? H y=_ from hy,XV,vl hl hc h0 hb hz,XX]
 simp only[Zc,Bool.false_and,XX,vn hl hc,XY,cU]
 cases decide ((l.length+l2.length)*by_<=fg)<;>simp
theorem GI {t2:Nat} {z:List A} (h1:nC P t=some e) (h2:df P e=some es) (h3:mS P e=some by_) (h4:iR P e=some z) (hz:z.length=es) (h0:es≠0) (hb:by_≠0) (hn:om P t2=true)
  (hl:∀ x,(f x).length=es) (hc:nz f) {wr:Bool} {H:aB} {lo b:Nat} {l l2:List T} {y:A} (hH:H[b]? = some (.row false es (l.map f))) (hlo:lo<=b) (hy:rG H y f l2) :
  bp P t t2 wr (.sl b 0 l.length false) y H lo=(cU by_ l l2).map fun r=>(.sl b 0 r.length false,H.set b (.row false es (r.map f))):=by
 unfold bp
 rw[h1,XV,h2,XV,h3,XV,h4,XV,BQ hn,show els? H y=_ from hy,XV,vl hl hc h0 hb hz,XX]
 simp only[hH,Zc,cU]
 cases hd:decide ((l.length+l2.length)*by_<=fg)<;>simp[hlo]
structure uM (P:Program) (t t2 e es by_:Nat) (z:List A) (f:T->List A):Prop where
 h1:nC P t=some e
 h2:df P e=some es
 h3:mS P e=some by_
 h4:iR P e=some z
 hz:z.length=es
 h0:es≠0
 hb:by_≠0
 hn:om P t2=true
 hl:∀ x,(f x).length=es
 hc:nz f
theorem fz {t2:Nat} {z:List A} (a:uM P t t2 e es by_ z f) {H:aB} {lo:Nat} {l l2:List T} {y:A} (hy:rG H y f l2) :
  bp P t t2 false (.imm (l.map f) true) y H lo=(cU by_ l l2).map fun r=>(.sl H.length 0 r.length false,H++[.row false es (r.map f)]):=GH a.h1 a.h2 a.h3 a.h4 a.hz a.h0 a.hb a.hn a.hl a.hc hy
theorem cp {t2:Nat} {z:List A} (a:uM P t t2 e es by_ z f) {wr:Bool} {H:aB} {lo b:Nat} {l l2:List T} {y:A} (hH:H[b]? = some (.row false es (l.map f))) (hlo:lo<=b) (hy:rG H y f l2) :
  bp P t t2 wr (.sl b 0 l.length false) y H lo=(cU by_ l l2).map fun r=>(.sl b 0 r.length false,H.set b (.row false es (r.map f))):=GI a.h1 a.h2 a.h3 a.h4 a.hz a.h0 a.hb a.hn a.hl a.hc hH hlo hy
theorem Dt {d:Nat} {k:IntKind} {n:Int}:lQ d (some (.v (.int k n)))=bif decide (0<=n) then some n.toNat else none:=rfl
theorem fa {P:Program} {t e:TypeId} {es:Nat} {T:Type} {f:T->List A} {l:List T} {c:Bool} {k:IntKind} {i:Int} {H:aB} (h1:P.underlying t=some (.slice e):=by kernel_rfl) (h2:df P e=some es:=by kernel_rfl) (h3:∀ x,(f x).length=es:=by exact fun _=>rfl) :
  c7 P t (.imm (l.map f) c) (.v (.int k i)) H=(bt l i).map fun x=>.ip (f x):=GX f l c k i H h1 h2 h3
theorem dr {P:Program} {t e:TypeId} {T:Type} {f:T->List A} {l:List T} {c:Bool} {H:aB} (h1:P.underlying t=some (.slice e):=by kernel_rfl):qX P t (.imm (l.map f) c) H=some (.v (.int .i64 l.length)):=Hc f l c H h1
theorem fQ (h1:P.underlying t=some (.slice e)) (h2:df P e=some es) (hl:∀ x,(f x).length=es) {H:aB} {l:List T} {lo hi:Option A} {a b:Int} (ha:(lo=none/\a=0)∨∃ k,lo=some (.v (.int k a))) (hb:(hi=none/\b=l.length)∨∃ k,hi=some (.v (.int k b))) :
  eI P t (.imm (l.map f) false) lo hi none H=(eJ l a b).map fun r=>.imm (r.map f) false:=by
 unfold eI
 rw[h1]
 simp only[h2,XV,Zc,Bool.false_and]
 have e1:lQ l.length hi=bif decide (0<=b) then some b.toNat else none:=by
  rcases hb with ⟨rfl,rfl⟩ | ⟨k,rfl⟩
  ·simp[lQ]
  ·rfl
 have e2:lQ 0 lo=bif decide (0<=a) then some a.toNat else none:=by
  rcases ha with ⟨rfl,rfl⟩ | ⟨k,rfl⟩
  ·simp[lQ]
  ·rfl
 have e3:∀ i:Nat,(i==0 || match (l.map f)[i]? with | some cs=>cs.length==es | none=>true)=true:=fun i=>by
  rw[Yj]
  cases l[i]?<;>simp[hl]
 rw[e1,e2]
 unfold eJ
 by_cases hb0:0<=b
 ·by_cases ha0:0<=a
  ·have q1:(decide (a.toNat<=b.toNat))=decide (a<=b):=by rw[qbb]; omega
   have q2:(decide (b.toNat<=l.length))=decide (b<=(l.length:Int)):=XG
   simp only[hb0,ha0,Zu,XY,XV,Yg,q1,q2,qao,List.map_drop]
   have e4:=e3 a.toNat
   rw[Yj] at e4 ⊢
   cases hx:l[a.toNat]?<;>rw[hx] at e4<;>cases (decide (a<=b)&&decide (b<=(l.length:Int)))<;>simp[hl]
  ·simp[hb0,ha0]
 ·have:(decide (0<=a)&&decide (a<=b)&&decide (b<=(l.length:Int)))=false:=by
   rw[qaZ]; intro hh; simp only[XZ,X6] at hh; omega
  simp[hb0,this]
theorem iC (h1:P.underlying t=some (.slice e)) (h2:df P e=some es) (hl:∀ x,(f x).length=es) {H:aB} {l:List T} {lo:Option A} {a b:Int} {k1 k2:IntKind} {c:Bool} (ha:(lo=none/\a=0)∨∃ k,lo=some (.v (.int k a))) :
  eI P t (.imm (l.map f) c) lo (some (.v (.int k1 b))) (some (.v (.int k2 b))) H=(eJ l a b).map fun r=>.imm (r.map f) true:=by
 unfold eI
 rw[h1]
 simp only[h2,XV,Zc,Dt,idx]
 have e2:lQ 0 lo=bif decide (0<=a) then some a.toNat else none:=by
  rcases ha with ⟨rfl,rfl⟩ | ⟨k,rfl⟩
  ·simp[lQ]
  ·rfl
 have e3:∀ i:Nat,(i==0 || match (l.map f)[i]? with | some cs=>cs.length==es | none=>true)=true:=fun i=>by
  rw[Yj]
  cases l[i]?<;>simp[hl]
 rw[e2]
 unfold eJ
 by_cases hb0:0<=b
 ·by_cases ha0:0<=a
  ·have q1:(decide (a.toNat<=b.toNat))=decide (a<=b):=by rw[qbb]; omega
   have q2:(decide (b.toNat<=l.length))=decide (b<=(l.length:Int)):=XG
   simp only[hb0,ha0,Zu,XY,XV,Yg,q1,q2,qao,List.map_drop,qaD]
   rw[Yj]
   cases hx:l[a.toNat]?<;>cases (decide (a<=b)&&decide (b<=(l.length:Int)))<;>simp[hl]
  ·simp[hb0,ha0]
 ·have:(decide (0<=a)&&decide (a<=b)&&decide (b<=(l.length:Int)))=false:=by
   rw[qaZ]; intro hh; simp only[XZ,X6] at hh; omega
  simp[hb0,this]
theorem dw (hf:cj f) {H:aB} {b n:Nat} {l:List T} (h:H[b]? = some (.row false es (l.map f))):iQ (n+1) H b 0 l.length=.imm (l.map f) false:=by
 unfold iQ
 rw[h]
 simp only[Zi]
 rw[YL r7,cP hf]
theorem aO (hf:cj f) {H:aB} {b n:Nat} {wr:Bool} {l:List T} (h:H[b]? = some (.row wr es (l.map f))):jK (n+1) H b 0 l.length=.imm (l.map f) false:=by
 unfold jK
 rw[h]
 simp only[Zi]
 rw[YL r7,cP hf]
theorem b8 {H:aB} {b o len n:Nat} {k:IntKind} {i:Int} (h1:P.underlying t=some (.array len e)) (h2:df P e=some n) (h:fT H (.ptr b o)=true) (hg:(decide (0<=i)&&decide (i<len))=true) :
  c7 P t (.ptr b o) (.v (.int k i)) H=some (.ptr b (o+i.toNat*n)):=by
 simp only[XZ,X6] at hg
 obtain ⟨g1,g2⟩:=hg
 unfold c7 idx
 rw[h1,h]
 have e1:decide (i.toNat<len)=true:=XW j6
 simp[g1,g2,h2,e1]
theorem q8 {H:aB} {cs:List A} {len n:Nat} {k:IntKind} {i:Int} (h1:P.underlying t=some (.array len e)) (h2:df P e=some n) (hg:(decide (0<=i)&&decide (i<len))=true) :
  c7 P t (.ip cs) (.v (.int k i)) H=some (.ip (cs.drop (i.toNat*n))):=by
 simp only[XZ,X6] at hg
 obtain ⟨g1,g2⟩:=hg
 unfold c7 idx
 rw[h1]
 have e1:decide (i.toNat<len)=true:=XW j6
 simp[g1,g2,fT,h2,e1]
theorem np {H:aB} {b:Nat} {l:List T} {c:Bool} {k:IntKind} {i:Int} (h1:P.underlying t=some (.slice e)) (h2:df P e=some es) (h:H[b]? = some (.row false es (l.map f))) :
  c7 P t (.sl b 0 l.length c) (.v (.int k i)) H=(bt l i).map fun x=>.ip (f x):=by
 unfold c7 idx bt
 rw[h1]
 by_cases hi:0<=i
 ·simp only[hi,Zu,XY,XV,fT,h2,h,YP,qaD,Yj,Option.map_map]
  by_cases hl:i.toNat<l.length
  ·simp[hl,Function.comp_def]
  ·simp[hl,Nat.not_lt.1 hl]
 ·simp only[hi,ZC,XX,qaC,Option.map_none]
theorem CB {H:aB} {b o n:Nat} {B:az} {c:Bool} (h1:P.underlying t=some (.slice e)) (h:H[b]? = some B) (hB:fT H (.sl b o n c)=true):qX P t (.sl b o n c) H=some (.v (.int .i64 n)):=by
 unfold qX
 rw[h1,hB]; rfl
end
def ij (l:List UInt8):ByteArray:=⟨l.toArray⟩
def jw (s:ByteArray):List UInt8:=s.data.toList
theorem tf:∀ l:List UInt8,bytesOf (l.map c8)=some l
 | []=>rfl
 | a :: l=>by
  rw[YX]
  show (bytesOf (l.map c8)).map (((a.toNat:Int).toNat.toUInt8) :: ·)=_
  rw[tf l]
  simp
theorem sB {P:Program} {s d e:Nat} (h1:P.underlying s=some (.slice e)) (h2:P.underlying d=some .string) (h3:P.underlying e=some (.int .u8)) (h4:df P e=some 1) {H:aB} {x:A} {l:List UInt8} (hx:rG H x c8 l) (hn:yz H x=els? H x) :
  bz P s d x H=some (.v (.string (ij l))):=by
 unfold bz
 rw[h1,h2]
 simp only[h3,h4,hn]
 rw[show els? H x=_ from hx,XV,tf]
 rfl
def Bh (y:Nat):A:=bif Nat.beq y 0 then .v .nilFunc else .fn (.func y) [] []
theorem Bi (L e:Nat):A.under L (Bh e)=true:=by unfold Bh; cases Nat.beq e 0<;>rfl
theorem gx:(∀ (L e:Nat),A.under L (Bh e)=true)/\(∀ {T:Type} {f:T->List A} (hf:dq f) (L:Nat) (l:List T),aR L (l.map f)=true)/\(∀ (L:Nat) (a b:List A),bh L (a++b)=(bh L a&&bh L b))/\(∀ k,dq (cI k))/\dq c8/\dq cB/\dq cS/\(∀ {T:Type} {f:T->List A} (hf:dq f),dq (cL f))/\(∀ b:Bool,(b&&true)=b)/\(∀ b:Bool,(true&&b)=b)/\(∀ {β:Type} (x y:β),(bif true then x else y)=x):=
 ⟨Bi,c9,uG,lu,ln,lq,lA,lz,fun b=>YY b,fun b=>Yg b,fun _ _=>rfl⟩
theorem uB:(∀ (L:Nat) (cs:List A),az.under L (.box cs)=bh L cs)/\(∀ (L:Nat) (b:Bool) (e:Nat) (l:List (List A)),az.under L (.row b e l)=aR L l)/\(∀ (L:Nat) (r:cX),az.under L (.rng r)=true)/\(∀ L:Nat,az.under L .dead=true)/\(∀ (L:Nat) (k:IntKind) (ks:List Int) (vs:List A),az.under L (.mp k ks vs)=bh L vs) ∧
  (∀ L:Nat,bh L []=true)/\(∀ (L:Nat) (a:A) (as:List A),bh L (a :: as)=(A.under L a&&bh L as))/\(∀ L:Nat,aR L []=true)/\(∀ (L:Nat) (a:List A) (as:List (List A)),aR L (a :: as)=(bh L a&&aR L as)) ∧
  (∀ L:Nat,A.under L .any=true)/\(∀ (L:Nat) (v:Value),A.under L (.v v)=true)/\(∀ L b o:Nat,A.under L (.ptr b o)=decide (b<L))/\(∀ L b i o:Nat,A.under L (.ep b i o)=decide (b<L))/\(∀ (L b o n:Nat) (c:Bool),A.under L (.sl b o n c)=decide (b<L))/\(∀ L b:Nat,A.under L (.mr b)=decide (b<L)) ∧
  (∀ (L:Nat) (cs:List A),A.under L (.ip cs)=bh L cs)/\(∀ (L:Nat) (cs:List A),A.under L (.agg cs)=bh L cs)/\(∀ (L:Nat) (cs:List A),A.under L (.tup cs)=bh L cs)/\(∀ (L:Nat) (l:List (List A)) (c:Bool),A.under L (.imm l c)=aR L l)/\(∀ (L:Nat) (f:Fn) (a b:List A),A.under L (.fn f a b)=(bh L a&&bh L b))/\(∀ (L:Nat) (t:TypeId) (x:A),A.under L (.ifc t x)=A.under L x) ∧
  (∀ f:az->Bool,[].all f=true)/\(∀ (f:az->Bool) (b:az) (H:aB),(b :: H).all f=(f b&&H.all f)):=by
 refine⟨?_,?_,?_,?_,?_,?_,?_,?_,?_,?_,?_,?_,?_,?_,?_,?_,?_,?_,?_,?_,?_,?_,?_⟩<;>intros<;>first | rfl | (simp only[az.under,A.under,bh,aR]; done)
theorem eH {L:Nat} {H H':aB} (h:H.take L=H') (hu:H'.all (az.under L)=true):trim L H=some H':=by
 unfold trim
 rw[h,hu]
 cases hL:H.length==L with
 | false=>rfl
 | true=>rw[<-h,YL (qav (eq_of_beq hL))]; rfl
theorem Ir {L:Nat} {v:A} {H:aB} (h:A.under L v=true):oy L (Out.ret v,H)=some v:=by
 unfold oy
 simp only[h,XY]
theorem J.ds {cx:Cx} {call:bj} {e:Nat} (q:Nat) {args:List A} {H:aB} {lo:Nat} {k pan:A->aB->Option Go.Proofs.YtdmgdjnadbakfaaGreat.R} {kL:Go.Proofs.YtdmgdjnadbakfaaGreat.R->Option ρ} (h:decide (e=q)=true) (hq:Nat.beq q 0=false)
  (hk:J φ (dJ cx call (.fn (.func q) [] []) args H lo k pan) kL R K):J φ (dJ cx call (Bh e) args H lo k pan) kL R K:=by
 rw[X7 h]
 unfold Bh
 rw[hq]
 exact hk
abbrev iA (n:Int):A:=A.v (Value.int .i64 n)
abbrev uA (n:Int):A:=A.v (Value.int .u8 n)
abbrev bA (b:Bool):A:=A.v (Value.bool b)
theorem Av {a:Int}:iz a [] []=none:=rfl
theorem gh {a x:Int} {v:A} {ks:List Int} {vs:List A} {o:Option A} (h:decide (a=x)=false) (hr:iz a ks vs=o):iz a (x :: ks) (v :: vs)=o:=by
 rw[iz,h]; exact hr
theorem Dq {P:Program} {t:TypeId} {k:IntKind} {ks:List Int} {vs:List A} {a:Int} {c:Bool} {H:aB} {o:Option A} {y:A} (ha:iz a ks vs=o)
  (h:((xq P t).bind fun p=>bif decide (k=p.1) then Gt P p.2 c o else none)=some y):gS P t (.mv k ks vs) (.v (.int k a)) c H=some y:=by
 unfold gS
 cases hk:xq P t with
 | none=>rw[hk] at h; cases h
 | some p=>
  rw[hk] at h
  obtain ⟨h1,h2⟩:=br (show (bif decide (k=p.1) then Gt P p.2 c o else none)=some y from h)
  show ((bif decide (k=p.1) then some a else none).bind fun a=>bif decide (k=p.1) then Gt P p.2 c (iz a ks vs) else none)=some y
  rw[h1,XY,XV,XY,ha]
  exact h2
theorem Dp {P:Program} {t:TypeId} {k:IntKind} {ks:List Int} {vs:List A} {a:Int} {c:Bool} {H:aB} {b:Nat} {o:Option A} {y:A} (hb:H[b]? = some (.mp k ks vs)) (ha:iz a ks vs=o)
  (h:((xq P t).bind fun p=>bif decide (k=p.1) then Gt P p.2 c o else none)=some y):gS P t (.mr b) (.v (.int k a)) c H=some y:=by
 rw[<-Dq (H:=H) ha h]
 unfold gS
 simp only[hb]
theorem EO {β:Type} {cx:Cx} {k m n lo:Nat} {args:List A} {H5 X:aB} {Y:Option β} {o:β->Out} {H':β->aB} (hk:Nat.ble cx.P.funcs.size k=false) (hm:cx.cut k=m) (hm0:Nat.beq m 0=false) (hl:H5.length=m) (ha:bh m args=true) (hh:H5.all (az.under m)=true)
  (hl':∀ y,(H' y).length=m) (hv:∀ y,qG m (o y)=true) (hh':∀ y,(H' y).all (az.under m)=true) (h:J (fun (r:Out×aB) y=>∃ Z,r=(o y,H' y++Z)) (aE cx (dS cx n) (bq cx n) n k args H5 lo) some Y some) :
  J (fun (r:Out×aB) y=>r=(o y,H' y++X)) (dS cx (n+1) k args (H5++X) lo) some Y some:=by
 intro r hr
 obtain ⟨s,h1,Z,rfl⟩:=h r hr
 refine⟨_,?_,rfl⟩
 have h2:aE cx (bq cx n Hi) (bq cx n) n k args H5 lo=some (o r,H' r++Z):=by
  rw[Option.bind_fun_some] at h1
  exact h1
 have hc:gD cx k (H5++X)=true:=by
  unfold gD
  rw[hm,hm0,Y0 XH]
  rfl
 have hc2:cutAt cx k (H5++X)=m:=by
  unfold cutAt
  rw[hm,Y0 XH]
  rfl
 have t1:(H5++X).take m=H5:=by rw[<-hl,qbs]
 have t2:(H5++X).drop m=X:=by rw[<-hl,List.drop_left]
 have t3:(H' r++Z).take m=H' r:=by rw[<-hl' r,qbs]
 have t4:Nat.ble m (H' r++Z).length=true:=Y0 (by rw[Ye,hl']; omega)
 unfold dS
 rw[bq,hk,hc]
 simp only[XY,XX]
 unfold oP
 rw[hc2,t1,t2,ha,hh]
 show ((bif true&&true then (aE cx (bq cx n Hi) (bq cx n) n k args H5 lo).bind _ else none).bind some)=_
 rw[h2]
 simp only[YM,XY,XV,t4,t3,hh',hv]
def L0 {T:Type} (f:T->List A):Prop:=∀ x,(f x).all (fun a=>match a with | .v _=>true | .imm _ _=>true | _=>false)=true
theorem zP {T:Type} {f:T->List A} (hf:cj f) (hp:L0 f) (n:Nat) (H:aB) (x:T):(f x).map (iK (n+1) H)=f x:=by
 have h1:=hf (jK 4 H) x
 have h2:=hp x
 generalize f x=l at h1 h2
 induction l with
 | nil=>rfl
 | cons a as ih=>
  rw[bc,YH] at h1
  rw[qaX,XZ] at h2
  rw[YX,ih h1.2 h2.2]
  congr 1
  cases a with
  | v x=>exact h1.1
  | imm x y=>exact h1.1
  | _=>cases h2.1
theorem fL {T:Type} {f:T->List A} (hf:cj f) (hp:L0 f) {H:aB} {b n:Nat} {cs:List A} (x:T) (h:H[b]? = some (.box cs)) (hx:cs=f x):iK (n+2) H (.ptr b 0)=.ip (f x):=by
 subst hx
 show (match H[b]? with | some (.box cs)=>A.ip ((cs.drop 0).map (iK (n+1) H)) | _=>.any)=_
 rw[h]
 exact YA A.ip (zP hf hp n H x)
theorem mD {H:aB} {n q:Nat} {a a':A} (h:iK n H a=a'):iK (n+1) H (.fn (.func q) [] [a])=.fn (.func q) [] [a']:=by rw[<-h]; rfl
theorem kF {T U:Type} {f:T->U} {a:T} {b:U} {l:List T} {m:List U} (h:f a=b) (t:l.map f=m):(a :: l).map f=b :: m:=by rw[YX,h,t]
theorem qo {cx:Cx} {k n lo:Nat} {base:bj} {args as:List A} {H:aB} {X:Option A} (hk:Nat.ble cx.P.funcs.size k=false) (hc:gD cx k H=false) (hd:gO cx k H=true) (ha:args.map (iK 6 H)=as) (h:cx.C k as=X) :
  bq cx (n+1) base k args H lo=X.bind fun r=>bif Kv r then some (.ret r,H) else none:=by
 rw[bq,hk,hc,hd]
 show kG cx k args H=_
 unfold kG
 rw[ha,h]
theorem J.VZ {β:Type} {k n lo:Nat} {cx:Cx} {base:bj} {args:List A} {H:aB} {X:Option β} {f:β->A} {Y:β->Option α} {k':Go.Proofs.YtdmgdjnadbakfaaGreat.R->Option σ} (hv:∀ y,Kv (f y)=true) (h:bq cx (n+1) base k args H lo=(X.map f).bind fun r=>bif Kv r then some (.ret r,H) else none) (hk:∀ y,J φ (k' (.ret (f y),H)) kL (Y y) K):J φ ((bq cx (n+1) base k args H lo).bind k') kL (X.bind Y) K:=by
 rw[h]
 cases X with
 | none=>exact J.nn
 | some y=>
  refine J.lp (L':=k' (.ret (f y),H)) ?_ (hk y)
  show (bif Kv (f y) then some (Out.ret (f y),H) else none).bind k'=_
  rw[hv y]; rfl
theorem J.dp {β:Type} {k n lo:Nat} {cx:Cx} {args:List A} {H:aB} {X:Option β} {f:β->A} {Y:β->Option α} {k':Go.Proofs.YtdmgdjnadbakfaaGreat.R->Option σ} (hv:∀ y,Kv (f y)=true) (h:bq cx (n+1) Hi k args H lo=(X.map f).bind fun r=>bif Kv r then some (.ret r,H) else none) (hk:∀ y,J φ (k' (.ret (f y),H)) kL (Y y) K):J φ ((dS cx (n+1) k args H lo).bind k') kL (X.bind Y) K:=J.VZ hv h hk
theorem CC {α:Type} (x:α):∀ (a l:List α) (b:Nat),a.length<=b->(a++l).set b x=a++l.set (b - a.length) x
 | [],l,b,_=>rfl
 | y :: a,l,0,h=>by simp at h
 | y :: a,l,b+1,h=>by
  rw[Yw,List.set_cons_succ,CC x a l b (by simpa using h),X9,Nat.add_sub_add_right,Yw]
theorem gN {o:Out} {lo off b p:Nat} {H2 X:aB} (h:H2.length<=b):∃ Z,(o,bR lo off 0 (.ptr b p) (H2++X))=(o,H2++Z):=by
 have key:∃ Z,bR lo off 0 (.ptr b p) (H2++X)=H2++Z:=by
  unfold bR
  simp only[]
  split
  ·split
   ·cases decide (lo<=b) with
    | false=>exact⟨X,rfl⟩
    | true=>exact⟨_,CC _ _ _ _ h⟩
   ·exact⟨X,rfl⟩
  ·exact⟨X,rfl⟩
 obtain ⟨Z,hZ⟩:=key
 exact⟨Z,by rw[hZ]⟩
theorem yi {T:Type} {f:T->List A} (hf:cj f) {H:aB} {lo off b o b' es:Nat} {l:List T} {cs:List A} {c:Bool} (h1:H[b]? = some (.box cs)) (h2:cs[o+off]? = some (.sl b' 0 l.length c)) (h3:H[b']? = some (.row false es (l.map f))) (h4:lo<=b) :
  bR lo off 0 (.ptr b o) H=H.set b (.box (cs.set (o+off) (.imm (l.map f) false))):=by
 unfold bR
 simp only[h1,h2,XW h4,XY]
 rw[show Jp H (.sl b' 0 l.length c)=.imm (l.map f) false from dw (n:=3) hf h3]
end
section
open Go.RowKit Go.ChangeShapes Go.WideShapes Go.ChangeAt Go.Deep
theorem zR (k o:Nat):fq [] (G0 fun _ _=>True) k o:=⟨trivial,fun b hb=>by cases hb⟩
def nJ (P:Program) (t:TypeId) (T:List A->Prop):Prop:=
 ∀ {H:Type} (enc:TypeId×Value->H) (w:World) (held:Bool) (fuel:Nat) (cs:List Value) (x:DataW H×List MemPlace),DataW.trod enc P w 0 (fun _=>true) held fuel t cs=some x->∃ as,T as/\bC [] (G0 fun _ _=>True) w as cs
def QQ (as:List A):Prop:=∃ n:Int,as=[.v (.int .i64 n)]/\-9223372036854775808<=n/\n<=9223372036854775807
theorem BE {H:aB} {g:Gh} {w:World} (x:Value):bC H g w [.v x] [x]:=by rw[bC]; exact⟨x,[],rfl,s8,H4⟩
theorem Ba {P:Program} {t:TypeId} (ht:P.underlying t=some (.int .i64)):nJ P t QQ:=by
 intro H enc w held fuel cs x h
 obtain ⟨n,rfl,_,hw⟩:=DataW.trod_int ht h
 exact⟨_,⟨n,rfl,(qbw hw).1,(qbw hw).2⟩,BE _⟩
theorem qa {H:aB} {g:Gh} {w:World} {a:A} {as:List A} {c:Value} {cs:List Value} (h:VR H g w a c) (k:bC H g w as cs):bC H g w (a :: as) (c :: cs):=by rw[bC]; exact⟨c,cs,rfl,h,k⟩
def ED:List (List A->Prop)->List A->Prop
 | [],as=>as=[]
 | T :: Ts,as=>∃ a b,as=a++b/\T a/\ED Ts b
def Fh (P:Program) (N:Nat):List Field->Nat->Bool
 | [],o=>Nat.beq o N
 | f :: fs,o=>Nat.beq f.offset o&&Fh P N fs (o+P.cellsOf f.type)
def ReadsAll (P:Program):List Field->List (List A->Prop)->Prop
 | [],[]=>True
 | f :: fs,T :: Ts=>nJ P f.type T/\ReadsAll P fs Ts
 | _,_=>False
theorem pD {H:aB} {g:Gh} {w:World}:∀ {a:List A} {c:List Value} {b:List A} {d:List Value},bC H g w a c->bC H g w b d->bC H g w (a++b) (c++d)
 | [],c,b,d,h,k=>by rw[bC] at h; subst h; exact k
 | x :: a,c,b,d,h,k=>by
  rw[bC] at h
  obtain ⟨y,c',rfl,h1,h2⟩:=h
  rw[Yw,Yw,bC]
  exact⟨y,_,rfl,h1,pD h2 k⟩
theorem qJ {P:Program} {H:Type} (enc:TypeId×Value->H) (w:World) (held:Bool) (cs:List Value) {N:Nat} (hN:cs.length=N):∀ (fs:List Field) (Ts:List (List A->Prop)) (o:Nat),Fh P N fs o=true->ReadsAll P fs Ts ->
  (∀ (i:Nat) f,fs[i]? = some f->∃ n x,DataW.trod enc P w 0 (fun _=>true) held n f.type ((cs.drop f.offset).take (P.cellsOf f.type))=some x)->∃ as,ED Ts as/\bC [] (G0 fun _ _=>True) w as (cs.drop o)
 | [],[],o,hl,_,_=>by
  rw[Fh] at hl
  have:o=N:=Yq hl
  refine⟨[],rfl,?_⟩
  rw[bC,Y3.2 j6]
 | f :: fs,T :: Ts,o,hl,hr,hx=>by
  rw[Fh,XZ] at hl
  obtain ⟨hl1,hl⟩:=hl
  have ho:f.offset=o:=Yq hl1
  obtain ⟨n,x,h0⟩:=hx 0 f rfl
  obtain ⟨a,ha,hv⟩:=hr.1 enc w held n _ x h0
  obtain ⟨b,hb,hvb⟩:=qJ enc w held cs hN fs Ts (o+P.cellsOf f.type) hl hr.2 fun i f' hf'=>hx (i+1) f' (by simpa using hf')
  refine⟨a++b,⟨a,b,rfl,ha,hb⟩,?_⟩
  have e:cs.drop o=(cs.drop o).take (P.cellsOf f.type)++cs.drop (o+P.cellsOf f.type):=by
   rw[<-Yv]; exact(YZ _ _).symm
  rw[e,<-ho]
  rw[<-ho] at hvb
  exact pD hv hvb
 | [],_ :: _,_,_,hr,_=>hr.elim
 | _ :: _,[],_,_,hr,_=>hr.elim
theorem gQ {P:Program} {t:TypeId} {fs:Array Field} {Ts:List (List A->Prop)} (ht:P.underlying t=some (.struct fs)) (hl:Fh P (P.cellsOf t) fs.toList 0=true) (hr:ReadsAll P fs.toList Ts):nJ P t (ED Ts):=by
 intro H enc w held fuel cs x h
 obtain ⟨xs,n,_,rfl,hlen,hxs,hf⟩:=DataW.trod_struct ht h
 obtain ⟨as,h1,h2⟩:=qJ enc w held cs hlen fs.toList Ts 0 hl hr fun i f hi=>by
  have hi':i<xs.length:=by
   have:=(X2.1 hi).1
   simp at this; omega
  exact⟨n,xs[i],by rw[hf i f (by simpa using hi)]; exact X3 hi'⟩
 exact⟨as,h1,by simpa using h2⟩
theorem uU {H:Type} {enc:TypeId×Value->H} {P:Program} {W:World} {base:Nat} {ts:Array TypeId} {args:Array Value} (h:sK enc P W base ts args) (j:Nat) {t:TypeId} {v:Value} (hj:ts[j]? = some t) (hv:args[j]? = some v) {fs:Array Field} (ht:P.underlying t=some (.struct fs)) {T:List A->Prop} (hT:nJ P t T) :
  ∃ as,T as/\VR [] (G0 fun _ _=>True) W (.agg as) v:=by
 obtain ⟨ok,d,p,fuel,htr⟩:=h.2 j t v hj hv
 unfold Value.okWide at ok
 rw[ht] at ok
 obtain ⟨cs,rfl,_,_⟩:=ok
 obtain ⟨as,h1,h2⟩:=hT enc W _ _ _ _ htr
 refine⟨as,h1,?_⟩
 rw[VR]
 exact⟨cs,rfl,h2⟩
theorem AS {H:Type} {enc:TypeId×Value->H} {P:Program} {W:World} {base:Nat} {ts:Array TypeId} {args:Array Value} (h:sK enc P W base ts args) (j:Nat) {t:TypeId} {v:Value} (hj:ts[j]? = some t) (hv:args[j]? = some v) (ht:P.underlying t=some (.int .i64)) :
  ∃ n:Int,(-9223372036854775808<=n/\n<=9223372036854775807)/\VR [] (G0 fun _ _=>True) W (.v (.int .i64 n)) v:=by
 obtain ⟨n,rfl,h1,h2⟩:=Dk h j hj hv ht
 exact⟨n,⟨h1,h2⟩,s8⟩
def p9 (P:Program) (t:TypeId) {T:Type} (c:T->List A) (ok:T->Prop):Prop:=nJ P t fun as=>∃ x,as=c x/\ok x
def gA (n:Int):Prop:=-9223372036854775808<=n/\n<=9223372036854775807
theorem kQ {P:Program} {t:TypeId} (ht:P.underlying t=some (.int .i64)):p9 P t (cI .i64) gA:=fun enc w held fuel cs x h=>by
 obtain ⟨as,⟨n,rfl,h1⟩,h2⟩:=Ba ht enc w held fuel cs x h
 exact⟨_,⟨n,rfl,h1⟩,h2⟩
theorem p9.of {P:Program} {t:TypeId} {T:Type} {c:T->List A} {ok:T->Prop} {S:List A->Prop} (h:nJ P t S) (hs:∀ as,S as->∃ x,as=c x/\ok x):p9 P t c ok:=fun enc w held fuel cs x h0=>by
 obtain ⟨as,h1,h2⟩:=h enc w held fuel cs x h0
 exact⟨as,hs as h1,h2⟩
theorem Fa {H:Type} {enc:TypeId×Value->H} {P:Program} {W:World} {base:Nat} {ts:Array TypeId} {args:Array Value} (h:sK enc P W base ts args) (j:Nat) {t:TypeId} {v:Value} (hj:ts[j]? = some t) (hv:args[j]? = some v) (ht:P.underlying t=some (.int .i64)) :
  ∃ n:Int,gA n/\VR [] (G0 fun _ _=>True) W (.v (.int .i64 n)) v:=AS h j hj hv ht
theorem vH {H:Type} {enc:TypeId×Value->H} {P:Program} {W:World} {base:Nat} {ts:Array TypeId} {args:Array Value} (h:sK enc P W base ts args) (j:Nat) {t:TypeId} {v:Value} (hj:ts[j]? = some t) (hv:args[j]? = some v) {fs:Array Field} (ht:P.underlying t=some (.struct fs)) {T:Type} {c:T->List A} {ok:T->Prop} (hT:p9 P t c ok) :
  ∃ x,ok x/\VR [] (G0 fun _ _=>True) W (.agg (c x)) v:=by
 obtain ⟨as,⟨x,rfl,h1⟩,h2⟩:=uU h j hj hv ht hT
 exact⟨x,h1,h2⟩
def iM:Nat:=9223372036854775807
section
variable {P:Program} {t e:TypeId} {T:Type} {c:T->List A} {ok:T->Prop}
theorem Iq (ht:P.underlying t=some .bool):p9 P t cB (fun _=>True):=fun enc w held fuel cs x h=>by
 obtain ⟨b,rfl,_⟩:=DataW.trod_bool ht h
 exact⟨_,⟨b,rfl,trivial⟩,BE _⟩
theorem ov {es:Nat} (ht:P.underlying t=some (.slice e)) (hk:P.cellsOf e=es) (hpos:0<es) (hlen:∀ x,(c x).length=es) (hL:p9 P e c ok):p9 P t (cL c) (fun l=>l.length<=iM/\∀ z∈l,ok z):=by
 intro H enc w held fuel cs x h
 rcases open_slice ht h with ⟨rfl,_⟩ | ⟨a,len,cap,m,n,D,Pl,rfl,_,hle,hcap,hm,hxd,hel⟩
 ·refine⟨_,⟨[],rfl,YT _,fun z hz=>(by cases hz)⟩,?_⟩
  rw[cL,bC]
  refine⟨_,[],rfl,?_,H4⟩
  rw[VR]
  exact⟨none,0,[],es,rfl,X1 _,fun h=>(by cases h),fun d hd=>(by cases hd),fun h=>absurd h (Z8 0),by rw[qbE,bw]⟩
 ·simp only[Zh] at hm
  have each:∀ i,i<len->∃ y:T,ok y/\∃ vs,bC [] (G0 fun _ _=>True) w (c y) vs/\vs.length=es/\∀ j,j<es->w.cell? (a.add (i*es+j))=vs[j]?:=fun i hi=>by
   obtain ⟨cs',h1,h2⟩:=hel i j6
   obtain ⟨as,⟨y,rfl,hok⟩,hv⟩:=hL enc w held n cs' _ h2
   obtain ⟨_,hl,hc⟩:=World.cells?_some h1
   have hvl:=hv.length
   rw[hlen] at hvl
   refine⟨y,hok,cs',hv,hvl,fun j hj=>?_⟩
   have:=hc j j6
   rw[hk,add_add] at this
   exact this
  obtain ⟨l,ds,hl,hdl,hall⟩:∃ (l:List T) (ds:List (List Value)),l.length=len/\ds.length=len/\∀ i y d,l[i]? = some y->ds[i]? = some d->ok y/\bC [] (G0 fun _ _=>True) w (c y) d/\d.length=es/\∀ j,j<es->w.cell? (a.add (i*es+j))=d[j]?:=by
   clear hel hm hle hcap hxd h
   induction len with
   | zero=>exact⟨[],[],rfl,rfl,fun i y d h=>by simp at h⟩
   | succ len ih=>
    obtain ⟨l,ds,hl,hdl,hall⟩:=ih (fun i hi=>each i j6)
    obtain ⟨y,hok,d,hd⟩:=each len j6
    refine⟨l++[y],ds++[d],by simp[hl],by simp[hdl],fun i y' d' hy' hd'=>?_⟩
    by_cases e:i<len
    ·rw[Yf j6] at hy' hd'
     exact hall i y' d' hy' hd'
    ·have hi:i<(l++[y]).length:=(X2.1 hy').1
     have e2:i=len:=by simp at hi; omega
     subst e2
     rw[Yo j6] at hy' hd'
     simp[hl,hdl] at hy' hd'
     subst hy'; subst hd'
     exact⟨hok,hd⟩
  have hds:∀ d∈ds,d.length=es:=fun d hd=>by
   obtain ⟨i,hi,rfl⟩:=YR hd
   exact(hall i l[i] ds[i] (X3 j6) (X3 hi)).2.2.1
  have hcapL:cap<=iM:=hcap
  refine⟨_,⟨l,rfl,j6,fun z hz=>?_⟩,?_⟩
  ·obtain ⟨i,hi,rfl⟩:=YR hz
   exact(hall i l[i] ds[i] (X3 hi) (X3 j6)).1
  ·rw[cL,bC]
   refine⟨_,[],rfl,?_,H4⟩
   rw[VR]
   refine⟨some a,cap,ds,es,by simp[hl],by simp[hl]; exact hle,fun h=>(by cases h),hds,fun hp=>?_,?_⟩
   ·have hp:0<len:=by simpa [hl] using hp
    obtain ⟨ab,ao,asp⟩:=a
    obtain ⟨_,_,h0l,h0⟩:=hall 0 l[0] ds[0] (X3 j6) (X3 j6)
    have h4:=h0 0 hpos
    rw[X3 j6] at h4
    have hsp:asp=none:=by simpa [Addr.add] using World.cell?_spot h4
    subst hsp
    refine⟨ab,ao,rfl,fun j v hj=>⟨?_,zR _ _⟩⟩
    have hjl:j<ds.flatten.length:=(X2.1 hj).1
    rw[cE hds] at hjl
    have hi:j / es<len:=by
     rw[Z1 hpos]; rw[hdl] at hjl; exact hjl
    obtain ⟨_,_,hil,hi2⟩:=hall (j / es) l[j / es] ds[j / es] (X3 j6) (X3 j6)
    have h5:=hi2 (j % es) (qax _ hpos)
    have e1:j / es*es+j % es=j:=by rw[Y9]; exact qbg j es
    have h6:=kK hds (X3 (show j / es<ds.length by omega)) (j % es) (qax _ hpos)
    rw[e1] at h5 h6
    rw[add_plain] at h5
    rw[h5,<-h6]
    exact hj
   ·refine da.2 ⟨by simp[hl,hdl],fun i y d hy hd=>?_⟩
    rw[Yj] at hy
    cases hx:l[i]? with
    | none=>rw[hx] at hy; cases hy
    | some z=>
     rw[hx] at hy; cases hy
     exact(hall i z d hx hd).2.1
theorem p9.S7 {ok':T->Prop} (h:p9 P t c ok) (hw:∀ x,ok x->ok' x):p9 P t c ok':=fun enc w held fuel cs x h0=>by
 obtain ⟨as,⟨y,h1,h2⟩,h3⟩:=h enc w held fuel cs x h0
 exact⟨as,⟨y,h1,hw y h2⟩,h3⟩
theorem Dx {es:Nat} (ht:P.underlying t=some (.slice e)) (hk:P.cellsOf e=es) (hpos:0<es) (hlen:∀ x,(c x).length=es) (hL:p9 P e c (fun _=>True)):p9 P t (cL c) (fun l=>l.length<=iM):=p9.S7 (T:=List T) (c:=cL c) (ok:=fun (l:List T)=>l.length<=iM/\∀ z∈l,True) (ov ht hk hpos hlen hL) fun _ h=>h.1
theorem nh {n:Nat} {T:List A->Prop} (ht:P.underlying t=some (.array n e)) (hk:P.cellsOf t=n*P.cellsOf e) (hr:nJ P e T):nJ P t (ED (List.replicate n T)):=by
 intro H enc w held fuel cs x h
 obtain ⟨xs,m,_,rfl,hlen,hxs,hf⟩:=DataW.trod_array ht h
 rw[hk] at hlen
 have go:∀ q,q<=n->∃ as,ED (List.replicate q T) as/\bC [] (G0 fun _ _=>True) w as (cs.drop ((n - q)*P.cellsOf e)):=by
  intro q
  induction q with
  | zero=>intro _; exact⟨[],rfl,by rw[bC,Y3.2 (by simp[hlen])]⟩
  | succ q ih=>
   intro hq
   obtain ⟨bs,h1,h2⟩:=ih j6
   have hi:n - (q+1)<xs.length:=j6
   have:=hf (n - (q+1)) j6
   rw[X3 hi] at this
   obtain ⟨as,ha,hv⟩:=hr enc w held m _ _ this
   refine⟨as++bs,⟨as,bs,rfl,ha,h1⟩,?_⟩
   have e1:(n - q)*P.cellsOf e=(n - (q+1))*P.cellsOf e+P.cellsOf e:=by
    rw[show n - q=n - (q+1)+1 by omega,YS,qbj]
   have e2:cs.drop ((n - (q+1))*P.cellsOf e)=(cs.drop ((n - (q+1))*P.cellsOf e)).take (P.cellsOf e)++cs.drop ((n - q)*P.cellsOf e):=by
    rw[e1,<-Yv]; exact(YZ _ _).symm
   rw[e2]
   exact pD hv h2
 obtain ⟨as,h1,h2⟩:=go n (X1 _)
 exact⟨as,h1,by simpa using h2⟩
variable {H:Type} {enc:TypeId×Value->H} {W:World} {base:Nat} {ts:Array TypeId} {args:Array Value}
end
theorem Kw {P:Program} {glob:Nat->Option (List Value)} {k:Nat} {as:List A} {args:Array Value} {W:World} (h:fh P glob k as (.v (.bool true))) (hg:∀ (G:Nat) (vs:List Value),glob G=some vs->∀ (j:Nat) (v:Value),vs[j]? = some v->W.cell? ⟨G,j,none⟩=some v)
  (hv:bC [] (G0 fun _ _=>True) W as args.toList):Calls P k args W fun e W'=>e=.returned (.bool true)/\Below W.heap.size W W':=by
 refine(h (fun _ _=>True) W args.toList (fun _ _ _=>trivial) (fun G vs hG j v hj=>⟨by rw[YP]; exact hg G vs hG j v hj,zR _ _⟩) hv).mono ?_
 rintro e W' ⟨c,rfl,hb,hc⟩
 rw[VR] at hc
 subst hc
 exact⟨rfl,hb⟩
end
end Go.Proofs.YtdmgdjnadbakfaaGreat
