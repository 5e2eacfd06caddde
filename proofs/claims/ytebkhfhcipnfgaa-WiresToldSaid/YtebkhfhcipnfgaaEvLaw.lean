/-
 From what the interpreter answers to a law's statement: how arguments that came in are read as the interpreter's data.
-/
import Derived.Test.YtebkhfhcipnfgaaEvAct
import Derived.LoopNIn
import Derived.RecoverIn
import Derived.Deep.QuietTactic
import Derived.BigQuiet
import Derived.WalkSmall
import Derived.Below
import Derived.ProofKit
import Derived.OpenShut
import Derived.ChangeOld
import Derived.Carry
namespace Go.Proofs.Ytebkhfhcipnfgaa
set_option linter.unusedVariables false
set_option linter.unusedSimpArgs false
set_option linter.defProp false
theorem ZO {p:Prop} (h:p:=by rw[List.length_append]; omega):p:=h
theorem ZX {p:Prop} (h:p:=by rw[decide_eq_decide]; omega):p:=h
def qam:=@decide_true
def qax:=@Nat.le_of_ble_eq_true
def qaF:=@Nat.not_lt_zero
def qaH:=@List.drop_eq_nil_iff
def qbg:=@decide_false
def qbj:=@beq_self_eq_true
def qbm:=@Bool.and_self
def qbn:=@Bool.and_true
def qbp:=@List.mem_cons_of_mem
def qbq:=@List.mem_cons_self
def qbu:=@Int.toNat_natCast
def qbA:=@Value.string.injEq
def qbD:=@Value.int.injEq
def qbE:=@Value.bool.injEq
def qbN:=@Bool.not_false
def qbT:=@List.length_drop
def qb2:=@Nat.le_add_right
def qb3:=@List.not_mem_nil
def qcd:=@true_and
def qch:=@List.getElem?_cons_zero
def qck:=@List.reverse_singleton
def qcl:=@List.mem_singleton
def qcn:=@Nat.div_lt_iff_lt_mul
def qcr:=@and_true
def qcs:=@List.take_set
def qcz:=@decide_eq_decide
def qcC:=@Bool.or_false
def qcI:=@Oper.semAt_none
def qcL:=@not_true_eq_false
def qcR:=@linearise_go_acc
def qcS:=@Nat.mod_eq_of_lt
def qcX:=@List.map_drop
def qc4:=@Nat.sub_self
def qdk:=@step_lone_go
def qdl:=@List.map_append
def qds:=@DataW.trod_int
def qdy:=@List.drop_one
def qdE:=@List.pairwise_iff_getElem
def qdJ:=@Frame.finish_atR
def qdN:=@List.length_eq_zero_iff
def qdR:=@bounds_u8
def qdS:=@Option.map_none
def qdT:=@fenced_calm
def qd3:=@List.take_left
def qed:=@tryRecover_deferred
def qej:=@fenced_oper
def qem:=@wpIn_seq
section
open Go.RowKit
variable {H H':Heap} {g g':Gh} {w0 w w':World} {cx:Cx} {s:St} {a:Act} {F:Fence} {n:Nat} {N lo:Nat} {mb:Mb} {H0:Heap} {gs:Gh} {ws:World} {Bs:Heap->Gh->World->Prop} {f:Nat} {ops:Array Oper}
theorem nB {o:Oper} (h:wK o=true):o.guard=none:=by
 unfold wK at h; split at h
 ·assumption
 ·cases h
theorem Ap {call:bB} {k:List (Nat×A)->St->Option R} {r:R}:∀ (L:List Nat) (seen:List (Nat×A)) (s:St),RS cx call f ops L seen s k=some r ->
  ∃ (S:Nat->St) (x:Nat->A) (seen1:List (Nat×A)),S 0=s/\k seen1 (S L.length)=some r/\(∀ p∈seen,p∈seen1) ∧
   ∀ (p i:Nat),L[p]? = some i->∃ o,ops[i]? = some o/\o.guard=none/\(cp o=0∨(cp o=1/\(i,addrOf cx (S p) o.op)∈seen1)∨(cp o=2/\rM (partsOf cx (S p) o.op)=true))/\jm cx call f o (S p)=some (x p)/\S (p+1)=(S p).put o.dst (x p)
 | [],seen,s,h=>⟨λ_=>s,λ_=>.any,seen,rfl,h,λ_ h=>h,λp i hp=>by simp at hp⟩
 | i :: L,seen,s,h=>by
  unfold RS at h;split at h
  ·cases h
  ·rename_i o ho;obtain ⟨hc,h⟩:=bJ h;obtain ⟨hfl,h⟩:=bJ h;rw[WQ,Z9,qbo,qbo] at hc;rw[ua] at h;obtain ⟨x0,h1,h⟩:=bN h;obtain ⟨S,x,seen1,e1,e2,e3,e4⟩:=Ap L _ _ h;refine⟨λp=>match p with | 0=>s | p+1=>S p,λp=>match p with | 0=>x0 | p+1=>x p,seen1,rfl,e2,λp hp=>e3 p (by
    cases Nat.beq (cp o) 1 with
    | true=>exact qbp _ hp
    | false=>exact hp),λp j hj=>?_⟩
   cases p with
   | zero=>
    simp at hj;subst hj;refine⟨o,ho,nB hc.1,?_,h1,e1⟩;rcases hc.2 with (hk | hk) | hk
    ·exact .inl (beq_spec hk)
    ·exact .inr (.inl ⟨beq_spec hk,e3 _ (by rw[hk]; exact qbq ..)⟩)
    ·exact .inr (.inr ⟨beq_spec hk,by rw[hk] at hfl; exact hfl⟩)
   | succ p=>exact e4 p j (by simpa using hj)
def w8 (cx:Cx) (call:bB) (f lo:Nat) (ops:Array Oper) (c q:Nat) (seen:List (Nat×A)) (i:Nat) (s:St) (x:A) (s':St):Prop:=
 ∃ o H',ops[i]? = some o/\s'=({ s with H:=H' }:St).put o.dst x ∧
  ((i≠c/\o.guard=none/\((eF o=true/\mK ops i (dR cx s o.op) seen=true)∨yP o.op=false)/\bV cx f lo o s (λa H=>some (a,H))=some (x,H')) ∨
   (i=c/\xJ ops c (Jv cx o) seen=true/\call q (fS cx s o.op) s.H (I8 cx o lo s.H)=some (.ret x,H')))
theorem Av {call:bB} {c q:Nat} {kp:A->Heap->Option R} {k:St->Option R} {r:R} {seen:List (Nat×A)} (hq:∀ o,ops[c]? = some o->∀ (s:St) (lo':Nat) (k:A->Heap->Option R) (kp:A->Heap->Option R),ez cx call (kH cx s o.op) (fS cx s o.op) s.H lo' k kp=(call q (fS cx s o.op) s.H lo').bind λr=>ek r.1 (λa=>k a r.2) (λa=>kp a r.2)) :
  ∀ (L:List Nat) (s:St),N3 cx call f lo ops c kp L seen s k=some r ->
  ∃ (S:Nat->St) (x:Nat->A) (P:Nat),S 0=s/\P<=L.length/\(∀ p i,p<P->L[p]? = some i->w8 cx call f lo ops c q seen i (S p) (x p) (S (p+1))) ∧
   ((P=L.length/\k (S P)=some r)∨(∃ o y H2,L[P]? = some c/\ops[c]? = some o/\call q (fS cx (S P) o.op) (S P).H (I8 cx o lo (S P).H)=some (.pan y,H2)/\kp y H2=some r))
 | [],s,h=>⟨λ_=>s,λ_=>.any,0,rfl,qab _,λp i hp _=>absurd hp (qaF _),.inl ⟨rfl,h⟩⟩
 | i :: L,s,h=>by
  unfold N3 at h;split at h
  ·cases h
  rename_i o ho;have go:∀ (x0:A) (H':Heap),w8 cx call f lo ops c q seen i s x0 (({ s with H:=H' }:St).put o.dst x0)->N3 cx call f lo ops c kp L seen (({ s with H:=H' }:St).put o.dst x0) k=some r ->
    ∃ (S:Nat->St) (x:Nat->A) (P:Nat),S 0=s/\P<=(i :: L).length/\(∀ p j,p<P->(i :: L)[p]? = some j->w8 cx call f lo ops c q seen j (S p) (x p) (S (p+1))) ∧
     ((P=(i :: L).length/\k (S P)=some r)∨(∃ o y H2,(i :: L)[P]? = some c/\ops[c]? = some o/\call q (fS cx (S P) o.op) (S P).H (I8 cx o lo (S P).H)=some (.pan y,H2)/\kp y H2=some r)):=λx0 H' hst h=>by
   obtain ⟨S,x,P,e1,e2,e3,e4⟩:=Av hq L _ h;refine⟨λp=>match p with | 0=>s | p+1=>S p,λp=>match p with | 0=>x0 | p+1=>x p,P+1,rfl,Nat.succ_le_succ e2,λp j hp hj=>?_,?_⟩
   ·cases p with
    | zero=>
     simp at hj;subst hj;show w8 cx call f lo ops c q seen i s x0 (S 0);rw[e1]; exact hst
    | succ p=>exact e3 p j o3 (by simpa using hj)
   ·rcases e4 with ⟨e4,e5⟩ | ⟨o,y,H2,e4,e5⟩
    ·exact .inl ⟨by rw[e4]; rfl,e5⟩
    ·exact .inr ⟨o,y,H2,by simpa using e4,e5⟩
  cases hic:Nat.beq i c with
  | true=>
   rw[hic] at h;simp only[qaa] at h;obtain rfl:=qan hic;obtain ⟨hsn,h⟩:=bJ h;rw[hq o ho] at h;obtain ⟨⟨out,H2⟩,hcl,h⟩:=bN h;cases out with
   | pan y=>exact⟨λ_=>s,λ_=>.any,0,rfl,qav _,λp i hp _=>absurd hp (qaF _),.inr ⟨o,y,H2,rfl,ho,hcl,h⟩⟩
   | ret v=>exact go v H2 ⟨o,H2,ho,rfl,.inr ⟨rfl,hsn,hcl⟩⟩ h
  | false=>
   rw[hic] at h;simp only[Z8] at h;obtain ⟨hc,h⟩:=bJ h;obtain ⟨hs,h⟩:=bJ h;rw[WS,Z9,Z9,qbo,qa3] at hc;rw[jU] at h;obtain ⟨⟨x0,H'⟩,h1,h⟩:=bN h;refine go x0 H' ⟨o,H',ho,rfl,.inl ⟨λe=>by subst e; simp at hic,nB hc.1.1,?_,h1⟩⟩ h;rcases hc.1.2 with hk | hk
   ·exact .inl ⟨hk,by rw[hk] at hs; exact hs⟩
   ·exact .inr hk
theorem CG {call:bB} (hcall:eO cx Bs call) (hb0:Bs H0 gs ws) (horc:lK cx) (hF:iL F) (hmx:cx.P.follows .mixedOrders=true) {k:E->St->Option R} {r:R} {Q:Exit->Act->World->Prop} {m:Nat} (jT:wO ops N=true) (chkt:gE ops m=true)
  (hg:Good cx N mb lo H0 gs ws w0 s g a w) (hd:∀ o∈ops.toList,∀ d,o.dst=some d->d<N)
  (O:List Nat) (M P pc:Nat) (S:Nat->St) (x:Nat->A) (hM:M<=P) (hpc:M<=pc) (hP:P<=O.length) (hO:∀ i:Nat,i<m->∃ p:Nat,O[p]? = some i) (hOs:∀ p i:Nat,O[p]? = some i->i<m) (hnd:∀ p q i:Nat,O[p]? = some i->O[q]? = some i->p=q)
  (hdep:∀ p q i j:Nat,O[p]? = some i->O[q]? = some j->gQ ops i j=true->q<p) (hE:∀ p q i j:Nat,M<=q->q<p->O[p]? = some i->O[q]? = some j->gQ ops i j=true)
  (h0:S 0=s) (hH:∀ p,p<=M->(S p).H=s.H) (hgd:∀ (p i:Nat) (o:Oper),O[p]? = some i->ops[i]? = some o->o.guard=none)
  (hlk:∀ (p i:Nat) (o:Oper),p<P->O[p]? = some i->ops[i]? = some o->∀ t,look (S (p+1)).fr t=if o.dst=some t then x p else look (S p).fr t)
  (Z:Prop) (hlen:∀ p,M<=p->p<P->(pc<=p->Z)->(S p).H.length<=(S (p+1)).H.length)
  (hpure:∀ (p i:Nat) (o:Oper),p<M->O[p]? = some i->ops[i]? = some o->∀ e,M+e<=P->(pc<M+e->Z)->(∀ q j:Nat,M<=q->q<M+e->O[q]? = some j->gW ops i j)->jm cx call f o ⟨(S p).fr,(S (M+e)).H⟩=some (x p))
  (heff:∀ (p i:Nat) (o:Oper),M<=p->p<P->O[p]? = some i->ops[i]? = some o->∀ (g':Gh) (W:World) (ev:Operand->Value),wz cx (S p) g' w0 o.op ev W->(∀ (G:Nat) (vs:List Value),cx.glob G=some vs->bS (S p).H g' W G 0 vs)->Bs (S p).H g' W ->
   Jk F n cx.P o ev W (λv w'=>∃ g2,Rel (S (p+1)).H g2 w0 w'/\Ext (S p).H g' W (S (p+1)).H g2 w'/\(∀ b,b<lo->b<(S p).H.length->(S (p+1)).H[b]? = (S p).H[b]?)/\g2.S=g'.S/\VR (S (p+1)).H g2 w' (x p) v/\(p=pc->Z)) (λ_ _=>False))
  (hpan:∀ (i:Nat) (o:Oper),O[P]? = some i->ops[i]? = some o->∃ (H2:Heap) (y:A),k (.pan y) ⟨[],H2⟩=some r/\∀ (g':Gh) (W:World) (ev:Operand->Value),wz cx (S P) g' w0 o.op ev W->(∀ (G:Nat) (vs:List Value),cx.glob G=some vs->bS (S P).H g' W G 0 vs)->Bs (S P).H g' W ->
   Jk F n cx.P o ev W (λ_ _=>False) (λch w'=>∃ c g2,ch=[{ v:=c,recovered:=false }]/\Rel H2 g2 w0 w'/\Ext (S P).H g' W H2 g2 w'/\(S P).H.length<=H2.length/\(∀ b,b<lo->b<(S P).H.length->H2[b]? = (S P).H[b]?)/\g2.S=g'.S/\VR H2 g2 w' y c))
  (hend:P=O.length->gZ cx call f lo ops (ops.toList.drop m) (S P) k=some r)
  (hk:∀ s' g' a' w',Good cx N mb lo H0 gs ws w0 s' g' a' w'->k .normal s'=some r->Q .normal a' w')
  (hp:∀ x s' g' a' w' c,Good cx N mb lo H0 gs ws w0 s' g' a' w'->VR s'.H g' w' x c->k (.pan x) s'=some r->Q (.panic [{ v:=c,recovered:=false }]) a' w'):LW F n cx.P ops Q a w:=by
 have hr:=hg.sr.rel;have hm2:m<=ops.size:=by
  simp only[gE,Z9,qag] at chkt;exact chkt.1.1
 have hdst:∀ {i o},ops[i]? = some o->cQ ops i=o.dst:=λ{i o} ho=>by unfold cQ; rw[ho]; rfl
 have hop:∀ {p i:Nat},O[p]? = some i->∃ o,ops[i]? = some o:=λ{p i} h=>⟨_,qbb (qaz (hOs _ _ h) hm2)⟩
 have hdlt:∀ {i t},cQ ops i=some t->∃ o,ops[i]? = some o/\o.dst=some t:=λ{i t} h=>by
  unfold cQ at h;cases ho:ops[i]? with
  | none=>rw[ho] at h; cases h
  | some o=>rw[ho] at h; exact⟨o,rfl,h⟩
 have hat:∀ p:Nat,p<O.length->∃ (i:Nat) (o:Oper),O[p]? = some i/\ops[i]? = some o:=λp h=>by
  have h1:=Z7 h;obtain ⟨o,ho⟩:=hop h1;exact⟨_,o,h1,ho⟩
 have lookA:∀ t q j:Nat,O[q]? = some j->cQ ops j=some t->∀ p,q<p->p<=P->look (S p).fr t=x q:=by
  intro t q j hq hj p;obtain ⟨oj,hoj,hdj⟩:=hdlt hj
  induction p with
  | zero=>intro h; omega
  | succ p ih=>
   intro h1 h2;by_cases e:q=p
   ·subst e; rw[hlk q j oj o3 hq hoj,qaf hdj]
   ·obtain ⟨i,o,hi,ho⟩:=hat p o3;obtain ⟨c4,_⟩:=oh jT ho;rw[hlk p i o o3 hi ho,qah λhdo=>c4 j t (λe2=>e (hnd q p j hq (e2 ▸ hi))) hdo hj];exact ih o3 o3
 have lookB:∀ t p:Nat,p<=P->(∀ q j:Nat,q<p->O[q]? = some j->cQ ops j≠some t)->look (S p).fr t=look s.fr t:=by
  intro t p
  induction p with
  | zero=>intro _ _; rw[h0]
  | succ p ih=>
   intro h1 h2;obtain ⟨i,o,hi,ho⟩:=hat p o3;rw[hlk p i o o3 hi ho,qah λhdo=>h2 p i o3 hi (by rw[hdst ho]; exact hdo)];exact ih o3 λq j hq hj=>h2 q j o3 hj
 have lenM:∀ e,M+e<=P->(pc<M+e->Z)->s.H.length<=(S (M+e)).H.length:=by
  intro e
  induction e with
  | zero=>intro _ _; rw[qbv,hH M (qab _)]; exact qab _
  | succ e ih=>intro h hz; exact qaC (ih o3 (λh=>hz o3)) (hlen (M+e) o3 o3 (λh=>hz o3))
 refine vV (F:=F) ⟨hF.1,hF.2.1⟩ hmx N m hg.siz jT chkt (λD a' W=>∃ (e:Nat) (g':Gh),M+e<=P/\(pc<M+e->Z)/\(∀ q j:Nat,M<=q->O[q]? = some j->(D j↔q<M+e))/\Rel (S (M+e)).H g' w0 W/\Ext s.H g w (S (M+e)).H g' W/\(∀ b,b<lo->b<s.H.length->(S (M+e)).H[b]? = s.H[b]?)/\g'.S=g.S ∧
   (∀ q j t:Nat,O[q]? = some j->cQ ops j=some t->D j->VR (S (M+e)).H g' W (x q) (slot a' t))/\(∀ t,(∀ j,j<m->cQ ops j=some t->¬ D j)->VR (S (M+e)).H g' W (look s.fr t) (slot a' t))) ?_ ?_ ?_
 ·intro D hD;have hb:=Ext.below hr (Below.refl w.heap.size w).drew;refine⟨0,g,hM,λh=>o3,λq j hq _=>⟨λh=>absurd h (hD j),λh=>o3⟩,?_,?_,λb _ _=>?_,rfl,λq j t _ _ h=>absurd h (hD j),λt _=>?_⟩
  ·rw[qbv,hH M (qab _)]; exact hr.kK (Below.refl _ _).drew
  ·rw[qbv,hH M (qab _)]; exact hb
  ·rw[qbv,hH M (qab _)]
  ·rw[qbv,hH M (qab _)]; exact VR.ext hb _ _ (hg.sr.fr t)
 ·rintro D D' i o him ho hDm hDi hbef hcl hD' a' W ⟨e,g',heP,heZ,hDe,hrW,heW,hlow,hgS,hv1,hv2⟩ hsz hdf
  obtain ⟨p,hpi⟩:=hO i him;have hpl:p<O.length:=(qad.1 hpi).1;obtain ⟨c4,c5⟩:=oh jT ho;rw[qaf (by simp[Region.wanted,hgd p i o hpi ho])];have hbs:Bs (S (M+e)).H g' W:=hcall.up _ _ _ _ _ _ hb0 (hg.ext.trans heW);have hgl:∀ (G:Nat) (vs:List Value),cx.glob G=some vs->bS (S (M+e)).H g' W G 0 vs:=λG vs hG=>(hg.sr.gl G vs hG).ext heW;have hlook:p<=P->∀ t∈o.looksAt ops,VR (S (M+e)).H g' W (look (S p).fr t) (a'.tmps.getD t undef):=λhpP t ht=>by
   by_cases hj:∃ j,cQ ops j=some t/\gQ ops i j=true
   ·obtain ⟨j,hjt,hjb⟩:=hj;obtain ⟨oj,hoj,_⟩:=hdlt hjt;obtain ⟨q,hq⟩:=hO j (Nat.lt_trans (pP jT (iu i j hjb)) him);have hqp:=hdep p q i j hpi hq hjb;rw[lookA t q j hq hjt p hqp hpP];exact hv1 q j t hq hjt (hbef j hjb)
   ·have hno:∀ j,cQ ops j=some t->gQ ops i j=false:=λj hjt=>by
     cases hb:gQ ops i j with
     | false=>rfl
     | true=>exact absurd ⟨j,hjt,hb⟩ hj
    rw[lookB t p hpP λq j hq hqj hjt=>by
     rcases c5 j t hjt ht with h | h | h
     ·subst h; have:=hnd p q i hpi hqj; omega
     ·rw[hno j hjt] at h; cases h
     ·have:=hdep q p j i hqj hpi h; omega]
    exact hv2 t λj _ hjt hDj=>by
     rcases c5 j t hjt ht with h | h | h
     ·subst h; exact hDi hDj
     ·rw[hno j hjt] at h; cases h
     ·exact hDi (hcl j i hDj h)
  have hopr:p<=P->wz cx ⟨(S p).fr,(S (M+e)).H⟩ g' w0 o.op a'.eval W:=λhpP=>⟨hrW,λy hy=>qY (λt ht=>by
    refine hlook hpP t ?_;subst ht;unfold Oper.looksAt;exact qa8.2 (.inl (qdv.2 ⟨.tmp t,hy,rfl⟩))) hgl,λ_=>rfl⟩
  have fin:p<P->∀ (e':Nat) (g2:Gh) (W':World) (v:Value),M+e'<=P->(pc<M+e'->Z)->(∀ q j:Nat,M<=q->O[q]? = some j->(D' j↔q<M+e'))->Rel (S (M+e')).H g2 w0 W'->Ext (S (M+e)).H g' W (S (M+e')).H g2 W'->(∀ b,b<lo->b<s.H.length->(S (M+e')).H[b]? = s.H[b]?)->g2.S=g.S->VR (S (M+e')).H g2 W' (x p) v ->
    ∃ (e:Nat) (g':Gh),M+e<=P/\(pc<M+e->Z)/\(∀ q j:Nat,M<=q->O[q]? = some j->(D' j↔q<M+e))/\Rel (S (M+e)).H g' w0 W'/\Ext s.H g w (S (M+e)).H g' W'/\(∀ b,b<lo->b<s.H.length->(S (M+e)).H[b]? = s.H[b]?)/\g'.S=g.S ∧
     (∀ q j t:Nat,O[q]? = some j->cQ ops j=some t->D' j->VR (S (M+e)).H g' W' (x q) (slot (a'.put o.dst v) t))/\(∀ t,(∀ j,j<m->cQ ops j=some t->¬ D' j)->VR (S (M+e)).H g' W' (look s.fr t) (slot (a'.put o.dst v) t)):=by
   intro hpP e' g2 W' v h1 hz' h2 h3 h4 h5 h6 h7;refine⟨e',g2,h1,hz',h2,h3,heW.trans h4,h5,h6,λq j t hq hjt hDj=>?_,λt ht=>?_⟩
   ·rcases (hD' j).1 hDj with rfl | hDj
    ·have hdt:o.dst=some t:=by rw[<-hdst ho]; exact hjt
     rw[hdt,gA (by rw[hsz]; exact hd o (by rw[<-Array.mem_def]; exact qd2 ho) t hdt),hnd q p j hq hpi];exact h7
    ·have hne:j≠i:=λe=>hDi (e ▸ hDj);rw[eD (λhdt=>c4 j t (qbi hne) hdt hjt)];exact VR.ext h4 _ _ (hv1 q j t hq hjt hDj)
   ·rw[eD (λhdt=>ht i him (by rw[hdst ho]; exact hdt) ((hD' i).2 (.inl rfl)))];exact VR.ext h4 _ _ (hv2 t (λj hjm hjt hDj=>ht j hjm hjt ((hD' j).2 (.inr hDj))))
  by_cases hpM:p<M
  ·
   have hun:∀ q j:Nat,M<=q->q<M+e->O[q]? = some j->gW ops i j:=λq j hq1 hq2 hq=>by
    unfold gW;rw[qbh];constructor
    ·cases hb:gQ ops i j with
     | false=>rfl
     | true=>have:=hdep p q i j hpi hq hb; omega
    ·cases hb:gQ ops j i with
     | false=>rfl
     | true=>exact absurd (hcl j i ((hDe q j hq1 hq).2 hq2) hb) hDi
   have hev:=hpure p i o hpM hpi ho e heP heZ hun;refine .inl ((pg hcall horc hev F n g' w0 W a'.eval hF (hopr o3) hgl hbs).mono ?_)
   rintro v w' ⟨k1,k2,k3⟩
   refine fin o3 e g' w' v heP heZ (λq j hq1 hq=>⟨λh=>?_,λh=>(hD' j).2 (.inr ((hDe q j hq1 hq).2 h))⟩) k2 k3 hlow hgS k1;rcases (hD' j).1 h with rfl | h
   ·have:=hnd p q j hpi hq; omega
   ·exact(hDe q j hq1 hq).1 h
  ·
   have hpe:p=M+e:=by
    have h1:¬ p<M+e:=λh=>hDi ((hDe p i o3 hpi).2 h);refine qde (qb1 λh2=>?_) o3;obtain ⟨j,oj,hj,_⟩:=hat (M+e) o3;have:=(hDe (M+e) j o3 hj).1 (hbef j (hE p (M+e) i j o3 h2 hpi hj));omega
   subst hpe;by_cases hpP:M+e<P
   ·refine(heff (M+e) i o o3 hpP hpi ho g' W a'.eval (hopr o3) hgl hbs).elim (λh=>.inl (h.mono ?_)) λ⟨f',args,w',h1,h2⟩=>.inr ⟨f',args,w',h1,h2.mono λe' w'' h=>?_⟩
    ·rintro v w' ⟨g2,k1,k2,k3,k4,k5,k6⟩
     refine fin hpP (e+1) g2 w' v o3 (λ_=>if he0:pc<M+e then heZ he0 else k6 o3) (λq j hq1 hq=>⟨λh=>?_,λh=>?_⟩) k1 k2 (λb hb hb'=>?_) (k4.trans hgS) k5
     ·rcases (hD' j).1 h with rfl | h
      ·have:=hnd (M+e) q j hpi hq; omega
      ·have:=(hDe q j hq1 hq).1 h; omega
     ·refine(hD' j).2 ?_;by_cases hq2:q=M+e
      ·subst hq2; rw[hq] at hpi; exact .inl (by cases hpi; rfl)
      ·exact .inr ((hDe q j hq1 hq).2 o3)
     ·rw[show M+(e+1)=M+e+1 from rfl,k3 b hb (qaz hb' (lenM e heP heZ))]; exact hlow b hb hb'
    ·cases e' with
     | returned v=>
      obtain ⟨g2,k1,k2,k3,k4,k5,k6⟩:=h;refine fin hpP (e+1) g2 w'' v o3 (λ_=>if he0:pc<M+e then heZ he0 else k6 o3) (λq j hq1 hq=>⟨λh=>?_,λh=>?_⟩) k1 k2 (λb hb hb'=>?_) (k4.trans hgS) k5
      ·rcases (hD' j).1 h with rfl | h
       ·have:=hnd (M+e) q j hpi hq; omega
       ·have:=(hDe q j hq1 hq).1 h; omega
      ·refine(hD' j).2 ?_;by_cases hq2:q=M+e
       ·subst hq2; rw[hq] at hpi; exact .inl (by cases hpi; rfl)
       ·exact .inr ((hDe q j hq1 hq).2 o3)
      ·rw[show M+(e+1)=M+e+1 from rfl,k3 b hb (qaz hb' (lenM e heP heZ))]; exact hlow b hb hb'
     | panicked ch=>exact h.elim
     | outgrown=>exact h.elim
   ·obtain rfl:P=M+e:=by omega
    obtain ⟨H2,y,hky,hst⟩:=hpan i o hpi ho;have pan:∀ (ch:List PanicEntry) (w':World),(∃ c g2,ch=[{ v:=c,recovered:=false }]/\Rel H2 g2 w0 w'/\Ext (S (M+e)).H g' W H2 g2 w'/\(S (M+e)).H.length<=H2.length/\(∀ b,b<lo->b<(S (M+e)).H.length->H2[b]? = (S (M+e)).H[b]?)/\g2.S=g'.S/\VR H2 g2 w' y c)->Q (.panic ch) a' w':=by
     rintro ch w' ⟨c,g2,rfl,k1,k2,k3,k4,k5,k6⟩
     have hx:=heW.trans k2;refine hp y ⟨[],H2⟩ g2 a' w' c ⟨⟨k1,λt=>by rw[show look [] t=.any from rfl,VR]; trivial,λG vs hG=>(hg.sr.gl G vs hG).ext hx⟩,hg.ext.trans hx,qaC hg.len (qaC (lenM e heP heZ) k3),λb hb hb'=>?_,hsz,?_,qaC hg.mbw hx.size,k5.trans (hgS.trans hg.st)⟩ k6 hky
     ·have hb2:b<s.H.length:=qaz hb' hg.len;show H2[b]? = _;rw[k4 b hb (qaz hb2 (lenM e heP heZ)),hlow b hb hb2];exact hg.low b hb hb'
     ·rw[hdf]; exact hg.dfr.n7 hx.kept
    refine(hst g' W a'.eval (hopr (qab _)) hgl hbs).elim (λh=>.inl (h.mono λ_ _ h=>h.elim)) λ⟨f',args,w',h1,h2⟩=>.inr ⟨f',args,w',h1,h2.mono λe' w'' h=>?_⟩;cases e' with
    | returned v=>exact h.elim
    | panicked ch=>exact pan ch w'' h
    | outgrown=>exact h.elim
 ·rintro D a' W hall hDm ⟨e,g',heP,heZ,hDe,hrW,heW,hlow,hgS,hv1,hv2⟩ hdf hsz
  have hdone:M+e=O.length:=by
   refine qde o3 (qb1 λhlt=>?_);obtain ⟨j,oj,hj,_⟩:=hat (M+e) hlt;have:=(hDe (M+e) j o3 hj).1 (hall j (hOs _ _ hj));omega
  obtain rfl:P=M+e:=o3;refine g7 (f:=f) (ops:=ops) hcall hb0 horc hF hk hp _ (S (M+e)) g' a' W (λo ho=>hd o (qaL ho)) ⟨⟨hrW,λt=>?_,λG vs hG=>(hg.sr.gl G vs hG).ext heW⟩,hg.ext.trans heW,qaC hg.len (lenM e heP heZ),λb hb hb'=>?_,hsz,by rw[hdf]; exact hg.dfr.n7 heW.kept,qaC hg.mbw heW.size,hgS.trans hg.st⟩ (hend hdone)
  ·by_cases ht:∃ q j:Nat,O[q]? = some j/\cQ ops j=some t
   ·obtain ⟨q,j,hq,hjt⟩:=ht;rw[lookA t q j hq hjt (M+e) (by have:=(qad.1 hq).1; omega) (qab _)];exact hv1 q j t hq hjt (hall j (hOs q j hq))
   ·rw[lookB t (M+e) (qab _) λq j _ hq hjt=>ht ⟨q,j,hq,hjt⟩];exact hv2 t λj hj hjt=>absurd (let ⟨q,hq⟩:=hO j hj; ⟨q,j,hq,hjt⟩) ht
  ·have hb2:b<s.H.length:=qaz hb' hg.len;rw[hlow b hb hb2]; exact hg.low b hb hb'
theorem AR {o:Oper} (h:yV cx o=true):∃ c q,o.op=.call c/\c.callee=.value (.func q)/\dk cx.P q=true/\cx.isOrc q=false/\(cx.cut q≠0∨cx.fre q=true)/\Jv cx o=cx.cut q/\(∀ lo H,I8 cx o lo H=bif cx.fre q then H.length else lo):=by
 unfold yV at h;split at h
 ·rename_i c ho;split at h
  ·rename_i q hq;simp only[Z9,qa3,qbo] at h;refine⟨c,q,ho,hq,h.1.1,h.1.2,h.2.imp (λh e=>by rw[e] at h; cases h) id,by unfold Jv; rw[ho]; simp only[hq],λlo H=>by unfold I8; rw[ho]; simp only[hq]⟩
  ·cases h
 ·cases h
theorem tr:∀ {L ps:List Nat},yw ops ps L=true->(∀ k∈ps,∀ i∈L,gQ ops i k=true)/\L.Pairwise λk i=>gQ ops i k=true
 | [],ps,_=>⟨λ_ _ _ h=>(by cases h),.nil⟩
 | t :: L,ps,h=>by
  unfold yw at h;have h1:ps.all (λp=>gQ ops t p)=true:=by cases hh:ps.all (λp=>gQ ops t p)<;>simp_all
  rw[h1] at h;obtain ⟨h2,h3⟩:=tr (L:=L) (ps:=t :: ps) h;refine⟨λk hk i hi=>?_,.cons (λi hi=>h2 t r8 i hi) h3⟩;rcases qaD.1 hi with rfl | hi
  ·exact qak.1 h1 k hk
  ·exact h2 k (by simp[hk]) i hi
theorem tP (p:Nat->Bool) (n:Nat):((List.range n).filter p).Pairwise (· < ·):=List.Pairwise.filter _ List.pairwise_lt_range
theorem zv {α:Type} {R:α->α->Prop} {L:List α} (h:L.Pairwise R) {p q:Nat} {x y:α} (hp:L[p]? = some x) (hq:L[q]? = some y) (hpq:p<q):R x y:=by
 obtain ⟨h1,rfl⟩:=qad.1 hp;obtain ⟨h2,rfl⟩:=qad.1 hq;exact qdE.1 h p q h1 h2 hpq
theorem re {c m:Nat}:∀ {l:List (Nat×A)},xJ ops c m l=true->∀ p∈l,gQ ops c p.1=false->∀ b,blk? p.2=some b->m<=b
 | [],_,p,hp,_,_,_=>by cases hp
 | q :: l,h,p,hp,hb,b,hbl=>by
  unfold xJ at h;cases hq:gQ ops c q.1 with
  | true=>
   rw[hq] at h;rcases qaD.1 hp with rfl | hp
   ·rw[hq] at hb; cases hb
   ·exact re h p hp hb b hbl
  | false=>
   rw[hq] at h;simp only[Z8] at h;cases hm:jQ m q.2 with
   | false=>rw[hm] at h; cases h
   | true=>
    rw[hm] at h;rcases qaD.1 hp with rfl | hp
    ·unfold jQ at hm;rw[hbl] at hm;exact qax hm
    ·exact re h p hp hb b hbl
theorem Au {call:bB} (hcall:eO cx Bs call) (hb0:Bs H0 gs ws) (horc:lK cx) (hF:iL F) (hmx:cx.P.follows .mixedOrders=true) {c:Nat} {k:E->St->Option R} {r:R} {Q:Exit->Act->World->Prop}
  (hg:Good cx N mb lo H0 gs ws w0 s g a w) (hd:∀ o∈ops.toList,∀ d,o.dst=some d->d<N) (h:DC cx call f lo N ops c s k=some r)
  (hk:∀ s' g' a' w',Good cx N mb lo H0 gs ws w0 s' g' a' w'->k .normal s'=some r->Q .normal a' w')
  (hp:∀ x s' g' a' w' c,Good cx N mb lo H0 gs ws w0 s' g' a' w'->VR s'.H g' w' x c->k (.pan x) s'=some r->Q (.panic [{ v:=c,recovered:=false }]) a' w'):LW F n cx.P ops Q a w:=by
 unfold DC at h;split at h
 ·cases h
 rename_i oc hoc;obtain ⟨m,hm0,h⟩:=bN h;have hmt:gE ops m=true:=by
  unfold td at hm0;exact List.find?_some hm0
 have hm2:m<=ops.size:=by
  simp only[gE,Z9,qag] at hmt;exact hmt.1.1
 obtain ⟨hchk,h⟩:=bJ h;simp only[Mi,Z9] at hchk;obtain ⟨⟨⟨⟨⟨hcg,hcut⟩,jT⟩,hch⟩,hcl⟩,hTm⟩:=hchk;obtain ⟨SL,xL,seen,hS0,h,_,hL⟩:=Ap _ _ _ h;obtain ⟨cc,q,hop,hcal,hcb,hno,hc0,hcm,hloC⟩:=AR hcut
 let L1:=Eh ops c m
 let T:=sG ops c m
 let M:=L1.length
 have hlt:∀ {i j},gQ ops i j=true->j<i:=λ{i j} hb=>pP jT (iu i j hb);have memL:∀ {i},i∈L1↔i<m/\i ∉ T:=λ{i}=>by
  simp only[L1,Eh,qdd,qaR,qak,qa3]
  refine and_congr_right λ_=>⟨λh hi=>?_,λh j hj=>?_⟩
  ·have:=h i hi; simp at this
  ·cases hb:Nat.beq i j with
   | false=>rfl
   | true=>exact absurd (qan hb ▸ hj) h
 have hTm:∀ i∈T,i<m:=λi hi=>qax (qak.1 hTm i hi);have hcl:∀ i∈L1,∀ j∈T,gQ ops i j=false:=λi hi j hj=>by
  have:=qak.1 (qak.1 hcl i hi) j hj;simpa using this
 have hcT:c∈T:=by
  show c∈Qu ops c m++c :: _;simp
 have pwL:L1.Pairwise (· < ·):=tP _ _;have hch2:=(tr hch).2;have pwT:T.Pairwise (· < ·):=hch2.imp λh=>hlt h;obtain ⟨pt,hpt,hpt2⟩:=qa2 hcT;have hptc:T[pt]? = some c:=by rw[Z7 hpt,hpt2]
 let O:=L1++T
 have oL:∀ {p:Nat},p<M->O[p]? = L1[p]?:=λ{p} hp=>qat hp;have oT:∀ {p:Nat},M<=p->O[p]? = T[p - M]?:=λ{p} hp=>qay hp;have hOl:O.length=M+T.length:=qar;have kinds:∀ {p i:Nat},O[p]? = some i->(p<M/\L1[p]? = some i/\i<m/\i ∉ T)∨(M<=p/\T[p - M]? = some i/\i∈T):=λ{p i} hp=>by
  rcases qdj p M with h1 | h1
  ·rw[oL h1] at hp;exact .inl ⟨h1,hp,memL.1 (qaI hp)⟩
  ·rw[oT h1] at hp;exact .inr ⟨h1,hp,qaI hp⟩
 have hO:∀ i:Nat,i<m->∃ p:Nat,O[p]? = some i:=λi hi=>by
  have:i∈O:=by
   show i∈L1++T;rw[qa8];by_cases e:i∈T
   ·exact .inr e
   ·exact .inl (memL.2 ⟨hi,e⟩)
  obtain ⟨p,hp,he⟩:=qa2 this;exact⟨p,by rw[Z7 hp,he]⟩
 have hOs:∀ p i:Nat,O[p]? = some i->i<m:=λp i hp=>by
  rcases kinds hp with ⟨_,_,h,_⟩ | ⟨_,_,h⟩
  ·exact h
  ·exact hTm i h
 have pos:∀ {L:List Nat} {p q i j:Nat},L.Pairwise (· < ·)->L[p]? = some i->L[q]? = some j->j<i->q<p:=λ{L p q i j} pw hp hq hji=>by
  refine qbs λhle=>?_;rcases Nat.lt_or_eq_of_le hle with h | h
  ·have:=zv pw hp hq h; omega
  ·subst h; rw[hp] at hq; cases hq; omega
 have inj:∀ {L:List Nat} {p q i:Nat},L.Pairwise (· < ·)->L[p]? = some i->L[q]? = some i->p=q:=λ{L p q i} pw hp hq=>by
  rcases Nat.lt_trichotomy p q with h | h | h
  ·have:=zv pw hp hq h; omega
  ·exact h
  ·have:=zv pw hq hp h; omega
 have hnd:∀ p q i:Nat,O[p]? = some i->O[q]? = some i->p=q:=λp q i hp hq=>by
  rcases kinds hp with ⟨a1,a2,_,a3⟩ | ⟨a1,a2,a3⟩<;>rcases kinds hq with ⟨b1,b2,_,b3⟩ | ⟨b1,b2,b3⟩
  ·exact inj pwL a2 b2
  ·exact absurd b3 a3
  ·exact absurd a3 b3
  ·have:=inj pwT a2 b2; omega
 have hdep:∀ p q i j:Nat,O[p]? = some i->O[q]? = some j->gQ ops i j=true->q<p:=λp q i j hp hq hb=>by
  have hji:=hlt hb;rcases kinds hp with ⟨a1,a2,_,a3⟩ | ⟨a1,a2,a3⟩<;>rcases kinds hq with ⟨b1,b2,_,b3⟩ | ⟨b1,b2,b3⟩
  ·exact pos pwL a2 b2 hji
  ·rw[hcl i (qaI a2) j b3] at hb; cases hb
  ·omega
  ·have:=pos pwT a2 b2 hji; omega
 have hE:∀ p q i j:Nat,M<=q->q<p->O[p]? = some i->O[q]? = some j->gQ ops i j=true:=λp q i j hq0 hqp hp hq=>by
  rw[oT o3] at hp; rw[oT hq0] at hq;exact zv hch2 hq hp o3
 have gL:∀ {p i:Nat} {o:Oper},L1[p]? = some i->ops[i]? = some o->o.guard=none/\(cp o=0∨(cp o=1/\(i,addrOf cx (SL p) o.op)∈seen)∨(cp o=2/\rM (partsOf cx (SL p) o.op)=true))/\jm cx call f o (SL p)=some (xL p)/\SL (p+1)=(SL p).put o.dst (xL p):=λ{p i o} hp ho=>by
  obtain ⟨o',e1,e2⟩:=hL p i hp;rw[ho] at e1; cases e1;exact e2
 have hSH:∀ p,p<=M->(SL p).H=s.H:=λp=>by
  induction p with
  | zero=>intro _; rw[hS0]
  | succ p ih=>
   intro hp;obtain ⟨i,hi⟩:∃ i,L1[p]? = some i:=⟨_,Z7 (by show p<M; omega)⟩
   obtain ⟨o,ho⟩:∃ o,ops[i]? = some o:=⟨_,qbb (qaz (memL.1 (qaI hi)).1 hm2)⟩
   rw[(gL hi ho).2.2.2,iU]; exact ih o3
 obtain ⟨ST,xT,PT,hT0,hPT,hT,hTe⟩:=Av (q:=q) (λo ho s lo' k kp=>by
  rw[hoc] at ho; cases ho;have hfv:kH cx s oc.op=.fn (.func q) [] []:=by unfold kH; rw[hop]; simp only[hcal]; rfl
  rw[hfv];simp only[ez,hcb,hno,qaa,Z8,qbd,qaW]) _ _ h
 have hPT:PT<=T.length:=hPT;have hT:∀ p i,p<PT->T[p]? = some i->w8 cx call f lo ops c q seen i (ST p) (xT p) (ST (p+1)):=hT;have hT0:ST 0=SL M:=hT0
 let S:Nat->St:=λp=>if p<=M then SL p else ST (p - M)
 let x:Nat->A:=λp=>if p<M then xL p else xT (p - M)
 let pc:=M+pt
 have sL:∀ {p},p<=M->S p=SL p:=λ{p} hp=>qaf hp;have sT:∀ {p},M<=p->S p=ST (p - M):=λ{p} hp=>by
  by_cases h:p<=M
  ·obtain rfl:p=M:=by omega
   rw[sL (qab _),qc4,hT0]
  ·exact qah h
 have xL':∀ {p},p<M->x p=xL p:=λ{p} hp=>qaf hp;have xT':∀ {p},M<=p->x p=xT (p - M):=λ{p} hp=>qah o3;have tT:∀ {p i:Nat},M<=p->p<M+PT->O[p]? = some i->w8 cx call f lo ops c q seen i (S p) (x p) (S (p+1)):=λ{p i} hp hp2 h1=>by
  rw[oT hp] at h1;have:=hT _ i o3 h1;rw[sT hp,xT' hp,sT (show M<=p+1 by omega),show p+1 - M=p - M+1 by omega];exact this
 have oC:∀ {p:Nat},O[p]? = some c->p=pc:=λ{p} hp=>hnd p pc c hp (by rw[oT (qb2 _ _),show M+pt - M=pt by omega]; exact hptc);have oC':O[pc]? = some c:=by rw[oT (qb2 _ _),show M+pt - M=pt by omega]; exact hptc
 let Z:Prop:=(S pc).H.length<=(S (pc+1)).H.length/\∀ b,b<(S pc).H.length->cx.cut q<=b->(S (pc+1)).H[b]? = (S pc).H[b]?
 have stepB:∀ {p i:Nat},M<=p->p<M+PT->(pc<=p->Z)->O[p]? = some i->(S p).H.length<=(S (p+1)).H.length/\∀ b,b<(S p).H.length->(∀ j a,(j,a)∈seen->blk? a=some b->gW ops j i->False)∨(S (p+1)).H[b]? = (S p).H[b]?:=λ{p i} hp hp2 hz h1=>by
  obtain ⟨o,H',ho,hs',⟨hic,_,e1,e2⟩ | ⟨rfl,hsn,e2⟩⟩:=tT hp hp2 h1
  ·rw[hs',iU];rcases e1 with ⟨e1,e4⟩ | e1
   ·obtain ⟨t1,t2⟩:=sH e1 e2;refine⟨t1,λb hb=>?_⟩;by_cases hc:∀ c,blk? (dR cx (S p) o.op)=some c->b≠c
    ·exact .inr (t2 b hb hc)
    ·refine .inl λj y hj hy hun=>hc λc hcc e5=>?_;subst e5;have:=jI e4 (j,y) hj (by unfold gW at hun ⊢; rw[Bool.or_comm]; exact hun);unfold apart at this;simp only[hy,hcc,qc2] at this;cases this
   ·obtain ⟨y,hy⟩:=uX e2 e1;cases hy;exact⟨qab _,λb _=>.inr rfl⟩
  ·obtain rfl:=oC h1;have hz:=hz (qab _);refine⟨hz.1,λb hbl=>?_⟩;by_cases hb:cx.cut q<=b
   ·exact .inr (hz.2 b hbl hb)
   ·rw[hoc] at ho; cases ho;rw[hcm] at hsn;refine .inl λj y hj hy hun=>hb (re hsn (j,y) hj ?_ b hy);unfold gW at hun;rw[qbh] at hun;exact hun.2
 have atO:∀ p,p<O.length->∃ i,O[p]? = some i:=λp hp=>⟨_,Z7 hp⟩
 have lenE:∀ e,M+e<=M+PT->(pc<M+e->Z)->s.H.length<=(S (M+e)).H.length:=by
  intro e
  induction e with
  | zero=>intro _ _; rw[qbv,sL (qab _),hSH M (qab _)]; exact qab _
  | succ e ih=>
   intro he hz;obtain ⟨i,hi⟩:=atO (M+e) o3;exact qaC (ih o3 λh=>hz o3) (stepB o3 o3 (λh=>hz o3) hi).1
 have post:∀ (st:St) (out:Out) (H2:Heap),call q (fS cx st oc.op) st.H (I8 cx oc lo st.H)=some (out,H2)->∀ (g':Gh) (W:World) (ev:Operand->Value),wz cx st g' w0 oc.op ev W->(∀ (G:Nat) (vs:List Value),cx.glob G=some vs->bS st.H g' W G 0 vs)->Bs st.H g' W->∃ args w',(execOp ev oc).run cx.P W=.ok (.enter q args) w'/\CallsIn F (n - 1) cx.P q args w' (iJ st.H g' w0 W (I8 cx oc lo st.H) (out,H2)):=λst out H2 hcl2 g' W ev ho hgl hbs=>by
  have hce:callee? cx st oc.op=some (q,fS cx st oc.op):=by
   unfold callee? fS;rw[hop];simp only[hcal,cM,hcb,qaa,qbd,qaW]
  obtain ⟨_,cargs,hrun,hv⟩:=mo ho hce;have hci:CallsIn F.plain (n - 1) cx.P q cargs.toArray W _:=hcall.fn q _ st.H (I8 cx oc lo st.H) (out,H2) (kz hcb) hcl2 F.plain (n - 1) g' w0 W cargs hF rfl hbs ho.rel hgl hv;exact⟨_,_,hrun,hci⟩
 have hlo':∀ (st:St) b,b<lo->b<st.H.length->b<I8 cx oc lo st.H:=λst b h1 h2=>by
  rw[hloC];cases cx.fre q with
  | true=>exact h2
  | false=>exact h1
 have hgL:∀ {p i:Nat} {o:Oper},p<M->O[p]? = some i->ops[i]? = some o->L1[p]? = some i:=λ{p i o} hp h1 _=>by rw[<-oL hp]; exact h1
 have hgd:∀ (p i:Nat) (o:Oper),O[p]? = some i->ops[i]? = some o->o.guard=none:=λp i o hpi ho=>nB (qak.1 hcg o (qaI (i:=i) (by rw[qaA,qaf (hOs p i hpi),qaZ]; exact ho)));refine CG (f:=f) hcall hb0 horc hF hmx jT hmt hg hd O M (M+PT) pc S x (qb2 _ _) (qb2 _ _) o3 hO hOs hnd hdep hE (by rw[sL (qav _),hS0]) (λp hp=>by rw[sL hp]; exact hSH p hp) hgd (λp i o hp h1 ho t=>?_) Z (λp h1 h2 hz=>?_) (λp i o hp h1 ho e he hze hun=>?_) (λp i o h1 h2 hpi ho g' W ev hopr hgl hbs=>?_) (λi o hi ho=>?_) (λhPe=>?_) hk hp
 ·rcases qdj p M with h2 | h2
  ·rw[sL o3,sL o3,xL' h2,(gL (hgL h2 h1 ho) ho).2.2.2,iy]
  ·obtain ⟨o',H',ho',hs',_⟩:=tT h2 hp h1;rw[ho] at ho'; cases ho';rw[hs',iy]
 ·obtain ⟨i,hi⟩:=atO p o3;exact(stepB h1 h2 hz hi).1
 ·obtain ⟨_,e1,e2,_⟩:=gL (hgL hp h1 ho) ho;rw[sL o3,xL' hp];have hsi:(⟨(SL p).fr,(SL p).H⟩:St)=SL p:=rfl;rcases e1 with e1 | ⟨e1,e3⟩ | ⟨e1,e3⟩
  ·rw[va e1 (H':=(SL p).H)]; exact e2
  ·rw[<-yJ e1 (H:=(SL p).H) (λb hb=>?_)]
   ·exact e2
   ·obtain ⟨B,hB⟩:=xl (s:=SL p) e1 e2 hb;rw[hSH p o3] at hB ⊢;have hbl:=(qad.1 hB).1;clear hsi
    induction e with
    | zero=>rw[qbv,sL (qab _),hSH M (qab _)]
    | succ e ih=>
     obtain ⟨j,hj⟩:=atO (M+e) o3;rcases (stepB o3 o3 (λh=>hze o3) hj).2 b (qaz hbl (lenE e o3 (λh=>hze o3))) with h4 | h4
     ·exact(h4 i _ e3 hb (hun (M+e) j o3 o3 hj)).elim
     ·rw[show M+(e+1)=M+e+1 from rfl,h4];exact ih o3 (λh=>hze o3) λq' j' h5 h6 h7=>hun q' j' h5 o3 h7
  ·rw[<-Aw e1 e3]; exact e2
 ·obtain ⟨o',H',ho',hs',⟨hic,_,e1,e2⟩ | ⟨hic,hsn,e2⟩⟩:=tT h1 h2 hpi
  ·rw[ho] at ho'; cases ho';obtain ⟨c',w',x',H3,g2,k1,k2,k3,k4,k5,k6,k7,k8⟩:=my hopr e2;cases k2;refine .inl (ma k1 ⟨g2,?_,?_,?_,k8,?_,λe=>(hic (by rw[e,oC'] at hpi; cases hpi; rfl)).elim⟩)
   ·rw[hs',iU]; exact k3
   ·rw[hs',iU]; exact k4
   ·rw[hs',iU]; exact λb hb hb'=>by first | exact k7 b hb hb' | exact k6 b hb hb'
   ·rw[hs',iU]; first | exact k5 | exact k6
  ·subst hic;rw[ho] at ho'; cases ho';rw[hoc] at ho; cases ho;obtain rfl:=oC hpi;obtain ⟨args,w',e1,e3⟩:=post (S pc) _ H' e2 g' W ev hopr hgl hbs;refine .inr ⟨q,args,w',e1,e3.mono ?_⟩
   rintro e w'' ⟨g2,k1,k2,k3,k4,k6,k5⟩
   rw[hs',iU];cases e with
   | returned c'=>
    refine⟨g2,k1,k2,λb hb hb'=>k4 b (hlo' _ b hb hb') hb',k6,k5,λ_=>⟨by rw[hs',iU]; exact k3,λb hb hcb'=>?_⟩⟩;rw[hs',iU];cases hfr:cx.fre q with
    | true=>
     refine k4 b ?_ hb;rw[hloC,hfr];exact hb
    | false=>exact(hcall.ct q _ _ _ _ (kz hcb) (hc0.resolve_right (by rw[hfr]; simp)) o3 e2).2 b hcb'
   | panicked _=>exact k5.elim
   | outgrown=>exact k5.elim
 ·rcases hTe with ⟨hTe,_⟩ | ⟨o',y,H2,e0,e1,e2,e3⟩
  ·rw[oT (qb2 _ _),show M+PT - M=PT by omega,hTe,qa4 (qab _)] at hi;cases hi
  ·rw[oT (qb2 _ _),show M+PT - M=PT by omega,e0] at hi;cases hi;rw[hoc] at ho e1; cases ho; cases e1;refine⟨H2,y,e3,λg' W ev hopr hgl hbs=>?_⟩;rw[sT (qb2 _ _),show M+PT - M=PT by omega] at hopr hgl hbs ⊢;obtain ⟨args,w',e1,e4⟩:=post (ST PT) _ H2 e2 g' W ev hopr hgl hbs;refine .inr ⟨q,args,w',e1,e4.mono ?_⟩
   rintro e w'' ⟨g2,k1,k2,k3,k4,k6,k5⟩
   cases e with
   | returned _=>exact k5.elim
   | panicked ch=>
    obtain ⟨c',rfl,hv⟩:=k5;exact⟨c',g2,rfl,k1,k2,k3,λb hb hb'=>k4 b (hlo' _ b hb hb') hb',k6,hv⟩
   | outgrown=>exact k5.elim
 ·rcases hTe with ⟨hTe,hkT⟩ | ⟨o',y,H2,e0,_⟩
  ·rw[sT (qb2 _ _),show M+PT - M=PT by omega];exact jV _ _ _ hkT
  ·have hl:PT=T.length:=by omega
   have e0':T[PT]? = some c:=e0;rw[hl,qa4 (qab _)] at e0';cases e0'
end
section
open Go.RowKit
variable {H H':Heap} {g g':Gh} {w0 w w':World} {cx:Cx} {s:St} {a:Act} {N lo:Nat} {mb:Mb} {H0:Heap} {gs:Gh} {ws:World}
theorem Rel.rng (hr:Rel H g w0 w) {b l:Nat} {st:ku} {r0:Loop} (hB:H[b]? = some (.rng st)) (B':aA) (ko:Option Nat) (o':Obj) (hk:g.mu b=some l) (hw:w.heap[l]? = some (.loop r0))
  (hcase:(∃ st',B'=.rng st'/\ko=some l/\o'=.loop (kN (g.lr b) st'))∨(B'=.dead/\ko=none)) :
  Rel (H.set b B') (g.put b ko (g.ga b)) w0 (w.putObj l o')/\Ext H g w (H.set b B') (g.put b ko (g.ga b)) (w.putObj l o'):=by
 have hlt:b<H.length:=(qad.1 hB).1;have hll:l<w.heap.size:=(hr.dom b l hk).2.2;have hoth:∀ j,j≠l->(w.putObj l o').heap[j]? = w.heap[j]?:=λj hj=>qbI hj;have hsz:(w.putObj l o').heap.size=w.heap.size:=r8;have hkol:∀ k,ko=some k->k=l:=λk hk'=>by
  rcases hcase with ⟨_,_,h,_⟩ | ⟨_,h⟩<;>rw[h] at hk'<;>cases hk'; rfl
 have he:Ext H g w (H.set b B') (g.put b ko (g.ga b)) (w.putObj l o'):=by
  refine⟨λk o v hs hc=>?_,λc C hC=>?_,λk x h=>(hoth k (λe=>by subst e; rw[hw] at h; cases h)).trans h,by rw[hsz]; exact qab _,λk marr cl hs hm=>?_,λk _ hn=>hoth k (λe=>hn b (e ▸ hk)),λc k h=>?_⟩
  rotate_right 1
  ·by_cases e:c=b
   ·subst e; rw[Gh.bQ] at h; exact .inl ⟨c,(hkol k h) ▸ hk⟩
   ·exact .inl ⟨c,by rwa [Gh.aL _ _ _ e] at h⟩
  ·have hne:k≠l:=λe=>by
    subst e;obtain ⟨o1,ho,hc1⟩:=cells_of_cell hc;rw[hw] at ho; cases ho; cases hc1
   refine⟨(qca (a:=⟨k,o,none⟩) (hoth k hne)).trans hc,hs.1,λc hck=>?_⟩;by_cases e:c=b
   ·subst e; rw[Gh.bQ] at hck; exact absurd (hkol k hck) hne
   ·rw[Gh.aL _ _ _ e] at hck;obtain ⟨es,els,h1,h2⟩:=hs.2 c hck;exact⟨es,els,by rw[qao (qbi e)]; exact h1,h2⟩
  ·by_cases e:c=b
   ·subst e;rw[hB] at hC; cases hC;refine⟨B',by rw[qaE hlt],?_⟩;rcases hcase with ⟨st',rfl,rfl,_⟩ | ⟨rfl,_⟩
    ·exact⟨by rw[Gh.bQ,hk],rfl⟩
    ·trivial
   ·refine⟨C,by rw[qao (qbi e)]; exact hC,?_⟩;have hne:∀ k,g.mu c=some k->k≠l:=λk hk' e2=>e (hr.inj c b k hk' (e2 ▸ hk));cases C with
    | box _=>exact Gh.aL _ _ _ e
    | row wr es' els'=>cases wr with
     | true=>exact⟨rfl,rfl,Gh.aL _ _ _ e,λk arr ty hk' ha=>⟨arr,(hoth k (hne k hk')).trans ha,qab _⟩⟩
     | false=>exact⟨rfl,⟨[],by rw[Gh.fm _ _ _ e]; simp⟩,(hr.blk c _ hC).len,qab _,λ_=>⟨Gh.aL _ _ _ e,λk arr ty hk' ha=>⟨arr,(hoth k (hne k hk')).trans ha,qab _⟩⟩⟩
    | rng _=>exact⟨Gh.aL _ _ _ e,rfl⟩
    | mp _ _ _=>exact Gh.aL _ _ _ e
    | dead=>trivial
    | hole=>trivial
  ·have hne:k≠l:=λe=>by subst e; rw[hw] at hm; cases hm
   refine⟨(hoth k hne).trans hm,hs.1,λc hck=>?_⟩;by_cases e:c=b
   ·subst e; rw[Gh.bQ] at hck; exact absurd (hkol k hck) hne
   ·rw[Gh.aL _ _ _ e] at hck;obtain ⟨es,els,h1,h2⟩:=hs.2 c hck;exact⟨es,els,by rw[qao (qbi e)]; exact h1,h2⟩
 refine⟨⟨hr.below.trans ((Below.refl w0.heap.size w).grown (qdQ w l _) (hr.below.size) (λk e=>by cases e; exact(hr.dom b l hk).2.1)),λc k hck=>?_,λc d k h1 h2=>?_,hr.A5 he,hr.zo he,λc C hC=>?_⟩,he⟩
 ·by_cases e:c=b
  ·subst e;rw[Gh.bQ] at hck;rw[hkol k hck];exact⟨by simpa using hlt,(hr.dom c l hk).2.1,by rw[hsz]; exact hll⟩
  ·rw[Gh.aL _ _ _ e] at hck;have:=hr.dom c k hck;exact⟨by simpa using this.1,this.2.1,by rw[hsz]; exact this.2.2⟩
 ·by_cases e:c=b
  ·by_cases e':d=b
   ·rw[e,e']
   ·subst e;rw[Gh.bQ] at h1;rw[Gh.aL _ _ _ e'] at h2;rw[hkol k h1] at h2;exact hr.inj _ _ l hk h2
  ·by_cases e':d=b
   ·subst e';rw[Gh.bQ] at h2;rw[Gh.aL _ _ _ e] at h1;rw[hkol k h2] at h1;exact hr.inj _ _ l h1 hk
   ·rw[Gh.aL _ _ _ e] at h1;rw[Gh.aL _ _ _ e'] at h2;exact hr.inj c d k h1 h2
 ·by_cases e:c=b
  ·subst e;rw[qaE hlt] at hC; cases hC;rcases hcase with ⟨st',rfl,rfl,rfl⟩ | ⟨rfl,rfl⟩
   ·exact⟨l,Gh.bQ _ _ _ _,qc8 hll⟩
   ·exact Gh.bQ _ _ _ _
  ·rw[qao (qbi e)] at hC;have h:=hr.blk c C hC;have hne:∀ k,g.mu c=some k->k≠l:=λk hk' e2=>e (hr.inj c b k hk' (e2 ▸ hk));cases C with
   | box cs=>obtain ⟨k,arr,ty,h1,h2,h3⟩:=h; exact⟨k,arr,ty,(Gh.aL _ _ _ e).trans h1,(hoth k (hne k h1)).trans h2,bL.ext he _ _ h3⟩
   | row wr es' els'=>cases wr with
    | true=>
     obtain ⟨ds,h1,h2,h3⟩:=h;exact⟨ds,bK.ext he _ _ h1,h2,λhp=>let ⟨k,arr,ty,e1,e2,e3⟩:=h3 hp; ⟨k,arr,ty,(Gh.aL _ _ _ e).trans e1,(hoth k (hne k e1)).trans e2,e3⟩⟩
    | false=>
     obtain ⟨h1,h2⟩:=h;refine⟨?_,?_⟩
     ·rw[Gh.fm _ _ _ e]; exact bK.ext he _ _ h1
     ·rw[Gh.fm _ _ _ e]; exact h2
   | rng st=>obtain ⟨k,h1,h2⟩:=h; exact⟨k,(Gh.aL _ _ _ e).trans h1,(hoth k (hne k h1)).trans h2⟩
   | mp _ _ _=>obtain ⟨k,arr,cl,h1,h2,h3,h4⟩:=h; exact⟨k,arr,cl,(Gh.aL _ _ _ e).trans h1,(hoth k (hne k h1)).trans h2,h3,bL.ext he _ _ h4⟩
   | dead=>exact(Gh.aL _ _ _ e).trans h
   | hole=>exact(Gh.aL _ _ _ e).trans h
def Gh.DV (g:Gh) (b:Nat) (r:Loop):Gh:={ g with lr:=λc=>if c=b then r else g.lr c }
theorem Rel.DV (hr:Rel H g w0 w) (r:Loop):Rel H (g.DV H.length r) w0 w/\Ext H g w H (g.DV H.length r) w:=by
 have hlr:∀ {c:Nat} {B:aA},H[c]? = some B->(g.DV H.length r).lr c=g.lr c:=λ{c B} h=>by
  have:=(qad.1 h).1;simp only[Gh.DV]; rw[qah o3]
 have he:Ext H g w H (g.DV H.length r) w:=by
  refine⟨λk o v hs hc=>⟨hc,hs⟩,λb B hB=>⟨B,hB,?_⟩,λ_ _ h=>h,qab _,λk arr cl hs hm=>⟨hm,hs⟩,λ_ _ _=>rfl,λb k h=>.inl ⟨b,h⟩⟩;cases B with
  | box _=>rfl
  | row wr es els=>cases wr with
   | true=>exact⟨rfl,rfl,rfl,λk arr ty _ ha=>⟨arr,ha,qab _⟩⟩
   | false=>exact⟨rfl,⟨[],by simp[Gh.DV]⟩,(hr.blk b _ hB).len,qab _,λ_=>⟨rfl,λk arr ty _ ha=>⟨arr,ha,qab _⟩⟩⟩
  | rng _=>exact⟨rfl,hlr hB⟩
  | mp _ _ _=>rfl
  | dead=>trivial
  | hole=>trivial
 refine⟨⟨hr.below,hr.dom,hr.inj,hr.out,hr.own,λb B hB=>?_⟩,he⟩;have h:=hr.blk b B hB;cases B with
 | box cs=>obtain ⟨k,arr,ty,h1,h2,h3⟩:=h; exact⟨k,arr,ty,h1,h2,bL.ext he _ _ h3⟩
 | row wr es els=>cases wr with
  | true=>obtain ⟨ds,h1,h2,h3⟩:=h; exact⟨ds,bK.ext he _ _ h1,h2,h3⟩
  | false=>exact⟨bK.ext he _ _ h.1,h.2⟩
 | rng st=>obtain ⟨k,h1,h2⟩:=h; exact⟨k,h1,by rw[hlr hB]; exact h2⟩
 | mp _ _ _=>obtain ⟨k,arr,cl,h1,h2,h3,h4⟩:=h; exact⟨k,arr,cl,h1,h2,h3,bL.ext he _ _ h4⟩
 | dead=>exact h
 | hole=>exact h
theorem Rel.begin (hr:Rel H g w0 w) (r:Loop) (hr0:kN r .ready=r) :
  Rel (H++[.rng .ready]) ((g.DV H.length r).put H.length (some (w.heap.size+1)) []) w0 ((w.alloc (.deferred (some []))).alloc (.loop r)) ∧
  Ext H g w (H++[.rng .ready]) ((g.DV H.length r).put H.length (some (w.heap.size+1)) []) ((w.alloc (.deferred (some []))).alloc (.loop r)):=by
 have hb1:Below w.heap.size w (w.alloc (.deferred (some []))):=(Below.refl _ w).alloc (qab _) _;have r1:=hr.kK hb1;have e1:=Ext.below hr hb1;obtain ⟨r2,e2⟩:=r1.DV r;have hs:(w.alloc (.deferred (some []))).heap.size=w.heap.size+1:=r8;have hb2:Below (w.alloc (.deferred (some []))).heap.size (w.alloc (.deferred (some []))) ((w.alloc (.deferred (some []))).alloc (.loop r)):=(Below.refl _ _).alloc (qab _) _;obtain ⟨r3,e3⟩:=r2.push hb2 (.rng .ready) (some (w.heap.size+1)) [] (λk hk=>by cases hk; exact⟨hs.symm,r8⟩) (λ_=>⟨w.heap.size+1,Gh.bQ _ _ _ _,by
  have:=qdg (w.alloc (.deferred (some []))) (.loop r);rw[hs] at this;rw[this];have:((g.DV H.length r).put H.length (some (w.heap.size+1)) []).lr H.length=r:=by simp[Gh.put,Gh.DV]
  rw[this,hr0]⟩)
 exact⟨r3,e1.trans (e2.trans e3)⟩
def ER (s:St) (g:Gh) (w:World):E->Exit->Prop
 | .normal,.normal=>True
 | .exit i,.exit j=>i=j
 | .goto i,.goto j=>i=j
 | .ret,.ret=>True
 | .pan x,.panic ch=>∃ c,ch=[{ v:=c,recovered:=false }]/\VR s.H g w x c
 | _,_=>False
def wX (cx:Cx) (lo N:Nat) (Bs:Heap->Gh->World->Prop) (F1:St->(E->St->Option R)->Option R) (c:Code):Prop:=
 ∀ (F:Fence) (n:Nat) (mb:Mb) (w0:World) (r:R) (H0:Heap) (gs:Gh) (ws:World) (k:E->St->Option R) (Q:Exit->Act->World->Prop) (s:St) (g:Gh) (a:Act) (w:World),iL F->Bs H0 gs ws->Good cx N mb lo H0 gs ws w0 s g a w->F1 s k=some r ->
  (∀ e e' s' g' a' w',Good cx N mb lo H0 gs ws w0 s' g' a' w'->ER s' g' w' e e'->k e s'=some r->Q e' a' w')->c.wpIn F n cx.P Q a w
theorem uG {N:Nat}:∀ {ps:List Nat},Aa N ps=true->∀ p∈ps,p<N
 | [],_,p,hp=>by cases hp
 | q :: ps,h,p,hp=>by
  unfold Aa at h;obtain ⟨h1,h2⟩:=GN h;rcases qaD.1 hp with rfl | hp
  ·simpa [Nat.blt_eq] using h1
  ·exact uG h2 p hp
theorem Ec:∀ (ps:List Nat) (as:List A) (cs:List Value) (fr:List (Nat×A)) (ts:Array Value),(∀ t,VR H g w (look fr t) (ts.getD t undef))->bL H g w as cs->as.length=ps.length->(∀ p∈ps,p<ts.size) ->
  (∀ t,VR H g w (look (Eb ps as fr) t) (((ps.zip cs).foldl (λts p=>ts.setIfInBounds p.1 p.2) ts).getD t undef))/\((ps.zip cs).foldl (λts p=>ts.setIfInBounds p.1 p.2) ts).size=ts.size
 | [],as,cs,fr,ts,h,_,hl,_=>by
  have:as=[]:=qaw hl;subst this;exact⟨h,rfl⟩
 | p :: ps,[],cs,fr,ts,h,_,hl,_=>by cases hl
 | p :: ps,x :: as,cs,fr,ts,h,hv,hl,hlt=>by
  rw[bL] at hv;obtain ⟨d,ds,rfl,h1,h2⟩:=hv;have hp:=hlt p r8;have:=Ec ps as ds ((p,x) :: fr) (ts.setIfInBounds p d) (λt=>by
   rw[fI];by_cases e:p=t
   ·subst e;rw[qaf rfl,qbf,qcW hp];exact h1
   ·rw[qah e,qbf,qb8 e,<-qbf];exact h t) h2 (by simpa using hl) (λq hq=>by simpa using hlt q (by simp[hq]))
  exact⟨this.1,by simpa using this.2⟩
theorem Be {β:Type} {H:Heap} {b:Nat} {x:Option β} {r:β} (h:Mg H b x=some r):H[b]? = some (.rng .ready)/\x=some r:=by
 unfold Mg at h;split at h
 ·rename_i e; exact⟨e,h⟩
 ·cases h
theorem ry {β:Type} {H:Heap} {b:Nat} {x:Option β} {r:β} (h:I7 H b x=some r):H[b]? = some (.rng .busy)/\x=some r:=by
 unfold I7 at h;split at h
 ·rename_i e; exact⟨e,h⟩
 ·cases h
theorem Ext.ND (he:Ext H g w H' g' w') {b:Nat} {st st':ku} (h:H[b]? = some (.rng st)) (h':H'[b]? = some (.rng st')):g'.mu b=g.mu b/\g'.lr b=g.lr b:=by
 obtain ⟨B',hB',ht⟩:=he.blk b _ h;rw[h'] at hB';cases hB';exact ht
theorem Bh {Bs:Heap->Gh->World->Prop} {F1 F2:St->(E->St->Option R)->Option R} {ps:Array Nat} {asg body:Code} (h1:wX cx lo N Bs F1 asg) (h2:wX cx lo N Bs F2 body) {b lo' l:Nat} {fr:List (Nat×A)} {args:List A} {cargs:List Value} {r:R} {rec0:Loop}
  (hps:Aa N ps.toList=true) (hlob:lo<=b) (e1:rec0.params=ps) (e2:rec0.assign=asg) (e3:rec0.body=body) (hsz:rec0.tmps.size=N)
  (h:roundOf F1 F2 lo b ps.toList fr args H lo'=some r) {F:Fence} {n:Nat} (hF:iL F) (hr:Rel H g w0 w) (hbs:Bs H g w) (hgl:∀ (G:Nat) (vs:List Value),cx.glob G=some vs->bS H g w G 0 vs)
  (hfr:∀ t,VR H g w (look fr t) (rec0.tmps.getD t undef)) (hlr:g.lr b=rec0) (hv:bL H g w args cargs) (hmu:g.mu b=some l):YieldAt F n cx.P l cargs.toArray w (iJ H g w0 w lo' r):=by
 unfold roundOf at h;obtain ⟨hc,h⟩:=bJ h;rw[Z9] at hc;have hlo:lo'<=lo:=by simpa [qcQ] using hc.2
 have hlen:args.length=ps.toList.length:=by simpa using hc.1
 obtain ⟨hB,h⟩:=Be h;have hrecAt:∀ {H2:Heap} {g2:Gh} {w2:World} {st:ku},Rel H2 g2 w0 w2->Ext H g w H2 g2 w2->H2[b]? = some (.rng st)->g2.mu b=some l/\g2.lr b=rec0/\w2.heap[l]? = some (.loop (kN rec0 st)):=λ{H2 g2 w2 st} hr2 he2 hB2=>by
  obtain ⟨m1,m2⟩:=he2.ND hB hB2;obtain ⟨k,k1,k2⟩:=hr2.blk b _ hB2;rw[m1,hmu] at k1; cases k1;rw[m2,hlr] at k2;exact⟨m1.trans hmu,m2.trans hlr,k2⟩
 obtain ⟨_,_,hw⟩:=hrecAt hr (Ext.refl hr) hB;have hcl:=hv.length;have hy:=run_yield (P:=cx.P) (args:=cargs.toArray) hw (by show cargs.toArray.size=rec0.params.size; rw[e1]; simp at hlen ⊢; omega);refine⟨_,_,_,_,hy,roundIn_of_wpIn (hF.2.1 _) ?_⟩;show rec0.assign.wpIn _ _ _ _ _ _;rw[e2];have hfold:(((kN rec0 .ready).params.zip cargs.toArray).foldl (λtmps (t,a)=>tmps.setIfInBounds t a) (kN rec0 .ready).tmps)=(ps.toList.zip cargs).foldl (λts p=>ts.setIfInBounds p.1 p.2) rec0.tmps:=by
  show ((rec0.params.zip cargs.toArray).foldl _ rec0.tmps)=_;rw[e1,<-qcD,Array.toList_zip]
 have hp:=Ec ps.toList args cargs fr rec0.tmps hfr hv hlen (λp hp=>by rw[hsz]; exact uG hps p hp);refine h1 (F.inRound l) n ⟨w.heap.size,[],false⟩ w0 r H g w _ _ ⟨Eb ps.toList args fr,H⟩ g _ w hF hbs ⟨⟨hr,λt=>by
  show VR H g w _ (Array.getD (((kN rec0 .ready).params.zip cargs.toArray).foldl (λtmps (t,a)=>tmps.setIfInBounds t a) (kN rec0 .ready).tmps) t undef);rw[hfold]; exact hp.1 t,hgl⟩,Ext.refl hr,qab _,λ_ _ _=>rfl,by
  show Array.size (((kN rec0 .ready).params.zip cargs.toArray).foldl (λtmps (t,a)=>tmps.setIfInBounds t a) (kN rec0 .ready).tmps)=N;rw[hfold,hp.2,hsz],jP.start _ _ _ _,qab _,rfl⟩ h ?_
 intro e e' s2 g2 a2 w2 hg2 he h;cases e with
 | exit i=>cases h
 | goto i=>cases h
 | ret=>cases h
 | pan x=>cases h
 | normal=>
  cases e' with
  | normal=>
   obtain ⟨hB2,h⟩:=Be h;obtain ⟨m2,l2,hw2⟩:=hrecAt hg2.sr.rel hg2.ext hB2;have hbr:=run_beginRound (P:=cx.P) hw2 rfl;obtain ⟨q1,q2⟩:=hg2.sr.rel.rng hB2 (.rng .busy) (some l) (.loop (kN rec0 .busy)) m2 hw2 (.inl ⟨.busy,rfl,rfl,by rw[l2]⟩);refine⟨_,hbr,?_⟩;have hg3:=hg2.step (dst:=none) (x:=.any) (c:=undef) q1 q2 r8 (n8 s2.H _ hlob) rfl ZT (λd hd=>by cases hd);show rec0.body.wpIn _ _ _ _ _ _;rw[e3];refine h2 (F.inRound l) n ⟨w.heap.size,[],false⟩ w0 r H g w _ _ ⟨s2.fr,s2.H.set b (.rng .busy)⟩ _ a2 _ hF hbs hg3 h ?_;intro e e' s3 g3 a3 w3 hg he h;have fin:∀ (st:ku) (jump:Option Code) (v:Bool),s3.H[b]? = some (.rng .busy)->jump.isNone=v->kN rec0 st={ kN rec0 .busy with state:=if jump.isNone then .ready else .done,pending:=jump }->r=(.ret (.v (.bool v)),s3.H.set b (.rng st)) ->
     ∃ x W,(Instr.endRound l jump).run cx.P w3=.ok x W/\iJ H g w0 w lo' r (.returned x) W:=λst jump v hB3 hjv hst hrr=>by
    obtain ⟨m3,l3,hw3⟩:=hrecAt hg.sr.rel hg.ext hB3;have her:=run_endRound (P:=cx.P) jump hw3;obtain ⟨p1,p2⟩:=hg.sr.rel.rng hB3 (.rng st) (some l) (.loop (kN rec0 st)) m3 hw3 (.inl ⟨st,rfl,rfl,by rw[l3]⟩);subst hrr;rw[<-hst] at her;refine⟨_,_,her,_,p1,hg.ext.trans p2,by simpa using hg.len,λc hc hc'=>?_,hg.st,?_⟩
    ·show (s3.H.set b (.rng st))[c]? = _;rw[qao o3];exact hg.low c o3 hc'
    ·show VR _ _ _ (.v (.bool v)) (.bool jump.isNone);rw[VR,hjv]
   cases e with
   | normal=>cases e'<;>first
     | (obtain ⟨hB3,h⟩:=ry h; exact fin .ready none true hB3 rfl rfl (by cases h; rfl))
     | exact he.elim
   | exit i=>cases e'<;>first
     | (obtain rfl:i=_:=he; obtain ⟨hB3,h⟩:=ry h; exact fin (.done (.exit i)) (some (.exit i)) false hB3 rfl rfl (by cases h; rfl))
     | exact he.elim
   | goto i=>cases e'<;>first
     | (obtain rfl:i=_:=he; obtain ⟨hB3,h⟩:=ry h; exact fin (.done (.goto i)) (some (.goto i)) false hB3 rfl rfl (by cases h; rfl))
     | exact he.elim
   | ret=>cases e'<;>first
     | (obtain ⟨hB3,h⟩:=ry h; exact fin (.done .ret) (some .ret) false hB3 rfl rfl (by cases h; rfl))
     | exact he.elim
   | pan x=>cases h
  | _=>exact he.elim
end
section
open Go.RowKit
variable {F:Fence} {n:Nat} {P:Program}
theorem pF {fn:Func} {tmps:Array Value} {R:Ending->World->Prop} {B:Nat} {ds:List Deferred}:∀ (ms:List Deferred) (u:FrameMode) (W:World),u≠.run->Marks B W ms ->
  (∀ W',eH B W W'->(∀ (k:Nat) (o:Loop),W.heap[k]? = some (.loop o)->W'.heap[k]? = some (.loop o))->LeavesInM F n P fn tmps R ds u W')->LeavesInM F n P fn tmps R (ms++ds) u W:=by
 intro ms u
 induction ms with
 | nil=>intro W _ _ h; exact h W (eH.refl _ _) (λ_ _ h=>h)
 | cons d ms ih=>
  rintro W hu ⟨rs,e,h2,h3⟩ h
  match rs,e,h2,h3 with
  | r :: rs,e,h2,h3=>
   cases e;obtain ⟨hB,hr⟩:=h3 r r8;refine⟨hu,.inl ⟨r,_,rfl,run_takeDeferred hr,ih _ hu ⟨rs,rfl,(qdO.1 h2).2,λq hq=>⟨(h3 q (by simp[hq])).1,?_⟩⟩ λW' hc hl=>?_⟩⟩
   ·have hne:q≠r:=λe=>(qdO.1 h2).1 (e ▸ hq);exact(qbI hne).trans (h3 q (by simp[hq])).2
   ·exact h W' ((eH.putObj _ hB hr rfl).trans hc) (λk o hk=>hl k o ((qbI (λe=>by subst e; rw[hr] at hk; cases hk)).trans hk))
theorem Oper.CQ {o:Oper} {a:Act} {w:World} {K K':Act->World->Prop} {Q Q':Exit->Act->World->Prop} (hK:∀ a w,K a w->K' a w) (hQ:∀ e a w,e≠.normal->Q e a w->Q' e a w) (h:o.wpIn F n P a w K Q):o.wpIn F n P a w K' Q':=by
 unfold Oper.wpIn at *
 refine⟨h.1,?_⟩;have hh:=h.2;have lo:LetsOut Q->LetsOut Q':=λ⟨a,w,h⟩=>⟨a,w,hQ _ _ _ r8 h⟩
 generalize (o.semAt F.round a.eval).run P w=r at *
 cases r with
 | ok x w'=>
  cases x<;>simp only[Oper.uponIn] at hh ⊢<;>first
   | exact hK _ _ hh
   | exact⟨hh.1,CallsIn.mono hh.2 (λe w'' he=>by cases e<;>first | exact hK _ _ he | exact hQ _ _ _ r8 he | exact lo he)⟩
   | exact⟨hh.1,RowsIn.mono hh.2 (λ_ _ he=>hK _ _ he)⟩
   | exact⟨hh.1,RoundIn.mono hh.2 (λe w'' he=>by cases e<;>first | exact hK _ _ he | exact hQ _ _ _ r8 he | exact lo he)⟩
   | exact hh.elim
 | halt x w'=>cases x<;>simp only[Oper.uponIn] at hh ⊢<;>first | exact hQ _ _ _ r8 hh | exact hh.elim
theorem oA {ops:Array Oper} {Q Q':Exit->Act->World->Prop} {os':List Oper} (hQ:∀ e a w,e≠.normal->Q e a w->Q' e a w) (hn:∀ a w,Q .normal a w->wpListIn F n P ops Q' os' a w):∀ (os:List Oper) (a:Act) (w:World),wpListIn F n P ops Q os a w->wpListIn F n P ops Q' (os++os') a w
 | [],a,w,h=>hn a w h
 | o :: os,a,w,h=>by
  rw[qaS];unfold wpListIn at h ⊢;split
  ·rename_i hw; rw[qaf hw] at h; exact Oper.CQ (oA hQ hn os) hQ h
  ·rename_i hw; rw[qah hw] at h; exact⟨h.1,oA hQ hn os _ _ h.2⟩
theorem pI {o:Oper} {d:Nat} (h:oe o=some d):o.dst=some d/\o.guard=none/\∀ (ev:Operand->Value) (w:World),(execOp ev o).run P w=.ok .recover w:=by
 unfold oe at h;split at h
 ·rename_i c ho;split at h
  ·rename_i hcal hargs;cases hg:wK o with
   | false=>rw[hg] at h; cases h
   | true=>
    rw[hg] at h;refine⟨h,by unfold wK at hg; split at hg<;>simp_all,λev w=>?_⟩;unfold execOp;rw[ho];simp[resolve,hcal,invoke,builtin]
  ·cases h
 ·cases h
theorem th {Q:Exit->Act->List Frame->World->Prop} {a:Act} {cs cs':List Frame} {w:World} {id d:Nat} {ops:Array Oper} {o:Oper} {os:List Oper} {v:Value} (hl:ops.toList=o :: os) (hd:oe o=some d) (hFa:∀ f,F.fn f) (hro:F.round=none)
  (hrec:recoverD cs=some (v,cs')∨(recoverD cs=none/\cs'=cs/\v=.nilIface)) (h:wpListIn F n P ops (λe a' w'=>Q e a' cs' w') os (a.put (some d) v) w):(Code.region id ops false).wpSIn F n P Q a cs w:=by
 obtain ⟨hdst,hgd,hrun⟩:=pI (P:=P) hd;have ho:ops[0]? = some o:=by rw[<-qaZ,hl]; rfl
 have hlen:cs'.length=cs.length:=by
  rcases hrec with h1 | ⟨_,rfl,_⟩
  ·exact recoverD_length h1
  ·rfl
 intro b k hb hr hFb hroom;have hw:Region.wanted o (yielded ops a.tmps)=true:=by simp[Region.wanted,hgd]
 have hsz:List.range ops.size=0 :: List.range' 1 os.length:=by
  rw[<-qcB,hl,qae,List.range_eq_range',List.range'_succ]
 have h':wpOpsIn F n P ops (λe a' w'=>Q e a' cs' w') (List.range' 1 os.length) (a.put (some d) v) w:=by
  rw[wpOpsIn_eq_wpListIn os 1 (λj=>by rw[<-qaZ,hl,qdF 1 j,qbC])];exact h
 obtain ⟨e,a',w',q,harr⟩:=wp_opsIn _ _ _ h' b k cs' (hr.trans hro.symm) hFb (hlen ▸ hroom);have i0:(lone (b.atR a (.code (.region id ops false) :: k)) cs w).fenced P F:=qdT hFb hroom rfl;have i1:(lone (b.atR a (.inRegion ops (0 :: List.range' 1 os.length) :: k)) cs w).fenced P F:=qej hFb hroom ho (λf _=>hFa f);refine⟨e,a',cs',w',hlen,q,.of_steps (.head i0 (hsz ▸ stepR_region) (.one i1 (qdk ?_))) harr⟩;have hg:=stepGR_op (P:=P) (b:=b) (k:=k) (cs:=cs) (w:=w) (rest:=List.range' 1 os.length) ho hw;rw[hr,qcI] at hg;have hfin:∀ v,(b.atR a (.inRegion ops (0 :: List.range' 1 os.length) :: k)).finish v=b.atR (a.put o.dst v) (.inRegion ops (List.range' 1 os.length) :: k):=by
  intro v; rw[qdJ,ho]; rfl
 have hk:(b.atR a (.inRegion ops (0 :: List.range' 1 os.length) :: k)).kind=.deferred:=hb;have htr:=qed hk cs;rw[hg,<-hdst,<-hfin];simp only[Frame.atR,hr] at htr ⊢;rcases hrec with h1 | ⟨h1,rfl,rfl⟩
 ·simp[stepG.apply,hrun,htr,h1]
 ·simp[stepG.apply,hrun,htr,h1]
theorem nC {ops:Array Oper} {i d j:Nat} {o:Oper} (ho:ops[i]? = some o):(mH ops i d)[j]? = if j=i then some { o with op:=.move (.tmp d) } else ops[j]?:=by
 unfold mH;rw[ho];simp only
 have hi:=(qaj.1 ho).1;by_cases e:j=i
 ·subst e; rw[qaf rfl]; simp[hi]
 ·rw[qah e,qb8 (qbi e)]
theorem vJ {ops:Array Oper} {i d:Nat}:(mH ops i d).size=ops.size:=by
 unfold mH; split<;>simp
theorem A0 {ops:Array Oper} {i d:Nat} {o:Oper} (ho:ops[i]? = some o) (t:Nat):Region.linearise .any (mH ops i d) t=Region.linearise .any ops t:=by
 have key:∀ (fuel t:Nat) (listed:Array Bool) (acc:List Nat),Region.linearise.go .any (mH ops i d) fuel t listed acc=Region.linearise.go .any ops fuel t listed acc:=by
  intro fuel
  induction fuel with
  | zero=>intro t listed acc; rfl
  | succ fuel ih=>
   intro t listed acc;unfold Region.linearise.go;simp only[vJ,ih]
   have e:∀ j,((mH ops i d)[j]?).map (λ(o:Oper)=>o.after.all λe=>!Region.binds .any e || listed.getD e.on false)=(ops[j]?).map (λ(o:Oper)=>o.after.all λe=>!Region.binds .any e || listed.getD e.on false):=λj=>by
    rw[nC ho];split
    ·rename_i h; subst h; rw[ho]; rfl
    ·rfl
   simp only[e]
 unfold Region.linearise;rw[vJ,key]
theorem Hl {ops:Array Oper}:∀ (fuel t:Nat) (listed:Array Bool) (L1:List Nat) (j:Nat) (L2:List Nat),Region.linearise.go .any ops fuel t listed []=L1++j :: L2->∀ (o:Oper) (e:Edge),ops[j]? = some o->e∈o.after->Region.binds .any e=true->listed.getD e.on false=true∨e.on∈L1
 | 0,t,listed,L1,j,L2,h,o,e,ho,he,hb=>by
  simp[Region.linearise.go] at h
 | fuel+1,t,listed,L1,j,L2,h,o,e,ho,he,hb=>by
  simp only[Region.linearise.go] at h;change (match (Region.ready .any ops listed)[t % (Region.ready .any ops listed).length]? with
   | some i=>Region.linearise.go .any ops fuel (t / (Region.ready .any ops listed).length) (listed.setIfInBounds i true) [i]
   | none=>[].reverse)=_ at h
  split at h
  ·rename_i i hi;rw[qcR,qck,qbB] at h;have hrd:=(qcE.1 (qaI hi))
   cases L1 with
   | nil=>
    simp only[qbd,qa9] at h;obtain ⟨rfl,_⟩:=h;obtain ⟨_,o',ho',hall⟩:=hrd;rw[ho] at ho'; cases ho';exact .inl (hall e he hb)
   | cons x L1=>
    simp only[qaS,qa9] at h;obtain ⟨rfl,h⟩:=h;rcases Hl fuel _ _ L1 j L2 h o e ho he hb with h1 | h1
    ·by_cases hx:e.on=i
     ·exact .inr (by rw[hx]; exact qbq ..)
     ·rw[qcv false (qbi hx)] at h1; exact .inl h1
    ·exact .inr (qbp _ h1)
  ·simp at h
theorem Hm {ops:Array Oper} {i0:Nat} {o0:Oper} (ho:ops[i0]? = some o0) (hn:∀ e∈o0.after,Region.binds .any e=true->False):∀ (fuel t:Nat) (listed:Array Bool),listed.size=ops.size->En ops listed<=fuel->listed.getD i0 true=false->i0∈Region.linearise.go .any ops fuel t listed []
 | 0,t,listed,hs,hu,hl=>by
  exfalso
  have hi:=(qaj.1 ho).1;have hmem:i0∈(List.range ops.size).filter (λi=>!listed.getD i true):=qdd.2 ⟨qaR.2 hi,by rw[hl]; rfl⟩;have:=qcj hmem;unfold En at hu; omega
 | fuel+1,t,listed,hs,hu,hl=>by
  have hrd:i0∈Region.ready .any ops listed:=qcE.2 ⟨hl,o0,ho,λe he hb=>(hn e he hb).elim⟩;have hlen:=qcj hrd;simp only[Region.linearise.go]
  change i0∈(match (Region.ready .any ops listed)[t % (Region.ready .any ops listed).length]? with
   | some i=>Region.linearise.go .any ops fuel (t / (Region.ready .any ops listed).length) (listed.setIfInBounds i true) [i]
   | none=>[].reverse)
  have hlt:t % (Region.ready .any ops listed).length<(Region.ready .any ops listed).length:=qcu _ hlen;rw[Z7 hlt];simp only
  rw[qcR,qck,qbB];generalize hi:(Region.ready .any ops listed)[t % (Region.ready .any ops listed).length]=i;have him:i∈Region.ready .any ops listed:=by rw[<-hi]; exact qaB _
  obtain ⟨hun,o,hoi,_⟩:=qcE.1 him;have his:i<ops.size:=(qaj.1 hoi).1;by_cases e:i=i0
  ·rw[e]; exact qbq ..
  ·refine qbp _ (Hm ho hn fuel _ _ (by simpa using hs) ?_ (by rw[qcv true e]; exact hl));have:=filter_lt (λk=>!listed.getD k true) (λk=>!(listed.setIfInBounds i true).getD k true) (List.range ops.size) (λx hx hq=>by
    by_cases e:i=x
    ·subst e; rw[hun]; rfl
    ·rw[qcv true e] at hq; exact hq) ⟨i,qaR.2 his,by rw[hun]; rfl,by simp[hs,his]⟩
   unfold En at hu ⊢;omega
theorem Hn {ops:Array Oper} {i0:Nat}:∀ (fuel t:Nat) (listed:Array Bool),listed.getD i0 true=true->i0 ∉ Region.linearise.go .any ops fuel t listed []
 | 0,t,listed,h,hm=>by simp[Region.linearise.go] at hm
 | fuel+1,t,listed,h,hm=>by
  simp only[Region.linearise.go] at hm;change i0∈(match (Region.ready .any ops listed)[t % (Region.ready .any ops listed).length]? with
   | some i=>Region.linearise.go .any ops fuel (t / (Region.ready .any ops listed).length) (listed.setIfInBounds i true) [i]
   | none=>[].reverse) at hm
  split at hm
  ·rename_i i hi;rw[qcR,qck,qbB] at hm;obtain ⟨hun,_⟩:=qcE.1 (qaI hi);have hne:i≠i0:=λe=>by rw[e,h] at hun; cases hun
   rcases qaD.1 hm with hm | hm
   ·exact hne hm.symm
   ·exact Hn fuel _ _ (by rw[qcv true hne]; exact h) hm
  ·simp at hm
theorem DH {ops:Array Oper} {i0:Nat}:∀ (fuel t:Nat) (listed:Array Bool) (L1 L2:List Nat),listed.size=ops.size->Region.linearise.go .any ops fuel t listed []=L1++i0 :: L2->i0 ∉ L2
 | 0,t,listed,L1,L2,_,h=>by simp[Region.linearise.go] at h
 | fuel+1,t,listed,L1,L2,hs,h=>by
  simp only[Region.linearise.go] at h;change (match (Region.ready .any ops listed)[t % (Region.ready .any ops listed).length]? with
   | some i=>Region.linearise.go .any ops fuel (t / (Region.ready .any ops listed).length) (listed.setIfInBounds i true) [i]
   | none=>[].reverse)=_ at h
  split at h
  ·rename_i i hi;rw[qcR,qck,qbB] at h;cases L1 with
   | nil=>
    simp only[qbd,qa9] at h;obtain ⟨rfl,h⟩:=h;rw[<-h];obtain ⟨_,o,ho,_⟩:=qcE.1 (qaI hi);have:=(qaj.1 ho).1;exact Hn fuel _ _ (by simp[hs,this])
   | cons x L1=>
    simp only[qaS,qa9] at h;exact DH fuel _ _ L1 L2 (by simpa using hs) h.2
  ·simp at h
theorem DI {ops:Array Oper}:∀ (fuel t:Nat) (listed:Array Bool) (j:Nat),j∈Region.linearise.go .any ops fuel t listed []->∃ o,ops[j]? = some o
 | 0,t,listed,j,h=>by simp[Region.linearise.go] at h
 | fuel+1,t,listed,j,h=>by
  simp only[Region.linearise.go] at h;change j∈(match (Region.ready .any ops listed)[t % (Region.ready .any ops listed).length]? with
   | some i=>Region.linearise.go .any ops fuel (t / (Region.ready .any ops listed).length) (listed.setIfInBounds i true) [i]
   | none=>[].reverse) at h
  split at h
  ·rename_i i hi;rw[qcR,qck,qbB] at h;obtain ⟨_,o,ho,_⟩:=qcE.1 (qaI hi);rcases qaD.1 h with h | h
   ·exact⟨o,by rw[h]; exact ho⟩
   ·exact DI fuel _ _ j h
  ·simp at h
theorem wW {ops:Array Oper} {i d:Nat} {o:Oper} (ho:ops[i]? = some o) (tm:Array Value):yielded (mH ops i d) tm=yielded ops tm:=by
 funext j
 have e:((mH ops i d)[j]?).bind (·.dst)=(ops[j]?).bind (·.dst):=by
  rw[nC ho];by_cases h:j=i
  ·subst h; rw[qaf rfl,ho]; rfl
  ·rw[qah h]
 unfold yielded;rw[e]
theorem kl {ops:Array Oper} {Q:Exit->Act->World->Prop} {i d:Nat} {o:Oper} (ho:ops[i]? = some o):∀ (L:List Nat) (a:Act) (w:World),i ∉ L->wpOpsIn F n P (mH ops i d) Q L a w->wpOpsIn F n P ops Q L a w
 | [],a,w,_,h=>h
 | j :: L,a,w,hn,h=>by
  have hj:j≠i:=λe=>hn (by rw[e]; exact qbq ..);have hL:i ∉ L:=λe=>hn (qbp _ e);unfold wpOpsIn at h ⊢;rw[nC ho,qah hj,wW ho] at h;cases hoj:ops[j]? with
  | none=>rw[hoj] at h; exact kl ho L a w hL h
  | some oj=>
   rw[hoj] at h;simp only at h ⊢;split
   ·rename_i hw; rw[qaf hw] at h; exact Oper.wpIn_mono (λa w h=>kl ho L a w hL h) h
   ·rename_i hw; rw[qah hw] at h; exact⟨h.1,kl ho L _ _ hL h.2⟩
theorem HE {o:Oper} {d:Nat} (h:ll d o=true):o.guard=none/\(∃ e,o.dst=some e/\e≠d)/\∀ (a:Act) (v:Value),execOp (a.put (some d) v).eval o=execOp a.eval o:=by
 unfold ll at h;simp only[Z9] at h;obtain ⟨⟨h1,h2⟩,h3⟩:=h;refine⟨nB h1,?_,λa v=>?_⟩
 ·cases hd:o.dst with
  | none=>rw[hd] at h3; cases h3
  | some e=>rw[hd] at h3; exact⟨e,rfl,λe2=>by subst e2; simp at h3⟩
 ·split at h2
  ·rename_i t x ho;have hx:x≠d:=λe=>by subst e; simp at h2
   unfold execOp;rw[ho];simp only[Act.eval_put (a:=a) (dst:=some d) (v:=v) (x:=.tmp x) (λe he=>by cases he; intro h; cases h; exact hx rfl)]
  ·cases h2
theorem HD {o:Oper} {d:Nat} (h:ll d o=true) (ev:Operand->Value) (w:World):(∃ y w',(execOp ev o).run P w=.ok (.value y) w')∨(∃ x w',(execOp ev o).run P w=.halt x w'):=by
 unfold ll at h;simp only[Z9] at h;obtain ⟨⟨h1,h2⟩,h3⟩:=h;split at h2
 ·rename_i t x ho;unfold execOp;rw[ho];simp only
  cases hr:(Instr.loadAt t (ev (.tmp x))).run P w with
  | ok y w'=>exact .inl ⟨y,w',by simp[hr]⟩
  | halt y w'=>exact .inr ⟨y,w',by simp[hr]⟩
 ·cases h2
theorem Ef {Q:Exit->Act->List Frame->World->Prop} {ops:Array Oper} {i0 d:Nat} {o0:Oper} {v:Value} {cs cs':List Frame} (ho:ops[i0]? = some o0) (hd:oe o0=some d) (hFa:∀ f,F.fn f) (hro:F.round=none) (hrec:recoverD cs=some (v,cs')∨(recoverD cs=none/\cs'=cs/\v=.nilIface)) {L2:List Nat} (hL2:i0 ∉ L2):∀ (L1:List Nat) (a:Act) (w:World),(∀ j∈L1,∃ o,ops[j]? = some o/\ll d o=true)->d<a.tmps.size ->
  wpOpsIn F n P (mH ops i0 d) (λe a' w'=>match e with | .panic _=>False | e=>Q e a' cs' w') (L1++i0 :: L2) (a.put (some d) v) w->∀ (b:Frame) (k:List Item),b.kind=.deferred->b.roundOf=none->F.fn b.fn->F.room (cs.length+1+n) ->
  ∃ e a' cs2 w',cs2.length=cs.length/\Q e a' cs2 w'/\ArrivesIn (Machine.fenced P F) P (lone (b.atR a (.inRegion ops (L1++i0 :: L2) :: k)) cs w) b k cs2 e a' w'
 | [],a,w,hld,hds,h,b,k,hb,hr,hFb,hroom=>by
  obtain ⟨hdst,hgd,hrun⟩:=pI (P:=P) hd;have hlen:cs'.length=cs.length:=by
   rcases hrec with h1 | ⟨_,rfl,_⟩
   ·exact recoverD_length h1
   ·rfl
  rw[qbd] at h ⊢;unfold wpOpsIn at h;rw[nC ho,qaf rfl] at h;simp only at h;rw[qaf (by simp[Region.wanted,hgd])] at h;replace h:=h.2;rw[hro,qcI] at h;have hev:(execOp (a.put (some d) v).eval { o0 with op:=.move (.tmp d) }).run P w=.ok (.value v) w:=by
   have:(a.put (some d) v).eval (.tmp d)=v:=gA hds;simp[execOp,this]
  rw[hev,Oper.uponIn_value] at h;have hpp:(a.put (some d) v).put o0.dst v=a.put (some d) v:=by
   rw[hdst];unfold Act.put;simp
  rw[hpp] at h;have h':=kl ho L2 _ w hL2 h;obtain ⟨e,a',w',q,harr⟩:=wp_opsIn _ _ _ h' b k cs' (hr.trans hro.symm) hFb (hlen ▸ hroom);have hw:Region.wanted o0 (yielded ops a.tmps)=true:=by simp[Region.wanted,hgd]
  have i1:(lone (b.atR a (.inRegion ops (i0 :: L2) :: k)) cs w).fenced P F:=qej hFb hroom ho (λf _=>hFa f);have q':Q e a' cs' w':=by cases e<;>first | exact q | exact q.elim
  refine⟨e,a',cs',w',hlen,q',.of_steps (.one i1 (qdk ?_)) harr⟩;have hg:=stepGR_op (P:=P) (b:=b) (k:=k) (cs:=cs) (w:=w) (rest:=L2) ho hw;rw[hr,qcI] at hg;have hfin:∀ v,(b.atR a (.inRegion ops (i0 :: L2) :: k)).finish v=b.atR (a.put o0.dst v) (.inRegion ops L2 :: k):=by
   intro v; rw[qdJ,ho]; rfl
  have hk:(b.atR a (.inRegion ops (i0 :: L2) :: k)).kind=.deferred:=hb;have htr:=qed hk cs;rw[hg,<-hdst,<-hfin];simp only[Frame.atR,hr] at htr ⊢;rcases hrec with h1 | ⟨h1,rfl,rfl⟩
  ·simp[stepG.apply,hrun,htr,h1]
  ·simp[stepG.apply,hrun,htr,h1]
 | j :: L1,a,w,hld,hds,h,b,k,hb,hr,hFb,hroom=>by
  obtain ⟨oj,hoj,hlo⟩:=hld j (qbq ..);obtain ⟨hgd,⟨e0,hde,hne⟩,hsame⟩:=HE hlo;have hji:j≠i0:=λe=>by
   subst e;rw[ho] at hoj; cases hoj;unfold oe at hd;unfold ll at hlo;split at hd
   ·rename_i c hc; rw[hc] at hlo; simp at hlo
   ·cases hd
  rw[qaS] at h ⊢;unfold wpOpsIn at h;rw[nC ho,qah hji,hoj] at h;simp only at h;rw[qaf (by simp[Region.wanted,hgd])] at h;replace h:=h.2;rw[hro,qcI,hsame] at h;have hw:Region.wanted oj (yielded ops a.tmps)=true:=by simp[Region.wanted,hgd]
  rcases HD (P:=P) hlo a.eval w with ⟨y,w1,hrun⟩ | ⟨x,w1,hrun⟩
  ·rw[hrun,Oper.uponIn_value,hde,Act.put_comm a v y (λe he=>by cases he; intro h; cases h; exact hne rfl),<-hde] at h;obtain ⟨e,a',cs2,w2,hl2,q,harr⟩:=Ef ho hd hFa hro hrec hL2 L1 (a.put oj.dst y) w1 (λj hj=>hld j (qbp _ hj)) (by rw[Act.rV]; exact hds) h b k hb hr hFb hroom;have i1:(lone (b.atR a (.inRegion ops (j :: (L1++i0 :: L2)) :: k)) cs w).fenced P F:=qej hFb hroom hoj (λf _=>hFa f);refine⟨e,a',cs2,w2,hl2,q,.of_steps (.one i1 (qdk ?_)) harr⟩;have hg:=stepGR_op (P:=P) (b:=b) (k:=k) (cs:=cs) (w:=w) (rest:=L1++i0 :: L2) hoj hw;rw[hr,qcI] at hg;have hfin:∀ v,(b.atR a (.inRegion ops (j :: (L1++i0 :: L2)) :: k)).finish v=b.atR (a.put oj.dst v) (.inRegion ops (L1++i0 :: L2) :: k):=by
    intro v; rw[qdJ,hoj]; rfl
   rw[hg,<-hfin];simp[stepG.apply,hrun]
  ·rw[hrun] at h;cases x<;>exact h.elim
theorem sd {Q:Exit->Act->List Frame->World->Prop} {a:Act} {cs cs':List Frame} {w:World} {id i0 d:Nat} {ops:Array Oper} {o0:Oper} {v:Value} (hm:P.follows .mixedOrders=true) (ho:ops[i0]? = some o0) (hd:oe o0=some d) (hna:o0.after=#[]) (hok:Mh ops i0 d=true) (hFa:∀ f,F.fn f) (hro:F.round=none) (hds:d<a.tmps.size)
  (hrec:recoverD cs=some (v,cs')∨(recoverD cs=none/\cs'=cs/\v=.nilIface)) (h:LW F n P (mH ops i0 d) (λe a' w'=>match e with | .panic _=>False | e=>Q e a' cs' w') (a.put (some d) v) w):(Code.region id ops true).wpSIn F n P Q a cs w:=by
 intro b k hb hr hFb hroom;have h:=h (w.tape w.drawn (.order b.fn id));have hs:∀ (ops:Array Oper) t,Region.schedule (P.follows .mixedOrders) ops t=Region.linearise.go .any ops ops.size t (Array.replicate ops.size false) []:=λops t=>by
  simp only[Region.schedule,hm,qef,qb4]; rfl
 have hsz:(Array.replicate ops.size false).size=ops.size:=r8;have hrep:∀ i,(Array.replicate ops.size false).getD i false=false:=λi=>by
  by_cases hi:i<ops.size<;>simp[hi]
 have hi0:=(qaj.1 ho).1;have i0l:(lone (b.atR a (.code (.region id ops true) :: k)) cs w).fenced P F:=qdT hFb hroom rfl;have hL:=hs ops (w.tape w.drawn (.order b.fn id));have hL':Region.schedule (P.follows .mixedOrders) (mH ops i0 d) (w.tape w.drawn (.order b.fn id))=Region.schedule (P.follows .mixedOrders) ops (w.tape w.drawn (.order b.fn id)):=by
  have:=A0 (d:=d) ho (w.tape w.drawn (.order b.fn id));simp only[Region.schedule,hm,qef,qb4]
  exact this
 rw[hL'] at h;have hmem:i0∈Region.schedule (P.follows .mixedOrders) ops (w.tape w.drawn (.order b.fn id)):=by
  rw[hL];refine Hm ho (λe he _=>by rw[hna] at he; simp at he) _ _ _ hsz ?_ (by simp[hi0]);unfold En;exact qaC (qda _ _) r8
 obtain ⟨L1,L2,hLe,hn1⟩:=List.eq_append_cons_of_mem hmem;have hn2:i0 ∉ L2:=DH _ _ _ L1 L2 hsz (hL ▸ hLe);have hgo:Region.linearise.go .any ops ops.size (w.tape w.drawn (.order b.fn id)) (Array.replicate ops.size false) []=L1++i0 :: L2:=hL ▸ hLe;have hload:∀ (p:Nat) (j:Nat),L1[p]? = some j->∃ o,ops[j]? = some o/\ll d o=true:=by
  intro p
  induction p using Nat.strongRecOn with
  | _ p ih=>
   intro j hp;have hjm:j∈L1:=qaI hp;obtain ⟨o,hoj⟩:=DI _ _ _ j (hgo ▸ List.mem_append_left _ hjm);have hjs:=(qaj.1 hoj).1;have hck:=qak.1 hok j (qaR.2 hjs);rw[hoj] at hck;simp only[qbo] at hck;rcases hck with h1 | h1 | h1
   ·exact absurd (qan h1 ▸ hjm) hn1
   ·exact⟨o,hoj,h1⟩
   ·exfalso
    obtain ⟨q,hq1,hq2⟩:=Array.any_eq_true.1 h1;rw[Z9,qa3] at hq2;obtain ⟨hp1,hpe⟩:=qad.1 hp;have hsplit:L1++i0 :: L2=L1.take p++j :: (L1.drop (p+1)++i0 :: L2):=by
     rw[<-qaS,<-hpe,<-qas hp1,<-qaV,qbQ]
    rcases Hl _ _ _ (L1.take p) j _ (hgo.trans hsplit) o o.after[q] hoj (Array.getElem_mem _) hq2.1 with h2 | h2
    ·rw[hrep] at h2; cases h2
    ·obtain ⟨x,hx,hxe⟩:=qa2 h2;rw[List.getElem_take] at hxe;have hxp:x<p:=by rw[qba] at hx; omega
     obtain ⟨o',ho',hl'⟩:=ih x hxp o.after[q].on (by rw[<-hxe]; exact Z7 _);unfold AS at hq2;rw[ho'] at hq2;simp only at hq2;rw[hl'] at hq2;exact absurd hq2.2 r8
 rw[hLe] at h;obtain ⟨e,a',cs2,w2,hl,q,harr⟩:=Ef ho hd hFa hro hrec hn2 L1 a _ (λj hj=>by
  obtain ⟨p,hp,hpe⟩:=qa2 hj;exact hload p j (by rw[<-hpe]; exact Z7 hp)) hds h b k hb hr hFb hroom
 refine⟨e,a',cs2,w2,hl,q,.of_steps (.one i0l ?_) harr⟩;rw[<-hLe];exact stepR_region_draw
end
section
open Go.RowKit
variable {H H':Heap} {g g':Gh} {w0 w w':World} {cx:Cx} {s:St} {a:Act} {F:Fence} {n:Nat} {N lo:Nat} {mb:Mb} {H0:Heap} {gs:Gh} {ws:World}
theorem nz (fr:List (Nat×A)) (keep:List Nat) (t:Nat):look (keep.map λt=>(t,look fr t)) t=look fr t∨look (keep.map λt=>(t,look fr t)) t=.any:=by
 induction keep with
 | nil=>exact .inr rfl
 | cons u ks ih=>
  rw[qbc,fI];split
  ·rename_i e; rw[e]; exact .inl rfl
  ·exact ih
theorem zd (fr:List (Nat×A)) (keep:List Nat) (t:Nat) (ht:look (keep.map λt=>(t,look fr t)) t≠.any):t∈keep:=by
 induction keep with
 | nil=>exact absurd rfl ht
 | cons u ks ih=>
  rw[qbc,fI] at ht;split at ht
  ·rename_i e; subst e; simp
  ·exact qbp _ (ih ht)
theorem Good.ef (hg:Good cx N mb lo H0 gs ws w0 s g a w) {keep:List Nat}:Good cx N mb lo H0 gs ws w0 (ef keep s) g a w:=
 ⟨⟨hg.sr.rel,λt=>by
  show VR s.H g w (look (keep.map λt=>(t,look s.fr t)) t) _;rcases nz s.fr keep t with h | h
  ·rw[h]; exact hg.sr.fr t
  ·rw[h,VR]; trivial,hg.sr.gl⟩,hg.ext,hg.len,hg.low,hg.siz,hg.dfr,hg.mbw,hg.st⟩
theorem Good.A1 (hg:Good cx N mb lo H0 gs ws w0 s g a w) {keep:List Nat} {L:Nat} (hL:H0.length<=L) (hLs:L<=s.H.length) {k:St->Option R} {r:R} (h:rQ keep L s k=some r):∃ s' g',k s'=some r/\Good cx N mb lo H0 gs ws w0 s' g' a w/\s'.H.length=L:=by
 unfold rQ at h;obtain ⟨H',h1,h⟩:=bN h;obtain ⟨h2,h⟩:=bJ h;have nz:=nz s.fr keep;have zd:=zd s.fr keep;unfold trim at h1;rw[bP] at h1;split at h1
 ·rename_i hl;have hl:s.H.length=L:=by simpa using hl
  cases h1;refine⟨_,g,h,⟨⟨hg.sr.rel,λt=>?_,hg.sr.gl⟩,hg.ext,hg.len,hg.low,hg.siz,hg.dfr,hg.mbw,hg.st⟩,hl⟩;rcases nz t with h | h
  ·rw[h]; exact hg.sr.fr t
  ·rw[h,VR]; trivial
 ·rename_i hl;obtain ⟨hall,h1⟩:=bJ h1;cases h1;have hl:¬ s.H.length=L:=by simpa using hl
  have hk:keep.all (λt=>A.under L (look s.fr t))=true:=by
   have hb:Nat.beq s.H.length L=false:=by
    cases hb:Nat.beq s.H.length L with
    | true=>exact absurd (qan hb) hl
    | false=>rfl
   rw[hb] at h2;exact pE _ _ _ h2
  have hu:∀ (b:Nat) B,b<L->s.H[b]? = some B->B.under L=true:=λb B hb hB=>by
   refine qak.1 hall B (qaI (i:=b) ?_);rw[qaA,qaf hb]; exact hB
  obtain ⟨r1,ag⟩:=hg.sr.rel.cut hLs hu;refine⟨_,g.cut L,h,⟨⟨r1,λt=>?_,λG vs hG=>(hg.sr.gl G vs hG).to ag⟩,hg.ext.cut hL,H4,λb hb hb'=>by rw[qaA,qaf o3]; exact hg.low b hb hb',hg.siz,hg.dfr,hg.mbw,hg.st⟩,H4⟩;rcases nz t with h | h
  ·rw[h];by_cases hany:look s.fr t=.any
   ·rw[hany,VR]; trivial
   ·have htk:=zd t (by rw[h]; exact hany);exact VR.to ag _ _ (qak.1 hk t htk) (hg.sr.fr t)
  ·rw[h,VR]; trivial
theorem vm (lo:Nat):∀ (ps:List (Nat×Nat×Nat)) {s:St} {g:Gh},Good cx N mb lo H0 gs ws w0 s g a w->∃ g',Good cx N mb lo H0 gs ws w0 (fa lo (Cp ps) s) g' a w/\(fa lo (Cp ps) s).H.length=s.H.length
 | [],s,g,h=>⟨g,h,rfl⟩
 | p :: ps,s,g,h=>by
  unfold Cp;split
  ·rename_i he;obtain ⟨g',h1,_,h2⟩:=h.qD p;obtain ⟨g'',h3,h4⟩:=vm lo ps h1;exact⟨g'',h3,h4.trans (h2 he)⟩
  ·exact vm lo ps h
theorem Good.norm (hg:Good cx N mb lo H0 gs ws w0 s g a w) {keep:List Nat} {acts:List (Nat×Nat×Nat)} {n L:Nat} (hL:H0.length<=n) (hnL:n<=L) (hr:Bi acts≠none->n+1<=L) (hLs:L<=s.H.length) {k:St->Option R} {r:R} (h:Ic lo keep acts L s k=some r):∃ s' g',k s'=some r/\Good cx N mb lo H0 gs ws w0 s' g' a w/\s'.H.length=L:=by
 obtain ⟨g',h1,h2⟩:=vm lo acts hg;unfold Ic at h;split at h
 ·exact h1.A1 o3 o3 h
 ·rename_i p hp;have hr:n+1<=L:=hr (by rw[hp]; exact Option.some_ne_none p);unfold L8 at h;rw[bP] at h;split at h
  ·obtain ⟨s2,g2,h3,h4,h5⟩:=h1.A1 (L:=L - 1) o3 o3 h;obtain ⟨h6,h3⟩:=bJ h3;obtain ⟨g3,h7,_,_⟩:=h4.qD p;exact⟨_,g3,h3,h7.ef,qan h6⟩
  ·exact h1.A1 o3 o3 h
theorem sR {p:Prop} {a b:Code} (h:p∨(kX a&&kX b)=true):(p∨kX a=true)/\(p∨kX b=true):=by
 rcases h with h | h
 ·exact⟨.inl h,.inl h⟩
 ·rw[Z9] at h; exact⟨.inr h.1,.inr h.2⟩
def tU (cx:Cx) (rg:bB->bB):Prop:=∀ (Bs:Heap->Gh->World->Prop) (base:bB),rl cx Bs base->eO cx Bs (rg base)
theorem EV {P:Program} {x:A} {v:Value} {gf:Nat} {cap:List A} (h:JE P x=some (gf,cap)) (hv:VR H g w x v):dk P gf=true/\∃ es:Array Value,v=.func (.func gf) #[] es/\bL H g w cap es.toList:=by
 unfold JE at h;split at h
 ·obtain ⟨h1,h⟩:=bJ h;cases h;rw[VR] at hv;obtain ⟨ds,es,e1,e2,e3⟩:=hv;rw[bL] at e2;have:ds=#[]:=by apply qcc; simpa using e2
  subst this;exact⟨h1,es,e1,e3⟩
 ·cases h
theorem rB {P:Program} {k:Nat} (hk:dk P k=true) (args:Array Value) (w:World):(callFunc k args).run P w=.ok (.enter k args) w:=by
 unfold dk at hk;cases hf:P.funcs[k]? with
 | none=>rw[hf] at hk; cases hk
 | some fn=>
  rw[hf] at hk;simp only[Z9,qa3] at hk;have h1:¬ fn.body=none:=by intro hb; rw[hb] at hk; simp at hk
  have h2:¬ fn.name = "runtime.NumGoroutine" := by simpa using hk.2
  simp[callFunc,program,Sem.run,hf,h1,h2]
theorem jl {P:Program} {b:Frame} {a:Act} {k:List Item} {cs:List Frame} {w:World} {c:Code}:step P (lone (b.atR a (.code (.scope c) :: k)) cs w)=.next (lone (b.atR a (.code c :: .inScope c :: k)) cs w):=
 qdk (by simp[stepG,stepG.exec,Frame.atR])
theorem wR {P:Program} {b:Frame} {a:Act} {k:List Item} {cs:List Frame} {w:World} {c:Code}:step P (lone (b.atR a (.inScope c :: k)) cs w)=.next (lone (b.atR a k) cs w):=
 qdk (by simp[stepG,stepG.exec,Frame.atR])
theorem CR {F:Fence} {n:Nat} {P:Program} {a:Act} {w:World} {Q:Exit->Act->World->Prop} {c:Code} (h:c.wpIn F n P (λe a w=>match e with | .goto _=>False | e=>Q e a w) a w):(Code.scope c).wpIn F n P Q a w:=by
 intro b k cs hro hb hr;have h0:(lone (b.atR a (.code (.scope c) :: k)) cs w).fenced P F:=qdT hb hr rfl;obtain ⟨e,a₁,w₁,hq,harr⟩:=h b (.inScope c :: k) cs hro hb hr;cases e with
 | normal=>exact⟨.normal,a₁,w₁,hq,.head h0 jl (StepsIn.trans harr (.one (qdT hb hr rfl) wR))⟩
 | exit id'=>
  have hx:exitTo id' (.inScope c :: k)=exitTo id' k:=by simp[exitTo]
  exact⟨.exit id',a₁,w₁,hq,λk' hk=>.head h0 jl (harr.1 k' (by rw[hx]; exact hk)),
   λhr' hk=>let ⟨k₁,h1,h2⟩:=harr.2 hr' (by rw[hx]; exact hk); ⟨k₁,h1,.head h0 jl h2⟩⟩
 | goto l=>exact hq.elim
 | ret=>exact⟨_,a₁,w₁,hq,.of_steps (.one h0 jl) harr⟩
 | panic ch=>exact⟨_,a₁,w₁,hq,.of_steps (.one h0 jl) harr⟩
 | outgrown=>exact⟨_,a₁,w₁,hq,.of_steps (.one h0 jl) harr⟩
theorem rI {Bs:Heap->Gh->World->Prop} {call:bB} (hcall:eO cx Bs call) (hb0:Bs H0 gs ws) (horc:lK cx) {F:Fence} {n:Nat} (hF:iL F) (hmx:cx.P.follows .mixedOrders=true) {f:Nat} {ops:Array Oper} {k:E->St->Option R} {r:R} {Q:Exit->Act->World->Prop}
  (hg:Good cx N mb lo H0 gs ws w0 s g a w) (h:yG cx call f lo N ops s k=some r)
  (hk:∀ s' g' a' w',Good cx N mb lo H0 gs ws w0 s' g' a' w'->k .normal s'=some r->Q .normal a' w')
  (hp:∀ x s' g' a' w' c,Good cx N mb lo H0 gs ws w0 s' g' a' w'->VR s'.H g' w' x c->k (.pan x) s'=some r->Q (.panic [{ v:=c,recovered:=false }]) a' w'):LW F n cx.P ops Q a w:=by
 unfold yG at h;obtain ⟨hd,h⟩:=bJ h;have hd':∀ o∈ops.toList,∀ d,o.dst=some d->d<N:=λo ho d hod=>by
  have:=qak.1 hd o ho;rw[hod] at this; simpa using this
 cases hci:MI cx ops with
 | some c=>
  rw[hci] at h;exact(Au (f:=f) hcall hb0 horc hF hmx hg hd' h hk hp)
 | none=>
 rw[hci] at h;replace h:=bJ h;obtain ⟨jT,h⟩:=h;replace h:=bN h;obtain ⟨m,hm,h⟩:=h;have hmt:gE ops m=true:=by
  unfold td at hm;exact List.find?_some hm
 rw[bP] at h;split at h
 ·have htk:∀ j o,(ops.toList.take m)[j]? = some o->ops[0+j]? = some o:=λj o ho=>by
   rw[qaA] at ho;split at ho
   ·rw[qaU]; rw[qaZ] at ho; exact ho
   ·cases ho
  have hm2:m<=ops.size:=by
   simp only[gE,Z9,qag] at hmt;exact hmt.1.1
  have htl:(ops.toList.take m).length=m:=by rw[qba]; simp; omega
  rw[bP] at h;split at h
  ·rename_i hch;exact(qx (f:=f) (m:=m) hcall hb0 horc hF hmx jT hmt (λi j h1 h2 h3 h4 _ _=>B9 hch h1 h2 h3 h4) Ok.none hg hd' (λs h=>jV _ _ _ h) h hk hp)
  obtain ⟨hch,h⟩:=bJ h;obtain ⟨fl,H1,h,hfl,_,hno⟩:=qE (ops:=ops) (m:=m) (ops.toList.take m) 0 s.H _ htk o3 h;have hnf:∀ {i},i<m->du i fl=none->vz cx f ops i=false:=λ{i} hi hn=>hno i hn (qav _) o3;exact(qx (f:=f) (m:=m) hcall hb0 horc hF hmx jT hmt (λi j h1 h2 h3 h4 h5 h6=>Ah hch h1 h2 h3 h4 (hnf o3 h5) (hnf h1 h6)) hfl hg hd' (λs h=>jV _ _ _ h) h hk hp)
 exact(yE (f:=f) (m:=m) hcall hb0 horc hF hmx jT hmt hg hd' (qI (λs h=>jV _ _ _ h) (sK _ _ _ h)) hk hp)
theorem en {Bs:Heap->Gh->World->Prop} {call:bB} {rg:bB->bB} (hcall:eO cx Bs call) (hrg:tU cx rg) (horc:lK cx) (hmx:cx.P.follows .mixedOrders=true) {nf f:Nat}:∀ (c:Code) (F:Fence) (n:Nat) (mb:Mb) (w0:World) (r:R) (H0:Heap) (gs:Gh) (ws:World) (k:E->St->Option R) (Q:Exit->Act->World->Prop) (s:St) (g:Gh) (a:Act) (w:World),iL F->((F.round=none/\mb.free=true)∨kX c=true)->Bs H0 gs ws->Good cx N mb lo H0 gs ws w0 s g a w->qy cx call rg nf f lo N c s k=some r ->
  (∀ e e' s' g' a' w',Good cx N mb lo H0 gs ws w0 s' g' a' w'->ER s' g' w' e e'->k e s'=some r->Q e' a' w')->c.wpIn F n cx.P Q a w
 | .skip,F,n,mb,w0,r,H0,gs,ws,k,Q,s,g,a,w,hF,hro,hb0,hg,h,hk=>wpIn_skip (hk .normal .normal _ _ _ _ hg trivial h)
 | .label l,F,n,mb,w0,r,H0,gs,ws,k,Q,s,g,a,w,hF,hro,hb0,hg,h,hk=>wpIn_label (hk .normal .normal _ _ _ _ hg trivial h)
 | .region id ops draw,F,n,mb,w0,r,H0,gs,ws,k,Q,s,g,a,w,hF,hro,hb0,hg,h,hk=>by
  rw[qy] at h;obtain ⟨s,g1,hg,h⟩:=Good.HB _ hg h;replace h:=bJ h;obtain ⟨hd,h⟩:=h;have hd':∀ o∈ops.toList,∀ d,o.dst=some d->d<N:=λo ho d hod=>by
   have:=qak.1 hd o ho;rw[hod] at this; simpa using this
  cases draw with
  | false=>
   exact wpIn_region_list (g7 (f:=f) (ops:=ops) hcall hb0 horc hF (λs' g' a' w' hg' h'=>hk .normal .normal _ _ _ _ hg' trivial h') (λx s' g' a' w' c hg' hv h'=>hk (.pan x) (.panic _) _ _ _ _ hg' ⟨c,rfl,hv⟩ h') _ s g1 a w hd' hg (jV _ _ _ h))
  | true=>
   simp only[qaa] at h;refine(rI (f:=f) hcall hb0 horc hF hmx hg (k:=k) ?_ (λs' g' a' w' hg' h'=>hk .normal .normal _ _ _ _ hg' trivial h') (λx s' g' a' w' c hg' hv h'=>hk (.pan x) (.panic _) _ _ _ _ hg' ⟨c,rfl,hv⟩ h')).wpIn;unfold yG;rw[hd];exact h
 | .seq x y,F,n,mb,w0,r,H0,gs,ws,k,Q,s,g,a,w,hF,hro,hb0,hg,h,hk=>by
  rw[qy] at h;cases hj:cx.join f (yX x) with
  | cons j js=>
   rw[hj] at h;obtain ⟨r0,h0,h⟩:=bN (show ((qy cx call rg nf f lo N x s (LR (j :: js) s.H.length)).bind λr=>Fg r λl H=>aV l λt l=>Ja (j :: js) l λfr=>dP t (qy cx call rg nf f lo N y ⟨fr,H⟩ k) (k .ret ⟨fr,H⟩))=some r from h);refine qem (en hcall hrg horc hmx x F n mb w0 r0 s.H g w _ _ s g a w hF (sR hro).1 (hcall.up _ _ _ _ _ _ hb0 hg.ext) ⟨hg.sr,Ext.refl hg.sr.rel,qab _,λ_ _ _=>rfl,hg.siz,hg.dfr,hg.mbw,rfl⟩ h0 λe e' s' g' a' w' hg2 he h'=>?_);have hg':Good cx N mb lo H0 gs ws w0 s' g' a' w':=⟨hg2.sr,hg.ext.trans hg2.ext,qaC hg.len hg2.len,λb hb hb'=>(hg2.low b hb (qaz hb' hg.len)).trans (hg.low b hb hb'),hg2.siz,hg2.dfr,hg2.mbw,hg2.st.trans hg.st⟩
   cases e with
   | normal=>
    obtain ⟨s3,g3,h3,hg3,_⟩:=hg'.A1 (keep:=j :: js) hg.len hg2.len (show rQ (j :: js) s.H.length s' (λs=>some (.ret (.tup (.v (.bool true) :: (j :: js).map (look s.fr))),s.H))=some r0 from h');have hr:(Out.ret (.tup (.v (.bool true) :: (j :: js).map (look s3.fr))),s3.H)=r0:=qcm h3;subst hr;have h2:Ja (j :: js) ((j :: js).map (look s3.fr)) (λfr=>qy cx call rg nf f lo N y ⟨fr,s3.H⟩ k)=some r:=h;rw[zC] at h2;cases e'<;>first
     | exact en hcall hrg horc hmx y F n mb w0 r H0 gs ws k Q (ef (j :: js) s3) g3 a' w' hF (sR hro).2 hb0 hg3.ef h2 hk
     | exact he.elim
   | ret=>
    obtain ⟨s3,g3,h3,hg3,_⟩:=hg'.A1 (keep:=j :: js) hg.len hg2.len (show rQ (j :: js) s.H.length s' (λs=>some (.ret (.tup (.v (.bool false) :: (j :: js).map (look s.fr))),s.H))=some r0 from h');have hr:(Out.ret (.tup (.v (.bool false) :: (j :: js).map (look s3.fr))),s3.H)=r0:=qcm h3;subst hr;have h2:Ja (j :: js) ((j :: js).map (look s3.fr)) (λfr=>k .ret ⟨fr,s3.H⟩)=some r:=h;rw[zC] at h2;cases e'<;>first
     | exact hk .ret .ret (ef (j :: js) s3) g3 a' w' hg3.ef trivial h2
     | exact he.elim
   | _=>cases h'
  | nil=>
  rw[hj] at h;replace h:qy cx call rg nf f lo N x s (λe s'=>match e with | .normal=>qy cx call rg nf f lo N y s' k | e=>k e s')=some r:=h;refine qem (en hcall hrg horc hmx x F n mb w0 r H0 gs ws _ _ s g a w hF (sR hro).1 hb0 hg h λe e' s' g' a' w' hg' he h'=>?_);cases e with
  | normal=>cases e'<;>first
    | exact en hcall hrg horc hmx y F n mb w0 r H0 gs ws k Q s' g' a' w' hF (sR hro).2 hb0 hg' h' hk
    | exact he.elim
  | exit i=>cases e'<;>first
    | exact hk _ _ _ _ _ _ hg' he h'
    | exact he.elim
  | goto i=>cases e'<;>first
    | exact hk _ _ _ _ _ _ hg' he h'
    | exact he.elim
  | ret=>cases e'<;>first
    | exact hk _ _ _ _ _ _ hg' he h'
    | exact he.elim
  | pan x=>cases e'<;>first
    | exact hk _ _ _ _ _ _ hg' he h'
    | exact he.elim
 | .cond c x y,F,n,mb,w0,r,H0,gs,ws,k,Q,s,g,a,w,hF,hro,hb0,hg,h,hk=>by
  rw[qy] at h;obtain ⟨b,hv,h⟩:=EB h (qY (x:=c) (λt _=>hg.sr.fr t) hg.sr.gl);refine wpIn_cond hv ?_;cases b
  ·exact en hcall hrg horc hmx y F n mb w0 r H0 gs ws k Q s g a w hF (sR hro).2 hb0 hg h hk
  ·exact en hcall hrg horc hmx x F n mb w0 r H0 gs ws k Q s g a w hF (sR hro).1 hb0 hg h hk
 | .block id c,F,n,mb,w0,r,H0,gs,ws,k,Q,s,g,a,w,hF,hro,hb0,hg,h,hk=>by
  rw[qy] at h;refine wpIn_block (en hcall hrg horc hmx c F n mb w0 r H0 gs ws _ _ s g a w hF hro hb0 hg h λe e' s' g' a' w' hg' he h'=>?_);cases e with
  | exit i=>cases e' with
   | exit j=>
    obtain rfl:i=j:=he;simp only[Exit.inBlock]
    simp only[bP] at h';split at h'
    ·rename_i hij;rw[qaf (by simpa using hij)];exact hk .normal .normal _ _ _ _ hg' trivial h'
    ·rename_i hij;rw[qah (by simpa using hij)];exact hk (.exit i) (.exit i) _ _ _ _ hg' rfl h'
   | _=>exact he.elim
  | normal=>cases e'<;>first
    | exact hk _ .normal _ _ _ _ hg' he h'
    | exact he.elim
  | goto i=>cases e'<;>first
    | exact hk _ (.goto _) _ _ _ _ hg' he h'
    | exact he.elim
  | ret=>cases e'<;>first
    | exact hk _ .ret _ _ _ _ hg' he h'
    | exact he.elim
  | pan x=>cases e'<;>first
    | exact hk _ (.panic _) _ _ _ _ hg' he h'
    | exact he.elim
 | .scope c,F,n,mb,w0,r,H0,gs,ws,k,Q,s,g,a,w,hF,hro,hb0,hg,h,hk=>by
  rw[qy] at h;have hro':(F.round=none/\mb.free=true)∨kX c=true:=by
   rcases hro with h1 | h1
   ·exact .inl h1
   ·cases h1
  refine CR (en hcall hrg horc hmx c F n mb w0 r H0 gs ws _ _ s g a w hF hro' hb0 hg h λe e' s' g' a' w' hg' he h'=>?_);cases e with
  | exit i=>cases e'<;>first
    | exact hk _ (.exit _) _ _ _ _ hg' he h'
    | exact he.elim
  | normal=>cases e'<;>first
    | exact hk _ .normal _ _ _ _ hg' he h'
    | exact he.elim
  | goto i=>cases h'
  | ret=>cases e'<;>first
    | exact hk _ .ret _ _ _ _ hg' he h'
    | exact he.elim
  | pan x=>cases e'<;>first
    | exact hk _ (.panic _) _ _ _ _ hg' he h'
    | exact he.elim
 | .loop c,F,n,mb,w0,r,H0,gs,ws,k,Q,s,g,a,w,hF,hro,hb0,hg,h,hk=>by
  rw[qy] at h;unfold IZ at h;have hrst:=uF lo (cx.acts f (cK c)) (ef (cx.keep f (cK c)) s);obtain ⟨g0,hg0,hl0⟩:=hg.ef (keep:=cx.keep f (cK c)) |>.acts (cx.acts f (cK c))
  have rounds:∀ (m:Nat) (s':St) (g':Gh) (a':Act) (w':World),Good cx N mb lo H0 gs ws w0 s' g' a' w'->(fa lo (cx.acts f (cK c)) (ef (cx.keep f (cK c)) s)).H.length<=s'.H.length->iter lo (cx.keep f (cK c)) (cx.acts f (cK c)) (fa lo (cx.acts f (cK c)) (ef (cx.keep f (cK c)) s)).H.length (λs k=>qy cx call rg nf f lo N c s k) (λi s=>k (.exit i) s) (λl s=>k (.goto l) s) (λs=>k .ret s) (λa s=>k (.pan a) s) m s'=some r->Code.roundsIn F n cx.P c Q m a' w':=by
   intro m
   induction m with
   | zero=>intro s' g' a' w' _ _ h; cases h
   | succ m ih=>
    intro s1 g1 a' w' hg1 hl h;rw[iter] at h;rw[roundsIn_succ];refine en hcall hrg horc hmx c F n mb w0 r s1.H g1 w' _ _ s1 g1 a' w' hF hro (hcall.up _ _ _ _ _ _ hb0 hg1.ext) ⟨hg1.sr,Ext.refl hg1.sr.rel,qab _,λ_ _ _=>rfl,hg1.siz,hg1.dfr,hg1.mbw,rfl⟩ h λe e' s2 g2 a2 w2 hg2 he h2=>?_;have hg3:Good cx N mb lo H0 gs ws w0 s2 g2 a2 w2:=⟨hg2.sr,hg1.ext.trans hg2.ext,qaC hg1.len hg2.len,λb hb hb'=>(hg2.low b hb (qaz hb' hg1.len)).trans (hg1.low b hb hb'),hg2.siz,hg2.dfr,hg2.mbw,hg2.st.trans hg1.st⟩
    have hlen2:(fa lo (cx.acts f (cK c)) (ef (cx.keep f (cK c)) s)).H.length<=s2.H.length:=by have:=hg2.len; omega
    have hg4:Good cx N mb lo H0 gs ws w0 (ef (cx.keep f (cK c)) s2) g2 a2 w2:=hg3.ef;cases e with
    | normal=>cases e'<;>first
      | (obtain ⟨s3,g3,h3,hg5,hl5⟩:=hg3.norm hg.len hl0 hrst hlen2 h2
         exact ih s3 g3 a2 w2 hg5 o3 h3)
      | exact he.elim
    | exit i=>cases e'<;>first
      | exact hk (.exit i) (.exit _) _ _ _ _ hg4 he h2
      | exact he.elim
    | goto i=>cases e'<;>first
      | exact hk (.goto i) (.goto _) _ _ _ _ hg4 he h2
      | exact he.elim
    | ret=>cases e'<;>first
      | exact hk .ret .ret _ _ _ _ hg4 he h2
      | exact he.elim
    | pan x=>cases e'<;>first
      | exact hk (.pan x) (.panic _) _ _ _ _ hg4 he h2
      | exact he.elim
  exact wpIn_loop_rounds nf (rounds nf (ef (cx.keep f (cK c)) (fa lo (cx.acts f (cK c)) (ef (cx.keep f (cK c)) s))) g0 a w hg0.ef (qab _) h)
 | .exit id,F,n,mb,w0,r,H0,gs,ws,k,Q,s,g,a,w,hF,hro,hb0,hg,h,hk=>wpIn_exit (hk (.exit id) (.exit id) _ _ _ _ hg rfl h)
 | .goto l,F,n,mb,w0,r,H0,gs,ws,k,Q,s,g,a,w,hF,hro,hb0,hg,h,hk=>wpIn_goto (hk (.goto l) (.goto l) _ _ _ _ hg rfl h)
 | .ret,F,n,mb,w0,r,H0,gs,ws,k,Q,s,g,a,w,hF,hro,hb0,hg,h,hk=>wpIn_ret (hk .ret .ret _ _ _ _ hg trivial h)
 | .rangeFunc gop ps asg body,F,n,mb,w0,r,H0,gs,ws,k,Q,s,g,a,w,hF,hro,hb0,hg,h,hk=>by
  rw[qy] at h;unfold pK at h;obtain ⟨g,hg,_⟩:=hg.acts (cx.acts f (CJ body));generalize fa lo (cx.acts f (CJ body)) s=s at h hg;obtain ⟨⟨gf,cap⟩,hfn,h⟩:=bN h;obtain ⟨jT,h⟩:=bJ h;obtain ⟨⟨out,H2⟩,hcl,h⟩:=bN h;simp only[Z9] at jT;obtain ⟨⟨⟨c2,c3⟩,c4⟩,c1⟩:=jT;have hlo:lo<=s.H.length:=by simpa [qcQ] using c1
  obtain ⟨hro,hfree⟩:F.round=none/\mb.free=true:=hro.elim id (λh=>by cases h);obtain ⟨hcb,es,hgv,hcv⟩:=EV hfn (qY (x:=gop) (λt _=>hg.sr.fr t) hg.sr.gl);refine wpIn_rangeFunc ?_;intro fn hfnF;rw[hro];obtain ⟨rec0,hrec⟩:∃ rec0:Loop,rec0={ state:=.ready,pending:=none,fn:=fn,tmps:=a.tmps,params:=ps,assign:=asg,body:=body,defers:=w.heap.size }:=⟨_,rfl⟩
  have hrr:kN rec0 .ready=rec0:=by rw[hrec]; rfl
  obtain ⟨W1,hW1⟩:∃ W1,(w.alloc (.deferred (some []))).alloc (.loop rec0)=W1:=⟨_,rfl⟩
  obtain ⟨hr1,he1⟩:=hg.sr.rel.begin rec0 hrr;rw[hW1] at hr1 he1;obtain ⟨g1,hg1⟩:∃ g1,(g.DV s.H.length rec0).put s.H.length (some (w.heap.size+1)) []=g1:=⟨_,rfl⟩
  have hmu1:g1.mu s.H.length=some (w.heap.size+1):=by rw[<-hg1]; exact Gh.bQ _ _ _ _
  have hlr1:g1.lr s.H.length=rec0:=by rw[<-hg1]; simp[Gh.put,Gh.DV]
  have hst1:g1.S=g.S:=by rw[<-hg1]; rfl
  rw[hg1] at hr1 he1;have hB1:(s.H++[aA.rng .ready])[s.H.length]? = some (.rng .ready):=r8;have hsz1:W1.heap.size=w.heap.size+2:=by rw[<-hW1]; simp
  have hD1:W1.heap[w.heap.size]? = some (.deferred (some [])):=by
   rw[<-hW1]; exact(Below.heap_alloc _ _ _ r8).trans (qdg w _)
  have hfr1:∀ t,VR s.H g w (look (ef (cx.keep f (CJ body)) s).fr t) (a.tmps.getD t undef):=λt=>(hg.ef (keep:=cx.keep f (CJ body))).sr.fr t;have hy:rl cx (λH g w=>Bs H g w/\Ext (s.H++[.rng .ready]) g1 W1 H g w) (wV cx.P.funcs.size call s.H.length (roundOf (λs k=>qy cx call rg nf f lo N asg s k) (λs k=>qy cx call rg nf f lo N body s k) lo s.H.length ps.toList (ef (cx.keep f (CJ body)) s).fr)):=by
   refine⟨λH g w H' g' w' hb he=>⟨hcall.up _ _ _ _ _ _ hb.1 he,hb.2.trans he⟩,λb args H lo' r' hy F' n' l g' w0' w' cargs hF' hb hr' hgl' hv' hmu'=>?_⟩;unfold wV at hy;rw[bP] at hy;split at hy
   ·rename_i hbb;have hbb:b=s.H.length:=by have:=qan hbb; omega
    subst hbb;have hB':∃ st,H[s.H.length]? = some (.rng st):=by
     obtain ⟨B',hB',ht⟩:=hb.2.blk _ _ hB1;cases B' with
     | rng st=>exact⟨st,hB'⟩
     | dead=>have h1:=hr'.blk _ _ hB'; rw[show g'.mu s.H.length=none from h1] at hmu'; cases hmu'
     | box _=>exact ht.elim
     | mp _ _ _=>exact ht.elim
     | hole=>exact ht.elim
     | row wr _ _=>cases wr<;>exact ht.elim
    obtain ⟨st',hB'⟩:=hB';obtain ⟨m1,m2⟩:=hb.2.ND hB1 hB';have hex:=he1.trans hb.2;exact Bh (rec0:=rec0) (Bs:=Bs)
     (λF n mb w0 r H0 gs ws k Q s g a w hF hb0 hg h hk=>en hcall hrg horc hmx asg F n mb w0 r H0 gs ws k Q s g a w hF (.inr c3) hb0 hg h hk)
     (λF n mb w0 r H0 gs ws k Q s g a w hF hb0 hg h hk=>en hcall hrg horc hmx body F n mb w0 r H0 gs ws k Q s g a w hF (.inr c4) hb0 hg h hk)
     c2 hlo (by rw[hrec]) (by rw[hrec]) (by rw[hrec]) (by rw[hrec]; exact hg.siz) hy hF' hr' hb.1 hgl' (λt=>by rw[hrec]; exact VR.ext hex _ _ (hfr1 t)) (m2.trans hlr1) hv' hmu'
   ·exact hcall.yl b args H lo' r' hy F' n' l g' w0' w' cargs hF' hb.1 hr' hgl' hv' hmu'
  have hv1:bL (s.H++[.rng .ready]) g1 W1 (.yld s.H.length :: cap) (.func (.yield (w.heap.size+1)) #[] #[] :: es.toList):=by
   rw[bL];refine⟨_,_,rfl,?_,bL.ext he1 _ _ hcv⟩;rw[VR,hB1];exact⟨_,hmu1,rfl⟩
  have hgl1:∀ (G:Nat) (vs:List Value),cx.glob G=some vs->bS (s.H++[.rng .ready]) g1 W1 G 0 vs:=λG vs hG=>(hg.sr.gl G vs hG).ext he1;have hci:=(hrg _ _ hy).fn gf _ _ lo (out,H2) (kz hcb) hcl F (n - 1) g1 w0 W1 _ hF hro ⟨hcall.up _ _ _ _ _ _ hb0 (hg.ext.trans he1),Ext.refl hr1⟩ hr1 hgl1 hv1;refine⟨w.heap.size+1,[{ target:=.collected w.heap.size,args:=#[] }],W1,{ target:=.fn (.func gf) es,args:=#[.func (.yield (w.heap.size+1)) #[] #[]] },W1,gf,
   #[.func (.yield (w.heap.size + 1)) #[] #[]] ++ es, W1, ?_, ?_, ?_, ?_, λh => (by rw [hF.1] at h; cases h), ?_⟩
  ·rw[<-hW1,hrec]; exact run_enterLoop_outer _ _ _ _ _
  ·simp only[resolve,hgv]
   simp[go_sem]
  ·intro f' _; exact hF.2.1 f'
  ·simp[invoke,rB hcb]
  ·have ea:(Value.func (.yield (w.heap.size+1)) #[] #[] :: es.toList).toArray=#[.func (.yield (w.heap.size+1)) #[] #[]]++es:=by apply qcc; simp
   rw[<-ea];refine hci.mono ?_
   rintro e W2 ⟨g2,e1,e2,e3,e4,e6,e5⟩
   cases out with
   | pan x=>cases h
   | ret x=>
    cases e with
    | panicked _=>exact e5.elim
    | outgrown=>exact e5.elim
    | returned c=>
     have fin:∀ (st:ku) (e:E),st≠.busy->H2[s.H.length]? = some (.rng st)->k e ⟨s.fr,H2.set s.H.length .dead⟩=some r ->
       ∃ W3,(Instr.endLoop (w.heap.size+1)).run cx.P W2=.ok (kN rec0 st).pending W3/\∃ g3,Good cx N mb lo H0 gs ws w0 ⟨s.fr,H2.set s.H.length .dead⟩ g3 { a with defers:={ target:=.collected w.heap.size,args:=#[] } :: a.defers } W3:=λst e hnb hB2 h=>by
      obtain ⟨m1,m2⟩:=e2.ND hB1 hB2;obtain ⟨l2,hl2,hw2⟩:=e1.blk _ _ hB2;rw[m1,hmu1] at hl2; cases hl2;rw[m2,hlr1] at hw2;have hel:=run_endLoop (P:=cx.P) hw2 (by cases st<;>first | (intro h; cases h; done) | exact absurd rfl hnb);obtain ⟨p1,p2⟩:=e1.rng hB2 .dead none (.loop { kN rec0 st with state:=.exhausted }) (m1.trans hmu1) hw2 (.inr ⟨rfl,rfl⟩);have hex:=he1.trans (e2.trans p2);have hlen:s.H.length<=H2.length:=by have:(s.H++[aA.rng .ready]).length<=H2.length:=e3; simp at this; omega
      refine⟨_,hel,_,⟨p1,λt=>VR.ext hex _ _ (hg.sr.fr t),λG vs hG=>(hg.sr.gl G vs hG).ext hex⟩,hg.ext.trans hex,by simp; exact qaC hg.len hlen,λc hc hc'=>?_,hg.siz,?_,qaC hg.mbw hex.size,?_⟩
      ·have hcs:c<s.H.length:=qaz hc' hg.len;show (H2.set s.H.length .dead)[c]? = _;rw[qao o3,e4 c hc r9,qat hcs];exact hg.low c hc hc'
      ·obtain ⟨ms,q1,q2,q3⟩:=hg.dfr;refine⟨_ :: ms,by show _ :: a.defers=_; rw[q1]; rfl,Marks.cons (q2.n7 hex.kept) hg.mbw ((e2.trans p2).kept _ _ hD1) (λr hr=>?_),λh=>by rw[hfree] at h; cases h⟩;have:=q2.lt hr;omega
      ·show g2.S=gs.S;rw[e6,hst1]; exact hg.st
     replace h:CK s.H.length H2 (λe H=>k e ⟨s.fr,H⟩)=some r:=h;unfold CK ra at h;split at h
     ·rename_i hB2;obtain ⟨W3,hel,g3,hg3⟩:=fin .ready .normal r8 hB2 h;exact⟨none,W3,hel,hk .normal .normal _ _ _ _ hg3 trivial h⟩
     ·rename_i i hB2;obtain ⟨W3,hel,g3,hg3⟩:=fin (.done (.exit i)) (.exit i) r8 hB2 h;exact⟨some (.exit i),W3,hel,wpIn_exit (hk (.exit i) (.exit i) _ _ _ _ hg3 rfl h)⟩
     ·rename_i i hB2;obtain ⟨W3,hel,g3,hg3⟩:=fin (.done (.goto i)) (.goto i) r8 hB2 h;exact⟨some (.goto i),W3,hel,wpIn_goto (hk (.goto i) (.goto i) _ _ _ _ hg3 rfl h)⟩
     ·rename_i hB2;obtain ⟨W3,hel,g3,hg3⟩:=fin (.done .ret) .ret r8 hB2 h;exact⟨some .ret,W3,hel,wpIn_ret (hk .ret .ret _ _ _ _ hg3 trivial h)⟩
     ·cases h
 | .refuse _,F,n,mb,w0,r,H0,gs,ws,k,Q,s,g,a,w,hF,hro,hb0,hg,h,hk=>by cases h
theorem Cs (args:List A) (t:Nat):look (frame args) t=(args[t]?).getD .any:=by
 have gen:∀ (args:List A) (i t:Nat),look ((args.zipIdx i).map λp=>(p.2,p.1)) t=if i<=t then (args[t - i]?).getD .any else .any:=by
  intro args
  induction args with
  | nil=>intro i t; simp[look]
  | cons x r ih=>
   intro i t;rw[List.zipIdx_cons,qbc,fI,ih];by_cases e:i=t
   ·subst e; simp
   ·rw[qah e];by_cases hlt:i<t
    ·rw[qaf o3,qaf o3];rw[show t - i=(t - (i+1))+1 by omega,qbC]
    ·rw[qah o3,qah o3]
 have:=gen args 0 t;simpa [frame] using this
theorem wJ {P:Program} {t:TypeId} {c d:Value} (h:(Instr.loadAt t c).run P w=.ok d w):(do loadVar t (<-asAddr c):Sem Value).run P w=.ok d w:=by
 unfold Instr.loadAt at h;cases c with
 | pointer p=>cases p with
  | some p=>simpa [Instr.sureAddr,asAddr] using h
  | none=>simp[Instr.sureAddr,stuck,Sem.run,Result.andThen] at h
 | _=>simp[Instr.sureAddr,stuck,Sem.run,Result.andThen] at h
def M9 (tmps:Array Value):ResultVar->Sem Value
 | .tmp t=>pure (tmps.getD t undef)
 | .cell a t=>do loadVar t (<-asAddr (tmps.getD a undef))
theorem rJ (hs:SR cx s g w0 a w) {r:ResultVar} {x:A} (h:u0 cx s r=some x):∃ c,(M9 a.tmps r).run cx.P w=.ok c w/\VR s.H g w x c:=by
 cases r with
 | tmp t=>cases h; exact⟨_,rfl,hs.fr t⟩
 | cell b t=>
  obtain ⟨d,h1,h2⟩:=tq hs.rel h (hs.fr b);exact⟨d,wJ h1,h2⟩
theorem rK (hs:SR cx s g w0 a w):∀ {rs:List ResultVar} {xs:List A},qJ cx s rs=some xs->∃ cs:List Value,(rs.mapM (M9 a.tmps)).run cx.P w=.ok cs w/\bL s.H g w xs cs/\cs.length=rs.length
 | [],xs,h=>by simp only[qJ,qaG] at h; subst h; exact⟨[],r8,An,rfl⟩
 | r :: rs,xs,h=>by
  rw[qJ] at h;obtain ⟨y,hy,h⟩:=bN h;obtain ⟨ys,hys,h⟩:=bN h;cases h;obtain ⟨c,h1,h2⟩:=rJ hs hy;obtain ⟨cs,h3,h4,h5⟩:=rK hs hys;refine⟨c :: cs,?_,by rw[bL]; exact⟨c,cs,rfl,h2,h4⟩,by simp[h5]⟩;rw[List.mapM_cons,qa1,h1];simp only[qaT,qa1,h3,qcx]
theorem CH (fn:Func) (tmps:Array Value):results fn tmps=(do let vs <-fn.results.mapM (M9 tmps); pure (if h:vs.size=1 then vs[0] else .tuple vs)):=by
 unfold results;congr 1
theorem As (hs:SR cx s g w0 a w) {fn:Func} {x:A} (h:DB cx fn s=some x):∃ c,(results fn a.tmps).run cx.P w=.ok c w/\VR s.H g w x c:=by
 rw[CH,Array.mapM_eq_mapM_toList];unfold DB at h;split at h
 ·rename_i r hr;obtain ⟨c,h1,h2⟩:=rJ hs h;refine⟨c,?_,h2⟩;rw[hr];simp[h1]
 ·rename_i hne;obtain ⟨xs,hxs,h⟩:=bN h;cases h;obtain ⟨cs,h1,h2,h3⟩:=rK hs hxs;refine⟨.tuple cs.toArray,?_,by rw[VR]; exact⟨_,rfl,by simpa using h2⟩⟩;have hn1:cs.length≠1:=λh1'=>by
   obtain ⟨r,hr⟩:=List.length_eq_one_iff.1 (show fn.results.toList.length=1 by omega);exact hne r hr
  simp[h1,hn1]
theorem uK {k m:Nat} (h:k<m):Nat.ble m k=false:=by
 cases hb:Nat.ble m k with
 | false=>rfl
 | true=>rw[qcQ] at hb; omega
theorem Good.calm (hg:Good cx N mb lo H0 gs ws w0 s g a w) {B:Nat} (hB:ws.heap.size<=B) (hb:w0.heap.size<=B) (hc:eH B w w') (hl:∀ (k:Nat) (o:Loop),w.heap[k]? = some (.loop o)->w'.heap[k]? = some (.loop o)) (fr:Bool):Good cx N ⟨0,a.defers,fr⟩ lo H0 gs ws w0 s g a w':=
 have h0:=hg.sr.rel.Af hc
 ⟨⟨hg.sr.rel.calm hb hc hl,λt=>VR.gh h0 _ _ (hg.sr.fr t),λG vs hG=>(hg.sr.gl G vs hG).gh h0⟩,hg.ext.calm hg.sr.rel hB hc,hg.len,hg.low,hg.siz,jP.start _ _ _ _,qav _,hg.st⟩
theorem Ad {fn:Func} {f:Nat} {r:R} (hg:Good cx N mb lo H0 gs ws w0 s g a w) (h:(pK (fa lo (cx.acts f 3000000) s) λs=>nY cx fn s)=some r):∃ v,(results fn a.tmps).run cx.P w=.ok v w/\iJ H0 gs w0 ws lo r (.returned v) w:=by
 obtain ⟨g1,hg',_⟩:=Good.acts (cx.acts f 3000000) hg;replace h:nY cx fn (fa lo (cx.acts f 3000000) s)=some r:=h;generalize fa lo (cx.acts f 3000000) s=s' at hg' h;obtain ⟨x,hx,hrx⟩:=bN ((EU cx fn s').symm.trans h);cases hrx;obtain ⟨v,h1,h2⟩:=As hg'.sr hx;exact⟨v,h1,g1,hg'.sr.rel,hg'.ext,hg'.len,hg'.low,hg'.st,h2⟩
theorem vl {args:List A} {cargs:List Value} {m:Nat} (hv:bL H g w args cargs):∀ t,VR H g w (look (frame args) t) ((cargs.toArray++Array.replicate m undef).getD t undef):=λt=>by
 rw[Cs,qbf];cases ha:args[t]? with
 | none=>rw[Option.getD_none,VR]; trivial
 | some x=>
  obtain ⟨d,hd,hvd⟩:=hv.get ha;rw[qbK (by simpa using (qad.1 hd).1)];simp[hd];exact hvd
theorem Bf:∀ {l:List Oper} {b i d:Nat},recAt b l=some (i,d)->b<=i
 | [],b,i,d,h=>by cases h
 | o :: os,b,i,d,h=>by
  unfold recAt at h;split at h
  ·cases h; exact qab _
  ·have:=Bf h; omega
theorem vU:∀ {l:List Oper} {b i d:Nat},recAt b l=some (i,d)->∃ o,l[i - b]? = some o/\oe o=some d
 | [],b,i,d,h=>by cases h
 | o :: os,b,i,d,h=>by
  unfold recAt at h;split at h
  ·rename_i d' hd;cases h;exact⟨o,by rw[qc4]; rfl,hd⟩
  ·obtain ⟨o',h1,h2⟩:=vU h;have hb:b+1<=i:=Bf h;refine⟨o',?_,h2⟩;rw[show i - b=i - (b+1)+1 by omega];exact h1
theorem Ar {Bs:Heap->Gh->World->Prop} {call:bB} {rg:bB->bB} (hcall:eO cx Bs call) (hrg:tU cx rg) (horc:lK cx) (hmx:cx.P.follows .mixedOrders=true) {nf q lo:Nat} {cap:List A} {v:A} {H:Heap} {k:Heap->Option R} {r:R} (h:Aq cx call rg nf lo q cap v H k=some r) {F:Fence} {n:Nat} {g:Gh} {w0 w:World} {ccap:List Value} {u:FrameMode} {cv:Value}
  (hF:iL F) (hro:F.round=none) (hbs:Bs H g w) (hr:Rel H g w0 w) (hgl:∀ (G:Nat) (vs:List Value),cx.glob G=some vs->bS H g w G 0 vs) (hv:bL H g w cap ccap) (hcv:VR H g w v cv) (hu:u=.panicking [{ v:=cv,recovered:=false }]∨(u=.returning/\cv=.nilIface)) :
  CallsDIn F n cx.P q ccap.toArray u w λe u' w'=>(∃ x,e=.returned x)/\settle u'=.returning/\∃ H' g',Rel H' g' w0 w'/\Ext H g w H' g' w'/\H.length<=H'.length/\(∀ b,b<lo->b<H.length->H'[b]? = H[b]?)/\g'.S=g.S/\k H'=some r:=by
 unfold Aq at h;obtain ⟨fn,hfn,h⟩:=bN h;obtain ⟨c,hc,h⟩:=bN h;split at h
 ·rename_i id ops rest;split at h
  ·rename_i o os hops;obtain ⟨d,hd,h⟩:=bN h;obtain ⟨hchk,h⟩:=bJ h;simp only[WR,Z9,qag] at hchk;obtain ⟨⟨⟨hle,hdo⟩,hnr⟩,hre⟩:=hchk;have hres:fn.results=#[]:=by
    have:fn.results.toList=[]:=by simpa using hre
    apply qcc; simpa using this
   have hl:=hv.length;have hdst:o.dst=some d:=(pI (P:=cx.P) hd).1;have hd':∀ o∈ops.toList,∀ d,o.dst=some d->d<fn.ntmps:=λo ho d hod=>by
    have:=qak.1 hdo o ho;rw[hod] at this; simpa using this
   refine callsDIn_of_wpSIn hfn hc (hF.2.1 q) λc₀ cs hu0=>?_;obtain ⟨u',hset,hrec⟩:∃ u',settle u'=.returning/\(recoverD (c₀ :: cs)=some (cv,{ c₀ with mode:=u' } :: cs)∨(recoverD (c₀ :: cs)=none/\({ c₀ with mode:=u' } :: cs:List Frame)=c₀ :: cs/\cv=.nilIface)):=by
    rcases hu with hu | ⟨hu,hcn⟩
    ·refine⟨.panicking [{ v:=cv,recovered:=true }],rfl,.inl ?_⟩;have e:=hu0.trans hu;simp only[recoverD,e]
    ·refine⟨.returning,rfl,.inr ⟨?_,?_,hcn⟩⟩
     ·have e:=hu0.trans hu;simp only[recoverD,e]
     ·have:({ c₀ with mode:=.returning }:Frame)=c₀:=by rw[<-hu,<-hu0]
      rw[this]
   refine wpSIn_seq (th hops hd (λf=>hF.2.1 f) hro hrec ?_);have hsz:(ccap.toArray++Array.replicate (fn.ntmps - ccap.toArray.size) undef).size=fn.ntmps:=r9;have hdl:d<fn.ntmps:=hd' o (by rw[hops]; simp) d hdst;have hg0:Good cx fn.ntmps ⟨0,[],false⟩ lo H g w w0 ⟨(d,v) :: frame cap,H⟩ g (({ tmps:=ccap.toArray++Array.replicate (fn.ntmps - ccap.toArray.size) undef,defers:=[] }:Act).put (some d) cv) w:=by
    refine⟨⟨hr,λt=>?_,hgl⟩,Ext.refl hr,qab _,λ_ _ _=>rfl,by rw[Act.rV]; exact hsz,jP.start _ _ _ _,qav _,rfl⟩;show VR H g w (look ((d,v) :: frame cap) t) (slot _ t);rw[fI];split
    ·rename_i e; subst e; rw[gA (by rw[hsz]; exact hdl)]; exact hcv
    ·rename_i e; rw[eD (λe2=>e (by cases e2; rfl))]; exact vl hv t
   refine g7 (f:=q) (ops:=ops) hcall hbs horc hF (λs' g' a' w' hg' h'=>?_) (λx s' g' a' w' c hg' hvx h'=>by cases h') os _ g _ w (λo' ho'=>hd' o' (by rw[hops]; simp[ho'])) hg0 h;refine wpSIn_of_wpIn hro ?_;refine en hcall hrg horc hmx rest F n ⟨0,[],false⟩ w0 r H g w _ _ s' g' a' w' hF (.inr hnr) hbs hg' h' λe e' s2 g2 a2 w2 hg2 he h2=>?_;have hdf:a2.defers=[]:=by
    obtain ⟨ms,q1,_,q3⟩:=hg2.dfr;rw[q1,q3 rfl]; rfl
   have fin:∀ x:Value,k s2.H=some r->(∃ y:Value,Ending.returned x=.returned y)/\settle u'=.returning/\∃ H' g',Rel H' g' w0 w2/\Ext H g w H' g' w2/\H.length<=H'.length/\(∀ b,b<lo->b<H.length->H'[b]? = H[b]?)/\g'.S=g.S/\k H'=some r:=λx hk=>⟨⟨x,rfl⟩,hset,s2.H,g2,hg2.sr.rel,hg2.ext,hg2.len,hg2.low,hg2.st,hk⟩
   have hrs:(results fn a2.tmps).run cx.P w2=.ok (.tuple #[]) w2:=by simp[results,hres]
   cases e with
   | normal=>cases e'<;>first
     | exact⟨hdf,u',rfl,_,hrs,fin _ h2⟩
     | exact he.elim
   | ret=>cases e'<;>first
     | exact⟨hdf,u',rfl,_,hrs,fin _ h2⟩
     | exact he.elim
   | pan x=>cases h2
   | exit i=>cases h2
   | goto i=>cases h2
  ·cases h
 ·rename_i id ops;obtain ⟨⟨i0,d⟩,hra,h⟩:=bN h;obtain ⟨hchk,h⟩:=bJ h;simp only[WT,Z9,qag] at hchk;obtain ⟨⟨⟨⟨hle,hdl⟩,hok⟩,hna0⟩,hre⟩:=hchk;obtain ⟨o0,ho0,hd⟩:=vU hra;rw[Nat.sub_zero,qaZ] at ho0;have hna:o0.after=#[]:=by
   rw[ho0] at hna0;have:o0.after.toList=[]:=by simpa using hna0
   apply qcc; simpa using this
  have hres:fn.results=#[]:=by
   have:fn.results.toList=[]:=by simpa using hre
   apply qcc; simpa using this
  have hl:=hv.length;have hsz:(ccap.toArray++Array.replicate (fn.ntmps - ccap.toArray.size) undef).size=fn.ntmps:=r9;refine callsDIn_of_wpSIn hfn hc (hF.2.1 q) λc₀ cs hu0=>?_;obtain ⟨u',hset,hrec⟩:∃ u',settle u'=.returning/\(recoverD (c₀ :: cs)=some (cv,{ c₀ with mode:=u' } :: cs)∨(recoverD (c₀ :: cs)=none/\({ c₀ with mode:=u' } :: cs:List Frame)=c₀ :: cs/\cv=.nilIface)):=by
   rcases hu with hu | ⟨hu,hcn⟩
   ·refine⟨.panicking [{ v:=cv,recovered:=true }],rfl,.inl ?_⟩;have e:=hu0.trans hu;simp only[recoverD,e]
   ·refine⟨.returning,rfl,.inr ⟨?_,?_,hcn⟩⟩
    ·have e:=hu0.trans hu;simp only[recoverD,e]
    ·have:({ c₀ with mode:=.returning }:Frame)=c₀:=by rw[<-hu,<-hu0]
     rw[this]
  refine sd hmx ho0 hd hna hok (λf=>hF.2.1 f) hro (by rw[hsz]; exact hdl) hrec ?_;have hg0:Good cx fn.ntmps ⟨0,[],false⟩ lo H g w w0 ⟨(d,v) :: frame cap,H⟩ g (({ tmps:=ccap.toArray++Array.replicate (fn.ntmps - ccap.toArray.size) undef,defers:=[] }:Act).put (some d) cv) w:=by
   refine⟨⟨hr,λt=>?_,hgl⟩,Ext.refl hr,qab _,λ_ _ _=>rfl,by rw[Act.rV]; exact hsz,jP.start _ _ _ _,qav _,rfl⟩;show VR H g w (look ((d,v) :: frame cap) t) (slot _ t);rw[fI];split
   ·rename_i e; subst e; rw[gA (by rw[hsz]; exact hdl)]; exact hcv
   ·rename_i e; rw[eD (λe2=>e (by cases e2; rfl))]; exact vl hv t
  refine rI hcall hbs horc hF hmx hg0 h (λs2 g2 a2 w2 hg2 h2=>?_) (λx s' g' a' w' c hg' hvx h'=>by cases h');have hdf:a2.defers=[]:=by
   obtain ⟨ms,q1,_,q3⟩:=hg2.dfr;rw[q1,q3 rfl]; rfl
  have fin:∀ x:Value,k s2.H=some r->(∃ y:Value,Ending.returned x=.returned y)/\settle u'=.returning/\∃ H' g',Rel H' g' w0 w2/\Ext H g w H' g' w2/\H.length<=H'.length/\(∀ b,b<lo->b<H.length->H'[b]? = H[b]?)/\g'.S=g.S/\k H'=some r:=λx hk=>⟨⟨x,rfl⟩,hset,s2.H,g2,hg2.sr.rel,hg2.ext,hg2.len,hg2.low,hg2.st,hk⟩
  have hrs:(results fn a2.tmps).run cx.P w2=.ok (.tuple #[]) w2:=by simp[results,hres]
  exact⟨hdf,u',rfl,_,hrs,fin _ h2⟩
 ·cases h
theorem vC:∀ {os init:List Oper} {o:Oper},AV os=some (init,o)->os=init++[o]
 | [],_,_,h=>by cases h
 | [x],_,_,h=>by
  simp only[AV,qaG,qcU] at h;rw[<-h.1,<-h.2]; rfl
 | x :: y :: os,init,o,h=>by
  unfold AV at h;simp only[qa0] at h;obtain ⟨⟨i,o'⟩,h1,h2⟩:=h;cases h2;rw[vC h1]; rfl
theorem Ca {o:Oper} {q:Nat} {cap:List A} (h:GR cx s o=some (q,cap)) (hs:SR cx s g w0 a w):o.guard=none/\o.dst=none/\dk cx.P q=true/\∃ es:Array Value,bL s.H g w cap es.toList/\(execOp a.eval o).run cx.P w=.ok (.defer { target:=.fn (.func q) es,args:=#[] }) w:=by
 unfold GR at h;split at h
 ·rename_i c ho;split at h
  ·rename_i gop hcal hargs;split at h
   ·rename_i q' cap' hop;obtain ⟨hc,h⟩:=bJ h;cases h;simp only[WN,Z9] at hc;have hvr:=qY (cx:=cx) (x:=gop) (λt _=>hs.fr t) hs.gl;rw[hop,VR] at hvr;obtain ⟨ds,es,e1,e2,e3⟩:=hvr;rw[bL] at e2;have hds:ds=#[]:=by apply qcc; simpa using e2
    subst hds;have hca:c.args=#[]:=by apply qcc; simpa using hargs
    refine⟨nB hc.1.2,by simpa using hc.2,hc.1.1,es,e3,?_⟩;unfold execOp;rw[ho];simp[resolve,hcal,e1,Deferred.ofValue,hca]
   ·cases h
  ·cases h
 ·cases h
theorem Rel.insert (hr:Rel H g w0 w) {b es:Nat} {els:List (List A)} (hB:H[b]? = some (.row true es els)) {w':World} (hbl:Below 0 w w') (hsame:∀ j,j<w.heap.size->w'.heap[j]? = w.heap[j]?∨(g.mu b=some j/\∃ arr ty fr,w.heap[j]? = some (.cells arr ty fr))) :
  Rel (H.set b .dead) (g.put b none []) w0 w'/\Ext H g w (H.set b .dead) (g.put b none []) w'/\∀ k o,(g.mu b=some k∨w.heap.size<=k)->ft (H.set b .dead) (g.put b none []) k o:=by
 have hlt:b<H.length:=(qad.1 hB).1;have hget:(H.set b .dead)[b]? = some .dead:=qaE hlt;have hot:∀ c,c≠b->(H.set b .dead)[c]? = H[c]?:=λc hc=>qao (qbi hc);have hno:∀ k,g.mu b=some k->∀ o,¬ ft H g k o:=λk hk o hs=>by
  obtain ⟨es',els',h1,_⟩:=hs.2 b hk;rw[hB] at h1; cases h1
 have hmu:∀ c k,(g.put b none []).mu c=some k->c≠b/\g.mu c=some k:=λc k h=>by
  by_cases e:c=b
  ·subst e; rw[Gh.bQ] at h; cases h
  ·exact⟨e,by rwa [Gh.aL _ _ _ e] at h⟩
 have hob:∀ c k,c≠b->g.mu c=some k->w'.heap[k]? = w.heap[k]?:=λc k hc hk=>by
  rcases hsame k (hr.dom c k hk).2.2 with h | ⟨h,_⟩
  ·exact h
  ·exact absurd (hr.inj c b k hk h) hc
 have hst:∀ k o,ft H g k o->ft (H.set b .dead) (g.put b none []) k o:=λk o hs=>⟨hs.1,λc hc=>by
  obtain ⟨h1,h2⟩:=hmu c k hc;obtain ⟨es',els',h3,h4⟩:=hs.2 c h2;exact⟨es',els',(hot c h1).trans h3,h4⟩⟩
 have he:Ext H g w (H.set b .dead) (g.put b none []) w':=by
  refine⟨λk o v hs hc=>⟨?_,hst k o hs⟩,λc C hC=>?_,λk x h=>?_,hbl.size,λk arr cl hs hm=>⟨?_,hst k 0 hs⟩,λk hk hn=>?_,λc k h=>.inl ⟨c,(hmu c k h).2⟩⟩
  ·rcases hsame k (qbW w _ hc) with h | ⟨h,_⟩
   ·unfold World.cell? at hc ⊢;simp only at hc ⊢;rw[h]; exact hc
   ·exact absurd hs (hno k h o)
  ·by_cases e:c=b
   ·subst e;rw[hB] at hC; cases hC;exact⟨.dead,hget,trivial⟩
   ·refine⟨C,(hot c e).trans hC,?_⟩;cases C with
    | box _=>exact Gh.aL _ _ _ e
    | row wr es' els'=>cases wr with
     | true=>exact⟨rfl,rfl,Gh.aL _ _ _ e,λk arr ty hk ha=>⟨arr,(hob c k e hk).trans ha,qab _⟩⟩
     | false=>exact⟨rfl,⟨[],by rw[Gh.fm _ _ _ e]; simp⟩,(hr.blk c _ hC).len,qab _,λ_=>⟨Gh.aL _ _ _ e,λk arr ty hk ha=>⟨arr,(hob c k e hk).trans ha,qab _⟩⟩⟩
    | rng _=>exact⟨Gh.aL _ _ _ e,rfl⟩
    | mp _ _ _=>exact Gh.aL _ _ _ e
    | dead=>trivial
    | hole=>trivial
  ·rcases hsame k (qaj.1 h).1 with h1 | ⟨_,arr,ty,fr,h1⟩
   ·exact h1.trans h
   ·rw[h1] at h; cases h
  ·rcases hsame k (qaj.1 hm).1 with h1 | ⟨h1,_⟩
   ·exact h1.trans hm
   ·exact absurd hs (hno k h1 0)
  ·rcases hsame k hk with h1 | ⟨h1,_⟩
   ·exact h1
   ·exact absurd h1 (hn b)
 have hbl0:Below w0.heap.size w w':=⟨hbl.os,hbl.tape,hbl.output,hbl.size,λk hk=>by
  rcases hsame k (qaz hk hr.below.size) with h1 | ⟨h1,_⟩
  ·exact h1
  ·exact absurd (hr.dom b k h1).2.1 o3⟩
 refine⟨⟨hr.below.trans hbl0,λc k hck=>?_,λc d k h1 h2=>hr.inj c d k (hmu c k h1).2 (hmu d k h2).2,hr.A5 he,hr.zo he,λc C hC=>?_⟩,he,λk o hk=>⟨?_,λc hc=>?_⟩⟩
 ·have:=hr.dom c k (hmu c k hck).2;have hs:=hbl.size;exact⟨by simpa using this.1,this.2.1,o3⟩
 ·by_cases e:c=b
  ·subst e;rw[hget] at hC; cases hC;exact Gh.bQ _ _ _ _
  ·rw[hot c e] at hC;have h:=hr.blk c C hC;cases C with
   | box cs=>obtain ⟨k,arr,ty,h1,h2,h3⟩:=h; exact⟨k,arr,ty,(Gh.aL _ _ _ e).trans h1,(hob c k e h1).trans h2,bL.ext he _ _ h3⟩
   | row wr es' els'=>cases wr with
    | true=>
     obtain ⟨ds,h1,h2,h3⟩:=h;exact⟨ds,bK.ext he _ _ h1,h2,λhp=>let ⟨k,arr,ty,e1,e2,e3⟩:=h3 hp; ⟨k,arr,ty,(Gh.aL _ _ _ e).trans e1,(hob c k e e1).trans e2,e3⟩⟩
    | false=>
     obtain ⟨h1,h2⟩:=h;refine⟨?_,?_⟩
     ·rw[Gh.fm _ _ _ e]; exact bK.ext he _ _ h1
     ·rw[Gh.fm _ _ _ e]; exact h2
   | rng st=>obtain ⟨k,h1,h2⟩:=h; exact⟨k,(Gh.aL _ _ _ e).trans h1,(hob c k e h1).trans h2⟩
   | mp _ _ _=>obtain ⟨k,arr,cl,h1,h2,h3,h4⟩:=h; exact⟨k,arr,cl,(Gh.aL _ _ _ e).trans h1,(hob c k e h1).trans h2,h3,bL.ext he _ _ h4⟩
   | dead=>exact(Gh.aL _ _ _ e).trans h
   | hole=>exact(Gh.aL _ _ _ e).trans h
 ·rcases hk with h | h
  ·exact hr.own b k o h
  ·exact hr.out k o h
 ·obtain ⟨h1,h2⟩:=hmu c k hc;rcases hk with h | h
  ·exact absurd (hr.inj c b k h2 h) h1
  ·exact absurd (hr.dom c k h2).2.2 o3
theorem Fl {es:Nat} {ds:List (List Value)} (hl:∀ d∈ds,d.length=es) {m:Nat} (hm:m<=ds.length):(ds.take m).flatten=ds.flatten.take (m*es)/\(ds.drop m).flatten=ds.flatten.drop (m*es):=by
 have e:ds.flatten=(ds.take m).flatten++(ds.drop m).flatten:=ZU;have hn:=iB hl hm;constructor
 ·rw[e,<-hn,List.take_left'];rfl
 ·rw[e,<-hn,List.drop_left'];rfl
theorem wI (hr:Rel H g w0 w) {es f lo:Nat} {P:Program} (hs:uo P f es) {args:List A} {r:R} (h:uf es args H lo=some r) {F:Fence} {d:Nat} (hF:iL F) {cargs:List Value} (hv:bL H g w args cargs):CallsIn F d P f cargs.toArray w (iJ H g w0 w lo r):=by
 unfold uf at h;split at h
 rotate_left 1
 ·cases h
 rename_i b n cl i v cl2;split at h
 rotate_left 1
 ·cases h
 rename_i es' els hB;obtain ⟨hc,h⟩:=bJ h;cases h;simp only[Z9,qa3,qag] at hc;obtain ⟨⟨⟨⟨⟨⟨⟨⟨⟨he1,he0⟩,hn⟩,hlo⟩,hi0⟩,hin⟩,hbig⟩,hvl⟩,hvc⟩,hec⟩:=hc;have he1:=qan he1;subst he1;have he0:es'≠0:=λe=>by subst e; cases he0
 have hn:=qan hn;have hvl:=qan hvl;obtain ⟨m,rfl⟩:∃ m:Nat,i=(m:Int):=⟨i.toNat,o3⟩
 rw[qbu];have hmn:m<=n:=o3;rw[bL] at hv;obtain ⟨c1,ds1,rfl,hv1,hv⟩:=hv;rw[bL] at hv;obtain ⟨c2,ds2,rfl,hv2,hv⟩:=hv;rw[bL] at hv;obtain ⟨c3,ds3,rfl,hv3,hv⟩:=hv;rw[bL] at hv;subst hv;rw[VR,hB] at hv1;obtain ⟨_,a,cap,rfl,hnc,hclip,ha,hroom⟩:=hv1;rw[VR] at hv2;subst hv2;rw[VR] at hv3;obtain ⟨a3,cap3,dv,es3,rfl,_,_,hdl3,ha3,hdv⟩:=hv3;rw[bK] at hdv;obtain ⟨d,dr,rfl,hd1,hd2⟩:=hdv;rw[bK] at hd2;subst hd2;obtain ⟨kv,ov,rfl,hcv⟩:=ha3 r8;simp only[qbt,List.flatten_nil,qaW] at hcv;have hdl:d.length=es':=hd1.length.trans hvl;obtain ⟨ds,hds,hdsl,harr⟩:=hr.blk b _ hB;have hlen:ds.length=n:=hds.length.trans hn.symm;have hfl:ds.flatten.length=n*es':=by rw[cE hdsl,hlen]
 have hdone:∀ x∈d,x.oneCell'=true:=by
  have h1:bK H g w [v] [d]:=by rw[bK]; exact⟨d,[],rfl,hd1,by rw[bK]⟩
  have:=h1.one (λcs hcs a ha=>by
   simp only[qcl] at hcs;subst hcs;exact qak.1 hvc a ha)
  simpa using this
 have hdsone:=hds.one (λcs hcs a ha=>qak.1 (qak.1 hec cs hcs) a ha);have hkv:∀ k,g.mu b=some k->kv≠k:=λk hk e=>by
  subst e;obtain ⟨_,hs0⟩:=hcv 0 d[0] (Z7 o3);obtain ⟨e1,e2,h1,_⟩:=hs0.2 b hk;rw[hB] at h1; cases h1
 have hmem:0<cap->∃ k arr ty,g.mu b=some k/\a=some ⟨k,0,none⟩/\w.heap[k]? = some (.cells arr ty (0,0))/\cap*es'<=arr.size/\∀ (j:Nat) (v:Value),ds.flatten[j]? = some v->arr[j]? = some v:=λhp=>by
  by_cases h0:n=0
  ·have hnil:ds.flatten=[]:=qdN.1 (by rw[hfl,h0,qdG]);have hcl:cl=false:=by
    cases cl with
    | false=>rfl
    | true=>exact absurd (hclip rfl) o3
   obtain ⟨k,arr,ty,h1,h2,h3,h4⟩:=hroom hcl rfl hn o3;exact⟨k,arr,ty,h1,h2,h3,h4,λj v hj=>by rw[hnil] at hj; simp at hj⟩
  ·obtain ⟨k,arr,ty,h1,h2,h3⟩:=harr o3;obtain ⟨k',h4,h5⟩:=ha o3;rw[h1] at h4; cases h4;rw[qdG] at h5;refine⟨k,arr,ty,h1,h5,h2,?_,h3⟩;by_cases hlt:n<cap
   ·have hcl:cl=false:=by
     cases cl with
     | false=>rfl
     | true=>exact absurd (hclip rfl) o3
    obtain ⟨k',arr',ty',g1,g2,g3,g4⟩:=hroom hcl rfl hn hlt;rw[h1] at g1; cases g1;rw[h2] at g3; cases g3;exact g4
   ·have hce:cap=n:=by omega
    rw[hce,<-hfl];have hp2:0<ds.flatten.length:=by rw[hfl]; exact Nat.mul_pos o3 o3
    have:=h3 (ds.flatten.length - 1) _ (Z7 o3);have:=(qaj.1 this).1;omega
 refine iw hF ((hs w a n cap m kv ov cap3 ds.flatten d hmn hnc o3 hfl hdl hdsone hdone (λj x hj=>(hcv j x hj).1) λhp=>?_).mono ?_)
 ·obtain ⟨k,arr,ty,h1,h2,h3,h4,h5⟩:=hmem hp;exact⟨k,arr,ty,h2,hkv k h1,h3,h4,h5⟩
 ·rintro e w' ⟨k',cap',rfl,hc',hbl,hsame,hk',hcells⟩
  obtain ⟨r1,r2,r3⟩:=hr.insert hB hbl (λj hj=>by
   rcases hsame j hj with h | ⟨hp,h⟩
   ·exact .inl h
   ·obtain ⟨k,arr,ty,h1,h2,h3,_⟩:=hmem hp;rw[h] at h2; cases h2;exact .inr ⟨h1,arr,ty,(0,0),h3⟩)
  have hst:∀ o,ft (H.set b .dead) (g.put b none []) k' o:=λo=>r3 k' o (by
   rcases hk' with ⟨hp,h⟩ | h
   ·obtain ⟨k,arr,ty,h1,h2,_⟩:=hmem hp;rw[h] at h2; cases h2;exact .inl h1
   ·exact .inr h)
  refine⟨_,r1,r2,r8,n8 _ _ hlo,rfl,?_⟩;show VR _ _ w' (.imm (els.take m++v :: els.drop m) false) (.slice (some ⟨k',0,none⟩) (n+1) cap');have hel:(els.take m++v :: els.drop m).length=n+1:=by
   rw[qar,qae,qba,qbT]; omega
  obtain ⟨f1,f2⟩:=Fl hdsl (m:=m) o3;rw[VR];refine⟨_,_,ds.take m++d :: ds.drop m,es',by rw[hel],by rw[hel]; exact hc',λh=>(by cases h),λx hx=>?_,λ_=>⟨k',0,rfl,λj x hj=>?_⟩,?_⟩
  ·rcases qa8.1 hx with hx | hx
   ·exact hdsl x (qaJ hx)
   ·rcases qaD.1 hx with rfl | hx
    ·exact hdl
    ·exact hdsl x (qaL hx)
  ·rw[qaU];refine⟨hcells j x ?_,hst j⟩;rw[qbY,qbt,f1,f2,<-qaV] at hj;exact hj
  ·refine(bK.ext r2 _ _ (hds.take m)).append ?_;rw[bK];exact⟨d,_,rfl,bL.ext r2 _ _ hd1,bK.ext r2 _ _ (hds.drop m)⟩
theorem qt {Bs:Heap->Gh->World->Prop} {call:bB} {rg:bB->bB} (hcall:eO cx Bs call) (hrg:tU cx rg) (horc:lK cx) (hmx:cx.P.follows .mixedOrders=true) {n f lo:Nat} {args:List A} {H:Heap} {r:R} (h:aK cx call rg n f args H lo=some r) {F:Fence} {d:Nat} {g:Gh} {w0 w:World} {cargs:List Value} (hF:iL F) (hro:F.round=none) (hbs:Bs H g w) (hr:Rel H g w0 w)
  (hgl:∀ (G:Nat) (vs:List Value),cx.glob G=some vs->bS H g w G 0 vs) (hv:bL H g w args cargs):CallsIn F d cx.P f cargs.toArray w (iJ H g w0 w lo r):=by
 rw[aK] at h;obtain ⟨fn,hfn,h⟩:=bN h;cases hins:Nat.beq (cx.ins f) 0 with
 | false=>rw[hins] at h; exact wI hr (cx.insOK f hins) h hF hv
 | true=>
 rw[hins] at h;replace h:(fn.body.bind λc=>bif decide (args.length<=fn.ntmps) then bif vv c then tZ cx call rg n f lo fn c args H else Hb cx call rg n f lo fn c args H else none)=some r:=h;obtain ⟨c,hc,h⟩:=bN h;obtain ⟨hle,h⟩:=bJ h;have hle:=qai hle;have hl:=hv.length;refine callsIn_of_wp_marks hfn hc (hF.2.1 f) ?_ hro;have hsz:(cargs.toArray++Array.replicate (fn.ntmps - cargs.toArray.size) undef).size=fn.ntmps:=r9;have hfr:=vl (m:=fn.ntmps - cargs.toArray.size) hv;have hbase:w0.heap.size<=w.heap.size:=hr.below.size;have hg0:∀ b,Good cx fn.ntmps ⟨w.heap.size,[],b⟩ lo H g w w0 ⟨frame args,H⟩ g { tmps:=cargs.toArray++Array.replicate (fn.ntmps - cargs.toArray.size) undef,defers:=[] } w:=λb=>⟨⟨hr,hfr,hgl⟩,Ext.refl hr,qab _,λ_ _ _=>rfl,hsz,jP.start _ _ _ _,qab _,rfl⟩
 cases hdf:vv c with
 | false=>
  rw[hdf] at h;refine en (cx:=cx) (N:=fn.ntmps) (lo:=lo) (nf:=n) (f:=f) hcall hrg horc hmx c F d ⟨w.heap.size,[],true⟩ w0 r H g w _ _ ⟨frame args,H⟩ g _ w hF (.inl ⟨hro,rfl⟩) hbs (hg0 true) h λe e' s' g' a' w' hg' he h'=>?_;obtain ⟨ms,q1,q2,_⟩:=hg'.dfr;have hret:(pK (fa lo (cx.acts f 3000000) s') λs=>nY cx fn s)=some r->LeavesInM F d cx.P fn a'.tmps (iJ H g w0 w lo r) a'.defers .returning w':=λh'=>by
   rw[q1];refine pF ms .returning w' r8 q2 λW' hcm hlm=>?_;obtain ⟨v,h1,h2⟩:=Ad (hg'.calm (qab _) hbase hcm hlm true) h';exact⟨v,h1,h2⟩
  cases e with
  | normal=>cases e'<;>first
    | exact hret h'
    | exact he.elim
  | ret=>cases e'<;>first
    | exact hret h'
    | exact he.elim
  | pan x=>cases e'<;>first
    | (obtain ⟨c',rfl,hvr⟩:=he
       cases h';show LeavesInM F d cx.P fn a'.tmps _ a'.defers (.panicking _) w';rw[q1];refine pF ms _ w' r8 q2 λW' hcm hlm=>?_;have hg2:=hg'.calm (qab _) hbase hcm hlm true;exact⟨g',hg2.sr.rel,hg2.ext,hg2.len,hg2.low,hg2.st,c',rfl,VR.gh (hg'.sr.rel.Af hcm) _ _ hvr⟩)
    | exact he.elim
  | exit i=>cases h'
  | goto i=>cases h'
 | true=>
  rw[hdf] at h;replace h:tZ cx call rg n f lo fn c args H=some r:=h;unfold tZ at h;split at h
  ·rename_i c0 id ops rest _;obtain ⟨hchk,h⟩:=bJ h;rw[WO,Z9] at hchk;have hd':∀ o∈ops.toList,∀ d,o.dst=some d->d<fn.ntmps:=λo ho d hod=>by
    have:=qak.1 hchk.1 o ho;rw[hod] at this; simpa using this
   have hem:∀ {s':St} {g':Gh} {a':Act} {w':World},Good cx fn.ntmps ⟨w.heap.size,[],false⟩ lo H g w w0 s' g' a' w'->a'.defers=[]:=λhg'=>by
    obtain ⟨ms,q1,_,q3⟩:=hg'.dfr;rw[q1,q3 rfl]; rfl
   refine qem (en hcall hrg horc hmx c0 F d ⟨w.heap.size,[],false⟩ w0 r H g w _ _ ⟨frame args,H⟩ g _ w hF (.inr hchk.2) hbs (hg0 false) h λe e' s1 g1 a1 w1 hg1 he h=>?_);cases e with
   | normal=>
    cases e' with
    | normal=>
     obtain ⟨⟨init,dop⟩,hla,h⟩:=bN h;have hsp:=vC hla;refine qem (wpIn_region_list ?_);rw[hsp];refine oA (Q:=λe a w2=>e=.normal/\wpListIn F d cx.P ops _ [dop] a w2) (λe a w2 he h=>absurd h.1 he) (λa w2 h=>h.2) init a1 w1 ?_;refine g7 (f:=f) (ops:=ops) hcall hbs horc hF (λs2 g2 a2 w2 hg2 h=>⟨rfl,?_⟩) (λx s' g' a' w' c hg' hvx h=>by cases h) init s1 g1 a1 w1 (λo ho=>hd' o (by rw[hsp]; simp[ho])) hg1 h;obtain ⟨⟨q,cap⟩,hcl,h⟩:=bN h;obtain ⟨k1,k2,hcb,es,hes,hrun⟩:=Ca (o:=dop) hcl hg2.sr;unfold wpListIn;rw[qaf (by simp[Region.wanted,k1])];refine⟨λf _=>hF.2.1 f,?_⟩;rw[hro,qcI,hrun,Oper.uponIn_defer,k2,hem hg2];obtain ⟨dd,hdd⟩:∃ dd:Deferred,dd={ target:=.fn (.func q) es,args:=#[] }:=⟨_,rfl⟩
     rw[<-hdd];refine en hcall hrg horc hmx rest F d ⟨w.heap.size,[dd],true⟩ w0 r s2.H g2 w2 _ _ s2 g2 { a2 with defers:=[dd] } w2 hF (.inl ⟨hro,rfl⟩) (hcall.up _ _ _ _ _ _ hbs hg2.ext) ⟨⟨hg2.sr.rel,hg2.sr.fr,hg2.sr.gl⟩,Ext.refl hg2.sr.rel,qab _,λ_ _ _=>rfl,hg2.siz,jP.start _ _ _ _,hg2.mbw,rfl⟩ h λe e' s3 g3 a3 w3 hg30 he h=>?_;have hg3:Good cx fn.ntmps ⟨w.heap.size,[dd],true⟩ lo H g w w0 s3 g3 a3 w3:=⟨hg30.sr,hg2.ext.trans hg30.ext,qaC hg2.len hg30.len,λb hb hb'=>(hg30.low b hb (qaz hb' hg2.len)).trans (hg2.low b hb hb'),hg30.siz,hg30.dfr,hg30.mbw,hg30.st.trans hg2.st⟩
     obtain ⟨ms,q1,q2,_⟩:=hg3.dfr;replace q1:a3.defers=ms++[dd]:=q1;have key:∀ (u:FrameMode) (x:A) (cv:Value),(u=.panicking [{ v:=cv,recovered:=false }]∨(u=.returning/\cv=.nilIface))->VR s3.H g3 w3 x cv->Aq cx call rg n lo q cap x s3.H (λH=>pK (fa lo (cx.acts f 3000000) ⟨s3.fr,H⟩) λs=>nY cx fn s)=some r->LeavesInM F d cx.P fn a3.tmps (iJ H g w0 w lo r) a3.defers u w3:=λu x cv hu hx h=>by
      rw[q1];have hrunu:u≠.run:=by rcases hu with rfl | ⟨rfl,_⟩<;>simp
      refine pF ms u w3 hrunu q2 λW' hcm hlm=>?_;have hg4:=hg3.calm (qab _) hbase hcm hlm true;have h0:=hg3.sr.rel.Af hcm;refine⟨hrunu,.inr ⟨λhs=>(by rw[hF.1] at hs; cases hs),.func q,es,q,es,by rw[hdd],?_,λf _=>hF.2.1 f,?_⟩⟩
      ·rw[hdd];have:=rB hcb (#[]++es) W';simpa [invoke] using this
      ·have hcap:bL s3.H g3 W' cap es.toList:=bL.gh h0 _ _ (bL.ext hg30.ext _ _ hes);have hrc:CallsDIn F.plain (d - 1) cx.P q es.toList.toArray u W' _:=Ar (F:=F.plain) (n:=d - 1) hcall hrg horc hmx h hF rfl (hcall.up _ _ _ _ _ _ hbs hg4.ext) hg4.sr.rel hg4.sr.gl hcap (VR.gh h0 _ _ hx) hu;rw[show es.toList.toArray=es by simp] at hrc;have hrc':CallsDIn F (d - 1) cx.P q es u W' _:=hrc;refine hrc'.mono ?_
       rintro e u' w4 ⟨⟨v,rfl⟩,hset,H',g',j1,j2,j3,j4,j5,hk⟩
       show LeavesInM F d cx.P fn a3.tmps _ [] (settle u') w4;rw[hset];have hx2:=hg4.ext.trans j2;obtain ⟨v',l1,l2⟩:=Ad (a:=a3) (mb:=⟨0,a3.defers,true⟩) (s:=⟨s3.fr,H'⟩) ⟨⟨j1,λt=>VR.ext j2 _ _ (hg4.sr.fr t),λG vs hG=>(hg4.sr.gl G vs hG).ext j2⟩,hx2,qaC hg4.len j3,λb hb hb'=>(j4 b hb (qaz hb' hg4.len)).trans (hg4.low b hb hb'),hg4.siz,jP.start _ _ _ _,qav _,j5.trans hg4.st⟩ hk;exact⟨v',l1,l2⟩
     have hni:VR s3.H g3 w3 (.v .nilIface) .nilIface:=y9;cases e with
     | normal=>cases e' with
      | normal=>exact key .returning (.v .nilIface) .nilIface (.inr ⟨rfl,rfl⟩) hni h
      | _=>exact he.elim
     | ret=>cases e' with
      | ret=>exact key .returning (.v .nilIface) .nilIface (.inr ⟨rfl,rfl⟩) hni h
      | _=>exact he.elim
     | pan x=>cases e' with
      | panic ch=>
       obtain ⟨c',rfl,hvr⟩:=he;exact key _ x c' (.inl rfl) hvr h
      | _=>exact he.elim
     | exit i=>cases h
     | goto i=>cases h
    | _=>exact he.elim
   | _=>cases h
  ·cases h
theorem Ab {p:aA->Bool} {H:Heap} {m:Nat} (h:(H.take m).all p=true) (b:Nat) (B:aA) (hb:b<m) (hB:H[b]? = some B):p B=true:=
 qak.1 h B (qaI (i:=b) (by rw[qaA,qaf hb]; exact hB))
theorem rE {m:Nat} {f:Heap->Option R} {args:List A} {H:Heap} {r:R} (h:pZ m f args H=some r):bw m args=true/\(H.take m).all (aA.under m)=true/\∃ o H1,f (H.take m)=some (o,H1)/\m<=H1.length/\(H1.take m).all (aA.under m)=true/\rU m o=true/\r=(o,H1.take m++H.drop m):=by
 unfold pZ at h;obtain ⟨h1,h⟩:=bJ h;obtain ⟨⟨o,H1⟩,h2,h⟩:=bN h;obtain ⟨h3,h⟩:=bJ h;rw[Z9] at h1;simp only[Z9] at h3;cases h;exact⟨h1.1,h1.2,o,H1,h2,qax h3.1.1,h3.1.2,h3.2,rfl⟩
theorem GO {k:Nat} {H:Heap}:cutAt cx k H<=H.length:=by
 unfold cutAt;cases hb:Nat.ble (cx.cut k) H.length with
 | true=>exact qax hb
 | false=>exact qab _
theorem qw (horc:lK cx) (hmx:cx.P.follows .mixedOrders=true):∀ n,tU cx (bz cx n)
 | 0=>λBs base hy=>⟨⟨hy.up,λb args H lo r h=>hy.yl b args H lo r (by
   rw[bz,bP,qaf (by rw[qcQ]; omega)] at h; exact h)⟩,(λk args H lo r hk h=>by rw[bz,uK hk] at h; cases h),λk args H lo r hk _ _ h=>by rw[bz,uK hk] at h; cases h⟩
 | n+1=>λBs base hy=>by
  refine⟨⟨hy.up,λb args H lo r h=>hy.yl b args H lo r (by
   rw[bz,bP,qaf (by rw[qcQ]; omega)] at h; exact h)⟩,?_,λk args H lo r hk h0 hm h=>?_⟩
  rotate_left 1
  ·rw[bz,uK hk] at h;replace h:(bif ix cx k H then pZ (cutAt cx k H) (λH=>aK cx (bz cx n J2) (bz cx n) n k args H lo) args H else bif iP cx k H then o8 cx k args H else aK cx (bz cx n base) (bz cx n) n k args H lo)=some r:=h;have hc:ix cx k H=true:=by
    unfold ix;have:Nat.beq (cx.cut k) 0=false:=by
     cases hb:Nat.beq (cx.cut k) 0 with
     | false=>rfl
     | true=>exact absurd (qan hb) h0
    rw[this,qbe hm]; rfl
   have hcm:cutAt cx k H=cx.cut k:=by unfold cutAt; rw[qbe hm]; rfl
   simp only[hc,qaa,hcm] at h;obtain ⟨_,_,o,H1,_,hm1,_,_,rfl⟩:=rE h;refine⟨ZW,λb hb=>?_⟩;rw[qay H4,qba,qbw,qbP hm1];congr 1; omega
  intro f args H lo r hkc h F d g w0 w cargs hF hro hbs hr hgl hv;have hrg:=qw horc hmx n;have hcall:=hrg Bs base hy;rw[bz,uK hkc] at h;replace h:(bif ix cx f H then pZ (cutAt cx f H) (λH=>aK cx (bz cx n J2) (bz cx n) n f args H lo) args H else bif iP cx f H then o8 cx f args H else aK cx (bz cx n base) (bz cx n) n f args H lo)=some r:=h;cases hc:ix cx f H with
  | false=>
   rw[hc] at h;cases hd:iP cx f H with
   | false=>rw[hd] at h; exact qt hcall hrg horc hmx h hF hro hbs hr hgl hv
   | true=>
    rw[hd] at h;replace h:o8 cx f args H=some r:=h;unfold o8 at h;obtain ⟨y,hy,h⟩:=bN h;obtain ⟨hv1,h⟩:=bJ h;cases h;have hdp:cx.deep f=true:=by
     unfold iP at hd;cases hq:cx.deep f with
     | true=>rfl
     | false=>rw[hq] at hd; cases hd
    have hcallok:=horc f _ y (.inr (.inr hdp)) hy g.S w cargs hr.out (λG vs hG j v hj=>let ⟨e1,e2⟩:=hgl G vs hG j v hj; ⟨e1,e2.1,λb hb=>by cases hb⟩) (xM hr 6 _ _ hv);refine(iw hF hcallok).mono ?_
    rintro e w' ⟨c',rfl,hb,hvr⟩
    refine⟨g,hr.kK hb,Ext.below hr hb,qab _,λ_ _ _=>rfl,rfl,?_⟩;cases y with
    | v x=>rw[VR] at hvr; show VR H g w' (.v x) c'; rw[VR]; exact hvr
    | _=>cases hv1
  | true=>
   simp only[hc,qaa] at h;obtain ⟨hu1,hu2,o,H1,h9,hm1,hu3,hu4,rfl⟩:=rE h;have hm:=GO (cx:=cx) (k:=f) (H:=H);obtain ⟨hr',ag⟩:=hr.tL hm (Ab hu2);have hno:rl cx (λ_ _ _=>True) J2:=⟨λ_ _ _ _ _ _ _ _=>trivial,λ_ _ _ _ _ h=>by cases h⟩
   refine(qt (hrg _ _ hno) hrg horc hmx h9 hF hro trivial hr' (λG vs hG=>(hgl G vs hG).to ag) (bL.to ag _ _ hu1 hv)).mono ?_
   rintro e w' ⟨g1,k1,k2,k3,k4,k6,k5⟩
   obtain ⟨g2,e1,e2,e3,ag2⟩:=hr.join hm k1 k2 hm1 k6 (Ab hu3);refine⟨g2,e1,e2,ZW,λb hb hb'=>?_,e3,?_⟩
   ·by_cases hbm:b<cutAt cx f H
    ·rw[qat H4,qaA,qaf hbm,k4 b hb H4,qaA,qaf hbm]
    ·rw[qay H4,qba,qbw,qbP hm1];congr 1; omega
   ·cases o with
    | ret x=>cases e with
     | returned c=>exact VR.to ag2 _ _ hu4 k5
     | panicked _=>exact k5
     | outgrown=>exact k5
    | pan x=>cases e with
     | panicked ch=>obtain ⟨c,rfl,hv⟩:=k5; exact⟨c,rfl,VR.to ag2 _ _ hu4 hv⟩
     | returned _=>exact k5
     | outgrown=>exact k5
theorem ET {n k:Nat} {args:List A} {H:Heap} {lo:Nat} {r:R} (h:dH cx n k args H lo=some r):k<cx.P.funcs.size:=by
 refine qbs λhle=>?_;have hb:Nat.ble cx.P.funcs.size k=true:=by rw[qcQ]; exact hle
 unfold dH at h;cases n with
 | zero=>rw[bz,hb] at h; cases h
 | succ n=>rw[bz,hb] at h; cases h
theorem rA (horc:lK cx) (hmx:cx.P.follows .mixedOrders=true) {n k:Nat} {args:List A} {x:A} {H':Heap} (h:dH cx n k args [] 0=some (.ret x,H')):fX cx.P cx.glob k args (bp H' x):=by
 intro S w cargs hS hgl hv;have hr:Rel [] (G0 S) w w:=⟨Below.refl _ _,λb k h=>(by cases h),λb c k h=>(by cases h),hS,λb k o h=>(by cases h),λb B h=>(by simp at h)⟩
 have hno:rl cx (λ_ _ _=>True) J2:=⟨λ_ _ _ _ _ _ _ _=>trivial,λ_ _ _ _ _ h=>by cases h⟩
 have hkc:=ET h;have hc:=(qw horc hmx n _ _ hno).fn k args [] 0 _ hkc h Fence.wide 0 (G0 S) w w cargs CP rfl trivial hr hgl hv;refine(callsIn_wide.1 hc).mono ?_
 rintro e w' ⟨g',e1,e2,_,_,e5,e6⟩
 cases e with
 | returned c=>
  refine⟨c,rfl,e1.below,?_⟩;exact VR.gh (H:=[]) (g:=G0 g'.S) ⟨λk o v hs hc=>⟨hc,by have:=hs.1; rw[show (G0 g'.S).S=g'.S from rfl,e5] at this; exact this,λb hb=>(by cases hb)⟩,λb B hB=>(by simp at hB),λk arr cl hs hm=>⟨hm,by have:=hs.1; rw[show (G0 g'.S).S=g'.S from rfl,e5] at this; exact this,λb hb=>(by cases hb)⟩⟩ _ _ (IW e1 x c e6)
 | panicked _=>exact e6.elim
 | outgrown=>exact e6.elim
end
section
open Go.RowKit
end
section
open Go.RowKit Go.ChangeShapes Go.WideShapes Go.ChangeAt Go.Deep
theorem qB {H:Type} {enc:TypeId×Value->H} {P:Program} (hl:laidOutB P=true) {W W':World} (hb:Below W.heap.size W W') :
  ∀ (ts:List TypeId) (vs:List Value) (ds:List (DataW H)) (ps:List MemPlace),ts.all (λt=>P.readableRec t&&decide (t<P.types.size))=true ->
   DataW.TrodAll enc P W 0 (λ_=>true) true ts vs ds ps->DataW.TrodAll enc P W' 0 (λb=>decide (b<W.heap.size)) true ts vs ds ps
 | [],[],[],ps,_,h=>h
 | t :: ts,v :: vs,d :: ds,ps,hr,h=>by
  obtain ⟨p,q,h1,h2,rfl⟩:=h;simp only[qco,Z9,qag] at hr;have lt:∀ x∈p,x.block<W.heap.size:=by obtain ⟨m,hm⟩:=h1; exact DataW.trod_lt m _ _ _ hm
  exact⟨p,q,Below.trod hl hr.1.1 hr.1.2 h1 hb lt,qB hl hb ts vs ds q hr.2 h2,rfl⟩
 | [],_ :: _,_,_,_,h=>h.elim
 | [],[],_ :: _,_,_,h=>h.elim
 | _ :: _,[],_,_,_,h=>h.elim
 | _ :: _,_ :: _,[],_,_,h=>h.elim
theorem pN {H:Type} {enc:TypeId×Value->H} {P:Program} {W:World} {base:Nat} {sp:Nat->Bool} {held:Bool} :
  ∀ (ts:List TypeId) (vs:List Value) (ds:List (DataW H)) (ps:List MemPlace),DataW.TrodAll enc P W base sp held ts vs ds ps->vs.length=ts.length/\ds.length=ts.length
 | [],[],[],_,_=>⟨rfl,rfl⟩
 | t :: ts,v :: vs,d :: ds,ps,h=>by
  obtain ⟨p,q,_,h2,_⟩:=h;have:=pN ts vs ds q h2;simp[this.1,this.2]
 | [],_ :: _,_,_,h=>h.elim
 | [],[],_ :: _,_,h=>h.elim
 | _ :: _,[],_,_,h=>h.elim
 | _ :: _,_ :: _,[],_,h=>h.elim
theorem tI {H:Type} {enc:TypeId×Value->H} {P:Program} {W:World} {base:Nat} {sp:Nat->Bool} {held:Bool} :
  ∀ (ts:List TypeId) (vs:List Value) (ds:List (DataW H)) (ps:List MemPlace),DataW.TrodAll enc P W base sp held ts vs ds ps ->
   ∀ (j:Nat) (t:TypeId) (v:Value),ts[j]? = some t->vs[j]? = some v->∃ d p,DataW.Trod enc P W base sp held t v d p
 | t :: ts,v :: vs,d :: ds,ps,h,j,t',v',hj,hv=>by
  obtain ⟨p,q,h1,h2,_⟩:=h;cases j with
  | zero=>cases hj; cases hv; exact⟨d,p,h1⟩
  | succ j=>exact tI ts vs ds q h2 j t' v' hj hv
 | [],[],[],_,_,_,_,_,hj,_=>by simp at hj
 | [],_ :: _,_,_,h,_,_,_,_,_=>h.elim
 | [],[],_ :: _,_,h,_,_,_,_,_=>h.elim
 | _ :: _,[],_,_,h,_,_,_,_,_=>h.elim
 | _ :: _,_ :: _,[],_,h,_,_,_,_,_=>h.elim
def wZ {H:Type} (enc:TypeId×Value->H) (P:Program) (W:World) (base:Nat) (ts:Array TypeId) (args:Array Value):Prop:=
 args.size=ts.size/\∀ (j:Nat) t v,ts[j]? = some t->args[j]? = some v->Value.okWide P W .any base t v/\∃ d p,DataW.Trod enc P W 0 (λ_=>true) true t v d p
theorem zb {H:Type} {enc:TypeId×Value->H} {P:Program} {f:Nat} {fn:Func} {s:ChangeSpec} {tb:TypeId} (hv:s.vars=[]) (hres:fn.resultTypes=#[tb]) (htb:P.underlying tb=some .bool)
  (hl:laidOutB P=true) (hread:fn.params.toList.all (λt=>P.readableRec t&&decide (t<P.types.size))=true)
  (hs:∀ ds:List (DataW H),ds.length=fn.params.size->s.fn H ds={ results:=[.lit (.bool true)],args:=ds })
  (W:World) (base:Nat) (args:Array Value) (ds gs:List (DataW H)) (before:List MemPlace)
  (hval:∀ (j:Nat) t v,fn.params[j]? = some t->args[j]? = some v->Value.okWide P W .any base t v)
  (hW:DataW.Whole enc P fn.params.toList s.vars false W args.toList ds gs before)
  (walk:wZ enc P W base fn.params args->Calls P f args W λe W'=>e=.returned (.bool true)/\Below W.heap.size W W') :
  Calls P f args W λe W'=>∃ v,e=.returned v/\s.post enc P fn false true false false W args v W':=by
 have hW':=hW;obtain ⟨p,q,hA,hV,rfl,hfz,hnd⟩:=hW;rw[hv] at hV;obtain ⟨rfl,rfl⟩:=trodVars_none hV;have hlen:=pN _ _ _ _ hA;refine(walk ⟨by simpa using hlen.1,λj t v hj hv=>⟨hval j t v hj hv,?_⟩⟩).mono λe W' ⟨he,bel⟩=>?_
 ·exact tI _ _ _ _ hA j t v (by simpa using hj) (by simpa using hv)
 ·subst he;have e1:s.fn H (ds++[])={ results:=[.lit (.bool true)],args:=ds }:=by rw[qaW]; exact hs ds (by simpa using hlen.2)
  refine⟨_,rfl,ds,[],_,[],p,[],hW',?_,?_,?_,bel.frame _,λh=>by cases h⟩
  ·rw[e1,hres];exact trodAll_mk1 (shut_bool htb _)
  ·rw[e1];exact qB hl bel _ _ _ _ hread hA
  ·rw[e1,hv]; exact rfl
theorem Hk {H:Type} {enc:TypeId×Value->H} {P:Program} {W:World} {base:Nat} {ts:Array TypeId} {args:Array Value} (h:wZ enc P W base ts args) (j:Nat) {t:TypeId} {v:Value} (hj:ts[j]? = some t) (hv:args[j]? = some v) (ht:P.underlying t=some (.int .u8)) :
  ∃ n:Int,v=.int .u8 n/\0<=n/\n<=255:=by
 obtain ⟨ok,d,p,htr⟩:=h.2 j t v hj hv;obtain ⟨n,rfl,rfl,rfl,hw⟩:=open_int ht ok htr;exact⟨n,rfl,(qdR hw).1,(qdR hw).2⟩
end
section
theorem qZ {α β:Type} (P:Program) (f:α->Sem β):∀ (m:Sem α),dj P (m >>= f)=(dj P m).bind λa=>dj P (f a)
 | .pure a=>rfl
 | .program k=>qZ P f (k P)
 | .mark _ k=>qZ P f k
 | .load .. | .store .. | .new .. | .shape .. | .freeze .. | .frozen .. | .getObj .. | .setObj .. | .choose .. | .sys .. | .halt _=>rfl
theorem sU (P:Program) (t:TypeId):dj P (underlying t)=P.underlying t:=by
 unfold underlying;show dj P (match P.underlying t with | some d=>pure d | none=>stuck "no such type")=_;cases P.underlying t<;>rfl
@[simp] theorem O2 {β:Type} (b:Bool) (x y:Option β):dP (.v (.bool b)) x y=bif b then x else y:=rfl
@[simp] theorem PK {β:Type} (b:Bool) (x y:Option β):sm (.v (.bool b)) true x y=bif b then x else y:=rfl
@[simp] theorem N4 {β:Type} (b:Bool) (x y:Option β):sm (.v (.bool b)) false x y=bif b then y else x:=by cases b<;>rfl
@[simp] theorem N5 {β:Type} (w:Bool) (x y:Option β):sm (.v undef) w x y=y:=by cases w<;>rfl
@[simp] theorem Qq (k:IntKind) (n:Int):(Value.int k n).oneCell'=true:=rfl
@[simp] theorem Ob (b:Bool):(Value.bool b).oneCell'=true:=rfl
@[simp] theorem Md (s:ByteArray):(Value.string s).oneCell'=true:=rfl
section
variable (P:Program) (t s d:TypeId) (i j:Bool) (k:IntKind) (a b:Int) (p q:Bool) (H:Heap) (lo:Nat)
@[simp] theorem aX:me P .eql t i j (.v (.int k a)) (.v (.int k b))=some (.v (.bool (a==b))):=by cases k<;>rfl
@[simp] theorem aO:me P .neq t i j (.v (.int k a)) (.v (.int k b))=some (.v (.bool (a != b))):=by cases k<;>rfl
@[simp] theorem aZ:me P .lss t i j (.v (.int k a)) (.v (.int k b))=some (.v (.bool (decide (a<b)))):=by cases k<;>rfl
@[simp] theorem jw:me P .leq t i j (.v (.int k a)) (.v (.int k b))=some (.v (.bool (decide (a<=b)))):=by cases k<;>rfl
@[simp] theorem eZ:me P .gtr t i j (.v (.int k a)) (.v (.int k b))=some (.v (.bool (decide (b<a)))):=by cases k<;>rfl
@[simp] theorem dD:me P .geq t i j (.v (.int k a)) (.v (.int k b))=some (.v (.bool (decide (b<=a)))):=by cases k<;>rfl
@[simp] theorem aF:me P .add t i j (.v (.int k a)) (.v (.int k b))=some (.v (.int k (k.wrap (a+b)))):=by cases k<;>rfl
@[simp] theorem fF:me P .sub t i j (.v (.int k a)) (.v (.int k b))=some (.v (.int k (k.wrap (a - b)))):=by cases k<;>rfl
@[simp] theorem rm:me P .mul t i j (.v (.int k a)) (.v (.int k b))=some (.v (.int k (k.wrap (a*b)))):=by cases k<;>rfl
def kR (a b:ByteArray):Bool:=a.toList==b.toList
theorem nP (x y:ByteArray):me P .eql t i j (.v (.string x)) (.v (.string y))=some (.v (.bool (kR x y))):=rfl
theorem uv (x y:ByteArray):me P .neq t i j (.v (.string x)) (.v (.string y))=some (.v (.bool (!kR x y))):=rfl
theorem gn (hb:b≠0):me P .rem t i j (.v (.int k a)) (.v (.int k b))=some (.v (.int k (a.tmod b))):=by
 have h:dj P (do eqGuard .rem t (rep i) (rep j) (.int k a) (.int k b); binOp .rem t (.int k a) (.int k b))=some (.int k (a.tmod b)):=by
  show dj P (binOp .rem t (.int k a) (.int k b))=_;simp only[binOp,ne_eq,qcL,qcq,Op.intDiv,qah hb]; rfl
 show (dj P _).map wL=_;rw[h]; rfl
theorem uw (hb:b≠0):me P .quo t i j (.v (.int k a)) (.v (.int k b))=some (.v (.int k (k.wrap (a.tdiv b)))):=by
 have h:dj P (do eqGuard .quo t (rep i) (rep j) (.int k a) (.int k b); binOp .quo t (.int k a) (.int k b))=some (.int k (k.wrap (a.tdiv b))):=by
  show dj P (binOp .quo t (.int k a) (.int k b))=_;simp only[binOp,ne_eq,qcL,qcq,Op.intDiv,qah hb]; rfl
 show (dj P _).map wL=_;rw[h]; rfl
@[simp] theorem RQ:mc P .not (.v (.bool p))=some (.v (.bool (!p))):=rfl
@[simp] theorem RP:mc P .neg (.v (.int k a))=some (.v (.int k (k.wrap (0 - a)))):=rfl
@[simp] theorem Jq (l:List A) (n:Nat):oV (.tup l) n=l[n]?:=rfl
@[simp] theorem VF (x:Value):snap H (.v x)=.v x:=rfl
@[simp] theorem R3 (L:Nat) (x:Value):A.under L (.v x)=true:=rfl
@[simp] theorem UZ (L:Nat) (x:Value) (H':Heap):CI L (.ret (.v x),H')=some (.v x):=rfl
@[simp] theorem Qt (x:A) (f g:A->Option R):ek (.ret x) f g=f x:=rfl
@[simp] theorem Qs (x:A) (f g:A->Option R):ek (.pan x) f g=g x:=rfl
@[simp] theorem N1 {α β:Type} (x y:α) (f:α->Option β):(bif p then some x else some y).bind f=f (bif p then x else y):=by cases p<;>rfl
@[simp] theorem Tl (x y:Value):(bif p then A.v x else A.v y)=A.v (bif p then x else y):=by cases p<;>rfl
@[simp] theorem N2 (x y:Bool):(bif p then Value.bool x else Value.bool y)=Value.bool (bif p then x else y):=by cases p<;>rfl
@[simp] theorem O8 (x y:Int):(bif p then Value.int k x else Value.int k y)=Value.int k (bif p then x else y):=by cases p<;>rfl
theorem aM {l:IntKind} (hs:P.underlying s=some (.int l)) (hd:P.underlying d=some (.int k)):bt P s d (.v (.int l a)) H=some (.v (.int k (k.wrap a))):=by
 simp only[bt,hs,hd]
 have h:dj P (convert s d (.int l a))=some (.int k (k.wrap a)):=by
  unfold convert;simp only[qZ,sU,hs,hd,Z6]
  rfl
 show (dj P _).map wL=_;rw[h]; rfl
end
end
section
variable {ρ γ σ α β τ:Type}
def J (φ:ρ->γ->Prop) (L:Option σ) (kL:σ->Option ρ) (R:Option α) (K:α->Option γ):Prop:=∀ r,R.bind K=some r->∃ s,L.bind kL=some s/\φ s r
variable {φ:ρ->γ->Prop} {kL:σ->Option ρ} {K:α->Option γ} {R X Y:Option α}
theorem J.st {x:Option τ} {v:τ} {k:τ->Option σ} (h:x=some v) (hk:J φ (k v) kL R K):J φ (x.bind k) kL R K:=by
 rw[h]; exact hk
theorem J.s {x:Option τ} {k:τ->Option σ} (v:τ) (hk:J φ (k v) kL R K) (h:x=some v:=by kernel_rfl):J φ (x.bind k) kL R K:=J.st h hk
theorem J.s2 {τ':Type} {x:Option τ'} {y:τ'->Option τ} {k:τ->Option σ} (v:τ) (hk:J φ (k v) kL R K) (h:x.bind y=some v:=by kernel_rfl):J φ (x.bind λa=>(y a).bind k) kL R K:=by
 rw[<-qaN]; exact J.st h hk
def PM (x:Option (A×Heap)):A×Heap:=match x with | some p=>p | none=>(.any,[])
def PL (x:Option Heap):Heap:=match x with | some p=>p | none=>[]
theorem J.sq {x:Option (A×Heap)} {k:A×Heap->Option σ} (p:A) (hk:J φ (k (p,(PM x).2)) kL R K) (h:x=some (p,(PM x).2):=by kernel_rfl):J φ (x.bind k) kL R K:=J.st h hk
theorem J.sh {x:Option Heap} {k:Heap->Option σ} (hk:J φ (k (PL x)) kL R K) (h:x=some (PL x):=by kernel_rfl):J φ (x.bind k) kL R K:=J.st h hk
theorem J.bd {x:Option τ} {k:τ->Option σ} {X:Option β} {Y:β->Option α} {g:β->τ} (h:x=X.map g) (hk:∀ y,J φ (k (g y)) kL (Y y) K):J φ (x.bind k) kL (X.bind Y) K:=by
 intro r hr;rw[qaN] at hr;cases X with
 | none=>cases hr
 | some y=>rw[h]; exact hk y r hr
theorem J.V1 {x:Option τ} {k:τ->Option σ} {X:Option β} {Y:β->Option α} {g:β->τ} (h:x=X.map g) (hk:∀ y,X=some y->J φ (k (g y)) kL (Y y) K):J φ (x.bind k) kL (X.bind Y) K:=by
 intro r hr;rw[qaN] at hr;cases X with
 | none=>cases hr
 | some y=>rw[h]; exact hk y rfl r hr
theorem J.bg {x:Option τ} {k:τ->Option σ} {X:Option β} {Y:β->Option α} (ψ:τ->β->Prop) (h:J ψ x some X some) (hk:∀ t y,ψ t y->J φ (k t) kL (Y y) K):J φ (x.bind k) kL (X.bind Y) K:=by
 intro r hr;rw[qaN] at hr;cases X with
 | none=>cases hr
 | some y=>
  obtain ⟨s,h1,h2⟩:=h y rfl;have:x=some s:=by cases x<;>simp_all
  rw[this];exact hk s y h2 r hr
theorem J.bi {x y:Option σ} {b:Bool} (h1:J φ x kL X K) (h2:J φ y kL Y K):J φ (dP (.v (.bool b)) x y) kL (cond b X Y) K:=by
 cases b
 ·exact h2
 ·exact h1
theorem J.N0 {x y:Option Go.Proofs.Ytebkhfhcipnfgaa.R} {kL:Go.Proofs.Ytebkhfhcipnfgaa.R->Option ρ} (h1:J φ x kL R K):J φ (bn (.v (.bool true)) x y) kL R K:=h1
theorem J.MF {x y:Option Go.Proofs.Ytebkhfhcipnfgaa.R} {kL:Go.Proofs.Ytebkhfhcipnfgaa.R->Option ρ} (h1:J φ y kL R K):J φ (bn (.v (.bool false)) x y) kL R K:=h1
theorem J.cu {x y:Option Go.Proofs.Ytebkhfhcipnfgaa.R} {kL:Go.Proofs.Ytebkhfhcipnfgaa.R->Option ρ} {b:Bool} (h1:J φ x kL X K) (h2:J φ y kL Y K):J φ (bn (.v (.bool b)) x y) kL (cond b X Y) K:=by
 cases b
 ·exact h2
 ·exact h1
theorem J.nq {T:Type} {f:T->List A} {l:List T} {x y:Option Go.Proofs.Ytebkhfhcipnfgaa.R} {kL:Go.Proofs.Ytebkhfhcipnfgaa.R->Option ρ} (h:l=[]->x=y) (hy:J φ y kL R K):J φ (bn (.nq (l.map f)) x y) kL R K:=by
 cases l with
 | nil=>
  have e:bn (A.nq (List.map f [])) x y=y:=by
   exact GL (h rfl)
  rw[e]; exact hy
 | cons a l=>exact hy
theorem vK {P:Program} {t e:TypeId} {T:Type} {f:T->List A} {l:List T} {c:Bool} (h:P.underlying t=some (.slice e)):MA P t (.imm (l.map f) c)=some (.nq (l.map f)):=by
 unfold MA;rw[h]
theorem J.bT {x y:Option σ} (h1:J φ x kL R K):J φ (dP (.v (.bool true)) x y) kL R K:=h1
theorem J.cT {x y:Option σ} {c:Bool} (h:c=true) (h1:J φ x kL R K):J φ (cond c x y) kL R K:=by rw[h]; exact h1
theorem J.gd {L:Option σ} {b:Bool} (h:b=true->J φ L kL R K):J φ L kL (cond b R none) K:=by
 cases b
 ·intro r hr; cases hr
 ·exact h rfl
theorem J.sp {L:Option σ} {b:Bool} (h1:b=true->J φ L kL X K) (h2:b=false->J φ L kL Y K):J φ L kL (cond b X Y) K:=by
 cases b
 ·exact h2 rfl
 ·exact h1 rfl
theorem J.nn {L:Option σ}:J φ L kL none K:=λr hr=>by cases hr
theorem J.rj {l:List A} {H:Heap} {k:List A->Heap->Option σ} (h:J φ (k l H) kL R K):J φ (Fg (Out.ret (.tup l),H) k) kL R K:=h
theorem J.uc {a:A} {r:List A} {k:A->List A->Option σ} (h:J φ (k a r) kL R K):J φ (aV (a :: r) k) kL R K:=h
theorem J.u4 {a b c d:A} {r:List A} {k:A->A->A->A->List A->Option σ} (h:J φ (k a b c d r) kL R K):J φ (aV (a :: b :: c :: d :: r) λa l=>aV l λb l=>aV l λc l=>aV l λd l=>k a b c d l) kL R K:=h
theorem gw {β γ:Type} (l:List A) (f:A->List A->Option β) (k:β->Option γ):(aV l f).bind k=aV l λa r=>(f a r).bind k:=by
 cases l<;>rfl
theorem J.kY {a:A} {f g:A->Option Go.Proofs.Ytebkhfhcipnfgaa.R} {kL:Go.Proofs.Ytebkhfhcipnfgaa.R->Option ρ} (h:J φ (g a) kL R K):J φ (ek (.pan a) f g) kL R K:=h
theorem J.pk {t:TypeId} {y:A} {k:A->Option σ} (h:J φ (k (.ifc t y)) kL R K):J φ (KO (.ifc t y) k) kL R K:=h
theorem J.ob {b:Bool} {v p:A} {f g:A->Option Go.Proofs.Ytebkhfhcipnfgaa.R} {kL:Go.Proofs.Ytebkhfhcipnfgaa.R->Option ρ} (h1:J φ (ek (.ret v) f g) kL X K) (h2:J φ (ek (.pan p) f g) kL Y K):J φ (ek (bif b then Out.ret v else Out.pan p) f g) kL (cond b X Y) K:=by
 cases b
 ·exact h2
 ·exact h1
theorem J.lf {s:σ} {x:α} {r:ρ} {y:γ} (h1:kL s=some r) (h2:K x=some y) (h:φ r y):J φ (some s) kL (some x) K:=λz hz=>by
 rw[Z6,h2] at hz;cases hz;exact⟨r,h1,h⟩
theorem J.lg {ψ:τ->β->Prop} {s:τ} {x:β} (h:ψ s x):J ψ (some s) some (some x) some:=λr hr=>by cases hr; exact⟨s,rfl,h⟩
theorem J.lv {T:Type} {f:T->A} {v:A} {H:Heap} {y:T} (h:bp H v=f y):J (λ(o:Go.Proofs.Ytebkhfhcipnfgaa.R) y=>∃ v,o.1=.ret v/\bp o.2 v=f y) (some (Out.ret v,H)) some (some y) some:=.lf rfl rfl ⟨_,rfl,h⟩
theorem J.cl {x:Option τ} {x':Option τ} {k:τ->Option σ} (h:x=x') (hk:J φ x' (λr=>(k r).bind kL) R K):J φ (x.bind k) kL R K:=by
 intro r hr;obtain ⟨s,h1,h2⟩:=hk r hr;exact⟨s,by rw[qaN,h]; exact h1,h2⟩
theorem J.bb {x:Option τ} {k:τ->Option σ} (h:J φ x (λr=>(k r).bind kL) R K):J φ (x.bind k) kL R K:=by
 intro r hr;obtain ⟨s,h1,h2⟩:=h r hr;exact⟨s,by rw[qaN]; exact h1,h2⟩
theorem J.as {L:Option σ} {X:Option β} {Y:β->Option α} (h:J φ L kL X (λx=>(Y x).bind K)):J φ L kL (X.bind Y) K:=by
 intro r hr;rw[qaN] at hr;exact h r hr
theorem J.un {L:Option σ} {K':γ->Option γ} (hK:K'=some) (h:J φ L kL R K):J φ L kL (R.bind K) K':=by
 intro r hr;subst hK;exact h r (by simpa using hr)
theorem J.ex {L:Option σ} {x:α} (h:J φ L kL (K x) some):J φ L kL (some x) K:=by
 intro r hr;exact h r (by simpa using hr)
theorem J.lp {L:Option σ} {L':Option σ} (h:L=L') (hk:J φ L' kL R K):J φ L kL R K:=h ▸ hk
theorem J.gU {x y:Option σ} {w:Bool} (h:J φ y kL R K):J φ (sm (.v undef) w x y) kL R K:=h
theorem J.ok {a:A} {f g:A->Option Go.Proofs.Ytebkhfhcipnfgaa.R} {kL:Go.Proofs.Ytebkhfhcipnfgaa.R->Option ρ} (h:J φ (f a) kL R K):J φ (ek (.ret a) f g) kL R K:=h
theorem J.cr {s:τ} {k:τ->Option σ} (h:J φ (k s) kL R K):J φ (some s) (λr=>(k r).bind kL) R K:=h
theorem J.sj {x y:Option σ} {b:Bool} (h:b=true) (h1:J φ x kL R K):J φ (dP (.v (.bool b)) x y) kL R K:=by subst h; exact h1
theorem J.tK {x y:Option σ} {b:Bool} (h:b=false) (h1:J φ y kL R K):J φ (dP (.v (.bool b)) x y) kL R K:=by subst h; exact h1
theorem J.Hp {x y:Option τ} {k:τ->Option σ} {b:Bool} (h1:b=true->J φ (x.bind k) kL X K) (h2:b=false->J φ (y.bind k) kL Y K):J φ ((sm (.v (.bool b)) true x y).bind k) kL (cond b X Y) K:=by
 cases b
 ·exact h2 rfl
 ·exact h1 rfl
theorem J.Fx {x y:Option τ} {k:τ->Option σ} {b:Bool} (h1:b=false->J φ (x.bind k) kL X K) (h2:b=true->J φ (y.bind k) kL Y K):J φ ((sm (.v (.bool b)) false x y).bind k) kL (cond b Y X) K:=by
 cases b
 ·exact h1 rfl
 ·exact h2 rfl
theorem cX {β:Type} {x y:Option β} {b:Bool} (h:b=true):sm (.v (.bool b)) true x y=x:=by subst h; rfl
theorem cW {β:Type} {x y:Option β} {b:Bool} (h:b=false):sm (.v (.bool b)) true x y=y:=by subst h; rfl
theorem px {β:Type} {x y:Option β} {b:Bool} (h:b=true):sm (.v (.bool b)) false x y=y:=by subst h; rfl
theorem pv {β:Type} {x y:Option β} {b:Bool} (h:b=false):sm (.v (.bool b)) false x y=x:=by subst h; rfl
def aD:Nat:=1208925819614629174706176
def cI (k:IntKind) (n:Int):List A:=[.v (.int k n)]
def c8 (c:UInt8):List A:=[.v (.int .u8 (c.toNat:Int))]
def cB (b:Bool):List A:=[.v (.bool b)]
def cS (s:ByteArray):List A:=[.v (.string s)]
def cL {T:Type} (f:T->List A) (l:List T):List A:=[.imm (l.map f) false]
def cz {T:Type} (f:T->List A):Prop:=∀ g x,bu g (f x)=f x
theorem cF {T:Type} {f:T->List A} (hf:cz f) (g:Nat->Nat->Nat->A) (l:List T):dM g (l.map f)=l.map f:=by
 induction l with
 | nil=>rfl
 | cons x l ih=>rw[qbc,dM,hf,ih]
def dG {T:Type} (f:T->List A):Prop:=∀ L x,bw L (f x)=true
theorem dn {T:Type} {f:T->List A} (hf:dG f) (L:Nat) (l:List T):aH L (l.map f)=true:=by
 induction l with
 | nil=>rfl
 | cons x l ih=>rw[qbc,aH,hf,ih]; rfl
theorem mD (k:IntKind):dG (cI k):=λ_ _=>rfl
theorem mB:dG c8:=λ_ _=>rfl
theorem mC:dG cB:=λ_ _=>rfl
theorem mF:dG cS:=λ_ _=>rfl
theorem mE {T:Type} {f:T->List A} (hf:dG f):dG (cL f):=λL x=>by
 show (aH L (x.map f)&&true)=true;rw[dn hf]; rfl
theorem wi (g:Nat->Nat->Nat->A):∀ (a b:List A),bu g (a++b)=bu g a++bu g b
 | [],b=>by simp only[qbd,bu]
 | x :: a,b=>by simp only[qaS,bu,wi g a b]
theorem wq (L:Nat):∀ (a b:List A),bw L (a++b)=(bw L a&&bw L b)
 | [],b=>by simp only[qbd,bw,qaX]
 | x :: a,b=>by simp only[qaS,bw,wq L a b,Bool.and_assoc]
theorem gI (k:IntKind):cz (cI k):=λ_ _=>rfl
theorem fN:cz c8:=λ_ _=>rfl
theorem mz:cz cB:=λ_ _=>rfl
theorem mA:cz cS:=λ_ _=>rfl
theorem lP {T:Type} {f:T->List A} (hf:cz f):cz (cL f):=λg x=>by
 show [cZ g (.imm (x.map f) false)]=_;simp only[cZ,cF hf]; rfl
theorem cP:(∀ (H:Heap) (a:A),snap H a=cZ (jk 4 H) a)/\(∀ (g:Nat->Nat->Nat->A) (b o m:Nat) (c:Bool),cZ g (.sl b o m c)=g b o m)/\(∀ (g:Nat->Nat->Nat->A) (els:List (List A)) (c:Bool),cZ g (.imm els c)=.imm (dM g els) false)/\(∀ (g:Nat->Nat->Nat->A) (cs:List A),cZ g (.agg cs)=.agg (bu g cs))/\(∀ (g:Nat->Nat->Nat->A) (cs:List A),cZ g (.tup cs)=.tup (bu g cs))/\(∀ (g:Nat->Nat->Nat->A) (t:TypeId) (x:A),cZ g (.ifc t x)=.ifc t (cZ g x))/\(∀ (g:Nat->Nat->Nat->A) (k:IntKind) (ks:List Int) (vs:List A),cZ g (.mv k ks vs)=.mv k ks (bu g vs))/\(∀ (g:Nat->Nat->Nat->A) (x:Value),cZ g (.v x)=.v x)/\(∀ (g:Nat->Nat->Nat->A) (f:Fn),cZ g (.fn f [] [])=.fn f [] [])/\(∀ (g:Nat->Nat->Nat->A),bu g []=[])/\(∀ (g:Nat->Nat->Nat->A) (a:A) (as:List A),bu g (a :: as)=cZ g a :: bu g as)/\(∀ (g:Nat->Nat->Nat->A),dM g []=[])/\(∀ (g:Nat->Nat->Nat->A) (a:List A) (as:List (List A)),dM g (a :: as)=bu g a :: dM g as)/\(∀ {T:Type} {f:T->List A} (hf:cz f) (g:Nat->Nat->Nat->A) (l:List T),dM g (l.map f)=l.map f)/\(∀ (g:Nat->Nat->Nat->A) (a b:List A),bu g (a++b)=bu g a++bu g b)/\(∀ k,cz (cI k))/\cz c8/\cz cB/\cz cS/\(∀ {T:Type} {f:T->List A} (hf:cz f),cz (cL f)):=
 ⟨λ_ _=>rfl,λ_ _ _ _ _=>rfl,λ_ _ _=>rfl,λ_ _=>rfl,λ_ _=>rfl,λ_ _ _=>rfl,λ_ _ _ _=>rfl,λ_ _=>rfl,λ_ _=>rfl,λ_=>rfl,λ_ _ _=>rfl,λ_=>rfl,λ_ _ _=>rfl,cF,wi,gI,fN,mz,mA,lP⟩
def fP {T U:Type} (f:T->U):Prop:=∀ x y,f x=f y->x=y
theorem map_inj {T:Type} {f:T->List A} (hf:fP f):∀ (l l':List T),l.map f=l'.map f↔l=l'
 | [],[]=>r8
 | [],_ :: _=>r8
 | _ :: _,[]=>r8
 | x :: l,y :: l'=>by
  simp only[qbc,qa9,map_inj hf l l']
  exact⟨λh=>⟨hf x y h.1,h.2⟩,λh=>⟨by rw[h.1],h.2⟩⟩
theorem pC (k:IntKind):fP (cI k):=λx y h=>by simpa [cI] using h
theorem oH:fP c8:=λx y h=>by
 simp only[c8,qa9,A.v.injEq,qbD,qcr,qcd] at h;exact UInt8.toNat_inj.1 o3
noncomputable def bW {X:Type} (e:X->List A) (G:X->Option A) (args:List A):Option A:=open Classical in if h:∃ x,e x=args then G h.choose else none
theorem aY {X:Type} {e:X->List A} (G:X->Option A) (inj:fP e) (x:X):bW e G (e x)=G x:=by
 unfold bW;have h:∃ y,e y=e x:=⟨x,rfl⟩
 rw[dif_pos h,inj _ _ h.choose_spec]
theorem Ix {X:Type} {e:X->List A} {G:X->Option A} {args:List A} {r:A} (h:bW e G args=some r):∃ x,e x=args/\G x=some r:=by
 unfold bW at h;split at h
 ·rename_i hx; exact⟨_,hx.choose_spec,h⟩
 ·cases h
theorem eT {X Y:Type} {e:X->List A} {F:X->Option Y} {f:Y->A} {args:List A} {r:A} (h:bW e (λx=>(F x).map f) args=some r):∃ x y,e x=args/\F x=some y/\f y=r:=by
 obtain ⟨x,hx,h⟩:=Ix h;simp only[qa0] at h;obtain ⟨y,hy,h⟩:=h;exact⟨x,y,hx,hy,h⟩
theorem TT:(∀ {T:Type} (a:T) (as:List T) (b:T) (bs:List T),(a :: as=b :: bs)=(a=b/\as=bs))/\(∀ a b:Value,(A.v a=A.v b)=(a=b))/\(∀ a b:List A,(A.agg a=A.agg b)=(a=b))/\(∀ (a:List (List A)) (c:Bool) (b:List (List A)) (d:Bool),(A.imm a c=A.imm b d)=(a=b/\c=d))/\(∀ (k:IntKind) (n:Int) (k':IntKind) (n':Int),(Value.int k n=Value.int k' n')=(k=k'/\n=n'))/\(∀ a b:Bool,(Value.bool a=Value.bool b)=(a=b))/\(∀ a b:ByteArray,(Value.string a=Value.string b)=(a=b))/\(∀ p:Prop,(p/\True)=p)/\(∀ p:Prop,(True/\p)=p):=
 ⟨λa as b bs=>qa9 a as b bs,λa b=>A.v.injEq a b,λa b=>A.agg.injEq a b,λa c b d=>A.imm.injEq a c b d,λk n k' n'=>qbD k n k' n',λa b=>qbE a b,λa b=>qbA a b,λp=>qcr p,λp=>qcd p⟩
def iI (C:Nat->List A->Option A) (k:Nat) (c:List A->Option A):Nat->List A->Option A:=λj args=>bif Nat.beq j k then c args else C j args
theorem qH {cx:Cx} {n k:Nat} {base:bB} {args:List A} {H:Heap} {lo:Nat} (h:Nat.ble cx.P.funcs.size k=false) (h2:ix cx k H=false:=by rfl) (h3:iP cx k H=false:=by rfl):bz cx (n+1) base k args H lo=aK cx (bz cx n base) (bz cx n) n k args H lo:=by
 rw[bz,h,h2,h3]; rfl
theorem bk {cx:Cx} {n k:Nat} {args:List A} {H:Heap} {lo:Nat} (h:Nat.ble cx.P.funcs.size k=false) (h2:ix cx k H=false:=by rfl) (h3:iP cx k H=false:=by rfl):dH cx (n+1) k args H lo=aK cx (dH cx n) (bz cx n) n k args H lo:=qH h h2 h3
theorem Ai {cx:Cx} {k:Nat}:ix cx k []=false:=by
 unfold ix;cases hb:Nat.beq (cx.cut k) 0 with
 | true=>rfl
 | false=>cases hk:cx.cut k with
  | zero=>rw[hk] at hb; cases hb
  | succ m=>rfl
theorem yx {cx:Cx} {k:Nat}:iP cx k []=false:=by
 unfold iP;cases cx.deep k<;>rfl
theorem Ci {cx:Cx} {n k:Nat} {args:List A} {lo:Nat} {r:Go.Proofs.Ytebkhfhcipnfgaa.R} (h:aK cx (dH cx n) (bz cx n) n k args [] lo=some r):dH cx (n+1) k args [] lo=some r:=by
 refine(bk (uK ?_) Ai yx).trans h;unfold aK at h;cases hf:cx.P.funcs[k]? with
 | none=>rw[hf] at h; cases h
 | some fn=>exact(qaj.1 hf).1
theorem Er {q b:Nat} {call:bB} {rnd:List A->Heap->Nat->Option Go.Proofs.Ytebkhfhcipnfgaa.R} {args:List A} {H:Heap} {lo:Nat}:wV q call b rnd (q+b) args H lo=rnd args H lo:=by
 unfold wV; rw[show Nat.beq (q+b) (q+b)=true from r8]; rfl
theorem ES {cx:Cx} {b:Nat} {base:bB} {args:List A} {H:Heap} {lo:Nat}:∀ {m:Nat},bz cx m base (cx.P.funcs.size+b) args H lo=base (cx.P.funcs.size+b) args H lo:=λ{m}=>by
 cases m<;>rw[bz,show Nat.ble cx.P.funcs.size (cx.P.funcs.size+b)=true from by simp[qcQ]]<;>rfl
theorem zx {β:Type} {H:Heap} {b:Nat} {x:Option β} (h:H[b]? = some (.rng .ready)):Mg H b x=x:=by unfold Mg; rw[h]
theorem yr {β:Type} {H:Heap} {b:Nat} {x:Option β} (h:H[b]? = some (.rng .busy)):I7 H b x=x:=by unfold I7; rw[h]
section
variable {β:Type} {H:Heap} {b:Nat} {kn:Heap->Option β} {kx kg:Nat->Heap->Option β} {kr:Heap->Option β}
theorem QP (h:H[b]? = some (.rng .ready)):ra b H kn kx kg kr=kn (H.set b .dead):=by unfold ra; rw[h]
theorem QQ (h:H[b]? = some (.rng (.done .ret))):ra b H kn kx kg kr=kr (H.set b .dead):=by unfold ra; rw[h]
end
section
variable {cx:Cx} {call:bB} {q lo b:Nat} {first cap args:List A} {H:Heap} {k pan:A->Heap->Option Go.Proofs.Ytebkhfhcipnfgaa.R} {kL:Go.Proofs.Ytebkhfhcipnfgaa.R->Option ρ}
theorem J.dC (h1:dk cx.P q=true) (h2:cx.isOrc q=false) (h:J φ ((call q (first++args++cap) H lo).bind λr=>ek r.1 (λa=>k a r.2) (λa=>pan a r.2)) kL R K):J φ (ez cx call (.fn (.func q) first cap) args H lo k pan) kL R K:=by
 unfold ez; simp only[h1,h2,qaa,Z8]; exact h
theorem J.dO (h1:dk cx.P q=true) (h2:cx.isOrc q=true) (h:J φ ((cx.C q ((first++args++cap).map (snap H))).bind λa=>k a H) kL R K):J φ (ez cx call (.fn (.func q) first cap) args H lo k pan) kL R K:=by
 unfold ez; simp only[h1,h2,qaa]; exact h
theorem J.dY (h1:AU H b=true) (h:J φ ((call (cx.P.funcs.size+b) args H lo).bind λr=>ek r.1 (λa=>k a r.2) (λ_=>none)) kL R K):J φ (ez cx call (.yld b) args H lo k pan) kL R K:=by
 unfold ez; simp only[h1,qaa]; exact h
end
theorem J.vO {cx:Cx} {call:bB} {q:Nat} {first cap args:List A} {H:Heap} {k:A->Option σ} (h1:dk cx.P q=true) (h2:cx.isOrcV q=true) (h:J φ ((cx.C q ((first++args++cap).map (snap H))).bind k) kL R K):J φ (tM cx call (.fn (.func q) first cap) args H k) kL R K:=by
 unfold tM; simp only[h1,h2,qaa]; exact h
theorem CD {cx:Cx} (horc:lK cx) (hmx:cx.P.follows .mixedOrders=true) {γ:Type} {n k:Nat} {args:List A} {f:γ->A} {F:Option γ} {y:γ}
  (h:J (λ(o:Go.Proofs.Ytebkhfhcipnfgaa.R) y=>∃ v,o.1=.ret v/\bp o.2 v=f y) (aK cx (dH cx (n+8)) (bz cx (n+8)) (n+8) k args [] 0) some F some) (hF:F=some y):fX cx.P cx.glob k args (f y):=by
 obtain ⟨s,h1,v,h2,h3⟩:=h y (by rw[hF]; rfl);obtain ⟨o,H⟩:=s;have h2:o=.ret v:=h2;subst h2;rw[show ∀ x:Option Go.Proofs.Ytebkhfhcipnfgaa.R,x.bind some=x from λx=>by cases x<;>rfl] at h1;have h1:dH cx (n+9) k args [] 0=some (.ret v,H):=Ci h1;have:=rA horc hmx h1;rwa [show bp H v=f y from h3] at this
abbrev wr (k:IntKind) (n:Int):Int:=k.wrap n
def rf (k:IntKind) (x y:Int):Int:=k.wrap (x*2 ^ (min y.toNat k.bits))
def jJ (k:IntKind) (x y:Int):Int:=x.fdiv (2 ^ (min y.toNat k.bits))
def nQ (k:IntKind) (x y:Int):Int:=k.wrap ((BitVec.ofInt k.bits x &&& BitVec.ofInt k.bits y).toNat:Int)
def oO (k:IntKind) (x y:Int):Int:=k.wrap ((BitVec.ofInt k.bits x ||| BitVec.ofInt k.bits y).toNat:Int)
def tQ (k:IntKind) (x y:Int):Int:=k.wrap ((BitVec.ofInt k.bits x ^^^ BitVec.ofInt k.bits y).toNat:Int)
section
variable {P:Program} {t:TypeId} {i j:Bool} {k k2:IntKind} {a b:Int}
theorem ux (hb:0<=b):me P .shl t i j (.v (.int k a)) (.v (.int k2 b))=some (.v (.int k (rf k a b))):=by
 have h:dj P (do eqGuard .shl t (rep i) (rep j) (.int k a) (.int k2 b); binOp .shl t (.int k a) (.int k2 b))=some (.int k (rf k a b)):=by
  show dj P (binOp .shl t (.int k a) (.int k2 b))=_;simp only[binOp,Op.shift,qah (Int.not_lt.2 hb)]; rfl
 show (dj P _).map wL=_;rw[h]; rfl
theorem jx (hb:0<=b):me P .shr t i j (.v (.int k a)) (.v (.int k2 b))=some (.v (.int k (jJ k a b))):=by
 have h:dj P (do eqGuard .shr t (rep i) (rep j) (.int k a) (.int k2 b); binOp .shr t (.int k a) (.int k2 b))=some (.int k (jJ k a b)):=by
  show dj P (binOp .shr t (.int k a) (.int k2 b))=_;simp only[binOp,Op.shift,qah (Int.not_lt.2 hb)]; rfl
 show (dj P _).map wL=_;rw[h]; rfl
theorem j0:me P .and t i j (.v (.int k a)) (.v (.int k b))=some (.v (.int k (nQ k a b))):=by
 have h:dj P (do eqGuard .and t (rep i) (rep j) (.int k a) (.int k b); binOp .and t (.int k a) (.int k b))=some (.int k (nQ k a b)):=by
  show dj P (binOp .and t (.int k a) (.int k b))=_;simp only[binOp,ne_eq,qcL,qcq,Op.intBits]; rfl
 show (dj P _).map wL=_;rw[h]; rfl
theorem jv:me P .or t i j (.v (.int k a)) (.v (.int k b))=some (.v (.int k (oO k a b))):=by
 have h:dj P (do eqGuard .or t (rep i) (rep j) (.int k a) (.int k b); binOp .or t (.int k a) (.int k b))=some (.int k (oO k a b)):=by
  show dj P (binOp .or t (.int k a) (.int k b))=_;simp only[binOp,ne_eq,qcL,qcq,Op.intBits]; rfl
 show (dj P _).map wL=_;rw[h]; rfl
theorem qo:me P .xor t i j (.v (.int k a)) (.v (.int k b))=some (.v (.int k (tQ k a b))):=by
 have h:dj P (do eqGuard .xor t (rep i) (rep j) (.int k a) (.int k b); binOp .xor t (.int k a) (.int k b))=some (.int k (tQ k a b)):=by
  show dj P (binOp .xor t (.int k a) (.int k b))=_;simp only[binOp,ne_eq,qcL,qcq,Op.intBits]; rfl
 show (dj P _).map wL=_;rw[h]; rfl
end
theorem gM {n:Int} (h:(decide (0<=n)&&decide (n<256))=true):((UInt8.ofNat n.toNat).toNat:Int)=n:=by
 simp only[Z9,qag] at h;rw[UInt8.toNat_ofNat',qcS o3];omega
def bG {T:Type} (l:List T) (i:Int):Option T:=bif decide (0<=i) then l[i.toNat]? else none
theorem JN {P:Program} {t e:TypeId} {es:Nat} {T:Type} (f:T->List A) (l:List T) (c:Bool) (k:IntKind) (i:Int) (H:Heap) (h1:P.underlying t=some (.slice e)) (h2:cY P e=some es) (h3:∀ x,(f x).length=es) :
  dA P t (.imm (l.map f) c) (.v (.int k i)) H=(bG l i).map λx=>.ip (f x):=by
 unfold dA idx bG;rw[h1];by_cases hi:0<=i
 ·simp only[hi,qam,qaa,Z6,ij,h2,qaO]
  cases l[i.toNat]? with
  | none=>rfl
  | some x=>simp[h3]
 ·simp only[hi,qbg,Z8,qcP,qdS]
theorem JU {P:Program} {t e:TypeId} {T:Type} (f:T->List A) (l:List T) (c:Bool) (H:Heap) (h1:P.underlying t=some (.slice e)):sy P t (.imm (l.map f) c) H=some (.v (.int .i64 l.length)):=by
 unfold sy;rw[h1];simp[ij]
section
variable {P:Program} {t e es by_:Nat} {T:Type} {f:T->List A}
def gv (l:List T) (lo hi:Int):Option (List T):=bif decide (0<=lo)&&decide (lo<=hi)&&decide (hi<=l.length) then some ((l.drop lo.toNat).take (hi.toNat - lo.toNat)) else none
def cU (b:Nat) (l l2:List T):Option (List T):=bif decide ((l.length+l2.length)*b<=dt) then some (l++l2) else none
def mi (f:T->List A):Prop:=∀ x,(f x).all A.cell=true
theorem LC (k:IntKind):mi (cI k):=λ_=>rfl
theorem LB:mi c8:=λ_=>rfl
theorem sF (hl:∀ x,(f x).length=es) (hc:mi f) (l:List T):((l.map f).all λcs=>cs.length==es&&cs.all A.cell)=true:=by
 rw[List.all_map];exact qak.2 λx _=>by simp[hl,hc x]
def qm (H:Heap) (y:A) (f:T->List A) (l:List T):Prop:=els? H y=some (l.map f)
theorem bM (l:List T) (c:Bool) (H:Heap):qm H (.imm (l.map f) c) f l:=rfl
theorem tY (s:ByteArray) (H:Heap):qm H (.v (.string s)) c8 s.data.toList:=rfl
theorem yz {P:Program} {H:Heap} {t2 by_:Nat} {z:List A} {y:A} (h:mS P t2=true):Cf P H t2 by_ z y=els? H y:=by unfold Cf; rw[h]; rfl
theorem sD (hl:∀ x,(f x).length=es) (hc:mi f) (h0:es≠0) (hb:by_≠0) {z:List A} (hz:z.length=es) (l2:List T) :
  (es==0 || by_==0 || !(z.length==es) || !((l2.map f).all λcs=>cs.length==es&&cs.all A.cell))=false:=by
 rw[sF hl hc];simp[h0,hb,hz]
theorem Jt {t2:Nat} {z:List A} (h1:kE P t=some e) (h2:cY P e=some es) (h3:jS P e=some by_) (h4:iD P e=some z) (hz:z.length=es) (h0:es≠0) (hb:by_≠0) (hn:mS P t2=true)
  (hl:∀ x,(f x).length=es) (hc:mi f) {H:Heap} {lo:Nat} {l l2:List T} {y:A} (hy:qm H y f l2) :
  bU P t t2 false (.imm (l.map f) true) y H lo=(cU by_ l l2).map λr=>(.sl H.length 0 r.length false,H++[.row false es (r.map f)]):=by
 unfold bU;rw[h1,Z6,h2,Z6,h3,Z6,h4,Z6,yz hn,show els? H y=_ from hy,Z6,sD hl hc h0 hb hz,Z8];simp only[qbH,Bool.false_and,Z8,sF hl hc,qaa,cU]
 cases decide ((l.length+l2.length)*by_<=dt)<;>simp
theorem Ju {t2:Nat} {z:List A} (h1:kE P t=some e) (h2:cY P e=some es) (h3:jS P e=some by_) (h4:iD P e=some z) (hz:z.length=es) (h0:es≠0) (hb:by_≠0) (hn:mS P t2=true)
  (hl:∀ x,(f x).length=es) (hc:mi f) {wr:Bool} {H:Heap} {lo b:Nat} {l l2:List T} {y:A} (hH:H[b]? = some (.row false es (l.map f))) (hlo:lo<=b) (hy:qm H y f l2) :
  bU P t t2 wr (.sl b 0 l.length false) y H lo=(cU by_ l l2).map λr=>(.sl b 0 r.length false,H.set b (.row false es (r.map f))):=by
 unfold bU;rw[h1,Z6,h2,Z6,h3,Z6,h4,Z6,yz hn,show els? H y=_ from hy,Z6,sD hl hc h0 hb hz,Z8];simp only[hH,qbH,cU]
 cases hd:decide ((l.length+l2.length)*by_<=dt)<;>simp[hlo]
structure xQ (P:Program) (t t2 e es by_:Nat) (z:List A) (f:T->List A):Prop where
 h1:kE P t=some e
 h2:cY P e=some es
 h3:jS P e=some by_
 h4:iD P e=some z
 hz:z.length=es
 h0:es≠0
 hb:by_≠0
 hn:mS P t2=true
 hl:∀ x,(f x).length=es
 hc:mi f
theorem nR {t2:Nat} {z:List A} (a:xQ P t t2 e es by_ z f) {H:Heap} {lo:Nat} {l l2:List T} {y:A} (hy:qm H y f l2) :
  bU P t t2 false (.imm (l.map f) true) y H lo=(cU by_ l l2).map λr=>(.sl H.length 0 r.length false,H++[.row false es (r.map f)]):=Jt a.h1 a.h2 a.h3 a.h4 a.hz a.h0 a.hb a.hn a.hl a.hc hy
theorem cC {t2:Nat} {z:List A} (a:xQ P t t2 e es by_ z f) {wr:Bool} {H:Heap} {lo b:Nat} {l l2:List T} {y:A} (hH:H[b]? = some (.row false es (l.map f))) (hlo:lo<=b) (hy:qm H y f l2) :
  bU P t t2 wr (.sl b 0 l.length false) y H lo=(cU by_ l l2).map λr=>(.sl b 0 r.length false,H.set b (.row false es (r.map f))):=Ju a.h1 a.h2 a.h3 a.h4 a.hz a.h0 a.hb a.hn a.hl a.hc hH hlo hy
theorem E8 {d:Nat} {k:IntKind} {n:Int}:mU d (some (.v (.int k n)))=bif decide (0<=n) then some n.toNat else none:=rfl
theorem fx {P:Program} {t e:TypeId} {es:Nat} {T:Type} {f:T->List A} {l:List T} {c:Bool} {k:IntKind} {i:Int} {H:Heap} (h1:P.underlying t=some (.slice e):=by kernel_rfl) (h2:cY P e=some es:=by kernel_rfl) (h3:∀ x,(f x).length=es:=by exact λ_=>rfl) :
  dA P t (.imm (l.map f) c) (.v (.int k i)) H=(bG l i).map λx=>.ip (f x):=JN f l c k i H h1 h2 h3
theorem eS {P:Program} {t e:TypeId} {T:Type} {f:T->List A} {l:List T} {c:Bool} {H:Heap} (h1:P.underlying t=some (.slice e):=by kernel_rfl):sy P t (.imm (l.map f) c) H=some (.v (.int .i64 l.length)):=JU f l c H h1
theorem mw (h1:P.underlying t=some (.slice e)) (h2:cY P e=some es) (hl:∀ x,(f x).length=es) {H:Heap} {l:List T} {lo hi:Option A} {a b:Int} (ha:(lo=none/\a=0)∨∃ k,lo=some (.v (.int k a))) (hb:(hi=none/\b=l.length)∨∃ k,hi=some (.v (.int k b))) :
  eK P t (.imm (l.map f) false) lo hi none H=(gv l a b).map λr=>.imm (r.map f) false:=by
 unfold eK;rw[h1];simp only[h2,Z6,qbH,Bool.false_and]
 have e1:mU l.length hi=bif decide (0<=b) then some b.toNat else none:=by
  rcases hb with ⟨rfl,rfl⟩ | ⟨k,rfl⟩
  ·simp[mU]
  ·rfl
 have e2:mU 0 lo=bif decide (0<=a) then some a.toNat else none:=by
  rcases ha with ⟨rfl,rfl⟩ | ⟨k,rfl⟩
  ·simp[mU]
  ·rfl
 have e3:∀ i:Nat,(i==0 || match (l.map f)[i]? with | some cs=>cs.length==es | none=>true)=true:=λi=>by
  rw[qaO];cases l[i]?<;>simp[hl]
 rw[e1,e2];unfold gv;by_cases hb0:0<=b
 ·by_cases ha0:0<=a
  ·have q1:(decide (a.toNat<=b.toNat))=decide (a<=b):=by rw[qcz]; omega
   have q2:(decide (b.toNat<=l.length))=decide (b<=(l.length:Int)):=ZX;simp only[hb0,ha0,qam,qaa,Z6,qaX,q1,q2,qcp,qcX]
   have e4:=e3 a.toNat;rw[qaO] at e4 ⊢;cases hx:l[a.toNat]?<;>rw[hx] at e4<;>cases (decide (a<=b)&&decide (b<=(l.length:Int)))<;>simp[hl]
  ·simp[hb0,ha0]
 ·have:(decide (0<=a)&&decide (a<=b)&&decide (b<=(l.length:Int)))=false:=by
   rw[qce]; intro hh; simp only[Z9,qag] at hh; omega
  simp[hb0,this]
theorem oY (h1:P.underlying t=some (.slice e)) (h2:cY P e=some es) (hl:∀ x,(f x).length=es) {H:Heap} {l:List T} {lo:Option A} {a b:Int} {k1 k2:IntKind} {c:Bool} (ha:(lo=none/\a=0)∨∃ k,lo=some (.v (.int k a))) :
  eK P t (.imm (l.map f) c) lo (some (.v (.int k1 b))) (some (.v (.int k2 b))) H=(gv l a b).map λr=>.imm (r.map f) true:=by
 unfold eK;rw[h1];simp only[h2,Z6,qbH,E8,idx]
 have e2:mU 0 lo=bif decide (0<=a) then some a.toNat else none:=by
  rcases ha with ⟨rfl,rfl⟩ | ⟨k,rfl⟩
  ·simp[mU]
  ·rfl
 have e3:∀ i:Nat,(i==0 || match (l.map f)[i]? with | some cs=>cs.length==es | none=>true)=true:=λi=>by
  rw[qaO];cases l[i]?<;>simp[hl]
 rw[e2];unfold gv;by_cases hb0:0<=b
 ·by_cases ha0:0<=a
  ·have q1:(decide (a.toNat<=b.toNat))=decide (a<=b):=by rw[qcz]; omega
   have q2:(decide (b.toNat<=l.length))=decide (b<=(l.length:Int)):=ZX;simp only[hb0,ha0,qam,qaa,Z6,qaX,q1,q2,qcp,qcX,qbj]
   rw[qaO];cases hx:l[a.toNat]?<;>cases (decide (a<=b)&&decide (b<=(l.length:Int)))<;>simp[hl]
  ·simp[hb0,ha0]
 ·have:(decide (0<=a)&&decide (a<=b)&&decide (b<=(l.length:Int)))=false:=by
   rw[qce]; intro hh; simp only[Z9,qag] at hh; omega
  simp[hb0,this]
theorem gC (hf:cz f) {H:Heap} {b n:Nat} {l:List T} (h:H[b]? = some (.row false es (l.map f))):jk (n+1) H b 0 l.length=.imm (l.map f) false:=by
 unfold jk;rw[h];simp only[qaM]
 rw[qaK r8,cF hf]
theorem cq (hf:cz f) {H:Heap} {b n:Nat} {wr:Bool} {l:List T} (h:H[b]? = some (.row wr es (l.map f))):jK (n+1) H b 0 l.length=.imm (l.map f) false:=by
 unfold jK;rw[h];simp only[qaM]
 rw[qaK r8,cF hf]
theorem fL (hf:cz f) {H:Heap} {b n o m:Nat} {wr:Bool} {l:List T} (h:H[b]? = some (.row wr es (l.map f))):jK (n+1) H b o m=.imm (((l.drop o).take m).map f) false:=by
 unfold jK;rw[h];simp only[<-qcX,<-qcp]
 rw[cF hf]
def gO (n:Nat) (i:Int):Option Nat:=bif decide (0<=i)&&decide (i<n) then some i.toNat else none
def lY (l:List T) (i:Nat) (u:T->T):Option (List T):=match l[i]? with | some y=>some (l.set i (u y)) | none=>none
def BE (b:Nat) (n:Int) (z:T):Option (List T):=bif decide (0<=n)&&decide (n*b<=dt)&&decide (n<=dt) then some (List.replicate n.toNat z) else none
def tt (l:List T) (o n:Nat) (l2:List T):List T:=bI l o (l2.take n)
theorem DJ {n:Nat} {i:Int}:(bif decide (0<=i) then some i.toNat else none:Option Nat).bind (λj=>bif decide (j<n) then some j else none)=gO n i:=by
 unfold gO;by_cases h:0<=i
 ·have:decide (i.toNat<n)=decide (i<n):=by rw[qcz]; omega
  simp[h,this]
 ·simp[h]
theorem I1 {H:Heap} {b o n:Nat} {l:List T} {c:Bool} {k:IntKind} {i:Int} (h1:P.underlying t=some (.slice e)) (h2:cY P e=some es) (h:H[b]? = some (.row true es (l.map f))) :
  dA P t (.sl b o n c) (.v (.int k i)) H=(gO n i).map λj=>.ep b (o+j) 0:=by
 unfold dA idx;rw[h1,<-DJ];by_cases hi:0<=i
 ·simp only[hi,qam,qaa,Z6,ij,h2,h,qbj]
  cases decide (i.toNat<n)<;>rfl
 ·simp only[hi,qbg,Z8,qcP,qdS]
theorem dU {H:Heap} {b n:Nat} {l:List T} {c:Bool} {k:IntKind} {i:Int} (h1:P.underlying t=some (.slice e)) (h2:cY P e=some es) (h:H[b]? = some (.row true es (l.map f))) :
  dA P t (.sl b 0 n c) (.v (.int k i)) H=(gO n i).map λj=>.ep b j 0:=by
 rw[I1 h1 h2 h];cases gO n i<;>simp
theorem jZ {H:Heap} {b i o n:Nat} {l:List T} {g:T->A} (h2:cY P t=some n) (h0:n≠0) (hl:∀ x,(f x).length=es) (ho:o+n<=es) (h:H[b]? = some (.row true es (l.map f))) (hg:∀ x,join P t (((f x).drop o).take n)=some (g x)) :
  lL P t (.ep b i o) H=(l[i]?).map g:=by
 unfold lL;rw[h2,Z6];have:(n==0)=false:=by simpa using h0
 simp only[this,Z8,h,qaO]
 cases l[i]? with
 | none=>rfl
 | some x=>simp only[qaY,hl,qac ho,qaa,hg]
theorem gm {H:Heap} {b i o n lo:Nat} {l:List T} {x:A} {xs:List A} {u:T->T} (h2:cY P t=some n) (hx:x.cells? = some xs) (h0:n≠0) (hxl:xs.length=n) (hl:∀ x,(f x).length=es) (ho:o+n<=es) (hlo:lo<=b) (h:H[b]? = some (.row true es (l.map f))) (hu:∀ y,bI (f y) o xs=f (u y)) :
  jz P t (.ep b i o) x H lo=(lY l i u).map λr=>H.set b (.row true es (r.map f)):=by
 unfold jz lY;rw[h2,Z6,hx,Z6];have:(n==0 || !(xs.length==n))=false:=by simp[h0,hxl]
 simp only[this,Z8,h,qaO]
 cases l[i]? with
 | none=>rfl
 | some y=>simp only[qaY,hl,qac ho,qac hlo,qbm,qaa,hu,List.map_set]
theorem Fq {H:Heap} {b o n lo:Nat} {l l2:List T} {c:Bool} {y:A} (h1:kE P t=some e) (h2:cY P e=some es) (h0:es≠0) (hl:∀ x,(f x).length=es) (hc:mi f) (hlo:lo<=b) (h:H[b]? = some (.row true es (l.map f))) (hy:qm H y f l2) :
  oU P t (.sl b o n c) y H lo=some (.v (.int .i64 ((min l2.length n:Nat):Int)),H.set b (.row true es ((tt l o n l2).map f))):=by
 unfold oU;rw[h1,Z6,h2,Z6,show els? H y=_ from hy,Z6];have:(es==0 || !((l2.map f).all λcs=>cs.length==es&&cs.all A.cell))=false:=by rw[sF hl hc]; simp[h0]
 simp only[this,Z8,h,qac hlo,qaX,qbj,qaa,qbH,tt,bI,qdl,qcp,qcX,qba]
theorem ti {H:Heap} {k1 k2:IntKind} {n:Int} {z:T} (h1:kE P t=some e) (h2:cY P e=some es) (h3:jS P e=some by_) {z':List A} (h4:iD P e=some z') (hz:z'.map wT=f z) (h0:es≠0) (hl:∀ x,(f x).length=es) :
  uE P t (.v (.int k1 n)) (.v (.int k2 n)) H=(BE by_ n z).map λr=>(.sl H.length 0 r.length false,H++[.row true es (r.map f)]):=by
 unfold uE cR BE idx;rw[h1,Z6,h2,Z6,h3,Z6,h4,Z6];have hzl:z'.length=es:=by have:=hl z; rw[<-hz] at this; simpa using this
 by_cases hn:0<=n
 ·have e1:decide (n.toNat*by_<=dt)=decide (n*by_<=dt):=by
   obtain ⟨m,rfl⟩:∃ m:Nat,n=m:=⟨n.toNat,o3⟩
   rw[qcz,qbu];exact⟨λh=>by exact_mod_cast h,λh=>by exact_mod_cast h⟩
  have e2:decide (n.toNat<=dt)=decide (n<=dt):=ZX;simp only[hn,qam,qaa,Z6,hz,hzl,qbj,qau,qcC,e1,e2,qab,qaX]
  have:(es==0)=false:=by simpa using h0
  rw[this];cases decide (n*by_<=dt)<;>cases decide (n<=dt)<;>simp
 ·simp[hn]
theorem CS {H:Heap} {k1 k2:IntKind} {n:Int} {z:T} (h1:kE P t=some e) (h2:cY P e=some es) (h3:jS P e=some by_) {z':List A} (h4:iD P e=some z') (hz:z'.map wT=f z) (h0:es≠0) (hl:∀ x,(f x).length=es) :
  jy P t (.v (.int k1 n)) (.v (.int k2 n)) H=(BE by_ n z).map λr=>(.imm (r.map f) false,H):=by
 unfold jy BE idx;rw[h1,Z6,h2,Z6,h3,Z6,h4,Z6];have hzl:z'.length=es:=by have:=hl z; rw[<-hz] at this; simpa using this
 by_cases hn:0<=n
 ·have e1:decide (n.toNat*by_<=dt)=decide (n*by_<=dt):=by
   obtain ⟨m,rfl⟩:∃ m:Nat,n=m:=⟨n.toNat,o3⟩
   rw[qcz,qbu];exact⟨λh=>by exact_mod_cast h,λh=>by exact_mod_cast h⟩
  have e2:decide (n.toNat<=dt)=decide (n<=dt):=ZX;simp only[hn,qam,qaa,Z6,hz,hzl,qbj,qau,qcC,e1,e2,qaX]
  have:(es==0)=false:=by simpa using h0
  rw[this];cases decide (n*by_<=dt)<;>cases decide (n<=dt)<;>simp
 ·simp[hn]
theorem pQ {t2:Nat} {z:List A} (h1:kE P t=some e) (h2:cY P e=some es) (h3:jS P e=some by_) (h4:iD P e=some z) (hz:z.length=es) (h0:es≠0) (hb:by_≠0) (hn:mS P t2=true)
  (hl:∀ x,(f x).length=es) (hc:mi f) {H:Heap} {lo:Nat} {l2:List T} {y:A} (hy:qm H y f l2) :
  bU P t t2 true (.imm [] true) y H lo=(cU by_ [] l2).map λr=>(.sl H.length 0 r.length false,H++[.row true es (r.map f)]):=by
 unfold bU;rw[h1,Z6,h2,Z6,h3,Z6,h4,Z6,yz hn,show els? H y=_ from hy,Z6,sD hl hc h0 hb hz,Z8];simp only[qaq,qbH,qaU,List.isEmpty_nil,qbm,qaa,cU,qbd]
 cases decide (l2.length*by_<=dt)<;>simp
theorem HA (hf:cz f) {H:Heap} {b o n lo:Nat} {c:Bool} {l:List T} (h:H[b]? = some (.row true es (l.map f))) (hlo:lo<=b):oW lo (.sl b o n c) H=some (.imm (((l.drop o).take n).map f) false,H.set b .dead):=by
 unfold oW;simp only[h,qac hlo,qaa,<-qcX,<-qcp,cF hf]
theorem KR {H:Heap} {b o n:Nat} {B:aA} {c:Bool} (h1:P.underlying t=some (.slice e)) (h:H[b]? = some B) (hB:ij H (.sl b o n c)=true):sy P t (.sl b o n c) H=some (.v (.int .i64 n)):=by
 unfold sy;rw[h1,hB]; rfl
end
def iv (l:List UInt8):ByteArray:=⟨l.toArray⟩
def ky (s:ByteArray):List UInt8:=s.data.toList
theorem uL:∀ l:List UInt8,bytesOf (l.map c8)=some l
 | []=>rfl
 | a :: l=>by
  rw[qbc];show (bytesOf (l.map c8)).map (((a.toNat:Int).toNat.toUInt8) :: ·)=_;rw[uL l];simp
theorem pY {P:Program} {s d e:Nat} (h1:P.underlying s=some (.slice e)) (h2:P.underlying d=some .string) (h3:P.underlying e=some (.int .u8)) (h4:cY P e=some 1) {H:Heap} {x:A} {l:List UInt8} (hx:qm H x c8 l) (hn:Al H x=els? H x) :
  bt P s d x H=some (.v (.string (iv l))):=by
 unfold bt;rw[h1,h2];simp only[h3,h4,hn]
 rw[show els? H x=_ from hx,Z6,uL];rfl
def NN (y:Nat):A:=bif Nat.beq y 0 then .v .nilFunc else .fn (.func y) [] []
theorem CO (L e:Nat):A.under L (NN e)=true:=by unfold NN; cases Nat.beq e 0<;>rfl
theorem df:(∀ (L e:Nat),A.under L (NN e)=true)/\(∀ {T:Type} {f:T->List A} (hf:dG f) (L:Nat) (l:List T),aH L (l.map f)=true)/\(∀ (L:Nat) (a b:List A),bw L (a++b)=(bw L a&&bw L b))/\(∀ k,dG (cI k))/\dG c8/\dG cB/\dG cS/\(∀ {T:Type} {f:T->List A} (hf:dG f),dG (cL f))/\(∀ b:Bool,(b&&true)=b)/\(∀ b:Bool,(true&&b)=b)/\(∀ {β:Type} (x y:β),(bif true then x else y)=x):=
 ⟨CO,dn,wq,mD,mB,mC,mF,mE,λb=>qbn b,λb=>qaX b,λ_ _=>rfl⟩
theorem uB:(∀ (L:Nat) (cs:List A),aA.under L (.box cs)=bw L cs)/\(∀ (L:Nat) (b:Bool) (e:Nat) (l:List (List A)),aA.under L (.row b e l)=aH L l)/\(∀ (L:Nat) (r:ku),aA.under L (.rng r)=true)/\(∀ L:Nat,aA.under L .dead=true)/\(∀ (L:Nat) (k:IntKind) (ks:List Int) (vs:List A),aA.under L (.mp k ks vs)=bw L vs) ∧
  (∀ L:Nat,bw L []=true)/\(∀ (L:Nat) (a:A) (as:List A),bw L (a :: as)=(A.under L a&&bw L as))/\(∀ L:Nat,aH L []=true)/\(∀ (L:Nat) (a:List A) (as:List (List A)),aH L (a :: as)=(bw L a&&aH L as)) ∧
  (∀ L:Nat,A.under L .any=true)/\(∀ (L:Nat) (v:Value),A.under L (.v v)=true)/\(∀ L b o:Nat,A.under L (.ptr b o)=decide (b<L))/\(∀ L b i o:Nat,A.under L (.ep b i o)=decide (b<L))/\(∀ (L b o n:Nat) (c:Bool),A.under L (.sl b o n c)=decide (b<L))/\(∀ L b:Nat,A.under L (.mr b)=decide (b<L)) ∧
  (∀ (L:Nat) (cs:List A),A.under L (.ip cs)=bw L cs)/\(∀ (L:Nat) (cs:List A),A.under L (.agg cs)=bw L cs)/\(∀ (L:Nat) (cs:List A),A.under L (.tup cs)=bw L cs)/\(∀ (L:Nat) (l:List (List A)) (c:Bool),A.under L (.imm l c)=aH L l)/\(∀ (L:Nat) (f:Fn) (a b:List A),A.under L (.fn f a b)=(bw L a&&bw L b))/\(∀ (L:Nat) (t:TypeId) (x:A),A.under L (.ifc t x)=A.under L x) ∧
  (∀ f:aA->Bool,[].all f=true)/\(∀ (f:aA->Bool) (b:aA) (H:Heap),(b :: H).all f=(f b&&H.all f)):=by
 refine⟨?_,?_,?_,?_,?_,?_,?_,?_,?_,?_,?_,?_,?_,?_,?_,?_,?_,?_,?_,?_,?_,?_,?_⟩<;>intros<;>first | rfl | (simp only[aA.under,A.under,bw,aH]; done)
theorem de {L:Nat} {H H':Heap} (h:H.take L=H') (hu:H'.all (aA.under L)=true):trim L H=some H':=by
 unfold trim;rw[h,hu];cases hL:H.length==L with
 | false=>rfl
 | true=>rw[<-h,qaK (qc3 (eq_of_beq hL))]; rfl
theorem KQ {L:Nat} {v:A} {H:Heap} (h:A.under L v=true):CI L (Out.ret v,H)=some v:=by
 unfold CI;simp only[h,qaa]
abbrev iA (n:Int):A:=A.v (Value.int .i64 n)
abbrev uA (n:Int):A:=A.v (Value.int .u8 n)
abbrev bA (b:Bool):A:=A.v (Value.bool b)
def getM {T:Type}:List (Int×T)->Int->Option T
 | [],_=>none
 | p :: l,a=>bif decide (a=p.1) then some p.2 else getM l a
def jM {T:Type}:List (Int×T)->Int->T->List (Int×T)
 | [],a,x=>[(a,x)]
 | p :: l,a,x=>bif decide (a=p.1) then (p.1,x) :: l else p :: jM l a x
abbrev mW {T:Type} (k:IntKind) (f:T->A) (l:List (Int×T)):aA:=.mp k (l.map Prod.fst) (l.map λp=>f p.2)
theorem qG {T:Type} {f:T->A} {a:Int}:∀ l:List (Int×T),nT a (l.map Prod.fst) (l.map λp=>f p.2)=(getM l a).map f
 | []=>rfl
 | p :: l=>by
  show (bif decide (a=p.1) then some (f p.2) else nT a (l.map Prod.fst) (l.map λp=>f p.2))=(bif decide (a=p.1) then some p.2 else getM l a).map f;cases decide (a=p.1)
  ·exact qG l
  ·rfl
theorem A7 {T:Type} {f:T->A} {a:Int} {x:T}:∀ l:List (Int×T),zu a (f x) (l.map Prod.fst) (l.map λp=>f p.2)=((jM l a x).map Prod.fst,(jM l a x).map λp=>f p.2)
 | []=>rfl
 | p :: l=>by
  show (bif decide (a=p.1) then (p.1 :: l.map Prod.fst,f x :: l.map λp=>f p.2) else (p.1 :: (zu a (f x) (l.map Prod.fst) (l.map λp=>f p.2)).1,f p.2 :: (zu a (f x) (l.map Prod.fst) (l.map λp=>f p.2)).2))=((bif decide (a=p.1) then (p.1,x) :: l else p :: jM l a x).map Prod.fst,(bif decide (a=p.1) then (p.1,x) :: l else p :: jM l a x).map λp=>f p.2)
  cases decide (a=p.1)
  ·rw[A7 l]; rfl
  ·rfl
theorem zh {P:Program} {t vt:TypeId} {k:IntKind} {T:Type} {f:T->A} {l:List (Int×T)} {a:Int} {x:T} {H:Heap} {b lo:Nat} (hk:za P t=some (k,vt)) (hb:H[b]? = some (mW k f l)) (hl:Nat.ble lo b=true) :
  ka P t (.mr b) (.v (.int k a)) (f x) H lo=some (H.set b (mW k f (jM l a x))):=by
 unfold ka;rw[hk];simp only[Z6,keyOf,qam,qaa,hb,qac (qax hl),qbm,A7]
theorem Ib {P:Program} {t vt:TypeId} {k:IntKind} {T:Type} {f:T->A} {l:List (Int×T)} {a:Int} {z:T} {v:Value} {H:Heap} {b:Nat} (hk:za P t=some (k,vt)) (hb:H[b]? = some (mW k f l)) (hz:((P.info? vt).bind λi=>i.zero)=some v) (hv:wL v=f z) :
  fZ P t (.mr b) (.v (.int k a)) true H=some (.tup [f ((getM l a).getD z),.v (.bool (getM l a).isSome)]):=by
 unfold fZ;rw[hk];simp only[Z6,keyOf,qam,qaa,hb,qG]
 cases getM l a with
 | some y=>rfl
 | none=>
  show ((P.info? vt).bind λi=>i.zero.map λz=>A.tup [wL z,.v (.bool false)])=_;cases hi:P.info? vt with
  | none=>rw[hi] at hz; cases hz
  | some i=>
   rw[hi] at hz;rw[Z6,show i.zero=some v from hz,qaY,hv]; rfl
theorem DW {P:Program} {t vt:TypeId} {k:IntKind} {T:Type} {f:T->A} {l:List (Int×T)} {a:Int} {z:T} {v:Value} {H:Heap} {b:Nat} (hk:za P t=some (k,vt)) (hb:H[b]? = some (mW k f l)) (hz:((P.info? vt).bind λi=>i.zero)=some v) (hv:wL v=f z) :
  fZ P t (.mr b) (.v (.int k a)) false H=some (f ((getM l a).getD z)):=by
 unfold fZ;rw[hk];simp only[Z6,keyOf,qam,qaa,hb,qG]
 cases getM l a with
 | some y=>rfl
 | none=>
  show ((P.info? vt).bind λi=>i.zero.map λz=>wL z)=_;cases hi:P.info? vt with
  | none=>rw[hi] at hz; cases hz
  | some i=>
   rw[hi] at hz;rw[Z6,show i.zero=some v from hz,qaY,hv]; rfl
theorem eu (L:Nat):∀ l:List (Int×Int),bw L (l.map λp=>A.v (Value.int .i64 p.2))=true
 | []=>rfl
 | p :: l=>eu L l
theorem GQ {β:Type} {cx:Cx} {k m n lo:Nat} {args:List A} {H5 X:Heap} {Y:Option β} {o:β->Out} {H':β->Heap} (hk:Nat.ble cx.P.funcs.size k=false) (hm:cx.cut k=m) (hm0:Nat.beq m 0=false) (hl:H5.length=m) (ha:bw m args=true) (hh:H5.all (aA.under m)=true)
  (hl':∀ y,(H' y).length=m) (hv:∀ y,rU m (o y)=true) (hh':∀ y,(H' y).all (aA.under m)=true) (h:J (λ(r:Out×Heap) y=>∃ Z,r=(o y,H' y++Z)) (aK cx (dH cx n) (bz cx n) n k args H5 lo) some Y some) :
  J (λ(r:Out×Heap) y=>r=(o y,H' y++X)) (dH cx (n+1) k args (H5++X) lo) some Y some:=by
 intro r hr;obtain ⟨s,h1,Z,rfl⟩:=h r hr;refine⟨_,?_,rfl⟩;have h2:aK cx (bz cx n J2) (bz cx n) n k args H5 lo=some (o r,H' r++Z):=by
  rw[Option.bind_fun_some] at h1;exact h1
 have hc:ix cx k (H5++X)=true:=by
  unfold ix;rw[hm,hm0,qbe ZO];rfl
 have hc2:cutAt cx k (H5++X)=m:=by
  unfold cutAt;rw[hm,qbe ZO];rfl
 have t1:(H5++X).take m=H5:=by rw[<-hl,qd3]
 have t2:(H5++X).drop m=X:=by rw[<-hl,List.drop_left]
 have t3:(H' r++Z).take m=H' r:=by rw[<-hl' r,qd3]
 have t4:Nat.ble m (H' r++Z).length=true:=qbe (by rw[qar,hl']; omega);unfold dH;rw[bz,hk,hc];simp only[qaa,Z8]
 unfold pZ;rw[hc2,t1,t2,ha,hh];show ((bif true&&true then (aK cx (bz cx n J2) (bz cx n) n k args H5 lo).bind _ else none).bind some)=_;rw[h2];simp only[qbm,qaa,Z6,t4,t3,hh',hv]
def V0 {T:Type} (f:T->List A):Prop:=∀ x,(f x).all (λa=>match a with | .v _=>true | .imm _ _=>true | _=>false)=true
theorem Bo {T:Type} {f:T->List A} (hf:cz f) (hp:V0 f) (n:Nat) (H:Heap) (x:T):(f x).map (kQ (n+1) H)=f x:=by
 have h1:=hf (jK 4 H) x;have h2:=hp x;generalize f x=l at h1 h2
 induction l with
 | nil=>rfl
 | cons a as ih=>
  rw[bu,qa9] at h1;rw[qco,Z9] at h2;rw[qbc,ih h1.2 h2.2];congr 1;cases a with
  | v x=>exact h1.1
  | imm x y=>exact h1.1
  | _=>cases h2.1
theorem sZ {T:Type} {f:T->List A} (hf:cz f) (hp:V0 f) {H:Heap} {b n:Nat} {cs:List A} (x:T) (h:H[b]? = some (.box cs)) (hx:cs=f x):kQ (n+2) H (.ptr b 0)=.ip (f x):=by
 subst hx;show (match H[b]? with | some (.box cs)=>A.ip ((cs.drop 0).map (kQ (n+1) H)) | _=>.any)=_;rw[h];exact qa7 A.ip (Bo hf hp n H x)
theorem GS {T U:Type} {f:T->U} {a:T} {b:U} {l:List T} {m:List U} (h:f a=b) (t:l.map f=m):(a :: l).map f=b :: m:=by rw[qbc,h,t]
theorem Ei {α:Type} (x:α):∀ (a l:List α) (b:Nat),a.length<=b->(a++l).set b x=a++l.set (b - a.length) x
 | [],l,b,_=>rfl
 | y :: a,l,0,h=>by simp at h
 | y :: a,l,b+1,h=>by
  rw[qaS,List.set_cons_succ,Ei x a l b (by simpa using h),qae,Nat.add_sub_add_right,qaS]
theorem iM {o:Out} {lo off b p:Nat} {H2 X:Heap} (h:H2.length<=b):∃ Z,(o,fb lo off 0 (.ptr b p) (H2++X))=(o,H2++Z):=by
 have key:∃ Z,fb lo off 0 (.ptr b p) (H2++X)=H2++Z:=by
  unfold fb;simp only[]
  split
  ·split
   ·cases decide (lo<=b) with
    | false=>exact⟨X,rfl⟩
    | true=>exact⟨_,Ei _ _ _ _ h⟩
   ·exact⟨X,rfl⟩
  ·exact⟨X,rfl⟩
 obtain ⟨Z,hZ⟩:=key;exact⟨Z,by rw[hZ]⟩
theorem z8 {T:Type} {f:T->List A} (hf:cz f) {H:Heap} {lo off b o b' es:Nat} {l:List T} {cs:List A} {c:Bool} (h1:H[b]? = some (.box cs)) (h2:cs[o+off]? = some (.sl b' 0 l.length c)) (h3:H[b']? = some (.row false es (l.map f))) (h4:lo<=b) :
  fb lo off 0 (.ptr b o) H=H.set b (.box (cs.set (o+off) (.imm (l.map f) false))):=by
 unfold fb;simp only[h1,h2,qac h4,qaa]
 rw[show LM H (.sl b' 0 l.length c)=.imm (l.map f) false from gC (n:=3) hf h3]
def Hw {T:Type} (l:List T) (i:Int) (x:T):Option (List T):=bif decide (0<=i)&&decide (i<=(l.length:Int))&&decide (l.length<4294967296) then some (l.take i.toNat++x :: l.drop i.toNat) else none
theorem M1 {T:Type} {cx:Cx} {k n lo es b:Nat} {base:bB} {cl cl2:Bool} {i:Int} {v:List A} {H:Heap} {f:T->List A} {l:List T} {x:T} (hk:Nat.ble cx.P.funcs.size k=false) (hc:ix cx k H=false) (hd:iP cx k H=false) (hi:cx.ins k=es) (h0:Nat.beq es 0=false) (hl:∀ x,(f x).length=es) (hcf:mi f)
  (hB:H[b]? = some (.row true es (l.map f))) (hlo:lo<=b) (hv:f x=v) :
  bz cx (n+1) base k [.sl b 0 l.length cl,.v (.int .i64 i),.imm [v] cl2] H lo=(Hw l i x).map λr=>(.ret (.imm (r.map f) false),H.set b .dead):=by
 rw[bz,hk,hc,hd];show aK cx (bz cx n base) (bz cx n) n k _ H lo=_;have hlt:k<cx.P.funcs.size:=qbs λh=>by rw[qbe h] at hk; cases hk
 unfold aK;rw[qbb hlt,Z6,hi,h0];simp only[qbN,qaa]
 subst hv;have hall:(l.map f).all (λcs=>cs.all A.cell)=true:=by
  rw[List.all_map];exact qak.2 λy _=>hcf y
 have hb1:Nat.beq es es=true:=qc2 es;have hb2:Nat.beq l.length l.length=true:=qc2 _;unfold uf Hw;simp only[hB,qbH,hl,hb1,hb2,h0,hcf x,hall,hlo,qam,qbN,qbn,qaX]
 cases hc:(decide (0<=i)&&decide (i<=(l.length:Int))&&decide (l.length<4294967296)) with
 | false=>rfl
 | true=>simp[qcp,qcX]
theorem J.Zq {β:Type} {k n lo:Nat} {cx:Cx} {base:bB} {args:List A} {H:Heap} {X:Option β} {o:β->Go.Proofs.Ytebkhfhcipnfgaa.R} {Y:β->Option α} {k':Go.Proofs.Ytebkhfhcipnfgaa.R->Option σ} (h:bz cx (n+1) base k args H lo=X.map o) (hk:∀ y,J φ (k' (o y)) kL (Y y) K):J φ ((bz cx (n+1) base k args H lo).bind k') kL (X.bind Y) K:=by
 rw[h];cases X with
 | none=>exact J.nn
 | some y=>exact hk y
theorem J.is {β:Type} {k n lo:Nat} {cx:Cx} {args:List A} {H:Heap} {X:Option β} {o:β->Go.Proofs.Ytebkhfhcipnfgaa.R} {Y:β->Option α} {k':Go.Proofs.Ytebkhfhcipnfgaa.R->Option σ} (h:bz cx (n+1) J2 k args H lo=X.map o) (hk:∀ y,J φ (k' (o y)) kL (Y y) K):J φ ((dH cx (n+1) k args H lo).bind k') kL (X.bind Y) K:=J.Zq h hk
def four {α:Type} (k:Nat) (a b c d:α):α:=match k with | 0=>a | 1=>b | 2=>c | _=>d
def eV {α:Type} (k j:Nat) (y x:α):α:=bif Nat.beq k j then y else x
def fV (m L n0 n1 n2 n3:Nat):aA:=.row true 1 (List.take m [[.sl L 0 n0 false],[.sl (L+1) 0 n1 false],[.sl (L+2) 0 n2 false],[.sl (L+3) 0 n3 false]])
theorem ub {k m:Nat} (hk:(decide (k<m)&&decide (k<4))=true):k<m/\k<4:=by simpa using hk
theorem vk {p:Nat->Prop} {k m:Nat} (hk:(decide (k<m)&&decide (k<4))=true) (h0:p 0) (h1:p 1) (h2:p 2) (h3:p 3):p k:=by
 obtain ⟨_,hk⟩:=ub hk
 match k,hk with
 | 0,_=>exact h0
 | 1,_=>exact h1
 | 2,_=>exact h2
 | 3,_=>exact h3
theorem AZ:∀ n:Nat,Qi (List.replicate n [.imm [] true])=true
 | 0=>rfl
 | n+1=>AZ n
def II (n:Nat):aA:=.row true 1 (List.replicate n [.imm [] true])
theorem P7 {P:Program} {t e by_:Nat} {H:Heap} {k1 k2:IntKind} {n:Int} (h1:kE P t=some e) (h2:cY P e=some 1) (h3:jS P e=some by_) (h4:iD P e=some [.imm [] true]) (hb:4*by_<=dt) (hn:(decide (0<=n)&&decide (n<=4))=true) :
  cR true P t (.v (.int k1 n)) (.v (.int k2 n)) H=some (.sl H.length 0 (Int.toNat n) true,H++[II (Int.toNat n)]):=by
 have hn':0<=n/\n<=4:=by simpa using hn
 have hm:n.toNat*by_<=dt:=qaC (qbV _ o3) hb;have h5:n.toNat<=dt:=by unfold dt; omega
 unfold cR idx;rw[h1,Z6,h2,Z6,h3,Z6,h4,Z6];simp only[hn'.1,qam,qaa,Z6,qbj,qau,qcC,hm,h5,qab]
 rfl
theorem JG {T:Type} {f:T->List A} {H:Heap} {lo es b m:Nat} {c:Bool} (hm:decide (m<=4)=true) (h:H[b]? = some (II m)) (hlo:lo<=b):xc lo es (.sl b 0 m c) H=some (.sl b 0 m c,(H++[aA.row false es (([]:List T).map f),.row false es (([]:List T).map f),.row false es (([]:List T).map f),.row false es (([]:List T).map f)]).set b (fV m H.length ([]:List T).length ([]:List T).length ([]:List T).length ([]:List T).length)):=by
 unfold xc;simp only[h,II]
 simp only[qac hlo,hm,AZ,qb5,qc2,qbm,qaa]
 rfl
theorem rr {k m L c o n:Nat} {cl:Bool} {y:A} (hk:(decide (k<m)&&decide (k<4))=true) (hc:c<L∨L+4<=c) (h:blk? y=some c):apart y (.sl (L+k) o n cl)=true:=by
 obtain ⟨_,hk⟩:=ub hk;have hb:Nat.beq c (L+k)=false:=by rw[<-Bool.not_eq_true]; intro h; have:=qan h; omega
 unfold apart;rw[h,show blk? (.sl (L+k) o n cl)=some (L+k) from rfl];simp only[hb,qbN]
theorem CF {P:Program} {t e:Nat} {H:Heap} {b n m L n0 n1 n2 n3:Nat} {c:Bool} {k:IntKind} {i:Int} (h1:P.underlying t=some (.slice e)) (h2:cY P e=some 1) (h:H[b]? = some (fV m L n0 n1 n2 n3)) :
  dA P t (.sl b 0 n c) (.v (.int k i)) H=(gO n i).map λj=>.ep b j 0:=by
 unfold fV at h;unfold dA idx;rw[h1,<-DJ];by_cases hi:0<=i
 ·simp only[hi,qam,qaa,Z6,ij,h2,h,qbj,qaU]
  cases decide (i.toNat<n)<;>rfl
 ·simp only[hi,qbg,Z8,qcP,qdS]
theorem Ed {P:Program} {t:Nat} {H:Heap} {b k m L n0 n1 n2 n3:Nat} (hk:(decide (k<m)&&decide (k<4))=true) (h2:cY P t=some 1) (ha:mR P t=false) (h:H[b]? = some (fV m L n0 n1 n2 n3)) :
  lL P t (.ep b k 0) H=some (.sl (L+k) 0 (four k n0 n1 n2 n3) false):=by
 have h':=h;unfold fV at h';obtain ⟨hm,h4⟩:=ub hk;unfold lL;rw[h2,Z6];simp only[h',qaA,hm,qb4]
 match k,h4 with
 | 0,_=>simp[four,join,ha]
 | 1,_=>simp[four,join,ha]
 | 2,_=>simp[four,join,ha]
 | 3,_=>simp[four,join,ha]
theorem IC {P:Program} {T:Type} {t lo:Nat} {H:Heap} {b k m L:Nat} {y l0 l1 l2 l3:List T} (hk:(decide (k<m)&&decide (k<4))=true) (h2:cY P t=some 1) (h:H[b]? = some (fV m L l0.length l1.length l2.length l3.length)) (hlo:lo<=b) :
  jz P t (.ep b k 0) (.sl (L+k) 0 y.length false) H lo=some (H.set b (fV m L (eV k 0 y l0).length (eV k 1 y l1).length (eV k 2 y l2).length (eV k 3 y l3).length)):=by
 have h':=h;unfold fV at h';obtain ⟨hm,h4⟩:=ub hk;have hlo':Nat.ble lo b=true:=qbe hlo;unfold jz;rw[h2,Z6];simp only[h',qaA,hm,qb4,A.cells?,Z6]
 match k,h4 with
 | 0,_=>simp only[hlo,bI,fV,eV,qam,qch,qbC,qae,qaq,qci,qdy,qbd,qaW,qc7,qaU,qbv,Nat.reduceAdd,Nat.reduceLeDiff,qbm,qaa,qbj,qau,qcC,show ((1:Nat)==0)=false from rfl,Z8,qbZ,qaM,qcV]; first | (rw[qcs]; rfl) | (rw[<-qcs]; rfl)
 | 1,_=>simp only[hlo,bI,fV,eV,qam,qch,qbC,qae,qaq,qci,qdy,qbd,qaW,qc7,qaU,qbv,Nat.reduceAdd,Nat.reduceLeDiff,qbm,qaa,qbj,qau,qcC,show ((1:Nat)==0)=false from rfl,Z8,qbZ,qaM,qcV]; first | (rw[qcs]; rfl) | (rw[<-qcs]; rfl)
 | 2,_=>simp only[hlo,bI,fV,eV,qam,qch,qbC,qae,qaq,qci,qdy,qbd,qaW,qc7,qaU,qbv,Nat.reduceAdd,Nat.reduceLeDiff,qbm,qaa,qbj,qau,qcC,show ((1:Nat)==0)=false from rfl,Z8,qbZ,qaM,qcV]; first | (rw[qcs]; rfl) | (rw[<-qcs]; rfl)
 | 3,_=>simp only[hlo,bI,fV,eV,qam,qch,qbC,qae,qaq,qci,qdy,qbd,qaW,qc7,qaU,qbv,Nat.reduceAdd,Nat.reduceLeDiff,qbm,qaa,qbj,qau,qcC,show ((1:Nat)==0)=false from rfl,Z8,qbZ,qaM,qcV]; first | (rw[qcs]; rfl) | (rw[<-qcs]; rfl)
theorem KZ {T:Type} {f:T->List A} {es k m n L:Nat} {H:Heap} {l0 l1 l2 l3:List T} (hf:cz f) (hk:(decide (k<m)&&decide (k<4))=true) (h0:H[L]? = some (.row false es (l0.map f))) (h1:H[L+1]? = some (.row false es (l1.map f))) (h2:H[L+2]? = some (.row false es (l2.map f))) (h3:H[L+3]? = some (.row false es (l3.map f))) :
  jk (n+1) H (L+k) 0 (four k l0.length l1.length l2.length l3.length)=.imm ((four k l0 l1 l2 l3).map f) false:=
 vk (p:=λk=>jk (n+1) H (L+k) 0 (four k l0.length l1.length l2.length l3.length)=.imm ((four k l0 l1 l2 l3).map f) false) hk (gC hf h0) (gC hf h1) (gC hf h2) (gC hf h3)
theorem bO {q m L n0 n1 n2 n3:Nat} (h:L+3<q):aA.under q (fV m L n0 n1 n2 n3)=true:=by
 have hs:∀ j n,j<=3->bw q [A.sl (L+j) 0 n false]=true:=λj n hj=>by simp[bw,A.under]; omega
 have ht:∀ (l:List (List A)) (m:Nat),(∀ x∈l,bw q x=true)->aH q (List.take m l)=true:=λl=>by
  induction l with
  | nil=>intro m _; simp[aH]
  | cons x l ih=>
   intro m hx;cases m with
   | zero=>simp[aH]
   | succ m=>simp only[qdp,aH,hx x r8,ih m (λy hy=>hx y (by simp[hy])),qbm]
 refine ht _ m λx hx=>?_;simp only[qaD,qb3,qel] at hx;rcases hx with rfl | rfl | rfl | rfl
 ·exact hs 0 n0 o3
 ·exact hs 1 n1 o3
 ·exact hs 2 n2 o3
 ·exact hs 3 n3 o3
end
section
open Go.RowKit Go.ChangeShapes Go.WideShapes Go.ChangeAt Go.Deep
theorem Bq (k o:Nat):ft [] (G0 λ_ _=>True) k o:=⟨trivial,λb hb=>by cases hb⟩
def uq (P:Program) (t:TypeId) (T:List A->Prop):Prop:=
 ∀ {H:Type} (enc:TypeId×Value->H) (w:World) (held:Bool) (fuel:Nat) (cs:List Value) (x:DataW H×List MemPlace),DataW.trod enc P w 0 (λ_=>true) held fuel t cs=some x->∃ as,T as/\bL [] (G0 λ_ _=>True) w as cs
def Yi (as:List A):Prop:=∃ n:Int,as=[.v (.int .u8 n)]/\0<=n/\n<=255
theorem tV {H:Heap} {g:Gh} {w:World} (x:Value):bL H g w [.v x] [x]:=by rw[bL]; exact⟨x,[],rfl,y9,An⟩
theorem Fe {P:Program} {t:TypeId} (ht:P.underlying t=some (.int .u8)):uq P t Yi:=by
 intro H enc w held fuel cs x h;obtain ⟨n,rfl,_,hw⟩:=qds ht h;exact⟨_,⟨n,rfl,(qdR hw).1,(qdR hw).2⟩,tV _⟩
theorem zV {H:Heap} {g:Gh} {w:World} {a:A} {as:List A} {c:Value} {cs:List Value} (h:VR H g w a c) (k:bL H g w as cs):bL H g w (a :: as) (c :: cs):=by rw[bL]; exact⟨c,cs,rfl,h,k⟩
def My:List (List A->Prop)->List A->Prop
 | [],as=>as=[]
 | T :: Ts,as=>∃ a b,as=a++b/\T a/\My Ts b
def HC (P:Program) (N:Nat):List Field->Nat->Bool
 | [],o=>Nat.beq o N
 | f :: fs,o=>Nat.beq f.offset o&&HC P N fs (o+P.cellsOf f.type)
def ReadsAll (P:Program):List Field->List (List A->Prop)->Prop
 | [],[]=>True
 | f :: fs,T :: Ts=>uq P f.type T/\ReadsAll P fs Ts
 | _,_=>False
theorem uu {H:Heap} {g:Gh} {w:World}:∀ {a:List A} {c:List Value} {b:List A} {d:List Value},bL H g w a c->bL H g w b d->bL H g w (a++b) (c++d)
 | [],c,b,d,h,k=>by rw[bL] at h; subst h; exact k
 | x :: a,c,b,d,h,k=>by
  rw[bL] at h;obtain ⟨y,c',rfl,h1,h2⟩:=h;rw[qaS,qaS,bL];exact⟨y,_,rfl,h1,uu h2 k⟩
theorem rW {P:Program} {H:Type} (enc:TypeId×Value->H) (w:World) (held:Bool) (cs:List Value) {N:Nat} (hN:cs.length=N):∀ (fs:List Field) (Ts:List (List A->Prop)) (o:Nat),HC P N fs o=true->ReadsAll P fs Ts ->
  (∀ (i:Nat) f,fs[i]? = some f->∃ n x,DataW.trod enc P w 0 (λ_=>true) held n f.type ((cs.drop f.offset).take (P.cellsOf f.type))=some x)->∃ as,My Ts as/\bL [] (G0 λ_ _=>True) w as (cs.drop o)
 | [],[],o,hl,_,_=>by
  rw[HC] at hl;have:o=N:=qan hl;refine⟨[],rfl,?_⟩;rw[bL,qaH.2 o3]
 | f :: fs,T :: Ts,o,hl,hr,hx=>by
  rw[HC,Z9] at hl;obtain ⟨hl1,hl⟩:=hl;have ho:f.offset=o:=qan hl1;obtain ⟨n,x,h0⟩:=hx 0 f rfl;obtain ⟨a,ha,hv⟩:=hr.1 enc w held n _ x h0;obtain ⟨b,hb,hvb⟩:=rW enc w held cs hN fs Ts (o+P.cellsOf f.type) hl hr.2 λi f' hf'=>hx (i+1) f' (by simpa using hf');refine⟨a++b,⟨a,b,rfl,ha,hb⟩,?_⟩;have e:cs.drop o=(cs.drop o).take (P.cellsOf f.type)++cs.drop (o+P.cellsOf f.type):=by
   rw[<-qdZ]; exact(qbQ _ _).symm
  rw[e,<-ho];rw[<-ho] at hvb;exact uu hv hvb
 | [],_ :: _,_,_,hr,_=>hr.elim
 | _ :: _,[],_,_,hr,_=>hr.elim
theorem wM {P:Program} {t:TypeId} {fs:Array Field} {Ts:List (List A->Prop)} (ht:P.underlying t=some (.struct fs)) (hl:HC P (P.cellsOf t) fs.toList 0=true) (hr:ReadsAll P fs.toList Ts):uq P t (My Ts):=by
 intro H enc w held fuel cs x h;obtain ⟨xs,n,_,rfl,hlen,hxs,hf⟩:=DataW.trod_struct ht h;obtain ⟨as,h1,h2⟩:=rW enc w held cs hlen fs.toList Ts 0 hl hr λi f hi=>by
  have hi':i<xs.length:=by
   have:=(qad.1 hi).1;simp at this; omega
  exact⟨n,xs[i],by rw[hf i f (by simpa using hi)]; exact Z7 hi'⟩
 exact⟨as,h1,by simpa using h2⟩
theorem E2 {H:Type} {enc:TypeId×Value->H} {P:Program} {W:World} {base:Nat} {ts:Array TypeId} {args:Array Value} (h:wZ enc P W base ts args) (j:Nat) {t:TypeId} {v:Value} (hj:ts[j]? = some t) (hv:args[j]? = some v) (ht:P.underlying t=some (.int .u8)) :
  ∃ n:Int,(0<=n/\n<=255)/\VR [] (G0 λ_ _=>True) W (.v (.int .u8 n)) v:=by
 obtain ⟨n,rfl,h1,h2⟩:=Hk h j hj hv ht;exact⟨n,⟨h1,h2⟩,y9⟩
def zQ (P:Program) (t:TypeId) {T:Type} (c:T->List A) (ok:T->Prop):Prop:=uq P t λas=>∃ x,as=c x/\ok x
def ee (n:Int):Prop:=-9223372036854775808<=n/\n<=9223372036854775807
def wB (n:Int):Prop:=0<=n/\n<=255
theorem Bd {P:Program} {t:TypeId} (ht:P.underlying t=some (.int .u8)):zQ P t (cI .u8) wB:=λenc w held fuel cs x h=>by
 obtain ⟨as,⟨n,rfl,h1⟩,h2⟩:=Fe ht enc w held fuel cs x h;exact⟨_,⟨n,rfl,h1⟩,h2⟩
theorem zQ.of {P:Program} {t:TypeId} {T:Type} {c:T->List A} {ok:T->Prop} {S:List A->Prop} (h:uq P t S) (hs:∀ as,S as->∃ x,as=c x/\ok x):zQ P t c ok:=λenc w held fuel cs x h0=>by
 obtain ⟨as,h1,h2⟩:=h enc w held fuel cs x h0;exact⟨as,hs as h1,h2⟩
theorem PO {H:Type} {enc:TypeId×Value->H} {P:Program} {W:World} {base:Nat} {ts:Array TypeId} {args:Array Value} (h:wZ enc P W base ts args) (j:Nat) {t:TypeId} {v:Value} (hj:ts[j]? = some t) (hv:args[j]? = some v) (ht:P.underlying t=some (.int .u8)) :
  ∃ n:Int,wB n/\VR [] (G0 λ_ _=>True) W (.v (.int .u8 n)) v:=E2 h j hj hv ht
def mh:Nat:=9223372036854775807
section
variable {P:Program} {t e:TypeId} {T:Type} {c:T->List A} {ok:T->Prop}
def OP (n:Int):Prop:=-128<=n/\n<=127
theorem QA (ht:P.underlying t=some (.int .i8)):zQ P t (cI .i8) OP:=λenc w held fuel cs x h=>by
 obtain ⟨n,rfl,_,hw⟩:=qds ht h;exact⟨_,⟨n,rfl,bounds_i8 hw⟩,tV _⟩
def Le (n:Int):Prop:=0<=n/\n<=65535
theorem NB (ht:P.underlying t=some (.int .u16)):zQ P t (cI .u16) Le:=λenc w held fuel cs x h=>by
 obtain ⟨n,rfl,_,hw⟩:=qds ht h;exact⟨_,⟨n,rfl,bounds_u16 hw⟩,tV _⟩
theorem Qz (ht:P.underlying t=some (.int .u8)):zQ P t c8 (λ_=>True):=λenc w held fuel cs x h=>by
 obtain ⟨n,rfl,_,hw⟩:=qds ht h;obtain ⟨h1,h2⟩:=qdR hw;refine⟨c8 (UInt8.ofNat n.toNat),⟨_,rfl,trivial⟩,?_⟩;have:((UInt8.ofNat n.toNat).toNat:Int)=n:=by
  rw[UInt8.toNat_ofNat'];omega
 unfold c8;rw[this];exact tV _
theorem Bc {es:Nat} (ht:P.underlying t=some (.slice e)) (hk:P.cellsOf e=es) (hpos:0<es) (hlen:∀ x,(c x).length=es) (hL:zQ P e c ok):zQ P t (cL c) (λl=>l.length<=mh/\∀ z∈l,ok z):=by
 intro H enc w held fuel cs x h;rcases open_slice ht h with ⟨rfl,_⟩ | ⟨a,len,cap,m,n,D,Pl,rfl,_,hle,hcap,hm,hxd,hel⟩
 ·refine⟨_,⟨[],rfl,qav _,λz hz=>(by cases hz)⟩,?_⟩;rw[cL,bL];refine⟨_,[],rfl,?_,An⟩;rw[VR];exact⟨none,0,[],es,rfl,qab _,λh=>(by cases h),λd hd=>(by cases hd),λh=>absurd h (qcg 0),by rw[qdh,bK]⟩
 ·simp only[qb4] at hm;have each:∀ i,i<len->∃ y:T,ok y/\∃ vs,bL [] (G0 λ_ _=>True) w (c y) vs/\vs.length=es/\∀ j,j<es->w.cell? (a.add (i*es+j))=vs[j]?:=λi hi=>by
   obtain ⟨cs',h1,h2⟩:=hel i o3;obtain ⟨as,⟨y,rfl,hok⟩,hv⟩:=hL enc w held n cs' _ h2;obtain ⟨_,hl,hc⟩:=World.cells?_some h1;have hvl:=hv.length;rw[hlen] at hvl;refine⟨y,hok,cs',hv,hvl,λj hj=>?_⟩;have:=hc j o3;rw[hk,add_add] at this;exact this
  obtain ⟨l,ds,hl,hdl,hall⟩:∃ (l:List T) (ds:List (List Value)),l.length=len/\ds.length=len/\∀ i y d,l[i]? = some y->ds[i]? = some d->ok y/\bL [] (G0 λ_ _=>True) w (c y) d/\d.length=es/\∀ j,j<es->w.cell? (a.add (i*es+j))=d[j]?:=by
   clear hel hm hle hcap hxd h
   induction len with
   | zero=>exact⟨[],[],rfl,rfl,λi y d h=>by simp at h⟩
   | succ len ih=>
    obtain ⟨l,ds,hl,hdl,hall⟩:=ih (λi hi=>each i o3);obtain ⟨y,hok,d,hd⟩:=each len o3;refine⟨l++[y],ds++[d],by simp[hl],by simp[hdl],λi y' d' hy' hd'=>?_⟩;by_cases e:i<len
    ·rw[qat o3] at hy' hd';exact hall i y' d' hy' hd'
    ·have hi:i<(l++[y]).length:=(qad.1 hy').1;have e2:i=len:=by simp at hi; omega
     subst e2;rw[qay o3] at hy' hd';simp[hl,hdl] at hy' hd';subst hy'; subst hd';exact⟨hok,hd⟩
  have hds:∀ d∈ds,d.length=es:=λd hd=>by
   obtain ⟨i,hi,rfl⟩:=qa2 hd;exact(hall i l[i] ds[i] (Z7 o3) (Z7 hi)).2.2.1
  have hcapL:cap<=mh:=hcap;refine⟨_,⟨l,rfl,o3,λz hz=>?_⟩,?_⟩
  ·obtain ⟨i,hi,rfl⟩:=qa2 hz;exact(hall i l[i] ds[i] (Z7 hi) (Z7 o3)).1
  ·rw[cL,bL];refine⟨_,[],rfl,?_,An⟩;rw[VR];refine⟨some a,cap,ds,es,by simp[hl],by simp[hl]; exact hle,λh=>(by cases h),hds,λhp=>?_,?_⟩
   ·have hp:0<len:=by simpa [hl] using hp
    obtain ⟨ab,ao,asp⟩:=a;obtain ⟨_,_,h0l,h0⟩:=hall 0 l[0] ds[0] (Z7 o3) (Z7 o3);have h4:=h0 0 hpos;rw[Z7 o3] at h4;have hsp:asp=none:=by simpa [Addr.add] using World.cell?_spot h4
    subst hsp;refine⟨ab,ao,rfl,λj v hj=>⟨?_,Bq _ _⟩⟩;have hjl:j<ds.flatten.length:=(qad.1 hj).1;rw[cE hds] at hjl;have hi:j / es<len:=by
     rw[qcn hpos]; rw[hdl] at hjl; exact hjl
    obtain ⟨_,_,hil,hi2⟩:=hall (j / es) l[j / es] ds[j / es] (Z7 o3) (Z7 o3);have h5:=hi2 (j % es) (qcu _ hpos);have e1:j / es*es+j % es=j:=by rw[qby]; exact qdP j es
    have h6:=lQ hds (Z7 (show j / es<ds.length by omega)) (j % es) (qcu _ hpos);rw[e1] at h5 h6;rw[add_plain] at h5;rw[h5,<-h6];exact hj
   ·refine dh.2 ⟨by simp[hl,hdl],λi y d hy hd=>?_⟩;rw[qaO] at hy;cases hx:l[i]? with
    | none=>rw[hx] at hy; cases hy
    | some z=>
     rw[hx] at hy; cases hy;exact(hall i z d hx hd).2.1
theorem zQ.VY {ok':T->Prop} (h:zQ P t c ok) (hw:∀ x,ok x->ok' x):zQ P t c ok':=λenc w held fuel cs x h0=>by
 obtain ⟨as,⟨y,h1,h2⟩,h3⟩:=h enc w held fuel cs x h0;exact⟨as,⟨y,h1,hw y h2⟩,h3⟩
theorem Fc {es:Nat} (ht:P.underlying t=some (.slice e)) (hk:P.cellsOf e=es) (hpos:0<es) (hlen:∀ x,(c x).length=es) (hL:zQ P e c (λ_=>True)):zQ P t (cL c) (λl=>l.length<=mh):=zQ.VY (T:=List T) (c:=cL c) (ok:=λ(l:List T)=>l.length<=mh/\∀ z∈l,True) (Bc ht hk hpos hlen hL) λ_ h=>h.1
variable {H:Type} {enc:TypeId×Value->H} {W:World} {base:Nat} {ts:Array TypeId} {args:Array Value}
theorem E4 {l:List T->Prop} (h:wZ enc P W base ts args) (j:Nat) {t:TypeId} {v:Value} (hj:ts[j]? = some t) (hv:args[j]? = some v) (ht:P.underlying t=some (.slice e)) (hT:zQ P t (cL c) l) :
  ∃ x,l x/\VR [] (G0 λ_ _=>True) W (.imm (x.map c) false) v:=by
 obtain ⟨okw,d,p,fuel,htr⟩:=h.2 j t v hj hv;obtain ⟨a0,len,cap,rfl⟩:=okWide_slice ht okw;obtain ⟨as,⟨x,rfl,hx⟩,hvr⟩:=hT enc W _ _ _ _ htr;rw[cL,bL] at hvr;obtain ⟨d0,ds,e0,h1,h2⟩:=hvr;simp[Value.cells] at e0;obtain ⟨rfl,_⟩:=e0;exact⟨x,hx,h1⟩
end
theorem M5 {P:Program} {glob:Nat->Option (List Value)} {k:Nat} {as:List A} {args:Array Value} {W:World} (h:fX P glob k as (.v (.bool true))) (hg:∀ (G:Nat) (vs:List Value),glob G=some vs->∀ (j:Nat) (v:Value),vs[j]? = some v->W.cell? ⟨G,j,none⟩=some v)
  (hv:bL [] (G0 λ_ _=>True) W as args.toList):Calls P k args W λe W'=>e=.returned (.bool true)/\Below W.heap.size W W':=by
 refine(h (λ_ _=>True) W args.toList (λ_ _ _=>trivial) (λG vs hG j v hj=>⟨by rw[qaU]; exact hg G vs hG j v hj,Bq _ _⟩) hv).mono ?_
 rintro e W' ⟨c,rfl,hb,hc⟩
 rw[VR] at hc;subst hc;exact⟨rfl,hb⟩
end
end Go.Proofs.Ytebkhfhcipnfgaa
