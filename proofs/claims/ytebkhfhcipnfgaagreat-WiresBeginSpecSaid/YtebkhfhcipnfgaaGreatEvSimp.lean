/-
 What the interpreter's steps are on plain data: equations for simp.
-/
import Derived.Test.YtebkhfhcipnfgaaGreatEvHole
import Derived.LoopNIn
import Derived.RecoverIn
import Derived.Deep.QuietTactic
import Derived.BigQuiet
import Derived.WalkSmall
import Derived.Below
import Derived.ProofKit
import Derived.OpenShut
import Derived.ChangeOld
import Derived.Carry
namespace Go.Proofs.YtebkhfhcipnfgaaGreat
set_option linter.unusedSimpArgs false
set_option linter.unusedVariables false
set_option linter.defProp false
def Yv:=@Bool.not_true
def YC:=@Nat.not_lt_zero
def YK:=@Nat.le_of_ble_eq_true
def Zg:=@Bool.eq_iff_iff
def Zm:=@Nat.ble_eq_true_of_le
def ZD:=@List.mem_cons_of_mem
def ZJ:=@List.mem_cons_self
def ZP:=@Bool.eq_false_iff
def Z1:=@Nat.le_add_right
def qah:=@List.reverse_singleton
def qay:=@Oper.semAt_none
def qaA:=@not_true_eq_false
def qaG:=@Nat.ble_eq
def qaH:=@linearise_go_acc
def qba:=@step_lone_go
def qbn:=@Option.isNone_iff_eq_none
def qbr:=@Nat.lt_or_ge
def qbs:=@Nat.sub_self
def qbt:=@Frame.finish_atR
def qbB:=@fenced_calm
def qbE:=@Array.mem_of_getElem?
def qbJ:=@bounds_i64
def qbO:=@List.map_congr_left
def qbP:=@tryRecover_deferred
def qbV:=@fenced_oper
def qbX:=@wpIn_seq
section
open Go.RowKit
section
variable {F:Fence} {n:Nat} {P:Program} {ops:Array Oper} {Q:Exit->Act->World->Prop}
def FN (F:Fence) (n:Nat) (P:Program) (o:Oper) (ev:Operand->Value) (w:World) (R:Value->World->Prop) (Rp:List PanicEntry->World->Prop):Prop:=
 yI F n P o ev w R∨∃ f args w',(execOp ev o).run P w=.ok (.enter f args) w'/\CallsIn F (n - 1) P f args w' fun
   | .returned v,w''=>R v w''
   | .panicked ch,w''=>Rp ch w''
   | _,_=>False
theorem tD (hWF:rG F) {i:Nat} {o:Oper} (ho:ops[i]? = some o) (hp:mA o=true) {a:Act} {w:World} {K:Act->World->Prop} {R:Value->World->Prop}
  (h:if Region.wanted o (yielded ops a.tmps)=true then FN F n P o a.eval w R (fun ch w'=>Q (.panic ch) a w') else R undef w) (hK:∀ v w',R v w'->K (a.put o.dst v) w'):wpOpIn F n P ops Q i K a w:=by
 by_cases hw:Region.wanted o (yielded ops a.tmps)=true
 ·rw[Yq hw] at h
  rcases h with h | ⟨f,args,w',h1,h2⟩
  ·exact kO hWF ho hp (by rw[Yq hw]; exact h) hK
  ·unfold wpOpIn
   simp only[ho]
   rw[Yq hw]
   refine⟨fun f _=>hWF.2 f,?_⟩
   rw[qbK _ _ _ (fun c hc=>by unfold mA at hp; rw[hc] at hp; cases hp),h1]
   have hd:F.depth.isSome=true->1<=n:=fun hs=>by rw[hWF.1] at hs; cases hs
   simp only[Oper.uponIn]
   exact⟨hd,h2.mono fun e w'' he=>by cases e<;>first | exact hK _ _ he | exact he | exact he.elim⟩
 ·exact kO hWF ho hp (by rw[Yp hw] at h ⊢; exact h) hK
theorem te {a0:Act} {w0:World} (hWF:rG F) (hm:P.follows .mixedOrders=true) (N m:Nat) (hN:a0.tmps.size=N) (jm:tU ops N=true) (chkt:fA ops m=true)
  (I:(Nat->Prop)->Act->World->Prop) (h0:∀ D,(∀ i,¬ D i)->I D a0 w0.drew)
  (hstep:∀ (D D':Nat->Prop) i o,i<m->ops[i]? = some o->(∀ j,D j->j<m)->¬ D i->(∀ j,fG ops i j=true->D j)->(∀ j k,D j->fG ops j k=true->D k)->(∀ j,D' j↔j=i∨D j)->∀ (a:Act) (w:World),I D a w->a.tmps.size=N->a.defers=a0.defers ->
   if Region.wanted o (yielded ops a.tmps)=true then FN F n P o a.eval w (fun v w'=>I D' (a.put o.dst v) w') (fun ch w'=>Q (.panic ch) a w') else I D' (a.put o.dst undef) w)
  (hend:∀ (D:Nat->Prop) (a:Act) (w:World),(∀ i,i<m->D i)->(∀ j,D j->j<m)->I D a w->a.defers=a0.defers->a.tmps.size=N->wpListIn F n P ops Q (ops.toList.drop m) a w) :
  LW F n P ops Q a0 w0:=by
 have chk1:∀ i o,ops[i]? = some o->mA o=true/\(∀ e∈o.after,Region.binds .any e=true->e.on<i):=by
  intro i o ho
  have hi:i<ops.size:=(Yo.1 ho).1
  have h:=Yw.1 jm i (YR.2 hi)
  simp only[ho,Yj] at h
  obtain ⟨⟨⟨⟨⟨h1,h2⟩,h3⟩,h4⟩,h5⟩,h6⟩:=h
  refine⟨h1,fun e he hb=>?_⟩
  have:=qal.1 h3 e he
  rw[hb] at this; simpa using this
 have hm2:m<=ops.size:=by
  simp only[fA,Yj,Yn] at chkt
  exact chkt.1.1
 have main:∀ (fuel:Nat) (listed:Array Bool) (a:Act) (w:World),Bq ops listed<=fuel->listed.size=ops.size->I (fun i=>eR ops listed i) a w->a.defers=a0.defers->a.tmps.size=N ->
   (∀ i o,ops[i]? = some o->eR ops listed i->∀ e∈o.after,Region.binds .any e=true->eR ops listed e.on)->(∀ i,m<=i->¬ eR ops listed i)->wpAnyIn F n P .any ops Q fuel listed a w:=by
  have getD_eq:∀ (listed:Array Bool) (i:Nat),i<listed.size->listed.getD i true=listed.getD i false:=fun listed i hi=>by simp[hi]
  intro fuel
  induction fuel with
  | zero=>
   intro listed a w hu hls hI hdf hsz hcl hnt
   have all:∀ i,i<ops.size->eR ops listed i:=fun i hi=>by
    cases hc:listed.getD i false with
    | true=>exact hc
    | false=>
     have hmem:i∈(List.range ops.size).filter (fun i=>!listed.getD i true):=qa4.2 ⟨YR.2 hi,by rw[getD_eq _ _ r7,hc]; rfl⟩
     have:=qag hmem
     unfold Bq at hu; omega
   have hmm:m=ops.size:=qa5 hm2 (qad fun h=>hnt m (Yk _) (all m h))
   exact p7 chkt 0 ops.size r7 hm2 0 listed a w (Yk _) hls (fun i hi=>⟨fun _=>hi,fun _=>all i hi⟩)
    (by rw[<-hmm]; exact hend _ a w (fun i hi=>all i r7) (fun j hj=>ZL fun hle=>hnt j hle hj) hI hdf hsz)
  | succ fuel ih=>
   intro listed a w hu hls hI hdf hsz hcl hnt
   by_cases hall:∀ i,i<m->eR ops listed i
   ·refine p7 chkt (ops.size - m) m r7 (Yk _) (fuel+1) listed a w ?_ hls (fun i hi=>⟨fun h=>ZL fun hle=>hnt i hle h,fun h=>hall i h⟩)
     (hend _ a w hall (fun j hj=>ZL fun hle=>hnt j hle hj) hI hdf hsz)
    refine YG ?_ hu
    unfold Bq
    have:((List.range ops.size).filter fun i=>decide (m<=i)).length=ops.size - m:=by
     rw[<-ZG]
     have:∀ s,(List.range s).countP (fun i=>decide (m<=i))=s - m:=by
      intro s
      induction s with
      | zero=>simp
      | succ s ih=>rw[qaR,List.countP_append,ih]; simp[List.countP_cons]; split<;>omega
     exact this _
    rw[<-this]
    rw[<-ZG,<-ZG]
    refine qbC fun i hi h=>?_
    have hi:=YR.1 hi
    have hn:=hnt i (by simpa using h)
    unfold eR at hn
    rw[getD_eq _ _ r7]
    simpa using hn
   ·simp only[qbH] at hall
    obtain ⟨i0,hi0,hni0⟩:=hall
    refine⟨fun hrd=>?_,fun i hi=>?_⟩
    ·exfalso
     have:∀ i,i<m->eR ops listed i:=by
      intro i
      induction i using Nat.strongRecOn with
      | _ i ih2=>
       intro hi
       cases hc:listed.getD i false with
       | true=>exact hc
       | false=>
        have:i∈Region.ready .any ops listed:=by
         refine qau.2 ⟨by rw[getD_eq _ _ r7]; exact hc,_,Zo r7,fun e he hb=>?_⟩
         have hlt:=(chk1 i _ (Zo r7)).2 e he hb
         exact ih2 e.on hlt r7
        rw[hrd] at this; cases this
     exact hni0 (this i0 hi0)
    obtain ⟨hun,o,ho,hall⟩:=qau.1 hi
    have his:i<ops.size:=(Yo.1 ho).1
    have him:i<m:=ZL fun hle=>by
     simp only[fA,Yj] at chkt
     have h1:=Yw.1 chkt.1.2 i (YR.2 his)
     simp only[Zb,Yn] at h1
     have h2:=Yw.1 (h1.resolve_left r7) i0 (YR.2 hi0)
     exact hni0 (lE hcl i i0 ⟨o,ho,hall⟩ h2)
    obtain ⟨c1,c3⟩:=chk1 i o ho
    have hnot:¬ eR ops listed i:=by unfold eR; rw[<-getD_eq _ _ r7,hun]; simp
    have come_set:∀ k,eR ops (listed.setIfInBounds i true) k↔k=i∨eR ops listed k:=fun k=>by
     unfold eR
     by_cases e:k=i
     ·subst e; simp[hls,his]
     ·rw[qak false (Zl e)]; simp[e]
    have hlt:∀ j,eR ops listed j->j<m:=fun j hj=>ZL fun hle=>hnt j hle hj
    refine tD hWF ho c1 (R:=fun v w'=>I (fun k=>eR ops (listed.setIfInBounds i true) k) (a.put o.dst v) w') (hstep _ _ i o him ho hlt hnot (fun j hb=>lE hcl i j ⟨o,ho,hall⟩ hb) (fun j k hj hb=>?_) come_set a w hI hsz hdf) ?_
    ·cases hoj:ops[j]? with
     | none=>exact absurd (Array.getElem?_eq_none_iff.1 hoj) (by have:=hlt j hj; omega)
     | some oj=>exact lE hcl j k ⟨oj,hoj,hcl j oj hoj hj⟩ hb
    ·intro v w' hI'
     refine ih _ _ _ ?_ (by simpa using hls) hI' ?_ ?_ ?_ ?_
     ·have:=filter_lt (fun k=>!listed.getD k true) (fun k=>!(listed.setIfInBounds i true).getD k true) (List.range ops.size) (fun x hx hq=>by
       by_cases e:i=x
       ·subst e; rw[hun]; rfl
       ·rw[qak true e] at hq; exact hq) ⟨i,YR.2 his,by rw[hun]; rfl,by simp[hls,his]⟩
      unfold Bq at *; omega
     ·cases hd:o.dst<;>simp[Act.put,hdf]
     ·cases hd:o.dst<;>simp[Act.put,hsz]
     ·intro k ok hok hk e he hb
      rw[come_set]
      rcases (come_set k).1 hk with rfl | hk
      ·rw[ho] at hok; cases hok
       exact .inr (hall e he hb)
      ·exact .inr (hcl k ok hok hk e he hb)
     ·intro k hk hc
      rcases (come_set k).1 hc with rfl | hc
      ·omega
      ·exact hnt k hk hc
 have h00:∀ i,¬ eR ops (Array.replicate ops.size false) i:=fun i hc=>by
  unfold eR at hc
  by_cases h:i<ops.size<;>simp[Array.getD,h] at hc
 refine Cy hm (main _ _ _ _ ?_ r9 (h0 _ h00) rfl hN ?_ ?_)
 ·unfold Bq
  exact YG (qa1 _ _) r9
 ·intro i o _ hc; exact absurd hc (h00 i)
 ·intro i _ hc; exact h00 i hc
end
variable {H H':aB} {g g':Gh} {w0 w w':World} {cx:Cx} {s:St} {a:Act} {F:Fence} {n:Nat} {N lo:Nat} {mb:Mb} {H0:aB} {gs:Gh} {ws:World} {Bs:aB->Gh->World->Prop} {f:Nat} {ops:Array Oper}
theorem su {call:bn} {o:Oper} {fr:List (Nat×A)} {H H':aB} (hk:bR o=0):hX cx call f o ⟨fr,H⟩=hX cx call f o ⟨fr,H'⟩:=by
 have ho:∀ x,cd cx ⟨fr,H⟩ x=cd cx ⟨fr,H'⟩ x:=fun x=>by cases x<;>rfl
 have hof:cd cx ⟨fr,H⟩=cd cx ⟨fr,H'⟩:=funext ho
 unfold bR at hk
 unfold hX bO
 split at hk
 all_goals first
  | (rename_i h; simp only[h,ho,hof]; done)
  | (rename_i h; simp only[h,ho,hof]; rfl)
  | (cases hk; done)
  | (split at hk<;>cases hk; done)
theorem BU {H H':aB} {a:A} (h:sy a=true):cK H a=cK H' a:=by
 unfold sy at h
 unfold cK
 split
 ·cases h
 ·rename_i cs
  congr 1
  refine qbO fun c hc=>?_
  have:=Yw.1 h c hc
  unfold I8 at this
  unfold zF
  split
  ·cases this
  ·rfl
  ·rfl
 ·rfl
theorem sB:∀ {l:List A},pU l=true->∀ a∈l,sy a=true
 | [],_,a,ha=>by cases ha
 | x :: l,h,a,ha=>by
  unfold pU at h
  cases hx:sy x with
  | false=>rw[hx] at h; cases h
  | true=>
   rw[hx] at h
   rcases Y1.1 ha with rfl | ha
   ·exact hx
   ·exact sB h a ha
theorem xx {call:bn} {o:Oper} {fr:List (Nat×A)} {H H':aB} (hk:bR o=2) (hf:pU (partsOf cx ⟨fr,H⟩ o.op)=true):hX cx call f o ⟨fr,H⟩=hX cx call f o ⟨fr,H'⟩:=by
 have ho:∀ x,cd cx ⟨fr,H⟩ x=cd cx ⟨fr,H'⟩ x:=fun x=>by cases x<;>rfl
 unfold bR at hk
 split at hk<;>first | (cases hk; done) | (split at hk<;>cases hk; done) | skip
 rename_i t len parts h
 have hf:=sB hf
 unfold partsOf at hf
 rw[h] at hf
 simp only[] at hf
 unfold hX bO
 simp only[h]
 have:(parts.toList.map fun p=>(p.1,cK H (cd cx ⟨fr,H⟩ p.2)))=parts.toList.map fun p=>(p.1,cK H' (cd cx ⟨fr,H'⟩ p.2)):=by
  refine qbO fun p hp=>?_
  rw[<-ho,BU (hf _ (qaU.2 ⟨p,hp,rfl⟩))]
 rw[this]
theorem n0 {H H':aB} {x:A} (hb:∀ b,blk? x=some b->H'[b]? = H[b]?):gh H x=gh H' x:=by
 unfold gh
 cases x with
 | ptr b o=>simp only[]; rw[hb b rfl]
 | ep b i o=>simp only[]; rw[hb b rfl]
 | sl b o n c=>simp only[]; rw[hb b rfl]
 | mr b=>simp only[]; rw[hb b rfl]
 | _=>rfl
theorem vT {call:bn} {o:Oper} {fr:List (Nat×A)} {H H':aB} (hk:bR o=1) (hb:∀ b,blk? (addrOf cx ⟨fr,H⟩ o.op)=some b->H'[b]? = H[b]?):hX cx call f o ⟨fr,H⟩=hX cx call f o ⟨fr,H'⟩:=by
 have ho:∀ x,cd cx ⟨fr,H⟩ x=cd cx ⟨fr,H'⟩ x:=fun x=>by cases x<;>rfl
 have hof:cd cx ⟨fr,H⟩=cd cx ⟨fr,H'⟩:=funext ho
 unfold bR at hk
 split at hk<;>first | (cases hk; done) | skip
 ·rename_i t x h
  unfold addrOf at hb
  rw[h] at hb
  simp only[] at hb
  unfold hX bO
  simp only[h]
  have:lC cx.P t (cd cx ⟨fr,H⟩ x) H=lC cx.P t (cd cx ⟨fr,H'⟩ x) H':=by
   rw[<-ho]
   unfold lC
   cases hx:cd cx ⟨fr,H⟩ x with
   | ptr b o=>simp only[]; rw[hb b (by rw[hx]; rfl)]
   | ep b i o=>simp only[]; rw[hb b (by rw[hx]; rfl)]
   | _=>rfl
  rw[this]
 ·rename_i t x i h
  unfold addrOf at hb
  rw[h] at hb
  simp only[] at hb
  unfold hX bO
  simp only[h]
  have:fK cx.P t (cd cx ⟨fr,H⟩ x) i H=fK cx.P t (cd cx ⟨fr,H'⟩ x) i H':=by
   rw[<-ho]
   unfold fK
   rw[n0 hb]
  rw[this]
 ·rename_i t x i h
  unfold addrOf at hb
  rw[h] at hb
  simp only[] at hb
  unfold hX bO
  simp only[h]
  have:c9 cx.P t (cd cx ⟨fr,H⟩ x) (cd cx ⟨fr,H⟩ i) H=c9 cx.P t (cd cx ⟨fr,H'⟩ x) (cd cx ⟨fr,H'⟩ i) H':=by
   rw[<-ho,<-ho]
   unfold c9
   rw[n0 hb]
   cases hx:cd cx ⟨fr,H⟩ x with
   | ptr b o=>rfl
   | ep b i o=>simp only[]; rw[hb b (by rw[hx]; rfl)]
   | sl b o n c=>simp only[]; rw[hb b (by rw[hx]; rfl)]
   | _=>rfl
  rw[this]
 ·rename_i t x lo hi mx h
  unfold addrOf at hb
  rw[h] at hb
  simp only[] at hb
  unfold hX bO
  simp only[h]
  have:∀ a b c,fb cx.P t (cd cx ⟨fr,H⟩ x) a b c H=fb cx.P t (cd cx ⟨fr,H'⟩ x) a b c H':=fun a b c=>by
   rw[<-ho]
   generalize hx:cd cx ⟨fr,H⟩ x=y at hb ⊢
   unfold fb
   split
   ·rfl
   ·rfl
   ·rename_i hb'
    rw[hb _ rfl]
   ·rfl
   ·rename_i hb'
    rw[hb _ rfl]
   ·rfl
  simp only[this]
  simp only[hof]
 ·rename_i x h
  unfold addrOf at hb
  rw[h] at hb
  simp only[] at hb
  unfold hX bO
  simp only[h]
  have:BD (cd cx ⟨fr,H⟩ x) H=BD (cd cx ⟨fr,H'⟩ x) H':=by
   rw[<-ho]
   have hr:=n0 hb
   unfold BD
   cases hx:cd cx ⟨fr,H⟩ x with
   | ptr b o=>rw[hx] at hr; simp only[qF,hr]
   | ep b i o=>rw[hx] at hr; simp only[qF,hr]
   | fn q _ _=>cases q<;>rfl
   | _=>rfl
  rw[this]
 ·rename_i t1 t2 x h
  unfold addrOf at hb
  rw[h] at hb
  simp only[] at hb
  unfold hX bO
  simp only[h]
  have:bz cx.P t1 t2 (cd cx ⟨fr,H⟩ x) H=bz cx.P t1 t2 (cd cx ⟨fr,H'⟩ x) H':=by
   rw[<-ho]
   have he:xm H (cd cx ⟨fr,H⟩ x)=xm H' (cd cx ⟨fr,H⟩ x):=by
    unfold xm els?
    cases hx:cd cx ⟨fr,H⟩ x with
    | sl b o n c=>simp only[]; rw[hb b (by rw[hx]; rfl)]
    | v y=>rfl
    | _=>rfl
   generalize cd cx ⟨fr,H⟩ x=z at he
   unfold bz
   split
   ·rw[he]
   ·rfl
   ·rfl
  rw[this]
 ·rename_i t x q c h
  unfold addrOf at hb
  rw[h] at hb
  simp only[] at hb
  unfold hX bO
  simp only[h]
  have:fp cx.P t (cd cx ⟨fr,H⟩ x) (cd cx ⟨fr,H⟩ q) c H=fp cx.P t (cd cx ⟨fr,H'⟩ x) (cd cx ⟨fr,H'⟩ q) c H':=by
   rw[<-ho,<-ho]
   unfold fp
   cases hx:cd cx ⟨fr,H⟩ x with
   | mr b=>simp only[]; rw[hb b (by rw[hx]; rfl)]
   | _=>rfl
  rw[this]
 ·rename_i c h
  split at hk<;>first | (cases hk; done) | skip
  rename_i hc
  unfold addrOf at hb
  rw[h] at hb
  simp only[] at hb
  unfold hX bO
  simp only[h,hc]
  have hi:iR (.call c)=false:=by unfold iR; simp only[hc]
  rw[hi,Yh,Yh]
  unfold pP
  simp only[hc]
  cases hx:c.args.toList with
  | nil=>rfl
  | cons y l=>
   rw[hx] at hb
   simp only[] at hb
   cases l with
   | nil=>
    cases c.argTypes.toList with
    | nil=>rfl
    | cons t ts=>cases ts with
     | nil=>
      simp only[]
      have:rM cx.P t (cd cx ⟨fr,H⟩ y) H=rM cx.P t (cd cx ⟨fr,H'⟩ y) H':=by
       rw[<-ho]
       unfold rM
       rw[n0 hb]
      rw[this]
     | cons _ _=>rfl
   | cons _ _=>rfl
theorem jw {H:aB} {x:A} {b:Nat} (h:gh H x=true) (hb:blk? x=some b):∃ B,H[b]? = some B:=by
 unfold gh at h
 cases x with
 | ptr b' o=>cases hb; cases hq:H[b]? with
  | none=>simp only[hq] at h; cases h
  | some B=>exact⟨B,rfl⟩
 | ep b' i o=>cases hb; cases hq:H[b]? with
  | none=>simp only[hq] at h; cases h
  | some B=>exact⟨B,rfl⟩
 | sl b' o n c=>cases hb; cases hq:H[b]? with
  | none=>simp only[hq] at h; cases h
  | some B=>exact⟨B,rfl⟩
 | mr b'=>cases hb; cases hq:H[b]? with
  | none=>simp only[hq] at h; cases h
  | some B=>exact⟨B,rfl⟩
 | _=>cases hb
theorem uC {call:bn} {o:Oper} {s:St} {x:A} {b:Nat} (hk:bR o=1) (h1:hX cx call f o s=some x) (hb:blk? (addrOf cx s o.op)=some b):∃ B,s.H[b]? = some B:=by
 unfold bR at hk
 unfold addrOf at hb
 split at hk<;>first | (cases hk; done) | skip
 ·rename_i t y hx
  rw[hx] at hb
  simp only[] at hb
  unfold hX bO at h1
  simp only[hx] at h1
  obtain ⟨_,h1,_⟩:=bD h1
  unfold lC at h1
  obtain ⟨_,_,h1⟩:=bD h1
  obtain ⟨_,h1⟩:=eG h1
  generalize cd cx s y=z at hb h1
  cases z with
  | ptr b2 o2=>cases hb; cases hq:s.H[b]? with
   | none=>simp only[hq] at h1; cases h1
   | some B=>exact⟨B,rfl⟩
  | ep b2 i2 o2=>cases hb; cases hq:s.H[b]? with
   | none=>simp only[hq] at h1; cases h1
   | some B=>exact⟨B,rfl⟩
  | sl b2 o2 n2 c2=>cases h1
  | mr _=>cases h1
  | _=>cases hb
 ·rename_i t y q hx
  rw[hx] at hb
  simp only[] at hb
  unfold hX bO at h1
  simp only[hx] at h1
  obtain ⟨_,h1,_⟩:=bD h1
  unfold fK at h1
  exact jw (bu h1).1 hb
 ·rename_i t y q hx
  rw[hx] at hb
  simp only[] at hb
  unfold hX bO at h1
  simp only[hx] at h1
  obtain ⟨_,h1,_⟩:=bD h1
  unfold c9 at h1
  obtain ⟨_,_,h1⟩:=bD h1
  exact jw (bu h1).1 hb
 ·rename_i t y q1 q2 q3 hx
  rw[hx] at hb
  simp only[] at hb
  unfold hX bO at h1
  simp only[hx] at h1
  obtain ⟨_,h1,_⟩:=bD h1
  obtain ⟨_,h1⟩:=bu h1
  generalize cd cx s y=z at hb h1
  unfold fb at h1
  split at h1
  ·cases hb
  ·cases hb
  ·cases hb
   obtain ⟨_,_,h1⟩:=bD h1
   obtain ⟨_,_,h1⟩:=bD h1
   obtain ⟨_,_,h1⟩:=bD h1
   obtain ⟨hc,_⟩:=bu h1
   rw[Yj] at hc
   have hc:=hc.2
   cases hq:s.H[b]? with
   | none=>rw[hq] at hc; cases hc
   | some B=>exact⟨B,rfl⟩
  ·cases hb
  ·cases hb
   obtain ⟨_,_,h1⟩:=bD h1
   obtain ⟨_,_,h1⟩:=bD h1
   obtain ⟨_,_,h1⟩:=bD h1
   obtain ⟨hc,_⟩:=bu h1
   rw[Yj] at hc
   have hc:=hc.2
   cases hq:s.H[b]? with
   | none=>rw[hq] at hc; cases hc
   | some B=>exact⟨B,rfl⟩
  ·cases h1
 ·rename_i y hx
  rw[hx] at hb
  simp only[] at hb
  unfold hX bO at h1
  simp only[hx] at h1
  obtain ⟨_,h1,_⟩:=bD h1
  unfold BD at h1
  obtain ⟨hn,_⟩:=bu h1
  generalize cd cx s y=z at hb hn
  cases z with
  | ptr b2 o2=>exact jw (x:=.ptr b2 o2) hn hb
  | ep b2 i2 o2=>exact jw (x:=.ep b2 i2 o2) hn hb
  | sl b2 o2 n2 c2=>cases hn
  | mr _=>cases hn
  | _=>cases hb
 ·rename_i t1 t2 y hx
  rw[hx] at hb
  simp only[] at hb
  unfold hX bO at h1
  simp only[hx] at h1
  obtain ⟨_,h1,_⟩:=bD h1
  generalize cd cx s y=z at hb h1
  cases z with
  | sl b2 o2 n2 c2=>
   cases hb
   cases hq:s.H[b]? with
   | some B=>exact⟨B,rfl⟩
   | none=>
    unfold bz at h1
    split at h1
    ·rename_i heq
     split at h1
     ·obtain ⟨_,h1,_⟩:=bD h1
      simp only[xm,els?,hq] at h1
      cases h1
     ·cases h1
    ·rename_i heq
     cases heq
    ·obtain ⟨_,h1,_⟩:=bD h1
     cases h1
  | ptr _ _=>
   unfold bz at h1
   split at h1
   ·split at h1
    ·obtain ⟨_,h1,_⟩:=bD h1
     cases h1
    ·cases h1
   ·rename_i heq
    cases heq
   ·obtain ⟨_,h1,_⟩:=bD h1
    cases h1
  | ep _ _ _=>
   unfold bz at h1
   split at h1
   ·split at h1
    ·obtain ⟨_,h1,_⟩:=bD h1
     cases h1
    ·cases h1
   ·rename_i heq
    cases heq
   ·obtain ⟨_,h1,_⟩:=bD h1
    cases h1
  | mr _=>
   unfold bz at h1
   split at h1
   ·split at h1
    ·obtain ⟨_,h1,_⟩:=bD h1
     cases h1
    ·cases h1
   ·rename_i heq
    cases heq
   ·obtain ⟨_,h1,_⟩:=bD h1
    cases h1
  | _=>cases hb
 ·rename_i t y q c hx
  rw[hx] at hb
  simp only[] at hb
  unfold hX bO at h1
  simp only[hx] at h1
  obtain ⟨_,h1,_⟩:=bD h1
  generalize cd cx s y=z at hb h1
  unfold fp at h1
  obtain ⟨_,_,h1⟩:=bD h1
  obtain ⟨_,_,h1⟩:=bD h1
  cases z with
  | mr b2=>cases hb; cases hq:s.H[b]? with
   | none=>simp only[hq] at h1; cases h1
   | some B=>exact⟨B,rfl⟩
  | ptr _ _=>cases h1
  | ep _ _ _=>cases h1
  | sl _ _ _ _=>cases h1
  | _=>cases hb
 ·rename_i c hx
  split at hk<;>first | (cases hk; done) | skip
  rename_i hc
  rw[hx] at hb
  simp only[] at hb
  unfold hX bO at h1
  simp only[hx,hc] at h1
  have hi:iR (.call c)=false:=by unfold iR; simp only[hc]
  rw[hi,Yh] at h1
  unfold pP at h1
  simp only[hc] at h1
  cases hargs:c.args.toList with
  | nil=>rw[hargs] at hb; cases hb
  | cons y l=>
   rw[hargs] at hb h1
   simp only[] at hb h1
   split at h1<;>first | (cases h1; done) | skip
   all_goals first
    | (rename_i hh _ _; injection hh with hh; cases hh; done)
    | (rename_i hh _; injection hh with hh; cases hh; done)
    | skip
   rename_i x' t' _ hl _
   cases hl
   obtain ⟨_,h1,_⟩:=bD h1
   unfold rM at h1
   exact jw (bu h1).1 hb
theorem ss {call:bn} {o:Oper} {fr:List (Nat×A)} {H H':aB} (hk:bR o=2∨(bR o=4/\uP cx o=true)) (h:∀ b,fZ H b=fZ H' b):hX cx call f o ⟨fr,H⟩=hX cx call f o ⟨fr,H'⟩:=by
 have ho:∀ x,cd cx ⟨fr,H⟩ x=cd cx ⟨fr,H'⟩ x:=fun x=>by cases x<;>rfl
 have hof:cd cx ⟨fr,H⟩=cd cx ⟨fr,H'⟩:=funext ho
 rcases hk with hk | ⟨_,hk⟩
 ·unfold bR at hk
  split at hk<;>first | (cases hk; done) | (rename_i c _; split at hk<;>cases hk; done) | skip
  rename_i t len parts ho
  unfold hX bO
  simp only[ho,hof,uF h]
 ·unfold uP at hk
  split at hk
  ·rename_i c hc
   split at hk
   ·rename_i q hq
    rw[Yj] at hk
    have hi:iR o.op=true:=by unfold iR; rw[hc]; simp only[hq]
    unfold hX
    simp only[hc] at hi ⊢
    rw[hi,Yi,Yi]
    unfold jr ff
    simp only[hq]
    have hfv:∀ K,cd cx ⟨fr,K⟩ (.func q)=.fn (.func q) [] []:=fun _=>rfl
    rw[hfv,hfv]
    unfold vG
    simp only[hk.1,hk.2,Yi,hof,qM h]
   ·cases hk
  ·cases hk
theorem DV {call:bn} {o:Oper} {s:St} {H H':aB} (hk:GC cx s o=true) (h:∀ b,fZ H b=fZ H' b):hX cx call f o ⟨s.fr,H⟩=hX cx call f o ⟨s.fr,H'⟩:=by
 have ho:∀ x,cd cx ⟨s.fr,H⟩ x=cd cx ⟨s.fr,H'⟩ x:=fun x=>by cases x<;>rfl
 have ho2:∀ x,cd cx ⟨s.fr,H'⟩ x=cd cx s x:=fun x=>by cases x<;>rfl
 have hof:cd cx ⟨s.fr,H⟩=cd cx ⟨s.fr,H'⟩:=funext ho
 have hof2:cd cx ⟨s.fr,H'⟩=cd cx s:=funext ho2
 unfold GC at hk
 split at hk
 ·rename_i c hc
  have hi:iR (.call c)=true:=by
   cases hi:iR (.call c) with
   | true=>rfl
   | false=>rw[hi] at hk; cases hk
  rw[hi,Yi] at hk
  have e1:jr cx ⟨s.fr,H⟩ (.call c)=jr cx s (.call c):=by unfold jr; rw[hof,hof2]
  have e2:jr cx ⟨s.fr,H'⟩ (.call c)=jr cx s (.call c):=by unfold jr; rw[hof2]
  have e3:ff cx ⟨s.fr,H⟩ (.call c)=ff cx ⟨s.fr,H'⟩ (.call c):=by unfold ff; rw[hof]
  unfold hX
  simp only[hc]
  rw[hi,Yi,Yi,e1,e2,e3]
  split at hk
  ·rename_i q first cap hfv
   rw[Yj] at hk
   rw[hfv]
   unfold vG
   simp only[hk.1,hk.2,Yi,qM h]
  ·cases hk
 ·cases hk
theorem BK {o:Oper} {x:A} {H':aB} (he:zl o=true) (h:bO cx f lo o s (fun a H=>some (a,H))=some (x,H')):∀ b,fZ H' b=fZ s.H b:=by
 have new:∀ B,(∀ es els,B≠aC.row false es els)->∀ b,fZ (s.H++[B]) b=fZ s.H b:=fun B hB b=>by
  unfold fZ
  by_cases hb:b<s.H.length
  ·rw[YE hb]
  ·rw[YY r7,Y7 (by omega:s.H.length<=b)]
   cases hx:[B][b - s.H.length]? with
   | none=>rfl
   | some C=>
    have:C=B:=by
     have:=YQ hx
     simpa using this
    subst this
    cases C with
    | row wr es els=>cases wr with
     | true=>rfl
     | false=>exact absurd rfl (hB es els)
    | _=>rfl
 have setb:∀ c B B0,s.H[c]? = some B0->(∀ es els,B0≠aC.row false es els)->(∀ es els,B≠aC.row false es els)->∀ b,fZ (s.H.set c B) b=fZ s.H b:=fun c B B0 h0 h1 h2 b=>by
  by_cases hb:b=c
  ·subst hb
   rw[uS (YO (Ym.1 h0).1) h2,uS h0 h1]
  ·unfold fZ
   rw[Yz (Zl hb)]
 have nb:∀ cs es els,aC.box cs≠aC.row false es els:=fun _ _ _ h=>by cases h
 have nt:∀ es els es' els',aC.row true es els≠aC.row false es' els':=fun _ _ _ _ h=>by cases h
 have row:∀ {t cs y K},rowOf cx.P t cs s.H=some (y,K)->∃ es els,K=s.H++[.row true es els]:=fun {t cs y K} h=>by
  unfold rowOf at h
  split at h
  ·obtain ⟨es,_,h⟩:=bD h
   obtain ⟨_,h⟩:=eG h
   cases h
   exact⟨_,_,rfl⟩
  ·cases h
 unfold zl at he
 split at he
 ·rename_i t ad v ho
  unfold bO at h
  simp only[ho] at h
  obtain ⟨K,h1,h⟩:=bD h
  cases h
  unfold jz at h1
  obtain ⟨nn,_,h1⟩:=bD h1
  obtain ⟨xs,_,h1⟩:=bD h1
  obtain ⟨_,h1⟩:=eG h1
  split at h1
  ·split at h1
   ·rename_i hb
    obtain ⟨_,h1⟩:=bu h1
    cases h1
    exact setb _ _ _ hb (nb _) (nb _)
   ·cases h1
  ·split at h1
   ·rename_i hb
    split at h1
    ·rw[bF] at h1
     split at h1
     ·cases h1
      exact setb _ _ _ hb (nt _ _) (nt _ _)
     ·obtain ⟨_,h1⟩:=bu h1
      cases h1
      exact setb _ _ _ hb (nt _ _) (nt _ _)
    ·cases h1
   ·cases h1
  ·cases h1
 ·rename_i t ho
  unfold bO at h
  simp only[ho] at h
  obtain ⟨⟨y,K⟩,h1,h⟩:=bD h
  cases h
  unfold oE at h1
  rw[bF] at h1
  split at h1
  ·unfold ku at h1
   obtain ⟨cs,_,h1⟩:=bD h1
   obtain ⟨es,els,rfl⟩:=row h1
   exact new _ (nt _ _)
  ·unfold mf at h1
   obtain ⟨cs,_,h1⟩:=Y2.1 h1
   cases h1
   exact new _ (nb _)
 ·rename_i t v ho
  unfold bO at h
  simp only[ho] at h
  obtain ⟨⟨y,K⟩,h1,h⟩:=bD h
  cases h
  unfold zk at h1
  rw[bF] at h1
  split at h1
  ·unfold uk at h1
   obtain ⟨cs,_,h1⟩:=bD h1
   obtain ⟨es,els,rfl⟩:=row h1
   exact new _ (nt _ _)
  ·unfold yZ at h1
   obtain ⟨cs,_,h1⟩:=Y2.1 h1
   cases h1
   exact new _ (nb _)
 ·rename_i t a b ho
  have hab:a=b:=Yy he
  subst hab
  unfold bO at h
  simp only[ho] at h
  obtain ⟨⟨y,K⟩,h1,h⟩:=bD h
  cases h
  unfold sR at h1
  rw[bF] at h1
  split at h1
  ·unfold ig at h1
   obtain ⟨_,_,h1⟩:=bD h1
   obtain ⟨_,_,h1⟩:=bD h1
   obtain ⟨_,_,h1⟩:=bD h1
   obtain ⟨_,_,h1⟩:=bD h1
   obtain ⟨_,_,h1⟩:=bD h1
   obtain ⟨_,_,h1⟩:=bD h1
   obtain ⟨_,h1⟩:=eG h1
   cases h1
   exact fun _=>rfl
  ·unfold ek fj at h1
   obtain ⟨_,_,h1⟩:=bD h1
   obtain ⟨_,_,h1⟩:=bD h1
   obtain ⟨_,_,h1⟩:=bD h1
   obtain ⟨_,_,h1⟩:=bD h1
   obtain ⟨n,hn,h1⟩:=bD h1
   obtain ⟨c,hc,h1⟩:=bD h1
   rw[hn] at hc
   cases hc
   obtain ⟨_,h1⟩:=eG h1
   rw[show (n==n)=true from r9,Yi] at h1
   cases h1
   exact new _ (nt _ _)
 ·rename_i c ho
  unfold bO at h
  simp only[ho] at h
  split at he
  ·rename_i hca
   unfold pP at h
   simp only[hca] at h
   split at h
   all_goals first | (rename_i hh _ _; cases hh; done) | (rename_i hh _ _; injection hh with hh; cases hh; done) | skip
   ·rename_i x y t t2 _ hargs _
    obtain ⟨⟨z,K⟩,h1,h⟩:=bD h
    cases h
    unfold m8 at h1
    obtain ⟨_,_,h1⟩:=bD h1
    obtain ⟨_,_,h1⟩:=bD h1
    obtain ⟨_,_,h1⟩:=bD h1
    obtain ⟨_,h1⟩:=eG h1
    split at h1
    ·split at h1
     ·rename_i hb
      obtain ⟨_,h1⟩:=bu h1
      cases h1
      exact setb _ _ _ hb (nt _ _) (nt _ _)
     ·cases h1
    ·cases h1
   all_goals first | (cases h; done) | (rename_i hh _; injection hh with hh; cases hh; done)
  ·cases he
 ·cases he
theorem qx {o:Oper} {x:A} {H':aB} (he:dR o=true) (h:bO cx f lo o s (fun a H=>some (a,H))=some (x,H')):s.H.length<=H'.length/\∀ b,b<s.H.length->(∀ c,blk? (du cx s o.op)=some c->b≠c)->H'[b]? = s.H[b]?:=by
 have new:∀ B,s.H.length<=(s.H++[B]).length/\∀ b,b<s.H.length->(∀ c,blk? (du cx s o.op)=some c->b≠c)->(s.H++[B])[b]? = s.H[b]?:=fun B=>⟨r9,fun b hb _=>YE hb⟩
 have setb:∀ c B,blk? (du cx s o.op)=some c->s.H.length<=(s.H.set c B).length/\∀ b,b<s.H.length->(∀ c,blk? (du cx s o.op)=some c->b≠c)->(s.H.set c B)[b]? = s.H[b]?:=fun c B hc=>⟨r9,fun b _ hb=>Yz (Zl (hb c hc))⟩
 have row:∀ {t cs y K},rowOf cx.P t cs s.H=some (y,K)->∃ B,K=s.H++[B]:=fun {t cs y K} h=>by
  unfold rowOf at h
  split at h
  ·obtain ⟨es,_,h⟩:=bD h
   obtain ⟨_,h⟩:=eG h
   cases h
   exact⟨_,rfl⟩
  ·cases h
 unfold dR at he
 split at he
 ·rename_i t ad v ho
  unfold bO at h
  simp only[ho] at h
  obtain ⟨K,h1,h⟩:=bD h
  cases h
  unfold jz at h1
  obtain ⟨nn,_,h1⟩:=bD h1
  obtain ⟨xs,_,h1⟩:=bD h1
  obtain ⟨_,h1⟩:=eG h1
  have ht:du cx s o.op=cd cx s ad:=by unfold du; rw[ho]
  cases hx:cd cx s ad with
  | ptr b oo=>
   simp only[hx] at h1
   split at h1
   ·obtain ⟨_,h1⟩:=bu h1
    cases h1
    exact setb b _ (by rw[ht,hx]; rfl)
   ·cases h1
  | ep b i oo=>
   simp only[hx] at h1
   split at h1
   ·split at h1
    ·rw[bF] at h1
     split at h1
     ·cases h1
      exact setb b _ (by rw[ht,hx]; rfl)
     ·obtain ⟨_,h1⟩:=bu h1
      cases h1
      exact setb b _ (by rw[ht,hx]; rfl)
    ·cases h1
   ·cases h1
  | _=>simp only[hx] at h1; cases h1
 ·rename_i t ho
  unfold bO at h
  simp only[ho] at h
  obtain ⟨⟨y,K⟩,h1,h⟩:=bD h
  cases h
  unfold oE at h1
  rw[bF] at h1
  split at h1
  ·unfold ku at h1
   obtain ⟨cs,_,h1⟩:=bD h1
   obtain ⟨B,rfl⟩:=row h1
   exact new B
  ·unfold mf at h1
   obtain ⟨cs,_,h1⟩:=Y2.1 h1
   cases h1
   exact new _
 ·rename_i t v ho
  unfold bO at h
  simp only[ho] at h
  obtain ⟨⟨y,K⟩,h1,h⟩:=bD h
  cases h
  unfold zk at h1
  rw[bF] at h1
  split at h1
  ·unfold uk at h1
   obtain ⟨cs,_,h1⟩:=bD h1
   obtain ⟨B,rfl⟩:=row h1
   exact new B
  ·unfold yZ at h1
   obtain ⟨cs,_,h1⟩:=Y2.1 h1
   cases h1
   exact new _
 ·rename_i t l c ho
  unfold bO at h
  simp only[ho] at h
  obtain ⟨⟨y,K⟩,h1,h⟩:=bD h
  cases h
  unfold sR at h1
  rw[bF] at h1
  split at h1
  ·unfold ig at h1
   obtain ⟨_,_,h1⟩:=bD h1
   obtain ⟨_,_,h1⟩:=bD h1
   obtain ⟨_,_,h1⟩:=bD h1
   obtain ⟨_,_,h1⟩:=bD h1
   obtain ⟨_,_,h1⟩:=bD h1
   obtain ⟨_,_,h1⟩:=bD h1
   obtain ⟨_,h1⟩:=eG h1
   cases h1
   exact⟨Yk _,fun _ _ _=>rfl⟩
  unfold ek fj at h1
  obtain ⟨_,_,h1⟩:=bD h1
  obtain ⟨_,_,h1⟩:=bD h1
  obtain ⟨_,_,h1⟩:=bD h1
  obtain ⟨_,_,h1⟩:=bD h1
  obtain ⟨_,_,h1⟩:=bD h1
  obtain ⟨_,_,h1⟩:=bD h1
  obtain ⟨_,h1⟩:=eG h1
  rw[bF] at h1
  split at h1
  ·cases h1; exact new _
  ·obtain ⟨_,h1⟩:=bu h1
   cases h1; exact new _
 ·rename_i c ho
  have ht:∀ x r,c.args.toList=x :: r->du cx s o.op=cd cx s x:=fun x r hc=>by unfold du; rw[ho]; simp only[hc]
  unfold bO at h
  simp only[ho] at h
  split at he
  ·rename_i hca
   unfold pP at h
   simp only[hca] at h
   split at h
   all_goals first | (rename_i hh _ _; cases hh; done) | (rename_i hh _ _; injection hh with hh; cases hh; done) | skip
   ·rename_i x y t t2 _ hargs _
    obtain ⟨⟨z,K⟩,h1,h⟩:=bD h
    cases h
    have ht:=ht x [y] hargs
    unfold bN at h1
    obtain ⟨_,_,h1⟩:=bD h1
    obtain ⟨_,_,h1⟩:=bD h1
    obtain ⟨_,_,h1⟩:=bD h1
    obtain ⟨_,_,h1⟩:=bD h1
    obtain ⟨_,_,h1⟩:=bD h1
    obtain ⟨_,h1⟩:=eG h1
    cases hx:cd cx s x with
    | imm xs cl=>
     simp only[hx] at h1
     cases cl with
     | false=>cases h1
     | true=>
      simp only[] at h1
      obtain ⟨_,h1⟩:=eG h1
      rw[bF] at h1
      split at h1
      ·cases h1; exact new _
      ·obtain ⟨_,h1⟩:=bu h1
       cases h1; exact new _
    | sl b oo nn cl=>
     simp only[hx] at h1
     split at h1
     ·obtain ⟨_,h1⟩:=eG h1
      rw[bF] at h1
      split at h1
      ·cases h1; exact new _
      ·obtain ⟨_,h1⟩:=bu h1
       cases h1
       exact setb b _ (by rw[ht,hx]; rfl)
     ·cases h1
    | _=>simp only[hx] at h1; cases h1
   all_goals first | (cases h; done) | (rename_i hh _; injection hh with hh; cases hh; done)
  ·rename_i hca
   unfold pP at h
   simp only[hca] at h
   split at h
   all_goals first | (rename_i hh _ _; cases hh; done) | (rename_i hh _ _; injection hh with hh; cases hh; done) | skip
   ·rename_i x y t t2 _ hargs _
    obtain ⟨⟨z,K⟩,h1,h⟩:=bD h
    cases h
    have ht:=ht x [y] hargs
    unfold m8 at h1
    obtain ⟨_,_,h1⟩:=bD h1
    obtain ⟨_,_,h1⟩:=bD h1
    obtain ⟨_,_,h1⟩:=bD h1
    obtain ⟨_,h1⟩:=eG h1
    cases hx:cd cx s x with
    | sl b oo nn cl=>
     simp only[hx] at h1
     split at h1
     ·obtain ⟨_,h1⟩:=bu h1
      cases h1
      exact setb b _ (by rw[ht,hx]; rfl)
     ·cases h1
    | _=>simp only[hx] at h1; cases h1
   all_goals first | (cases h; done) | (rename_i hh _; injection hh with hh; cases hh; done)
  ·cases he
 ·cases he
def Alike (s s':St):Prop:=s'.H=s.H/\∀ t,look s'.fr t=look s.fr t
theorem Alike.refl (s:St):Alike s s:=⟨rfl,fun _=>rfl⟩
theorem Alike.trans {a b c:St} (h1:Alike a b) (h2:Alike b c):Alike a c:=⟨h2.1.trans h1.1,fun t=>(h2.2 t).trans (h1.2 t)⟩
theorem fY (s:St) (d:Option Nat) (x:A) (t:Nat):look (s.put d x).fr t=if d=some t then x else look s.fr t:=by
 cases d with
 | none=>simp[St.put]
 | some d=>
  show look ((d,x) :: s.fr) t=_
  rw[ez]
  by_cases e:d=t
  ·subst e; simp
  ·rw[Yp e,Yp (by simpa using e)]
theorem gy (s:St) (d:Option Nat) (x:A):(s.put d x).H=s.H:=by cases d<;>rfl
theorem Alike.lit {s:St} {t:Nat} {x:A} (h:look s.fr t=x):Alike s (s.put (some t) x):=⟨rfl,fun t'=>by
 rw[fY]
 split
 ·rename_i e
  cases e
  exact h.symm
 ·rfl⟩
def lA (cx:Cx) (call:bn) (f lo:Nat) (ops:Array Oper) (m:Nat) (fl:List (Nat×A)) (i:Nat) (o:Oper) (s s':St) (x:A):Prop:=
 (cZ i fl=some x/\Alike (s.put o.dst x) s') ∨
 (cZ i fl=none/\dR o=true/\∃ H',bO cx f lo o s (fun a H=>some (a,H))=some (x,H')/\Alike (({ s with H:=H' }:St).put o.dst x) s') ∨
 (cZ i fl=none/\dR o=false/\hX cx call f o s=some x/\Alike (s.put o.dst x) s'/\((jP fl ops m i=true/\((pa cx o=true∨xC ops i fl=true)∨GC cx s o=true))∨bR o=0∨bR o=1∨((bR o=2∨(bR o=4/\uP cx o=true))/\IY ops m i=true)∨(bR o=2/\pU (partsOf cx s o.op)=true)))
def Mc (cx:Cx) (call:bn) (f:Nat) (ops:Array Oper) (fl:List (Nat×A)) (i:Nat) (o:Oper) (s s':St) (x:A):Prop:=
 ∃ t w,b9 ops o=some (t,w)/\cZ i fl=none/\dR o=false/\bR o=0/\Alike (s.put o.dst x) s'/\((∃ b,look s.fr t=.v (.bool b)/\if b==w then hX cx call f o s=some x else x=.v undef)∨((∃ y,look s.fr t=.v (.tuple y))/\x=.v undef))
def Md (cx:Cx) (call:bn) (f lo:Nat) (ops:Array Oper) (m:Nat) (fl:List (Nat×A)) (i:Nat) (o:Oper) (s s':St) (x:A):Prop:=
 ∃ t w b,b9 ops o=some (t,w)/\cZ i fl=none/\look s.fr t=.v (.bool b)/\((b==w)=true/\lA cx call f lo ops m fl i o s s' x∨(b==w)=false/\x=.v undef/\Alike (s.put o.dst x) s')
def mJ (cx:Cx) (call:bn) (f lo:Nat) (ops:Array Oper) (m:Nat) (fl:List (Nat×A)) (i:Nat) (o:Oper) (s s':St) (x:A):Prop:=
 (o.guard=none/\lA cx call f lo ops m fl i o s s' x)∨Mc cx call f ops fl i o s s' x∨Md cx call f lo ops m fl i o s s' x
theorem lA.alike {call:bn} {o:Oper} {m:Nat} {fl:List (Nat×A)} {i:Nat} {s s' s2:St} {x:A} (h:lA cx call f lo ops m fl i o s s' x) (h2:Alike s' s2):lA cx call f lo ops m fl i o s s2 x:=by
 rcases h with ⟨a,b⟩ | ⟨a,b,H',c,d⟩ | ⟨a,b,c,d,e⟩
 ·exact .inl ⟨a,b.trans h2⟩
 ·exact .inr (.inl ⟨a,b,H',c,d.trans h2⟩)
 ·exact .inr (.inr ⟨a,b,c,d.trans h2,e⟩)
theorem mJ.alike {call:bn} {o:Oper} {m:Nat} {fl:List (Nat×A)} {i:Nat} {s s' s2:St} {x:A} (h:mJ cx call f lo ops m fl i o s s' x) (h2:Alike s' s2):mJ cx call f lo ops m fl i o s s2 x:=by
 rcases h with ⟨a,b⟩ | ⟨t,w,a,b,c,d,e,g⟩ | ⟨t,w,b,a1,a2,a3,a4⟩
 ·exact .inl ⟨a,b.alike h2⟩
 ·exact .inr (.inl ⟨t,w,a,b,c,d,e.trans h2,g⟩)
 ·refine .inr (.inr ⟨t,w,b,a1,a2,a3,?_⟩)
  rcases a4 with ⟨c,d⟩ | ⟨c,d,e⟩
  ·exact .inl ⟨c,d.alike h2⟩
  ·exact .inr ⟨c,d,e.trans h2⟩
theorem lA.look {call:bn} {o:Oper} {m:Nat} {fl:List (Nat×A)} {i:Nat} {s s':St} {x:A} (h:lA cx call f lo ops m fl i o s s' x) (t:Nat):look s'.fr t=if o.dst=some t then x else look s.fr t:=by
 rcases h with ⟨_,b⟩ | ⟨_,_,H',_,d⟩ | ⟨_,_,_,d,_⟩
 ·rw[b.2,fY]
 ·rw[d.2,fY]
 ·rw[d.2,fY]
theorem mJ.look {call:bn} {o:Oper} {m:Nat} {fl:List (Nat×A)} {i:Nat} {s s':St} {x:A} (h:mJ cx call f lo ops m fl i o s s' x) (t:Nat):look s'.fr t=if o.dst=some t then x else look s.fr t:=by
 rcases h with ⟨_,b⟩ | ⟨_,_,_,_,_,_,e,_⟩ | ⟨_,_,_,_,_,_,a4⟩
 ·exact b.look t
 ·rw[e.2,fY]
 ·rcases a4 with ⟨_,d⟩ | ⟨_,_,e⟩
  ·exact d.look t
  ·rw[e.2,fY]
theorem lA.heap {call:bn} {o:Oper} {m:Nat} {fl:List (Nat×A)} {i:Nat} {s s':St} {x:A} (h:lA cx call f lo ops m fl i o s s' x):(dR o=false∨(cZ i fl).isSome=true->s'.H=s.H)/\s.H.length<=s'.H.length/\∀ b,b<s.H.length->(dR o=true->cZ i fl=none->∀ c,blk? (du cx s o.op)=some c->b≠c)->s'.H[b]? = s.H[b]?:=by
 rcases h with ⟨_,e⟩ | ⟨hn,he,H',h1,e⟩ | ⟨_,he,_,e,_⟩
 ·rw[e.1,gy]
  exact⟨fun _=>rfl,Yk _,fun _ _ _=>rfl⟩
 ·obtain ⟨t1,t2⟩:=qx he h1
  rw[e.1,gy]
  exact⟨fun h'=>(by rw[he,hn] at h'; rcases h' with h' | h'<;>cases h'),t1,fun b hb hc=>t2 b hb (hc he hn)⟩
 ·rw[e.1,gy]
  exact⟨fun _=>rfl,Yk _,fun _ _ _=>rfl⟩
theorem mJ.heap {call:bn} {o:Oper} {m:Nat} {fl:List (Nat×A)} {i:Nat} {s s':St} {x:A} (h:mJ cx call f lo ops m fl i o s s' x):(dR o=false∨(cZ i fl).isSome=true->s'.H=s.H)/\s.H.length<=s'.H.length/\∀ b,b<s.H.length->(dR o=true->cZ i fl=none->∀ c,blk? (du cx s o.op)=some c->b≠c)->s'.H[b]? = s.H[b]?:=by
 rcases h with ⟨_,b⟩ | ⟨_,_,_,_,_,_,e,_⟩ | ⟨_,_,_,_,_,_,a4⟩
 ·exact b.heap
 ·rw[e.1,gy]
  exact⟨fun _=>rfl,Yk _,fun _ _ _=>rfl⟩
 ·rcases a4 with ⟨_,d⟩ | ⟨_,_,e⟩
  ·exact d.heap
  ·rw[e.1,gy]
   exact⟨fun _=>rfl,Yk _,fun _ _ _=>rfl⟩
def fJ (ops:Array Oper) (i j:Nat):Prop:=(fG ops i j || fG ops j i)=false
theorem iy {i:Nat} {e:A}:∀ {l:List (Nat×A)},kD ops i e l=true->∀ p∈l,fJ ops i p.1->apart p.2 e=true
 | [],_,p,hp,_=>by cases hp
 | q :: l,h,p,hp,hu=>by
  unfold kD at h
  cases hb:(fG ops i q.1 || fG ops q.1 i) with
  | true=>
   rw[hb] at h
   rcases Y1.1 hp with rfl | hp
   ·unfold fJ at hu; rw[hb] at hu; cases hu
   ·exact iy h p hp hu
  | false=>
   rw[hb] at h
   cases ha:apart q.2 e with
   | false=>rw[ha] at h; cases h
   | true=>
    rw[ha] at h
    rcases Y1.1 hp with rfl | hp
    ·exact ha
    ·exact iy h p hp hu
theorem ja {i:Nat} {a:A}:∀ {l:List (Nat×A)},lD ops i a l=true->∀ p∈l,fJ ops i p.1->apart a p.2=true
 | [],_,p,hp,_=>by cases hp
 | q :: l,h,p,hp,hu=>by
  unfold lD at h
  cases hb:(fG ops i q.1 || fG ops q.1 i) with
  | true=>
   rw[hb] at h
   rcases Y1.1 hp with rfl | hp
   ·unfold fJ at hu; rw[hb] at hu; cases hu
   ·exact ja h p hp hu
  | false=>
   rw[hb] at h
   cases ha:apart a q.2 with
   | false=>rw[ha] at h; cases h
   | true=>
    rw[ha] at h
    rcases Y1.1 hp with rfl | hp
    ·exact ha
    ·exact ja h p hp hu
theorem beq_spec {a b:Nat} (h:Nat.beq a b=true):a=b:=Yy h
def Tr (cx:Cx) (call:bn) (f lo:Nat) (ops:Array Oper) (m:Nat) (fl:List (Nat×A)) (k:St->Option R) (r:R) (os:List Oper) (i:Nat) (effs seen:List (Nat×A)) (s:St):Prop:=
  ∃ (σ:Nat->St) (xs:Nat->A),Alike s (σ 0)/\k (σ os.length)=some r/\∀ (j:Nat) o,os[j]? = some o->mJ cx call f lo ops m fl (i+j) o (σ j) (σ (j+1)) (xs j) ∧
   (cZ (i+j) fl=none->dR o=true->(∀ p∈seen,fJ ops (i+j) p.1->apart p.2 (du cx (σ j) o.op)=true)/\∀ (j':Nat) o',j'<j->os[j']? = some o'->dR o'=false->bR o'=1->jP fl ops m (i+j')=false->fJ ops (i+j) (i+j')->apart (addrOf cx (σ j') o'.op) (du cx (σ j) o.op)=true) ∧
   (dR o=false->bR o=1->jP fl ops m (i+j)=false->(∀ p∈effs,fJ ops (i+j) p.1->apart (addrOf cx (σ j) o.op) p.2=true)/\∀ (j':Nat) o',j'<j->os[j']? = some o'->cZ (i+j') fl=none->dR o'=true->fJ ops (i+j) (i+j')->apart (addrOf cx (σ j) o.op) (du cx (σ j') o'.op)=true)
theorem qZ {call:bn} {m:Nat} {fl:List (Nat×A)} {k:St->Option R} {r:R} (hfe:∀ i o a,cZ i fl=some a->ops[i]? = some o->dR o=true) (hV:∀ {o:Oper} {s:St} (k:A->Option R),sv cx call f o s k=(hX cx call f o s).bind k):∀ (os:List Oper) (i:Nat) (effs seen:List (Nat×A)) (s:St),(∀ j o,os[j]? = some o->ops[i+j]? = some o)->fN cx call f lo ops m fl i os effs seen s k=some r->Tr cx call f lo ops m fl k r os i effs seen s
 | [],i,effs,seen,s,_,h=>⟨fun _=>s,fun _=>.any,Alike.refl _,h,fun j o ho=>by simp at ho⟩
 | o :: os,i,effs,seen,s,hos,h=>by
  have hos':∀ j o,os[j]? = some o->ops[i+1+j]? = some o:=fun j o' ho'=>by
   have:=hos (j+1) o' (by simpa using ho')
   rwa [show i+1+j=i+(j+1) by omega]
  have hoi:ops[i]? = some o:=by simpa using hos 0 o r9
  have finG:∀ (s1 s':St) (x:A) (effs' seen':List (Nat×A)),Alike s s1->mJ cx call f lo ops m fl i o s1 s' x->(∀ p∈effs,p∈effs')->(∀ p∈seen,p∈seen')->(cZ i fl=none->dR o=true->(i,du cx s1 o.op)∈effs'/\∀ p∈seen,fJ ops i p.1->apart p.2 (du cx s1 o.op)=true) ->
    (dR o=false->bR o=1->jP fl ops m i=false->(i,addrOf cx s1 o.op)∈seen'/\∀ p∈effs,fJ ops i p.1->apart (addrOf cx s1 o.op) p.2=true)->fN cx call f lo ops m fl (i+1) os effs' seen' s' k=some r->Tr cx call f lo ops m fl k r (o :: os) i effs seen s:=by
   intro s1 s' x effs' seen' hal hst he1 hs1 hce hcp h
   obtain ⟨σ,xs,g0,g1,g2⟩:=qZ hfe hV os (i+1) effs' seen' s' hos' h
   refine⟨fun j=>match j with | 0=>s1 | j+1=>σ j,fun j=>match j with | 0=>x | j+1=>xs j,hal,g1,fun j o1 ho1=>?_⟩
   cases j with
   | zero=>
    simp at ho1
    subst ho1
    refine⟨hst.alike g0,fun hn he=>⟨(hce hn he).2,fun j' o' hj'=>r7⟩,fun he hk ho=>⟨(hcp he hk ho).2,fun j' o' hj'=>r7⟩⟩
   | succ j=>
    obtain ⟨q2,q3,q4⟩:=g2 j o1 (by simpa using ho1)
    have e:i+1+j=i+(j+1):=r7
    rw[e] at q2 q3 q4
    refine⟨q2,fun hn he=>⟨fun p hp=>(q3 hn he).1 p (hs1 p hp),fun j' o' hj' ho' he' hk' hod hu=>?_⟩,fun he hk hod=>⟨fun p hp=>(q4 he hk hod).1 p (he1 p hp),fun j' o' hj' ho' hn' he' hu=>?_⟩⟩
    ·cases j' with
     | zero=>
      simp at ho'
      subst ho'
      exact(q3 hn he).1 _ (hcp he' hk' hod).1 hu
     | succ j'=>
      refine(q3 hn he).2 j' o' r7 (by simpa using ho') he' hk' ?_ ?_
      ·rw[show i+1+j'=i+(j'+1) by omega]; exact hod
      ·rw[show i+1+j'=i+(j'+1) by omega]; exact hu
    ·cases j' with
     | zero=>
      simp at ho'
      subst ho'
      exact(q4 he hk hod).1 _ (hce hn' he').1 hu
     | succ j'=>
      refine(q4 he hk hod).2 j' o' r7 (by simpa using ho') ?_ he' ?_
      ·rw[show i+1+j'=i+(j'+1) by omega]; exact hn'
      ·rw[show i+1+j'=i+(j'+1) by omega]; exact hu
  have doB:∀ (s1:St),Alike s s1->(∀ s' x,lA cx call f lo ops m fl i o s1 s' x->mJ cx call f lo ops m fl i o s1 s' x)->sj cx call f lo ops m fl i o effs seen s1 (fun effs seen s=>fN cx call f lo ops m fl (i+1) os effs seen s k)=some r->Tr cx call f lo ops m fl k r (o :: os) i effs seen s:=by
   intro s1 hal hA h
   have fin:∀ (s':St) (x:A) (effs' seen':List (Nat×A)),lA cx call f lo ops m fl i o s1 s' x->(∀ p∈effs,p∈effs')->(∀ p∈seen,p∈seen')->(cZ i fl=none->dR o=true->(i,du cx s1 o.op)∈effs'/\∀ p∈seen,fJ ops i p.1->apart p.2 (du cx s1 o.op)=true) ->
     (dR o=false->bR o=1->jP fl ops m i=false->(i,addrOf cx s1 o.op)∈seen'/\∀ p∈effs,fJ ops i p.1->apart (addrOf cx s1 o.op) p.2=true)->fN cx call f lo ops m fl (i+1) os effs' seen' s' k=some r->Tr cx call f lo ops m fl k r (o :: os) i effs seen s:=fun s' x effs' seen' hst=>finG s1 s' x effs' seen' hal (hA _ _ hst)
   unfold sj at h
   cases hfl:cZ i fl with
   | some a=>
    simp only[hfl] at h
    have he:=hfe i o a hfl hoi
    exact fin _ a effs seen (.inl ⟨hfl,Alike.refl _⟩) (fun p hp=>hp) (fun p hp=>hp) (fun h'=>(by rw[hfl] at h'; cases h')) (fun h'=>(by rw[he] at h'; cases h')) h
   | none=>
   simp only[hfl] at h
   rw[bF] at h
   split at h
   ·rename_i he
    obtain ⟨hsn,h⟩:=bu h
    rw[iM] at h
    obtain ⟨⟨x,H'⟩,h1,h⟩:=bD h
    exact fin _ x _ seen (.inr (.inl ⟨hfl,he,H',h1,Alike.refl _⟩)) (fun p hp=>by simp[hp]) (fun p hp=>hp) (fun _ _=>⟨r9,iy hsn⟩) (fun h'=>(by rw[he] at h'; cases h')) h
   ·rename_i he
    have he:dR o=false:=by simpa using he
    rw[bF] at h
    split at h
    ·rename_i hod
     simp only[Yj,Zb] at hod
     rw[hV] at h
     obtain ⟨x,h1,h⟩:=bD h
     exact fin _ x effs seen (.inr (.inr ⟨hfl,he,h1,Alike.refl _,.inl hod⟩)) (fun p hp=>hp) (fun p hp=>hp) (fun _ h'=>(by rw[he] at h'; cases h')) (fun _ _ h'=>(by rw[hod.1] at h'; cases h')) h
    ·rename_i hod
     rw[bF] at h
     split at h
     ·rename_i hk
      rw[hV] at h
      obtain ⟨x,h1,h⟩:=bD h
      have hk:=beq_spec hk
      exact fin _ x effs seen (.inr (.inr ⟨hfl,he,h1,Alike.refl _,.inr (.inl hk)⟩)) (fun p hp=>hp) (fun p hp=>hp) (fun _ h'=>(by rw[he] at h'; cases h')) (fun _ h' _=>(by rw[hk] at h'; cases h')) h
     ·rw[bF] at h
      split at h
      ·rename_i hk
       have hk:=beq_spec hk
       obtain ⟨hap,h⟩:=bu h
       rw[hV] at h
       obtain ⟨x,h1,h⟩:=bD h
       exact fin _ x effs _ (.inr (.inr ⟨hfl,he,h1,Alike.refl _,.inr (.inr (.inl hk))⟩)) (fun p hp=>hp) (fun p hp=>by simp[hp]) (fun _ h'=>(by rw[he] at h'; cases h')) (fun _ _ _=>⟨r9,ja hap⟩) h
      ·rename_i hk1
       rw[bF] at h
       split at h
       ·rename_i hk
        simp only[Yj,Zb] at hk
        have hk2:bR o=2∨(bR o=4/\uP cx o=true):=hk.1.imp beq_spec (fun h=>⟨beq_spec h.1,h.2⟩)
        rw[hV] at h
        obtain ⟨x,h1,h⟩:=bD h
        exact fin _ x effs seen (.inr (.inr ⟨hfl,he,h1,Alike.refl _,.inr (.inr (.inr (.inl ⟨hk2,hk.2⟩)))⟩)) (fun p hp=>hp) (fun p hp=>hp) (fun _ h'=>(by rw[he] at h'; cases h')) (fun _ h' _=>(by rcases hk2 with hk2 | hk2<;>(first | rw[hk2] at h' | rw[hk2.1] at h')<;>cases h')) h
       obtain ⟨hk,h⟩:=bu h
       have hk:=beq_spec hk
       obtain ⟨hfl2,h⟩:=bu h
       rw[hV] at h
       obtain ⟨x,h1,h⟩:=bD h
       exact fin _ x effs seen (.inr (.inr ⟨hfl,he,h1,Alike.refl _,.inr (.inr (.inr (.inr ⟨hk,hfl2⟩)))⟩)) (fun p hp=>hp) (fun p hp=>hp) (fun _ h'=>(by rw[he] at h'; cases h')) (fun _ h' _=>(by rw[hk] at h'; cases h')) h
  have doS:∀ (s1:St),Alike s s1->(∀ s',Alike (s1.put o.dst (.v undef)) s'->mJ cx call f lo ops m fl i o s1 s' (.v undef))->vP cx ops m fl i o effs seen s1 (fun effs seen s=>fN cx call f lo ops m fl (i+1) os effs seen s k)=some r->Tr cx call f lo ops m fl k r (o :: os) i effs seen s:=by
   intro s1 hal hA h
   have fin:=fun effs' seen'=>finG s1 (s1.put o.dst (.v undef)) (.v undef) effs' seen' hal (hA _ (Alike.refl _))
   unfold vP at h
   rw[bF] at h
   split at h
   ·rename_i he
    obtain ⟨hsn,h⟩:=bu h
    exact fin _ seen (fun p hp=>by simp[hp]) (fun p hp=>hp) (fun _ _=>⟨r9,iy hsn⟩) (fun h'=>(by rw[he] at h'; cases h')) h
   ·rename_i he
    have he:dR o=false:=by simpa using he
    rw[bF] at h
    split at h
    ·rename_i hk
     rw[bF] at h
     split at h
     ·rename_i hod
      exact fin effs seen (fun p hp=>hp) (fun p hp=>hp) (fun _ h'=>(by rw[he] at h'; cases h')) (fun _ _ h'=>(by rw[hod] at h'; cases h')) h
     ·obtain ⟨hap,h⟩:=bu h
      exact fin effs _ (fun p hp=>hp) (fun p hp=>by simp[hp]) (fun _ h'=>(by rw[he] at h'; cases h')) (fun _ _ _=>⟨r9,ja hap⟩) h
    ·rename_i hk
     exact fin effs seen (fun p hp=>hp) (fun p hp=>hp) (fun _ h'=>(by rw[he] at h'; cases h')) (fun _ h' _=>(by rw[h'] at hk; exact absurd rfl hk)) h
  unfold fN at h
  cases hgd:o.guard with
  | some _=>
   simp only[hgd] at h
   cases hgs:b9 ops o with
   | none=>rw[hgs] at h; cases h
   | some tw=>
    obtain ⟨t,w⟩:=tw
    simp only[hgs] at h
    rw[bF] at h
    split at h
    ·rename_i hc
     simp only[Yj,Ze,qbn] at hc
     obtain ⟨⟨hk,he⟩,hn⟩:=hc
     have hk:=beq_spec hk
     obtain ⟨x,h0,h⟩:=bD h
     refine finG s _ x effs seen (Alike.refl _) (.inr (.inl ⟨t,w,hgs,hn,he,hk,Alike.refl _,?_⟩)) (fun p hp=>hp) (fun p hp=>hp) (fun _ h'=>(by rw[he] at h'; cases h')) (fun _ h' _=>(by rw[hk] at h'; cases h')) h
     rcases ny h0 with ⟨b,hb,h0⟩ | ⟨y,hb,h0⟩
     ·refine .inl ⟨b,hb,?_⟩
      split at h0
      ·rename_i hbw; rw[Yq hbw]; exact h0
      ·rename_i hbw; rw[Yp hbw]; cases h0; rfl
     ·cases h0; exact .inr ⟨⟨y,hb⟩,rfl⟩
    ·obtain ⟨hn,h⟩:=bu h
     simp only[qbn] at hn
     obtain ⟨b,hb,h⟩:=pG h
     have hl:look (s.put (some t) (.v (.bool b))).fr t=.v (.bool b):=by rw[fY,Yq rfl]
     cases b with
     | true=>
      simp only[qas] at h
      cases w with
      | true=>exact doB _ (Alike.lit hb) (fun s' x hE=>.inr (.inr ⟨t,true,true,hgs,hn,hl,.inl ⟨rfl,hE⟩⟩)) h
      | false=>exact doS _ (Alike.lit hb) (fun s' hE=>.inr (.inr ⟨t,false,true,hgs,hn,hl,.inr ⟨rfl,rfl,hE⟩⟩)) h
     | false=>
      simp only[YM,qap] at h
      cases w with
      | true=>exact doS _ (Alike.lit hb) (fun s' hE=>.inr (.inr ⟨t,true,false,hgs,hn,hl,.inr ⟨rfl,rfl,hE⟩⟩)) h
      | false=>exact doB _ (Alike.lit hb) (fun s' x hE=>.inr (.inr ⟨t,false,false,hgs,hn,hl,.inl ⟨rfl,hE⟩⟩)) h
  | none=>
   simp only[hgd] at h
   exact doB s (Alike.refl _) (fun s' x hE=>.inl ⟨hgd,hE⟩) h
theorem wq {fl:List (Nat×A)} {m i e:Nat} (h:jP fl ops m i=true) (he:e<m) (hf:dw ops e=true) (hn:cZ e fl=none):e=i∨fG ops i e=true∨fG ops e i=true:=by
 have:=Yw.1 h e (YR.2 he)
 simp only[Zb,Ze,Zx] at this
 rcases this with (((h | h) | h) | h) | h
 ·rw[hf] at h; cases h
 ·rw[hn] at h; cases h
 ·exact .inl h
 ·exact .inr (.inl h)
 ·exact .inr (.inr h)
theorem zq {m i j:Nat} (h:vD ops m=true) (hj:j<m) (hij:i<j) (h1:dw ops i=true) (h2:dw ops j=true):fG ops j i=true:=by
 have:=Yw.1 (Yw.1 h i (YR.2 r7)) j (YR.2 hj)
 simpa [h1,h2,hij] using this
theorem xh {m i j:Nat} (h:rY cx f ops m=true) (hj:j<m) (hij:i<j) (h1:dw ops i=true) (h2:dw ops j=true) (h3:sM cx f ops i=false) (h4:sM cx f ops j=false):fG ops j i=true:=by
 have:=Yw.1 (Yw.1 h i (YR.2 r7)) j (YR.2 hj)
 simpa [h1,h2,h3,h4,hij] using this
theorem sx {i:Nat}:∀ {fl:List (Nat×A)},xC ops i fl=true->∀ j a,cZ j fl=some a->fG ops i j=true
 | [],_,j,a,h=>by cases h
 | p :: l,h,j,a,hj=>by
  unfold xC at h
  cases hb:fG ops i p.1 with
  | false=>rw[hb] at h; cases h
  | true=>
   rw[hb] at h
   unfold cZ at hj
   cases he:Nat.beq p.1 j with
   | true=>rw[<-Yy he]; exact hb
   | false=>rw[he] at hj; exact sx h j a hj
structure LF (cx:Cx) (ops:Array Oper) (m:Nat) (H H1:aB) (fl:List (Nat×A)):Prop where
 at_:∀ i a,cZ i fl=some a->i<m/\∃ o t b cs,ops[i]? = some o/\o.op=.alloc t/\a=.ptr b 0/\H.length<=b/\H1[b]? = some (.box cs)/\hU cx.P t=some cs
 inj:∀ i j b,cZ i fl=some (.ptr b 0)->cZ j fl=some (.ptr b 0)->i=j
 all:∀ b,H.length<=b->b<H1.length->∃ i,cZ i fl=some (.ptr b 0)
 len:H.length<=H1.length
 low:∀ b,b<H.length->H1[b]? = H[b]?
theorem LF.none {m:Nat} {H:aB}:LF cx ops m H H []:=⟨fun i a h=>(by cases h),fun i j b h=>(by cases h),fun b h1 h2=>r7,Yk _,fun _ _=>rfl⟩
theorem oD {β:Type} {m:Nat} {r:β}:∀ (os:List Oper) (i:Nat) (H:aB) (k:List (Nat×A)->aB->Option β),(∀ j o,os[j]? = some o->ops[i+j]? = some o)->i+os.length<=m->ahead cx f i os H k=some r ->
  ∃ fl H1,k fl H1=some r/\LF cx ops m H H1 fl/\(∀ j a,cZ j fl=some a->i<=j)/\(∀ j,cZ j fl=none->i<=j->j<i+os.length->sM cx f ops j=false)
 | [],i,H,k,_,_,h=>⟨[],H,h,.none,fun j a h=>(by cases h),fun j _ h1 h2=>(by simp at h2; omega)⟩
 | o :: os,i,H,k,hos,hm,h=>by
  have hos':∀ j o,os[j]? = some o->ops[i+1+j]? = some o:=fun j o' ho'=>by
   have:=hos (j+1) o' (by simpa using ho')
   rwa [show i+1+j=i+(j+1) by omega]
  have hoi:ops[i]? = some o:=by simpa using hos 0 o r9
  simp only[YD] at hm
  unfold ahead at h
  cases hft:vU cx f o with
  | none=>
   simp only[hft] at h
   obtain ⟨fl,H1,h1,h2,h3,h4⟩:=oD (m:=m) os (i+1) H k hos' r7 h
   refine⟨fl,H1,h1,h2,fun j a hj=>by have:=h3 j a hj; omega,fun j hj h5 h6=>?_⟩
   by_cases e:j=i
   ·subst e; unfold sM; rw[hoi]; simp[hft]
   ·exact h4 j hj r7 (by simp at h6; omega)
  | some t=>
   simp only[hft] at h
   obtain ⟨⟨y,H2⟩,ha,h⟩:=bD h
   unfold mf at ha
   obtain ⟨cs,hz,ha⟩:=Y2.1 ha
   cases ha
   obtain ⟨fl,H1,h1,h2,h3,h4⟩:=oD (m:=m) os (i+1) _ _ hos' r7 h
   have hop:o.op=.alloc t:=by
    unfold vU at hft
    split at hft
    ·rename_i t' ho
     obtain ⟨_,e⟩:=eG hft
     cases e; exact ho
    ·cases hft
   have hl2:=h2.len
   simp only[YF,YD,qaS] at hl2
   have hnew:H1[H.length]? = some (.box cs):=by rw[h2.low _ r9]; exact ew _ _
   have hof:∀ j,cZ j ((i,A.ptr H.length 0) :: fl)=if i=j then some (.ptr H.length 0) else cZ j fl:=fun j=>by
    show (bif Nat.beq i j then some (A.ptr H.length 0) else cZ j fl)=_
    by_cases e:i=j
    ·subst e; simp
    ·rw[Yp e,show Nat.beq i j=false from by cases hh:Nat.beq i j with | false=>rfl | true=>exact absurd (Yy hh) e]; rfl
   have hni:cZ i fl=none:=by
    cases hh:cZ i fl with
    | none=>rfl
    | some a=>have:=h3 i a hh; omega
   refine⟨(i,.ptr H.length 0) :: fl,H1,h1,⟨fun j a hj=>?_,fun j j' b hj hj'=>?_,fun b hb1 hb2=>?_,r7,fun b hb=>?_⟩,fun j a hj=>?_,fun j hj h5 h6=>?_⟩
   ·rw[hof] at hj
    split at hj
    ·rename_i e; subst e; cases hj
     exact⟨r7,o,t,_,cs,hoi,hop,rfl,Yk _,hnew,hz⟩
    ·obtain ⟨q1,o',t',b,cs',q2,q3,q4,q5,q6⟩:=h2.at_ j a hj
     simp only[YF,YD,qaS] at q5
     exact⟨q1,o',t',b,cs',q2,q3,q4,r7,q6⟩
   ·rw[hof] at hj hj'
    have out:∀ j b,cZ j fl=some (.ptr b 0)->b≠H.length:=fun j b hj e=>by
     obtain ⟨_,_,_,b',_,_,_,q4,q5,_⟩:=h2.at_ j _ hj
     cases q4
     simp only[YF,YD,qaS] at q5
     omega
    split at hj<;>split at hj'
    ·omega
    ·cases hj; exact absurd rfl (out _ _ hj')
    ·cases hj'; exact absurd rfl (out _ _ hj)
    ·exact h2.inj j j' b hj hj'
   ·by_cases e:b=H.length
    ·subst e; exact⟨i,by rw[hof,Yq rfl]⟩
    ·obtain ⟨j,hj⟩:=h2.all b so hb2
     refine⟨j,?_⟩
     rw[hof,Yp (fun e=>by subst e; rw[hni] at hj; cases hj)]
     exact hj
   ·rw[h2.low b so,YE hb]
   ·rw[hof] at hj
    split at hj
    ·omega
    ·have:=h3 j a hj; omega
   ·rw[hof] at hj
    split at hj
    ·cases hj
    ·exact h4 j hj r7 (by simp at h6; omega)
open Classical in
theorem om {call:bn} {fl:List (Nat×A)} {H1:aB} (hcall:dX cx Bs call) (hb0:Bs H0 gs ws) (horc:jV cx) (hF:gV F) (hmx:cx.P.follows .mixedOrders=true) {m:Nat} {k:E->St->Option R} {r:R} {Q:Exit->Act->World->Prop} (jm:tU ops N=true) (chkt:fA ops m=true) (hch:∀ i j,j<m->i<j->dw ops i=true->dw ops j=true->cZ i fl=none->cZ j fl=none->fG ops j i=true) (hfl:LF cx ops m s.H H1 fl)
  (hg:Good cx N mb lo H0 gs ws w0 s g a w) (hd:∀ o∈ops.toList,∀ d,o.dst=some d->d<N)
  {kk:St->Option R} (hkk:∀ s,kk s=some r->fL cx call f lo ops (ops.toList.drop m) s k=some r) (h:fN cx call f lo ops m fl 0 (ops.toList.take m) [] [] ⟨s.fr,H1⟩ kk=some r)
  (hk:∀ s' g' a' w',Good cx N mb lo H0 gs ws w0 s' g' a' w'->k .normal s'=some r->Q .normal a' w')
  (hp:∀ x s' g' a' w' c,Good cx N mb lo H0 gs ws w0 s' g' a' w'->VR s'.H g' w' x c->k (.pan x) s'=some r->Q (.panic [{ v:=c,recovered:=false }]) a' w'):LW F n cx.P ops Q a w:=by
 have hfe:∀ i o a,cZ i fl=some a->ops[i]? = some o->dR o=true:=fun i o a h1 h2=>by
  obtain ⟨_,o',t,_,_,q1,q2,_⟩:=hfl.at_ i a h1
  rw[h2] at q1; cases q1
  unfold dR; rw[q2]
 obtain ⟨σ,xs,hσ0,hz,htr⟩:=qZ hfe (fun k=>rz k) _ _ _ _ _ (fun j o ho=>by
  rw[YN] at ho
  split at ho
  ·rw[Y9]; rw[YV] at ho; exact ho
  ·cases ho) h
 have hσH:(σ 0).H=H1:=hσ0.1
 have hσf:∀ t,look (σ 0).fr t=look s.fr t:=hσ0.2
 have hm2:m<=ops.size:=by
  simp only[fA,Yj,Yn] at chkt
  exact chkt.1.1
 have hlen:(ops.toList.take m).length=m:=by rw[Zq]; simp; omega
 rw[hlen] at hz
 replace hz:=hkk _ hz
 have hget:∀ {i o},i<m->ops[i]? = some o->(ops.toList.take m)[i]? = some o:=fun {i o} him ho=>by
  rw[YN,Yq him,YV]; exact ho
 have hop:∀ i,i<m->∃ o,ops[i]? = some o:=fun i hi=>⟨_,Zo r7⟩
 have hdst:∀ {i o},ops[i]? = some o->cA ops i=o.dst:=fun {i o} ho=>by unfold cA; rw[ho]; rfl
 have heff:∀ {i o},ops[i]? = some o->dw ops i=dR o:=fun {i o} ho=>by unfold dw; rw[ho]
 have hlt:∀ {i j},fG ops i j=true->j<i:=fun {i j} hb=>nR jm (fW i j hb)
 have hsel:∀ j,j<m->∀ o,ops[j]? = some o->mJ cx call f lo ops m fl j o (σ j) (σ (j+1)) (xs j):=fun j hj o ho=>by
  have:=(htr j o (hget hj ho)).1
  rwa [Y9] at this
 have fstep:∀ j,j<m->∀ o,ops[j]? = some o->∀ t,look (σ (j+1)).fr t=if o.dst=some t then xs j else look (σ j).fr t:=fun j hj o ho t=>(hsel j hj o ho).look t
 have fkeep:∀ t i j,i<=j->j<=m->(∀ q,i<=q->q<j->cA ops q≠some t)->look (σ j).fr t=look (σ i).fr t:=by
  intro t i j hij
  induction j with
  | zero=>
   intro _ _; obtain rfl:i=0:=r7
   rfl
  | succ j ih=>
   intro hjm hq
   by_cases e:i=j+1
   ·subst e; rfl
   ·obtain ⟨o,ho⟩:=hop j r7
    rw[fstep j r7 o ho,Yp (by rw[<-hdst ho]; exact hq j r7 r7)]
    exact ih r7 r7 (fun q h1 h2=>hq q h1 r7)
 have hstep:∀ j,j<m->∀ o,ops[j]? = some o->(dw ops j=false∨(cZ j fl).isSome=true->(σ (j+1)).H=(σ j).H)/\(σ j).H.length<=(σ (j+1)).H.length/\∀ b,b<(σ j).H.length->(dw ops j=true->cZ j fl=none->∀ c,blk? (du cx (σ j) o.op)=some c->b≠c)->(σ (j+1)).H[b]? = (σ j).H[b]?:=fun j hj o ho=>by
  have h:=(hsel j hj o ho).heap
  rw[heff ho]
  exact h
 have hlenm:∀ i j,i<=j->j<=m->(σ i).H.length<=(σ j).H.length:=by
  intro i j hij
  induction j with
  | zero=>
   intro _; obtain rfl:i=0:=r7
   exact Yk _
  | succ j ih=>
   intro hjm
   by_cases e:i=j+1
   ·subst e; exact Yk _
   ·obtain ⟨o,ho⟩:=hop j r7
    exact YG (ih r7 r7) (hstep j r7 o ho).2.1
 have hsame:∀ i j,i<=j->j<=m->(∀ q,i<=q->q<j->dw ops q=false∨(cZ q fl).isSome=true)->(σ j).H=(σ i).H:=by
  intro i j hij
  induction j with
  | zero=>
   intro _ _; obtain rfl:i=0:=r7
   rfl
  | succ j ih=>
   intro hjm hq
   by_cases e:i=j+1
   ·subst e; rfl
   ·obtain ⟨o,ho⟩:=hop j r7
    rw[(hstep j r7 o ho).1 (hq j r7 r7)]
    exact ih r7 r7 (fun q h1 h2=>hq q h1 r7)
 have hblk:∀ i j,i<=j->j<=m->∀ b,b<(σ i).H.length->(∀ q o,i<=q->q<j->ops[q]? = some o->dw ops q=true->cZ q fl=none->∀ c,blk? (du cx (σ q) o.op)=some c->b≠c)->(σ j).H[b]? = (σ i).H[b]?:=by
  intro i j hij
  induction j with
  | zero=>
   intro _ b _ _; obtain rfl:i=0:=r7
   rfl
  | succ j ih=>
   intro hjm b hb hq
   by_cases e:i=j+1
   ·subst e; rfl
   ·obtain ⟨o,ho⟩:=hop j r7
    rw[(hstep j r7 o ho).2.2 b (YA hb (hlenm i j r7 r7)) (fun he hn=>hq j o r7 r7 ho he hn)]
    exact ih r7 r7 b hb (fun q o h1 h2=>hq q o h1 r7)
 have hnf:∀ {q},dw ops q=true->¬ (cZ q fl=none)->(cZ q fl).isSome=true:=fun _ h=>by cases hh:cZ _ fl with | none=>exact absurd hh h | some _=>rfl
 let zm:(Nat->Prop)->Nat->Bool:=fun D b=>decide (∃ i,cZ i fl=some (.ptr b 0)/\¬ D i)
 have zmT:∀ (D:Nat->Prop) (b:Nat),zm D b=true↔∃ i,cZ i fl=some (.ptr b 0)/\¬ D i:=fun D b=>by simp only[zm,Yn]
 have zmF:∀ (D:Nat->Prop) (b:Nat),zm D b=false↔∀ i,cZ i fl=some (.ptr b 0)->D i:=fun D b=>by
  rw[ZP,ne_eq,zmT,not_exists]
  exact forall_congr' fun i=>⟨fun h1 h2=>Classical.byContradiction fun h3=>h1 ⟨h2,h3⟩,fun h1 h2=>h2.2 (h1 h2.1)⟩
 have zmlow:∀ (D:Nat->Prop) (b:Nat),b<s.H.length->zm D b=false:=fun D b hb=>(zmF D b).2 fun i hi=>by
  obtain ⟨_,_,_,b',_,_,_,q,q2,_⟩:=hfl.at_ i _ hi
  cases q; omega
 have zmhi:∀ (D:Nat->Prop) (b:Nat),H1.length<=b->zm D b=false:=fun D b hb=>(zmF D b).2 fun i hi=>by
  obtain ⟨_,_,_,b',_,_,_,q,_,q2,_⟩:=hfl.at_ i _ hi
  cases q
  have:=(Ym.1 q2).1
  omega
 have hlen1:∀ j,j<=m->H1.length<=(σ j).H.length:=fun j hj=>by
  have:=hlenm 0 j r7 hj
  rw[hσH] at this; exact this
 refine te (F:=F) ⟨hF.1,hF.2.1⟩ hmx N m hg.siz jm chkt (fun D a' W=>∃ (p:Nat) (g':Gh),p<=m/\(∀ i,i<m->dw ops i=true->cZ i fl=none->(D i↔i<p))/\(∀ i b,cZ i fl=some (.ptr b 0)->¬ D i->(σ p).H[b]? = H1[b]?)/\Rel (b8 (zm D) (σ p).H) g' w0 W/\Ext s.H g w (b8 (zm D) (σ p).H) g' W/\(∀ b,b<lo->b<s.H.length->(σ p).H[b]? = s.H[b]?)/\g'.S=g.S ∧
   (∀ t i,i<m->cA ops i=some t->D i->VR (b8 (zm D) (σ p).H) g' W (xs i) (slot a' t))/\(∀ t,(∀ i,i<m->cA ops i=some t->¬ D i)->VR (b8 (zm D) (σ p).H) g' W (look s.fr t) (slot a' t))) ?_ ?_ ?_
 ·intro D hD
  have hr:=hg.sr.rel
  obtain ⟨g',r1,r2,r3⟩:=Rel.D8 (H1.length - s.H.length) (hr.eQ (Below.refl _ _).drew)
  have r2:=(Ext.below hr (Below.refl _ _).drew).trans r2
  have hH0:b8 (zm D) (σ 0).H=s.H++List.replicate (H1.length - s.H.length) .hole:=by
   rw[hσH]
   refine Zv fun b=>?_
   by_cases hb:b<s.H.length
   ·rw[fh (zmlow D b hb),YE hb]; exact hfl.low b hb
   ·by_cases hb1:b<H1.length
    ·obtain ⟨i,hi⟩:=hfl.all b r7 hb1
     rw[sU ((zmT D b).2 ⟨i,hi,hD i⟩) (Yg hb1),YY r7,ZK,Yq r7]
    ·have hl1:=hfl.len
     rw[Y7 (by rw[dj]; exact qad hb1),Y7 so]
  refine⟨0,g',Yx _,fun i _ _ _=>⟨fun h=>absurd h (hD i),fun h=>r7⟩,fun i b _ _=>by rw[hσH],by rw[hH0]; exact r1,by rw[hH0]; exact r2,fun b _ hb=>by rw[hσH]; exact hfl.low b hb,r3,fun t i _ _ h=>absurd h (hD i),fun t _=>?_⟩
  rw[hH0]
  exact VR.ext r2 _ _ (hg.sr.fr t)
 ·rintro D D' i o him ho hDm hDi hbef hcl hD' a' W ⟨p,g',hpm,hpe,hpb,hrW,heW,hlow,hgS,hv1,hv2⟩ hsz _
  obtain ⟨c4,c5⟩:=mC jm ho
  obtain ⟨_,htA,htB⟩:=htr i o (hget him ho)
  rw[Y9] at htA htB
  have hDlt:∀ {q},dw ops q=true->cZ q fl=none->D q->q<p:=fun he hn h=>(hpe _ (hDm _ h) he hn).1 h
  have hlook:∀ t∈o.looksAt ops,VR (b8 (zm D) (σ p).H) g' W (look (σ i).fr t) (a'.tmps.getD t undef):=fun t ht=>by
   by_cases hj:∃ j,cA ops j=some t/\fG ops i j=true
   ·obtain ⟨j,hjt,hjb⟩:=hj
    have hji:=hlt hjb
    have hv:=hv1 t j r7 hjt (hbef j hjb)
    obtain ⟨oj,hoj⟩:=hop j r7
    have e1:look (σ (j+1)).fr t=xs j:=by rw[fstep j r7 oj hoj,Yq (by rw[<-hdst hoj]; exact hjt)]
    rw[fkeep t (j+1) i r7 r7 (fun q h1 h2 hq=>by
     obtain ⟨oq,hoq⟩:=hop q r7
     obtain ⟨c4',_⟩:=mC jm hoq
     exact c4' j t r7 (by rw[<-hdst hoq]; exact hq) hjt),e1]
    exact hv
   ·have hno:∀ j,cA ops j=some t->fG ops i j=false:=fun j hjt=>by
     cases hb:fG ops i j with
     | false=>rfl
     | true=>exact absurd ⟨j,hjt,hb⟩ hj
    have hs:=hv2 t (fun j hjm hjt hDj=>by
     rcases c5 j t hjt ht with rfl | h | h
     ·exact hDi hDj
     ·rw[hno j hjt] at h; cases h
     ·exact hDi (hcl j i hDj h))
    rw[fkeep t 0 i r7 r7 (fun q h1 h2 hq=>by
     rcases c5 q t hq ht with h | h | h
     ·omega
     ·rw[hno q hq] at h; cases h
     ·have:=hlt h; omega),hσf]
    exact hs
  have hopr:tF cx ⟨(σ i).fr,b8 (zm D) (σ p).H⟩ g' w0 o.op a'.eval W:=⟨hrW,fun y hy=>pf (fun t ht=>by
    refine hlook t ?_
    subst ht
    unfold Oper.looksAt
    exact Zz.2 (.inl (qbg.2 ⟨.tmp t,hy,rfl⟩))) (fun G vs hG=>(hg.sr.gl G vs hG).ext heW),fun _=>rfl⟩
  have zsame:cZ i fl=none->zm D'=zm D:=fun hn=>funext fun b=>by
   have:(zm D' b=true)↔(zm D b=true):=by
    rw[zmT,zmT]
    constructor
    ·rintro ⟨j,h1,h2⟩; exact⟨j,h1,fun h=>h2 ((hD' j).2 (.inr h))⟩
    ·rintro ⟨j,h1,h2⟩
     refine⟨j,h1,fun h=>?_⟩
     rcases (hD' j).1 h with rfl | h
     ·rw[hn] at h1; cases h1
     ·exact h2 h
   exact Zg.2 this
  have fin:∀ (p':Nat) (g2:Gh) (W':World) (v:Value),p'<=m->(∀ j,j<m->dw ops j=true->cZ j fl=none->(D' j↔j<p'))->(∀ j b,cZ j fl=some (.ptr b 0)->¬ D' j->(σ p').H[b]? = H1[b]?)->Rel (b8 (zm D') (σ p').H) g2 w0 W'->Ext (b8 (zm D) (σ p).H) g' W (b8 (zm D') (σ p').H) g2 W'->(∀ b,b<lo->b<s.H.length->(σ p').H[b]? = s.H[b]?)->g2.S=g.S->(∀ d,o.dst=some d->VR (b8 (zm D') (σ p').H) g2 W' (xs i) v) ->
    ∃ (p:Nat) (g':Gh),p<=m/\(∀ i,i<m->dw ops i=true->cZ i fl=none->(D' i↔i<p))/\(∀ i b,cZ i fl=some (.ptr b 0)->¬ D' i->(σ p).H[b]? = H1[b]?)/\Rel (b8 (zm D') (σ p).H) g' w0 W'/\Ext s.H g w (b8 (zm D') (σ p).H) g' W'/\(∀ b,b<lo->b<s.H.length->(σ p).H[b]? = s.H[b]?)/\g'.S=g.S ∧
     (∀ t j,j<m->cA ops j=some t->D' j->VR (b8 (zm D') (σ p).H) g' W' (xs j) (slot (a'.put o.dst v) t))/\(∀ t,(∀ j,j<m->cA ops j=some t->¬ D' j)->VR (b8 (zm D') (σ p).H) g' W' (look s.fr t) (slot (a'.put o.dst v) t)):=by
   intro p' g2 W' v h1 h2 h2b h3 h4 h5 h6 h7
   refine⟨p',g2,h1,h2,h2b,h3,heW.trans h4,h5,h6,fun t j hjm hjt hDj=>?_,fun t ht=>?_⟩
   ·rcases (hD' j).1 hDj with rfl | hDj
    ·have hdt:o.dst=some t:=by rw[<-hdst ho]; exact hjt
     rw[hdt,fz (by rw[hsz]; exact hd o (by rw[<-Array.mem_def]; exact qbE ho) t hdt)]
     exact h7 t hdt
    ·have hne:j≠i:=fun e=>hDi (e ▸ hDj)
     rw[dN (fun hdt=>c4 j t (Zl hne) hdt hjt)]
     exact VR.ext h4 _ _ (hv1 t j hjm hjt hDj)
   ·rw[dN (fun hdt=>ht i him (by rw[hdst ho]; exact hdt) ((hD' i).2 (.inl rfl)))]
    exact VR.ext h4 _ _ (hv2 t (fun j hjm hjt hDj=>ht j hjm hjt ((hD' j).2 (.inr hDj))))
  have rowM:∀ b,fZ (b8 (zm D) (σ p).H) b=fZ (σ p).H b:=fun b=>by
   cases hzb:zm D b with
   | false=>unfold fZ; rw[fh hzb]
   | true=>
    obtain ⟨j,hj,hDj⟩:=(zmT D b).1 hzb
    obtain ⟨_,_,_,b',cs',_,_,q3,_,q5,_⟩:=hfl.at_ j _ hj
    cases q3
    have hB:=(hpb j b hj hDj).trans q5
    unfold fZ
    rw[sU hzb hB,hB]
  have hwant:(Region.wanted o (yielded ops a'.tmps)=false/\cZ i fl=none/\(dR o=false∨(σ (i+1)).H=(σ i).H)/\xs i=.v undef)∨(Region.wanted o (yielded ops a'.tmps)=true/\lA cx call f lo ops m fl i o (σ i) (σ (i+1)) (xs i)):=by
   have htl:∀ {t want},b9 ops o=some (t,want)->t∈o.looksAt ops:=fun {t want} hgs=>by
    rw[jL] at hgs
    unfold Oper.looksAt
    split at hgs
    ·rename_i j want' hgd
     cases hdj:(ops[j]?).bind (·.dst) with
     | none=>rw[hdj] at hgs; cases hgs
     | some t'=>
      rw[hdj] at hgs
      cases hgs
      refine Zz.2 (.inr ?_)
      rw[hgd]
      simp[hdj]
    ·cases hgs
   rcases hsel i him o ho with ⟨hgd,hse⟩ | ⟨t,want,hgs,hni,he,hk,hs1,hor⟩ | ⟨t,want,b,hgs,hni,hlb,hor⟩
   ·exact .inr ⟨by simp[Region.wanted,hgd],hse⟩
   ·have hv:=hlook t (htl hgs)
    rcases hor with ⟨b,hlb,hcond⟩ | ⟨⟨y,hlb⟩,hcond⟩
    ·rw[hlb,VR] at hv
     rw[ke hgs hv]
     split at hcond
     ·rename_i hbw
      exact .inr ⟨hbw,.inr (.inr ⟨hni,he,hcond,hs1,.inr (.inl hk)⟩)⟩
     ·rename_i hbw
      exact .inl ⟨by simpa using hbw,hni,.inl he,hcond⟩
    ·rw[hlb,VR] at hv
     rw[mq hgs hv]
     exact .inl ⟨rfl,hni,.inl he,hcond⟩
   ·have hv:=hlook t (htl hgs)
    rw[hlb,VR] at hv
    rw[ke hgs hv]
    rcases hor with ⟨hbw,hE⟩ | ⟨hbw,hx,hal⟩
    ·exact .inr ⟨hbw,hE⟩
    ·exact .inl ⟨hbw,hni,.inr (by rw[hal.1,gy]),hx⟩
  rcases hwant with ⟨hw,hni,he,hxu⟩ | ⟨hw,hse⟩
  ·rw[Yp (by rw[hw]; simp)]
   cases hee:dR o with
   | false=>
    refine fin p g' W undef hpm (fun j hjm hje hjn=>⟨fun h'=>?_,fun h'=>(hD' j).2 (.inr ((hpe j hjm hje hjn).2 h'))⟩) (fun j b hj hnj=>hpb j b hj (fun h=>hnj ((hD' j).2 (.inr h)))) (by rw[zsame hni]; exact hrW) (by rw[zsame hni]; exact Ext.refl hrW) hlow hgS (fun d _=>by rw[hxu,VR])
    rcases (hD' j).1 h' with rfl | h'
    ·rw[heff ho,hee] at hje; cases hje
    ·exact hDlt hje hjn h'
   | true=>
    have hei:dw ops i=true:=by rw[heff ho]; exact hee
    have hpi:p<=i:=qad fun hlt'=>hDi ((hpe i him hei hni).2 hlt')
    have hHp:(σ i).H=(σ p).H:=hsame p i hpi r7 (fun q h2 h3=>by
     cases hq:dw ops q with
     | false=>exact .inl rfl
     | true=>
      by_cases hnq:cZ q fl=none
      ·have:=hDlt hq hnq (hbef q (hch q i him h3 hq hei hnq hni)); omega
      ·exact .inr (hnf hq hnq))
    have hH2:(σ (i+1)).H=(σ p).H:=by
     rcases he with he | he
     ·rw[hee] at he; cases he
     ·rw[he,hHp]
    refine fin (i+1) g' W undef r7 (fun j hjm hje hjn=>⟨fun h'=>?_,fun h'=>?_⟩) (fun j b hj hnj=>by rw[hH2]; exact hpb j b hj (fun h=>hnj ((hD' j).2 (.inr h)))) (by rw[hH2,zsame hni]; exact hrW) (by rw[hH2,zsame hni]; exact Ext.refl hrW) (fun b hb hb'=>by rw[hH2]; exact hlow b hb hb') hgS (fun d _=>by rw[hxu,VR])
    ·rcases (hD' j).1 h' with rfl | h'
     ·omega
     ·have:=hDlt hje hjn h'; omega
    ·refine(hD' j).2 ?_
     by_cases e:j=i
     ·exact .inl e
     ·exact .inr (hbef j (hch j i him r7 hje hei hjn hni))
  rw[Yq hw]
  refine .inl ?_
  rcases hse with ⟨hfi,hs1⟩ | ⟨hni,he,H',h1,hs1⟩ | ⟨hni,he,h1,hs1,hkind⟩
  ·
   obtain ⟨_,o',t,b,cs,q1,q2,q3,q4,q5,q6⟩:=hfl.at_ i _ hfi
   rw[ho] at q1; cases q1
   have hxi:xs i=.ptr b 0:=q3
   have hfb:cZ i fl=some (.ptr b 0):=by rw[<-hxi]; exact hfi
   have hHb:(σ p).H[b]? = some (.box cs):=(hpb i b hfb hDi).trans q5
   have hhole:(b8 (zm D) (σ p).H)[b]? = some .hole:=sU ((zmT D b).2 ⟨i,hfb,hDi⟩) hHb
   have hmk:b8 (zm D') (σ p).H=(b8 (zm D) (σ p).H).set b (.box cs):=zU hHb ((zmF D' b).2 fun j hj=>(hD' j).2 (.inl (hfl.inj j i b hj hfb))) fun c hc=>by
    have:(zm D' c=true)↔(zm D c=true):=by
     rw[zmT,zmT]
     constructor
     ·rintro ⟨j,h1,h2⟩; exact⟨j,h1,fun h=>h2 ((hD' j).2 (.inr h))⟩
     ·rintro ⟨j,h1,h2⟩
      refine⟨j,h1,fun h=>?_⟩
      rcases (hD' j).1 h with rfl | h
      ·rw[hfb] at h1; cases h1; exact hc rfl
      ·exact h2 h
    exact Zg.2 this
   obtain ⟨d,W',g2,r1,r2,r3,r4,r5⟩:=zi (P:=cx.P) hrW hhole q6
   have r1':(execOp a'.eval o).run cx.P W=.ok (.value d) W':=by
    unfold execOp
    simp only[q2]
    exact iY r1
   refine ki (.inl r1') ?_
   refine fin p g2 W' d hpm (fun j hjm hje hjn=>⟨fun h'=>?_,fun h'=>(hD' j).2 (.inr ((hpe j hjm hje hjn).2 h'))⟩) (fun j b' hj hnj=>hpb j b' hj (fun h=>hnj ((hD' j).2 (.inr h)))) (by rw[hmk]; exact r2) (by rw[hmk]; exact r3) hlow (r5.trans hgS) (fun _ _=>by rw[hmk,hxi]; exact r4)
   rcases (hD' j).1 h' with rfl | h'
   ·rw[hfb] at hjn; cases hjn
   ·exact hDlt hje hjn h'
  ·
   have hei:dw ops i=true:=by rw[heff ho]; exact he
   have hpi:p<=i:=qad fun hlt'=>hDi ((hpe i him hei hni).2 hlt')
   have hHp:(σ i).H=(σ p).H:=hsame p i hpi r7 (fun q h2 h3=>by
    cases hq:dw ops q with
    | false=>exact .inl rfl
    | true=>
     by_cases hnq:cZ q fl=none
     ·have:=hDlt hq hnq (hbef q (hch q i him h3 hq hei hnq hni)); omega
     ·exact .inr (hnf hq hnq))
   have hst:(⟨(σ i).fr,(σ p).H⟩:St)=σ i:=by rw[<-hHp]
   have hzl:zm D (σ p).H.length=false:=zmhi D _ (hlen1 p hpm)
   have hbl:∀ y∈o.op.operands.toList,∀ b,blk? (cd cx ⟨(σ i).fr,(σ p).H⟩ y)=some b->zm D b=false:=fun y hy b hb=>AB (hopr.one y hy) (by rw[<-hb]; cases y<;>rfl)
   have h1m:bO cx f lo o ⟨(σ i).fr,b8 (zm D) (σ p).H⟩ (fun a H=>some (a,H))=some (xs i,b8 (zm D) H'):=by
    rw[DS he hzl rowM hbl,hst,h1]; rfl
   obtain ⟨c,w',x,H2,g2,e1,e2,e3,e4,e5,e6,e7,e8⟩:=kA hopr h1m
   cases e2
   refine ki e1 ?_
   have hH1:(σ (i+1)).H=H':=by rw[hs1.1,gy]
   have hz':=zsame hni
   have htch:=qx he h1
   refine fin (i+1) g2 w' c r7 (fun j hjm hje hjn=>⟨fun h'=>?_,fun h'=>?_⟩) (fun j b hj hnj=>?_) (by rw[hH1,hz']; exact e3) (by rw[hH1,hz']; exact e4) (fun b hb hb'=>?_) (e8.trans hgS) (fun d _=>by rw[hH1,hz']; first | exact e5 | exact e6 | exact e7)
   ·rcases (hD' j).1 h' with rfl | h'
    ·omega
    ·have:=hDlt hje hjn h'; omega
   ·refine(hD' j).2 ?_
    by_cases e:j=i
    ·exact .inl e
    ·exact .inr (hbef j (hch j i him r7 hje hei hjn hni))
   ·have hDj:¬ D j:=fun h=>hnj ((hD' j).2 (.inr h))
    obtain ⟨_,_,_,b',cs',_,_,q3,q4,q5,_⟩:=hfl.at_ j _ hj
    cases q3
    have hbH:b<(σ i).H.length:=YA (Ym.1 q5).1 (hlen1 i r7)
    rw[hH1,htch.2 b hbH (fun c hc e=>?_),hHp]
    ·exact hpb j b hj hDj
    ·subst e
     have hzb:zm D b=true:=(zmT D b).2 ⟨j,hj,hDj⟩
     have hza:zm D b=false:=by
      obtain ⟨y,hy,hty⟩:∃ y∈o.op.operands.toList,du cx (σ i) o.op=cd cx (σ i) y:=by
       have hcs:blk? (du cx (σ i) o.op)=some b:=hc
       unfold du at hcs ⊢
       split at hcs
       ·rename_i t ad v hx; exact⟨ad,by rw[hx]; simp[Op.operands],rfl⟩
       ·rename_i c' hx
        split at hcs
        ·rename_i y l hl
         refine⟨y,?_,rfl⟩
         rw[hx]
         have:y∈c'.args.toList:=by rw[hl]; simp
         simp[Op.operands,Call.operands]
         exact .inr (by simpa using this)
        ·cases hcs
       ·cases hcs
      refine hbl y hy b ?_
      rw[hst,<-hty]; exact hc
     rw[hzb] at hza; cases hza
   ·have hb2:b<(σ i).H.length:=YA hb' (by have:=hlenm 0 i r7 r7; rw[hσH] at this; exact YG hfl.len this)
    have h3:=(by first | exact e7 b hb (by rw[dj,<-hHp]; exact hb2) | exact e6 b hb (by rw[dj,<-hHp]; exact hb2):(b8 (zm D) H')[b]? = (b8 (zm D) (σ p).H)[b]?)
    rw[fh (zmlow D b hb'),fh (zmlow D b hb')] at h3
    rw[hH1,h3]
    exact hlow b hb hb'
  ·
   have hun:∀ q,q<m->dw ops q=true->cZ q fl=none->((i<q/\q<p)∨(p<=q/\q<i))->fJ ops i q:=fun q hqm hqe hqn hq=>by
    unfold fJ
    rw[Zh]
    constructor
    ·cases hb:fG ops i q with
     | false=>rfl
     | true=>
      have h2:=hDlt hqe hqn (hbef q hb)
      have h3:=hlt hb
      omega
    ·cases hb:fG ops q i with
     | false=>rfl
     | true=>
      have h2:=hlt hb
      have h3:D q:=(hpe q hqm hqe hqn).2 r7
      exact absurd (hcl q i h3 hb) hDi
   have hvo:∀ {y:Operand},y∈o.op.operands.toList->∀ {b:Nat},blk? (cd cx (σ i) y)=some b->zm D b=false/\∃ B,(σ p).H[b]? = some B:=fun {y} hy {b} hb=>by
    have hvr:=hopr.one y hy
    rw[show cd cx ⟨(σ i).fr,b8 (zm D) (σ p).H⟩ y=cd cx (σ i) y from by cases y<;>rfl] at hvr
    have hz:=AB hvr hb
    obtain ⟨B,hB,_⟩:=uj hvr hb
    rw[fh hz] at hB
    exact⟨hz,B,hB⟩
   have haddr:bR o=1->∀ {b:Nat},blk? (addrOf cx (σ i) o.op)=some b->∃ y∈o.op.operands.toList,addrOf cx (σ i) o.op=cd cx (σ i) y:=fun h2 {b} hbs=>by
    unfold bR at h2
    split at h2<;>first | (cases h2; done) | skip
    ·rename_i t x hx; exact⟨x,by rw[hx]; simp[Op.operands],by unfold addrOf; rw[hx]⟩
    ·rename_i t x q hx; exact⟨x,by rw[hx]; simp[Op.operands],by unfold addrOf; rw[hx]⟩
    ·rename_i t x q hx; exact⟨x,by rw[hx]; simp[Op.operands],by unfold addrOf; rw[hx]⟩
    ·rename_i t x q1 q2 q3 hx; exact⟨x,by rw[hx]; simp[Op.operands],by unfold addrOf; rw[hx]⟩
    ·rename_i x hx; exact⟨x,by rw[hx]; simp[Op.operands],by unfold addrOf; rw[hx]⟩
    ·rename_i t1 t2 x hx; exact⟨x,by rw[hx]; simp[Op.operands],by unfold addrOf; rw[hx]⟩
    ·rename_i t x q c hx; exact⟨x,by rw[hx]; simp[Op.operands],by unfold addrOf; rw[hx]⟩
    ·rename_i c hx
     unfold addrOf at hbs ⊢
     rw[hx] at hbs ⊢
     simp only[] at hbs ⊢
     cases hargs:c.args.toList with
     | nil=>rw[hargs] at hbs; cases hbs
     | cons y l=>
      refine⟨y,?_,rfl⟩
      have:y∈c.args.toList:=by rw[hargs]; simp
      simp[Op.operands,Call.operands]
      exact .inr (by simpa using this)
   have hev:hX cx call f o ⟨(σ i).fr,(σ p).H⟩=some (xs i):=by
    have hsi:(⟨(σ i).fr,(σ i).H⟩:St)=σ i:=rfl
    rw[<-hsi] at h1
    have allSame:(∀ q,q<m->dw ops q=true->cZ q fl=none->((i<q/\q<p)∨(p<=q/\q<i))->False)->(σ p).H=(σ i).H:=fun hno=>by
     rcases qbq i p with hip | hip
     ·exact hsame i p hip hpm (fun q h2 h3=>by
       cases hq:dw ops q with
       | false=>exact .inl rfl
       | true=>
        by_cases hnq:cZ q fl=none
        ·by_cases e:q=i
         ·subst e; rw[heff ho,he] at hq; cases hq
         ·exact(hno q r7 hq hnq (.inl ⟨r7,h3⟩)).elim
        ·exact .inr (hnf hq hnq))
     ·exact(hsame p i hip r7 (fun q h2 h3=>by
       cases hq:dw ops q with
       | false=>exact .inl rfl
       | true=>
        by_cases hnq:cZ q fl=none
        ·exact(hno q r7 hq hnq (.inr ⟨h2,h3⟩)).elim
        ·exact .inr (hnf hq hnq))).symm
    cases hord:jP fl ops m i with
    | true=>
     rw[allSame (fun q hqm hqe hqn hq=>by
      have hu:=hun q hqm hqe hqn hq
      unfold fJ at hu
      rw[Zh] at hu
      rcases wq hord hqm hqe hqn with h2 | h2 | h2
      ·omega
      ·rw[hu.1] at h2; cases h2
      ·rw[hu.2] at h2; cases h2)]
     exact h1
    | false=>
     rcases hkind with h2 | h2 | h2 | ⟨h2,h3⟩ | ⟨h2,h3⟩
     ·rw[hord] at h2; cases h2.1
     ·rw[su h2 (H':=(σ i).H)]; exact h1
     ·rw[<-vT h2 (H:=(σ i).H) (fun b hb=>?_)]
      ·exact h1
      ·have hbV:∃ B,(σ p).H[b]? = some B:=by
        obtain ⟨y,hy,hay⟩:=haddr h2 hb
        exact(hvo hy (by rw[<-hay]; exact hb)).2
       obtain ⟨B,hB⟩:=hbV
       have hbp:b<(σ p).H.length:=(Ym.1 hB).1
       have hap:∀ {e:A} {c:Nat},apart (addrOf cx (σ i) o.op) e=true->blk? e=some c->b≠c:=fun {e c} h4 h5 h6=>by
        have hb':blk? (addrOf cx (σ i) o.op)=some b:=hb
        unfold apart at h4
        simp only[hb',h5,h6,Nat.beq_refl] at h4
        cases h4
       rcases qbq i p with hip | hip
       ·
        have hbi:b<(σ i).H.length∨(σ i).H.length<=b:=qbr _ _
        rcases hbi with hbi | hbi
        ·exact hblk i p hip hpm b hbi (fun q oq h4 h5 hoq hqe hqn c hc=>by
          by_cases e:q=i
          ·subst e; rw[heff ho,he] at hqe; cases hqe
          ·have hu:=hun q r7 hqe hqn (.inl ⟨r7,h5⟩)
           have hqA:=(htr q oq (hget r7 hoq)).2.1 (by rw[Y9]; exact hqn) (by rw[<-heff hoq]; exact hqe)
           simp only[Y9] at hqA
           exact hap (hqA.2 i o r7 (hget him ho) he h2 hord (by unfold fJ at hu ⊢; rw[Bool.or_comm]; exact hu)) hc)
        ·exfalso
         obtain ⟨B',hB'⟩:=uC (s:=σ i) h2 h1 hb
         have:=(Ym.1 hB').1
         omega
       ·exact(hblk p i hip r7 b hbp (fun q oq h4 h5 hoq hqe hqn c hc=>by
         have hu:=hun q r7 hqe hqn (.inr ⟨h4,h5⟩)
         exact hap ((htB he h2 hord).2 q oq h5 (hget r7 hoq) (by rw[Y9]; exact hqn) (by rw[<-heff hoq]; exact hqe) (by rw[Y9]; exact hu)) hc)).symm
     ·have hrow:∀ i j,i<=j->j<=m->(∀ q,i<=q->q<j->dw ops q=true->cZ q fl=none->vB ops q=true)->∀ b,fZ (σ j).H b=fZ (σ i).H b:=by
       intro i j hij
       induction j with
       | zero=>
        intro _ _ b; obtain rfl:i=0:=r7
        rfl
       | succ j ih=>
        intro hjm hq b
        by_cases e:i=j+1
        ·subst e; rfl
        ·obtain ⟨oj,hoj⟩:=hop j r7
         have hprev:=ih r7 r7 (fun q h1 h2=>hq q h1 r7) b
         have stE:lA cx call f lo ops m fl j oj (σ j) (σ (j+1)) (xs j)->fZ (σ (j+1)).H b=fZ (σ i).H b:=fun hE=>by
          rcases hE with ⟨_,ej⟩ | ⟨hnj,hej,H',hj1,ej⟩ | ⟨_,_,_,ej,_⟩
          ·rw[ej.1,gy]
           exact hprev
          ·have hc:=hq j r7 r7 (by rw[heff hoj]; exact hej) hnj
           unfold vB at hc
           rw[hoj] at hc
           rw[ej.1,gy]
           exact(BK hc hj1 b).trans hprev
          ·rw[ej.1,gy]
           exact hprev
         rcases hsel j r7 oj hoj with ⟨_,hE⟩ | ⟨_,_,_,_,_,_,ej,_⟩ | ⟨_,_,_,_,_,_,a4⟩
         ·exact stE hE
         ·rw[ej.1,gy]
          exact hprev
         ·rcases a4 with ⟨_,hE⟩ | ⟨_,_,ej⟩
          ·exact stE hE
          ·rw[ej.1,gy]
           exact hprev
      have hcalm:∀ q,q<m->dw ops q=true->cZ q fl=none->((i<q/\q<p)∨(p<=q/\q<i))->vB ops q=true:=fun q hqm hqe hqn hq=>by
       have hu:=hun q hqm hqe hqn hq
       unfold fJ at hu
       rw[Zh] at hu
       have:=Yw.1 h3 q (YR.2 hqm)
       simp only[hqe,hu.1,hu.2,Zb,Ze,Zx,YM,or_false,false_or,reduceCtorEq,Yv] at this
       rcases this with h | h
       ·exact h
       ·omega
      rw[ss h2 (H':=(σ i).H) (fun b=>?_)]
      ·exact h1
      ·rcases qbq i p with hip | hip
       ·exact hrow i p hip hpm (fun q h4 h5 hqe hqn=>by
         by_cases e:q=i
         ·subst e; rw[heff ho,he] at hqe; cases hqe
         ·exact hcalm q r7 hqe hqn (.inl ⟨r7,h5⟩)) b
       ·exact(hrow p i hip r7 (fun q h4 h5 hqe hqn=>hcalm q r7 hqe hqn (.inr ⟨h4,h5⟩)) b).symm
     ·rw[<-xx h2 (H:=(σ i).H) h3]; exact h1
   have hevm:hX cx call f o ⟨(σ i).fr,b8 (zm D) (σ p).H⟩=some (xs i):=by
    have loc:pa cx o=true->hX cx call f o ⟨(σ i).fr,b8 (zm D) (σ p).H⟩=hX cx call f o ⟨(σ i).fr,(σ p).H⟩:=fun hl=>by
     unfold pa at hl
     simp only[Zb,Yj] at hl
     rcases hl with ((hl | hl) | hl) | ⟨hl,hq⟩
     ·exact su (beq_spec hl)
     ·refine(vT (beq_spec hl) fun b hb=>?_).symm
      have hb':blk? (addrOf cx (σ i) o.op)=some b:=hb
      obtain ⟨y,hy,hay⟩:=haddr (beq_spec hl) hb'
      exact fh (hvo hy (by rw[<-hay]; exact hb')).1
     ·exact ss (.inl (beq_spec hl)) rowM
     ·exact ss (.inr ⟨beq_spec hl,hq⟩) rowM
    have lk:∀ k,bR o=k->(k=0∨k=1∨k=2)->pa cx o=true:=fun k hk h=>by
     unfold pa
     rcases h with rfl | rfl | rfl<;>rw[hk]<;>rfl
    rcases hkind with ⟨_,(h2 | h2) | h2⟩ | h2 | h2 | ⟨h2 | ⟨h2,h3⟩,_⟩ | ⟨h2,_⟩
    ·rw[loc h2]; exact hev
    ·rw[sS fun b=>(zmF D b).2 fun j hj=>hbef j (sx h2 j _ hj)]; exact hev
    ·rw[DV (H':=(σ p).H) h2 rowM]; exact hev
    ·rw[loc (lk 0 h2 (.inl rfl))]; exact hev
    ·rw[loc (lk 1 h2 (.inr (.inl rfl)))]; exact hev
    ·rw[loc (lk 2 h2 (.inr (.inr rfl)))]; exact hev
    ·rw[loc (by unfold pa; rw[h2,h3]; rfl)]; exact hev
    ·rw[loc (lk 2 h2 (.inr (.inr rfl)))]; exact hev
   have hpo:=nm hcall horc hevm
   refine(hpo F n g' w0 W a'.eval hF hopr (fun G vs hG=>(hg.sr.gl G vs hG).ext heW) (hcall.up _ _ _ _ _ _ hb0 (hg.ext.trans heW))).mono ?_
   rintro v w' ⟨k1,k2,k3⟩
   refine fin p g' w' v hpm (fun j hjm hje hjn=>⟨fun h'=>?_,fun h'=>(hD' j).2 (.inr ((hpe j hjm hje hjn).2 h'))⟩) (fun j b hj hnj=>hpb j b hj (fun h=>hnj ((hD' j).2 (.inr h)))) (by rw[zsame hni]; exact k2) (by rw[zsame hni]; exact k3) hlow hgS (fun d _=>by rw[zsame hni]; exact k1)
   rcases (hD' j).1 h' with rfl | h'
   ·rw[heff ho,he] at hje; cases hje
   ·exact hDlt hje hjn h'
 ·rintro D a' W hall hDm ⟨p,g',hpm,hpe,hpb,hrW,heW,hlow,hgS,hv1,hv2⟩ hdf hsz
  have hmn:b8 (zm D) (σ p).H=(σ p).H:=sS fun b=>(zmF D b).2 fun j hj=>hall j (hfl.at_ j _ hj).1
  rw[hmn] at hrW heW hv1 hv2
  have hHm:(σ m).H=(σ p).H:=hsame p m hpm (Yk _) (fun q h2 h3=>by
   cases hq:dw ops q with
   | false=>exact .inl rfl
   | true=>
    by_cases hnq:cZ q fl=none
    ·have:=(hpe q h3 hq hnq).1 (hall q h3); omega
    ·exact .inr (hnf hq hnq))
  refine fM (f:=f) (ops:=ops) hcall hb0 horc hF hk hp _ (σ m) g' a' W (fun o ho=>hd o (Y0 ho)) ⟨⟨by rw[hHm]; exact hrW,fun t=>?_,fun G vs hG=>by rw[hHm]; exact(hg.sr.gl G vs hG).ext heW⟩,by rw[hHm]; exact hg.ext.trans heW,?_,fun b hb hb'=>?_,hsz,(by rw[hdf]; exact hg.dfr.my heW.kept),YG hg.mbw heW.size,hgS.trans hg.st⟩ hz
  ·rw[hHm]
   by_cases ht:∃ i,i<m/\cA ops i=some t
   ·obtain ⟨i,him,hit⟩:=ht
    obtain ⟨oi,hoi⟩:=hop i him
    have e1:look (σ (i+1)).fr t=xs i:=by rw[fstep i him oi hoi,Yq (by rw[<-hdst hoi]; exact hit)]
    rw[fkeep t (i+1) m r7 (Yk _) (fun q h1 h2 hq=>by
     obtain ⟨oq,hoq⟩:=hop q h2
     obtain ⟨c4',_⟩:=mC jm hoq
     exact c4' i t r7 (by rw[<-hdst hoq]; exact hq) hit),e1]
    exact hv1 t i him hit (hall i him)
   ·rw[fkeep t 0 m r7 (Yk _) (fun q h1 h2 hq=>ht ⟨q,h2,hq⟩),hσf]
    exact hv2 t (fun i him hit=>absurd ⟨i,him,hit⟩ ht)
  ·have:=hlenm 0 m r7 (Yk _)
   rw[hσH] at this
   exact YG hg.len (YG hfl.len this)
  ·rw[hHm,hlow b hb (YA hb' hg.len)]
   exact hg.low b hb hb'
end
section
open Go.RowKit
variable {H H':aB} {g g':Gh} {w0 w w':World} {cx:Cx} {s:St} {a:Act} {N lo:Nat} {mb:Mb} {H0:aB} {gs:Gh} {ws:World}
theorem Gi (hr:Rel H g w0 w) {x:A} {c:Value} (h:VR H g w x c):VR H g w (Gg H x) c:=by
 unfold Gg
 split
 ·exact VR.back (fun _ _ h=>h) (p6 hr _ c h)
 ·rw[VR] at h ⊢
  obtain ⟨a,cap,ds,es,h1,h2,_,h4,h5,h6⟩:=h
  exact⟨a,cap,ds,es,h1,h2,fun h=>(by cases h),h4,h5,h6⟩
 ·exact h
theorem xG (hr:Rel H g w0 w):∀ {cs:List A} {ds:List Value},bE H g w cs ds->bE H g w (cs.map (Gg H)) ds
 | [],_,h=>h
 | a :: as,_,h=>by
  rw[bE] at h
  obtain ⟨d,ds',rfl,h1,h2⟩:=h
  rw[Zc,bE]
  exact⟨d,ds',rfl,Gi hr h1,xG hr h2⟩
theorem DZ (hr:Rel H g w0 w) {x:A} {c:Value} (h:VR H g w x c):VR H g w (I9 H x) c:=by
 unfold I9
 split
 ·exact VR.back (fun _ _ h=>h) (p6 hr _ c h)
 ·rw[VR] at h ⊢
  obtain ⟨a,cap,ds,es,h1,h2,_,h4,h5,h6⟩:=h
  exact⟨a,cap,ds,es,h1,h2,fun h=>(by cases h),h4,h5,h6⟩
 ·rw[VR] at h ⊢
  obtain ⟨ds,h1,h2⟩:=h
  exact⟨ds,h1,xG hr h2⟩
 ·exact h
theorem wF (hr:Rel H g w0 w) (es:Nat) {x:A} {c:Value} (h:VR H g w x c):∃ g',Rel (eB es H x).2 g' w0 w/\Ext H g w (eB es H x).2 g' w/\VR (eB es H x).2 g' w (eB es H x).1 c/\H.length<=(eB es H x).2.length/\(∀ b,b<H.length->(eB es H x).2[b]? = H[b]?)/\g'.S=g.S:=by
 unfold eB
 split
 ·rename_i els
  rw[bF]
  split
  ·rename_i hal
   rw[VR] at h
   obtain ⟨a,cap,ds,es',e1,e2,e3,e4,e5,e6⟩:=h
   have hc:cap=els.length:=e3 rfl
   have hds:∀ d∈ds,d.length=es:=fun d hd=>by
    obtain ⟨i,hi,rfl⟩:=Zf hd
    have hl:=e6.length
    obtain ⟨q1,q2⟩:=cX.1 e6
    have:=q2 i els[i] ds[i] (Yg r7) (Yg hi)
    rw[this.length]
    exact Yy (Yw.1 hal _ (YH r7))
   obtain ⟨h1,h2⟩:=hr.push (Below.refl _ w) (.row false es els) none ds (fun k hk=>by cases hk) (fun he=>⟨by rw[Gh.iv]; exact bC.ext he _ _ e6,by rw[Gh.iv]; exact hds⟩)
   refine⟨_,h1,h2,?_,r9,fun b hb=>YE hb,rfl⟩
   rw[VR,ew]
   refine⟨r9,a,cap,e1,e2,fun h=>(by cases h),fun hp=>?_,fun _ _ _ h=>r7⟩
   obtain ⟨k,off,g1,g2⟩:=e5 hp
   refine⟨k,off,g1,?_⟩
   rw[Gh.iv,YL,Y3 (by rw[e6.length]; exact Yk _)]
   exact g2.ext h2
  ·exact⟨g,hr,Ext.refl hr,h,Yk _,fun _ _=>rfl,rfl⟩
 ·exact⟨g,hr,Ext.refl hr,h,Yk _,fun _ _=>rfl,rfl⟩
theorem Fk (hr:Rel H g w0 w) (es:Nat) {x:A} {c:Value} (h:VR H g w x c):∃ g',Rel (lV es H x).2 g' w0 w/\Ext H g w (lV es H x).2 g' w/\VR (lV es H x).2 g' w (lV es H x).1 c/\H.length<=(lV es H x).2.length/\(∀ b,b<H.length->(lV es H x).2[b]? = H[b]?)/\g'.S=g.S:=by
 unfold lV
 split
 ·rw[VR] at h
  obtain ⟨a,cap,ds,es',e1,e2,e3,e4,e5,e6⟩:=h
  obtain ⟨h1,h2⟩:=hr.push (Below.refl _ w) (.row true es []) none [] (fun k hk=>by cases hk) (fun he=>⟨[],by rw[bC],fun d hd=>(by cases hd),fun hp=>(by simp at hp)⟩)
  refine⟨_,h1,h2,?_,r9,fun b hb=>YE hb,rfl⟩
  rw[VR,ew]
  exact⟨r9,a,cap,e1,r7,fun h=>(by cases h),fun hp=>r7⟩
 ·exact⟨g,hr,Ext.refl hr,h,Yk _,fun _ _=>rfl,rfl⟩
theorem AI (hr:Rel H g w0 w) {x:A} {c:Value} (h:VR H g w x c):∃ g',Rel (H++[.dead]) g' w0 w/\Ext H g w (H++[.dead]) g' w/\VR (H++[.dead]) g' w x c/\H.length<=(H++[aC.dead]).length/\(∀ b,b<H.length->(H++[aC.dead])[b]? = H[b]?)/\g'.S=g.S:=by
 obtain ⟨h1,h2⟩:=hr.push (Below.refl _ w) .dead none [] (fun k hk=>by cases hk) (fun he=>Gh.bJ ..)
 exact⟨_,h1,h2,VR.ext h2 _ _ h,r9,fun b hb=>YE hb,rfl⟩
theorem Fl (hr:Rel H g w0 w) (es:Nat) {x:A} {c:Value} (h:VR H g w x c):∃ g',Rel (lW es H x).2 g' w0 w/\Ext H g w (lW es H x).2 g' w/\VR (lW es H x).2 g' w (lW es H x).1 c/\H.length<=(lW es H x).2.length/\(∀ b,b<H.length->(lW es H x).2[b]? = H[b]?)/\g'.S=g.S:=by
 have h1:=wF hr es h
 unfold lW
 split
 ·rename_i els
  unfold eB at h1
  simp only at h1
  rw[bF] at h1 ⊢
  split
  ·rename_i hal
   rw[Yq hal] at h1
   exact h1
  ·exact AI hr h
 ·exact AI hr h
theorem Good.slot (h:Good cx N mb lo H0 gs ws w0 s g a w) {t:Nat} {x:A} (hx:VR s.H g w x (a.tmps.getD t undef)):Good cx N mb lo H0 gs ws w0 ⟨(t,x) :: s.fr,s.H⟩ g a w:=
 ⟨⟨h.sr.rel,fun u=>by
  show VR s.H g w (look ((t,x) :: s.fr) u) _
  rw[ez]; split
  ·rename_i e; rw[<-e]; exact hx
  ·exact h.sr.fr u,h.sr.gl⟩,h.ext,h.len,h.low,h.siz,h.dfr,h.mbw,h.st⟩
theorem Good.heap (h:Good cx N mb lo H0 gs ws w0 s g a w) (hr:Rel H' g' w0 w) (he:Ext s.H g w H' g' w) (hl:s.H.length<=H'.length) (hlo:∀ b,b<lo->b<s.H.length->H'[b]? = s.H[b]?) (hst:g'.S=g.S):Good cx N mb lo H0 gs ws w0 ⟨s.fr,H'⟩ g' a w:=
 ⟨⟨hr,fun t=>VR.ext he _ _ (h.sr.fr t),fun G vs hG=>(h.sr.gl G vs hG).ext he⟩,h.ext.trans he,YG h.len hl,fun b hb hb'=>(hlo b hb (YA hb' h.len)).trans (h.low b hb hb'),h.siz,h.dfr.my he.kept,YG h.mbw he.size,hst.trans h.st⟩
theorem setRow_self {k:Nat} {arr:Array Value} {ty:TypeId} (ha:w.heap[k]? = some (.cells arr ty (0,0))):w.setRow k arr=w:=by
 have e:(w.heap.modify k fun | .cells _ elem frozen=>.cells arr elem frozen | o=>o)=w.heap:=by
  refine Array.ext r9 fun i h1 h2=>?_
  rw[qbI]
  split
  ·rename_i hik
   subst hik
   have hv:=(Yo.1 ha).2
   rw[hv]
  ·rfl
 exact(YX (fun h=>({ w with heap:=h }:World)) e:_=_)
theorem Rel.box (hr:Rel H g w0 w) {b i:Nat} {cs:List A} (hb:H[b]? = some (.box cs)) {x:A} (hx:∀ k arr ty d,g.mu b=some k->w.heap[k]? = some (.cells arr ty (0,0))->arr[i]? = some d->VR H g w x d):Rel (H.set b (.box (cs.set i x))) g w0 w/\Ext H g w (H.set b (.box (cs.set i x))) g w:=by
 obtain ⟨k,arr,ty,h1,h2,h3⟩:=hr.blk b _ hb
 have key:Ext H g w (H.set b (.box (cs.set i x))) g (w.setRow k arr)->(w.setRow k arr).heap[k]? = some (.cells arr ty (0,0))->lZ (H.set b (.box (cs.set i x))) g (w.setRow k arr) b (.box (cs.set i x)):=fun he hk=>by
  refine⟨k,arr,ty,h1,hk,?_⟩
  rw[setRow_self h2] at he ⊢
  refine bE.ext he _ _ (dK.2 ⟨by simpa using h3.length,fun j y d hy hd=>?_⟩)
  rw[ZW] at hy
  split at hy
  ·rename_i hij
   split at hy
   ·cases hy
    subst hij
    exact hx k arr ty d h1 h2 (by simpa using hd)
   ·cases hy
  ·exact(dK.1 h3).2 _ _ d hy hd
 have:=hr.write (arr':=arr) (B':=.box (cs.set i x)) h1 h2 hb (.inl ⟨cs,_,rfl,rfl⟩) key
 rwa [setRow_self h2] at this
def AF (lo:Nat) (p:Nat×Nat×Nat) (s:St):St:=
 match p.2.1 with
 | 0=>match p.2.2 with
  | 0=>⟨(p.1,I9 s.H (look s.fr p.1)) :: s.fr,s.H⟩
  | es+1=>bif Nat.ble 500000 es then (bif Nat.ble 1000000 es then ⟨(p.1,(lW (es - 1000000) s.H (look s.fr p.1)).1) :: s.fr,(lW (es - 1000000) s.H (look s.fr p.1)).2⟩ else ⟨(p.1,(lV (es - 500000) s.H (look s.fr p.1)).1) :: s.fr,(lV (es - 500000) s.H (look s.fr p.1)).2⟩) else ⟨(p.1,(eB es s.H (look s.fr p.1)).1) :: s.fr,(eB es s.H (look s.fr p.1)).2⟩
 | off+1=>match look s.fr p.1 with
  | .ptr b o=>match s.H[b]? with
   | some (.box cs)=>match cs[o+off]? with
    | some c=>bif decide (lo<=b) then match p.2.2 with
     | 0=>⟨s.fr,s.H.set b (.box (cs.set (o+off) (I9 s.H c)))⟩
     | es+1=>⟨s.fr,(eB es s.H c).2.set b (.box (cs.set (o+off) (eB es s.H c).1))⟩
     else s
    | none=>s
   | _=>s
  | _=>s
theorem DC (lo:Nat) (p:Nat×Nat×Nat) (s:St):Proofs.YtebkhfhcipnfgaaGreat.oB lo p s=AF lo p s:=by
 obtain ⟨t,q,m⟩:=p
 cases q with
 | zero=>rfl
 | succ off=>
  simp only[Proofs.YtebkhfhcipnfgaaGreat.oB,AF,dG]
  cases look s.fr t with
  | ptr b o=>
   simp only[]
   cases s.H[b]? with
   | none=>rfl
   | some B=>cases B with
    | box cs=>
     simp only[]
     cases cs[o+off]? with
     | none=>rfl
     | some c=>
      simp only[]
      cases decide (lo<=b) with
      | false=>rfl
      | true=>cases m<;>rfl
    | _=>rfl
  | _=>rfl
theorem uU (es:Nat) (x:A):H.length<=(eB es H x).2.length:=by
 unfold eB
 split
 ·rw[bF]; split<;>simp
 ·exact Yk _
theorem Cd (es:Nat) (x:A):H.length<=(lV es H x).2.length:=by
 unfold lV
 split<;>simp
theorem uV (es:Nat) (x:A):(lW es H x).2.length=H.length+1:=by
 unfold lW
 split
 ·rw[bF]; split<;>simp
 ·simp
theorem DB (lo:Nat) (p:Nat×Nat×Nat) (s:St):s.H.length<=(Proofs.YtebkhfhcipnfgaaGreat.oB lo p s).H.length:=by
 rw[DC]
 unfold AF
 split
 ·split
  ·exact Yk _
  ·rw[bF]
   split
   ·rw[bF]
    split
    ·exact YG (Nat.le_succ _) (qaV (uV ..).symm)
    ·exact Cd ..
   ·exact uU ..
 ·split
  ·split
   ·split
    ·rw[bF]
     split
     ·split
      ·simp
      ·simpa using uU ..
     ·exact Yk _
    ·exact Yk _
   ·exact Yk _
  ·exact Yk _
theorem rP (lo:Nat):∀ (ps:List (Nat×Nat×Nat)) (s:St),yy ps≠none->s.H.length+1<=(en lo ps s).H.length
 | [],s,h=>absurd rfl h
 | [p],s,h=>by
  obtain ⟨t,q,m⟩:=p
  show s.H.length+1<=(Proofs.YtebkhfhcipnfgaaGreat.oB lo (t,q,m) s).H.length
  cases q with
  | succ q=>exact absurd rfl h
  | zero=>
   unfold yy at h
   simp only at h
   rw[bF] at h
   split at h
   ·rename_i hm
    have hm:1000001<=m:=by simpa [qaG] using hm
    obtain ⟨m,rfl⟩:∃ e,m=e+1:=⟨m - 1,r7⟩
    unfold Proofs.YtebkhfhcipnfgaaGreat.oB
    simp only
    rw[show Nat.ble 500000 m=true from Zm r7,show Nat.ble 1000000 m=true from Zm r7]
    simp only[Yi]
    rw[uV]
    exact Yk _
   ·exact absurd rfl h
 | p :: q :: ps,s,h=>YG (Nat.succ_le_succ (DB lo p s)) (rP lo (q :: ps) _ h)
theorem Good.oB (h:Good cx N mb lo H0 gs ws w0 s g a w) (p:Nat×Nat×Nat):∃ g',Good cx N mb lo H0 gs ws w0 (oB lo p s) g' a w/\s.H.length<=(Proofs.YtebkhfhcipnfgaaGreat.oB lo p s).H.length/\(p.2.2=0->(Proofs.YtebkhfhcipnfgaaGreat.oB lo p s).H.length=s.H.length):=by
 rw[DC]
 unfold AF
 have same:∃ g',Good cx N mb lo H0 gs ws w0 s g' a w/\s.H.length<=s.H.length/\(p.2.2=0->s.H.length=s.H.length):=⟨g,h,Yk _,fun _=>rfl⟩
 split
 ·split
  ·exact⟨g,h.slot (DZ h.sr.rel (h.sr.fr _)),Yk _,fun _=>rfl⟩
  ·rename_i es he'
   rw[bF]
   split
   ·rw[bF]
    split
    ·obtain ⟨g',h1,h2,h3,h4,h5,h6⟩:=Fl h.sr.rel (es - 1000000) (h.sr.fr p.1)
     exact⟨g',(h.heap h1 h2 h4 (fun b _ hb=>h5 b hb) h6).slot h3,h4,fun e=>by rw[he'] at e; cases e⟩
    obtain ⟨g',h1,h2,h3,h4,h5,h6⟩:=Fk h.sr.rel (es - 500000) (h.sr.fr p.1)
    exact⟨g',(h.heap h1 h2 h4 (fun b _ hb=>h5 b hb) h6).slot h3,h4,fun e=>by rw[he'] at e; cases e⟩
   obtain ⟨g',h1,h2,h3,h4,h5,h6⟩:=wF h.sr.rel es (h.sr.fr p.1)
   exact⟨g',(h.heap h1 h2 h4 (fun b _ hb=>h5 b hb) h6).slot h3,h4,fun e=>by rw[he'] at e; cases e⟩
 ·rename_i off _
  split
  ·rename_i b o _
   split
   ·rename_i cs hb
    split
    ·rename_i c hc
     rw[bF]
     split
     ·rename_i hlo
      have hlo:lo<=b:=by simpa using hlo
      split
      ·obtain ⟨k,arr,ty,m1,m2,m3⟩:=h.sr.rel.blk b _ hb
       obtain ⟨h1,h2⟩:=h.sr.rel.box hb (i:=o+off) (x:=I9 s.H c) (fun k' arr' ty' d n1 n2 n3=>by
        rw[m1] at n1; cases n1
        rw[m2] at n2; cases n2
        exact DZ h.sr.rel ((dK.1 m3).2 _ _ d hc (by simpa using n3)))
       exact⟨g,h.heap h1 h2 r9 (fun b' hb' _=>Yz r7) rfl,r9,fun _=>r9⟩
      ·rename_i es he
       obtain ⟨k,arr,ty,m1,m2,m3⟩:=h.sr.rel.blk b _ hb
       have hl:=m3.length
       have hlt:=(Ym.1 hc).1
       obtain ⟨d,hd⟩:∃ d,arr.toList[o+off]? = some d:=⟨_,Yg r7⟩
       obtain ⟨g',h1,h2,h3,h4,h5,h6⟩:=wF h.sr.rel es ((dK.1 m3).2 _ _ d hc hd)
       have hbl:=(Ym.1 hb).1
       have hb':(eB es s.H c).2[b]? = some (.box cs):=(h5 b hbl).trans hb
       have hg2:=h.heap h1 h2 h4 (fun b _ hb=>h5 b hb) h6
       have hmu:g'.mu b=g.mu b:=by
        obtain ⟨B',n1,n2⟩:=h2.blk b _ hb
        rw[hb'] at n1; cases n1
        exact n2
       have key:∀ k arr ty d,g'.mu b=some k->w.heap[k]? = some (.cells arr ty (0,0))->arr[o+off]? = some d->VR (eB es s.H c).2 g' w (eB es s.H c).1 d:=by
        intro k' arr' ty' d' n1 n2 n3
        rw[hmu,m1] at n1; cases n1
        rw[m2] at n2; cases n2
        have e:d'=d:=by
         have:arr.toList[o+off]? = some d':=by simpa using n3
         rw[hd] at this; cases this; rfl
        rw[e]; exact h3
       obtain ⟨k1,k2⟩:=h1.box hb' (i:=o+off) (x:=(eB es s.H c).1) key
       exact⟨g',hg2.heap k1 k2 r9 (fun b' hb' _=>Yz r7) rfl,by simpa using h4,fun e=>by rw[he] at e; cases e⟩
     ·exact same
    ·exact same
   ·exact same
  ·exact same
theorem Good.acts:∀ (ps:List (Nat×Nat×Nat)) {s:St} {g:Gh},Good cx N mb lo H0 gs ws w0 s g a w->∃ g',Good cx N mb lo H0 gs ws w0 (en lo ps s) g' a w/\s.H.length<=(en lo ps s).H.length
 | [],s,g,h=>⟨g,h,Yk _⟩
 | p :: ps,s,g,h=>by
  obtain ⟨g',h1,h2,_⟩:=h.oB p
  obtain ⟨g'',h3,h4⟩:=Good.acts ps h1
  exact⟨g'',h3,YG h2 h4⟩
theorem Good.Jg {k:St->Option R} {r:R}:∀ (ps:List (Nat×Nat×Nat)) {s:St} {g:Gh},Good cx N mb lo H0 gs ws w0 s g a w->rB lo ps s k=some r->∃ s' g',Good cx N mb lo H0 gs ws w0 s' g' a w/\k s'=some r
 | [],s,g,h,hk=>⟨s,g,h,hk⟩
 | p :: ps,s,g,h,hk=>by
  unfold rB at hk
  obtain ⟨q,h1,hk⟩:=bD hk
  obtain ⟨g',e1,e2,e3,e4,e5,e6⟩:=AZ h.sr.rel h1 (h.sr.fr p.1)
  exact Good.Jg ps ((h.heap e1 e2 (qaV e4.symm) e5 e6).slot e3) hk
variable {call:bn} {f:Nat} {ops:Array Oper} {r:R}
theorem uy {o:Oper} {k k':St->Option R} {pan:A->St->Option R} (hk:∀ s,k s=some r->k' s=some r) (h:sd cx call f lo o s k pan=some r):sd cx call f lo o s k' pan=some r:=by
 have one:∀ {x},bO cx f lo x s (fun a H=>k ({ s with H:=H }.put o.dst a))=some r->bO cx f lo x s (fun a H=>k' ({ s with H:=H }.put o.dst a))=some r:=fun {x} h=>by
  rw[iM] at h ⊢
  obtain ⟨p,h1,h2⟩:=bD h
  rw[h1]
  exact hk _ h2
 unfold sd at h ⊢
 split
 ·rename_i c x y ho
  simp only[ho] at h
  obtain ⟨z,h1,h2⟩:=bD h
  rw[h1]; exact hk _ h2
 ·rename_i x ho
  simp only[ho] at h
  exact h
 ·rename_i t' n' parts ho
  simp only[ho] at h ⊢
  rw[bF] at h ⊢
  split
  ·rename_i hc
   rw[Yq hc] at h
   obtain ⟨z,h1,h2⟩:=bD h
   rw[h1]; exact hk _ h2
  ·rename_i hc
   rw[Yp hc] at h
   exact one h
 ·rename_i t' n' parts ho
  simp only[ho] at h ⊢
  rw[bF] at h ⊢
  split
  ·rename_i hc
   rw[Yq hc] at h
   obtain ⟨z,h1,h2⟩:=bD h
   rw[h1]; exact hk _ h2
  ·rename_i hc
   rw[Yp hc] at h
   exact one h
 ·rename_i t' t'' x ho
  simp only[ho] at h ⊢
  rw[bF] at h ⊢
  split
  ·rename_i hc
   rw[Yq hc] at h
   obtain ⟨z,h1,h2⟩:=bD h
   rw[h1]; exact hk _ h2
  ·rename_i hc
   rw[Yp hc] at h
   exact one h
 ·rename_i c ho
  simp only[ho] at h ⊢
  rw[bF] at h ⊢
  split
  ·rename_i hc
   rw[Yq hc] at h
   rw[rZ] at h ⊢
   unfold Jz at h ⊢
   split at h
   ·rename_i p hy
    obtain ⟨hrb,h⟩:=bu h
    obtain ⟨x,h3,h4⟩:=bD h
    simp only[hrb,Yi,h3,Yf]
    unfold ee at h4 ⊢
    split
    ·rename_i y hy; rw[hy] at h4; exact hk _ h4
    ·rename_i y hy; rw[hy] at h4; exact h4
   obtain ⟨p,h1,h2⟩:=bD h
   simp only[h1,Yf]
   rw[bF] at h2 ⊢
   split
   ·rename_i hi
    rw[Yq hi] at h2
    obtain ⟨x,h3,h4⟩:=bD h2
    rw[h3]; exact hk _ h4
   ·rename_i hi
    rw[Yp hi] at h2
    obtain ⟨x,h3,h4⟩:=bD h2
    rw[h3,Yf]
    unfold ee at h4 ⊢
    split
    ·rename_i y hy; rw[hy] at h4; exact hk _ h4
    ·rename_i y hy; rw[hy] at h4; exact h4
  ·rename_i hc
   rw[Yp hc] at h
   exact one h
 ·rename_i h1 h2 h3 h4 h5 h6
  have:bO cx f lo o s (fun a H=>k ({ s with H:=H }.put o.dst a))=some r:=by
   cases ho:o.op<;>first
    | (simp only[ho] at h; exact h)
    | exact absurd ho (h1 _ _ _)
    | exact absurd ho (h2 _)
    | exact absurd ho (h3 _ _ _)
    | exact absurd ho (h4 _ _ _)
    | exact absurd ho (h5 _ _ _)
    | exact absurd ho (h6 _)
  exact one this
theorem DJ {b x:Bool} (h:(bif b then x else false)=true):b=true/\x=true:=by cases b<;>simp_all
theorem oe:∀ {os:List Oper},pD cx f os=true->∀ o∈os,quiet cx f o=true
 | [],_,o,ho=>by cases ho
 | o :: os,h,o',ho'=>by
  unfold pD at h
  obtain ⟨h1,h2⟩:=DJ h
  rcases Y1.1 ho' with rfl | ho'
  ·exact h1
  ·exact oe h2 o' ho'
theorem iP {k:E->St->Option R}:∀ (q:Nat) (os:List Oper) (s:St),gN cx call f lo ops q os s k=some r->fL cx call f lo ops os s k=some r
 | 0,_,_,h=>by cases h
 | _+1,[],_,h=>h
 | q+1,o :: os,s,h=>by
  have ih:=fun s=>iP (k:=k) q os s
  unfold gN at h
  unfold fL
  cases hgd:o.guard with
  | none=>
   simp only[hgd] at h ⊢
   exact uy (fun s=>ih s) h
  | some x=>
   simp only[hgd] at h ⊢
   cases hgs:b9 ops o with
   | none=>rw[hgs] at h; cases h
   | some p=>
    obtain ⟨t,w⟩:=p
    simp only[hgs] at h ⊢
    rw[bF] at h
    split at h
    ·rename_i hc
     rw[Yj] at hc
     have hqq:=oe hc.2
     have hro:=(eT (ops:=ops) t w (o :: os) []).2.out.1
     have hE:∀ (o:Oper) (os:List Oper) (s:St),(quiet cx f o=true/\(o.guard≠none∨∃ c a b,o.op=.pick c a b))->fL cx call f lo ops (o :: os) s k=(mU cx call f ops o s).bind fun x=>fL cx call f lo ops os (s.put o.dst x) k:=by
      intro o os s ⟨h1,h2⟩
      rw[fL]
      unfold mU
      cases hgd:o.guard with
      | none=>
       simp only
       rcases h2 with h2 | ⟨c,a,b,hp⟩
       ·exact absurd hgd h2
       ·unfold sd hX
        rw[hp]
      | some x=>
       simp only
       cases hgs:b9 ops o with
       | none=>rfl
       | some p=>
        obtain ⟨t,w⟩:=p
        simp only[h1,Yi]
     obtain ⟨pre,rest,fr,e1,e2,e3,e4⟩:=sH (E:=fun os s=>fL cx call f lo ops os s k) hE (fun o c a b hp=>⟨by unfold quiet; rw[hp],.inr ⟨c,a,b,hp⟩⟩) (fun o' ho'=>⟨hqq o' ho',.inl (hro o' ho').2⟩) (fun g w h=>by cases h) (fun hlk fin l hl=>by
      obtain ⟨dl,k1,k2,k3⟩:=jo (E:=fun os s=>fL cx call f lo ops os s k) hE (fun o c a b hp=>⟨by unfold quiet; rw[hp],.inr ⟨c,a,b,hp⟩⟩) q (some (t,w)) fin _ [] s l hl (fun o' ho'=>⟨hqq o' ho',.inl (hro o' ho').2⟩) (fun g' w' hg'=>by
       cases hg'; exact⟨hlk,fun o' ho'=>(hro o' ho').1⟩)
      exact⟨dl,k1,by simpa using k2,k3⟩) h
     have:=e4 rest
     rw[<-e1] at this
     have h3:=iP q rest _ e2
     have h4:fL cx call f lo ops (o :: os) s k=some r:=this.trans h3
     rw[fL,hgd] at h4
     simp only[hgs] at h4
     exact h4
    ·rw[bF] at h ⊢
     split
     ·rename_i hq
      rw[Yq hq] at h
      obtain ⟨x,h1,h2⟩:=bD h
      rw[h1]; exact ih _ h2
     ·rename_i hq
      rw[Yp hq] at h
      unfold pY at h ⊢
      split
      ·rename_i b hb
       rw[hb] at h
       cases b<;>cases w<;>simp only[Yi,Yh] at h ⊢<;>first | exact ih _ h | exact uy (fun s=>ih s) h
      ·rename_i y hy; rw[hy] at h; exact ih _ h
      ·rename_i h1 h2
       split at h
       ·rename_i b hb; exact absurd hb (h1 b)
       ·rename_i y hy; exact absurd hy (h2 y)
       ·cases h
theorem oK {k k':St->Option R} (hk:∀ s,k s=some r->k' s=some r):∀ {os:List Oper} {s:St},jH cx call f ops os s k=some r->jH cx call f ops os s k'=some r
 | [],s,h=>hk _ h
 | o :: os,s,h=>by
  unfold jH at h ⊢
  cases hgd:o.guard with
  | none=>
   simp only[hgd] at h ⊢
   obtain ⟨x,h1,h2⟩:=bD h
   rw[h1]; exact oK hk h2
  | some q=>
   simp only[hgd] at h ⊢
   cases hgs:b9 ops o with
   | none=>rw[hgs] at h; cases h
   | some p=>
    simp only[hgs] at h ⊢
    obtain ⟨x,h1,h2⟩:=bD h
    rw[h1]; exact oK hk h2
theorem qA {k:St->Option R}:∀ (q:Nat) (os:List Oper) (s:St),qz cx call f ops q os s k=some r->jH cx call f ops os s k=some r
 | 0,_,_,h=>by cases h
 | _+1,[],_,h=>h
 | q+1,o :: os,s,h=>by
  have ih:=fun s=>qA (k:=k) q os s
  unfold qz at h
  have hE:∀ (o:Oper) (os:List Oper) (s:St),True->jH cx call f ops (o :: os) s k=(mU cx call f ops o s).bind fun x=>jH cx call f ops os (s.put o.dst x) k:=by
   intro o os s _
   rw[jH]
   unfold mU
   cases hgd:o.guard with
   | none=>rfl
   | some x=>
    simp only
    cases hgs:b9 ops o with
    | none=>rfl
    | some p=>rfl
  cases hgd:o.guard with
  | none=>
   simp only[hgd] at h
   unfold jH
   simp only[hgd]
   rw[rz] at h
   obtain ⟨x,h1,h2⟩:=bD h
   rw[h1]; exact ih _ h2
  | some x=>
   simp only[hgd] at h
   cases hgs:b9 ops o with
   | none=>rw[hgs] at h; cases h
   | some p=>
    obtain ⟨t,w⟩:=p
    simp only[hgs] at h
    obtain ⟨_,h⟩:=bu h
    have hro:=(eT (ops:=ops) t w (o :: os) []).2.out.1
    obtain ⟨pre,rest,fr,e1,e2,e3,e4⟩:=sH (E:=fun os s=>jH cx call f ops os s k) hE (fun _ _ _ _ _=>trivial) (fun _ _=>trivial) (fun g w h=>by cases h) (fun hlk fin l hl=>by
     obtain ⟨dl,k1,k2,k3⟩:=jo (E:=fun os s=>jH cx call f ops os s k) hE (fun _ _ _ _ _=>trivial) q (some (t,w)) fin _ [] s l hl (fun _ _=>trivial) (fun g' w' hg'=>by
      cases hg'; exact⟨hlk,fun o' ho'=>(hro o' ho').1⟩)
     exact⟨dl,k1,by simpa using k2,k3⟩) h
    have:=e4 rest
    rw[<-e1] at this
    exact this.trans (qA q rest _ e2)
end
section
open Go.RowKit
variable {H H':aB} {g g':Gh} {w0 w w':World} {cx:Cx} {s:St} {a:Act} {F:Fence} {n:Nat} {N lo:Nat} {mb:Mb} {H0:aB} {gs:Gh} {ws:World} {Bs:aB->Gh->World->Prop} {f:Nat} {ops:Array Oper}
theorem lQ {o:Oper} (h:tQ o=true):o.guard=none:=by
 unfold tQ at h; split at h
 ·assumption
 ·cases h
theorem xp {call:bn} {k:List (Nat×A)->St->Option R} {r:R}:∀ (L:List Nat) (seen:List (Nat×A)) (s:St),Py cx call f ops L seen s k=some r ->
  ∃ (S:Nat->St) (x:Nat->A) (seen1:List (Nat×A)),S 0=s/\k seen1 (S L.length)=some r/\(∀ p∈seen,p∈seen1) ∧
   ∀ (p i:Nat),L[p]? = some i->∃ o,ops[i]? = some o/\o.guard=none/\(bR o=0∨(bR o=1/\(i,addrOf cx (S p) o.op)∈seen1)∨(bR o=2/\pU (partsOf cx (S p) o.op)=true))/\hX cx call f o (S p)=some (x p)/\S (p+1)=(S p).put o.dst (x p)
 | [],seen,s,h=>⟨fun _=>s,fun _=>.any,seen,rfl,h,fun _ h=>h,fun p i hp=>by simp at hp⟩
 | i :: L,seen,s,h=>by
  unfold Py at h
  split at h
  ·cases h
  ·rename_i o ho
   obtain ⟨hc,h⟩:=bu h
   obtain ⟨hfl,h⟩:=bu h
   rw[UU,Yj,Zb,Zb] at hc
   rw[rz] at h
   obtain ⟨x0,h1,h⟩:=bD h
   obtain ⟨S,x,seen1,e1,e2,e3,e4⟩:=xp L _ _ h
   refine⟨fun p=>match p with | 0=>s | p+1=>S p,fun p=>match p with | 0=>x0 | p+1=>x p,seen1,rfl,e2,fun p hp=>e3 p (by
    cases Nat.beq (bR o) 1 with
    | true=>exact ZD _ hp
    | false=>exact hp),fun p j hj=>?_⟩
   cases p with
   | zero=>
    simp at hj
    subst hj
    refine⟨o,ho,lQ hc.1,?_,h1,e1⟩
    rcases hc.2 with (hk | hk) | hk
    ·exact .inl (beq_spec hk)
    ·exact .inr (.inl ⟨beq_spec hk,e3 _ (by rw[hk]; exact ZJ ..)⟩)
    ·exact .inr (.inr ⟨beq_spec hk,by rw[hk] at hfl; exact hfl⟩)
   | succ p=>exact e4 p j (by simpa using hj)
def ui (cx:Cx) (call:bn) (f lo:Nat) (ops:Array Oper) (c q:Nat) (seen:List (Nat×A)) (i:Nat) (s:St) (x:A) (s':St):Prop:=
 ∃ o H',ops[i]? = some o/\s'=({ s with H:=H' }:St).put o.dst x ∧
  ((i≠c/\o.guard=none/\((dR o=true/\kD ops i (du cx s o.op) seen=true)∨vX o.op=false)/\bO cx f lo o s (fun a H=>some (a,H))=some (x,H')) ∨
   (i=c/\uW ops c (FZ cx o) seen=true/\call q (ff cx s o.op) s.H (FB cx o lo s.H)=some (.ret x,H')))
theorem xw {call:bn} {c q:Nat} {kp:A->aB->Option R} {k:St->Option R} {r:R} {seen:List (Nat×A)} (hq:∀ o,ops[c]? = some o->∀ (s:St) (lo':Nat) (k:A->aB->Option R) (kp:A->aB->Option R),dA cx call (jr cx s o.op) (ff cx s o.op) s.H lo' k kp=(call q (ff cx s o.op) s.H lo').bind fun r=>ee r.1 (fun a=>k a r.2) (fun a=>kp a r.2)) :
  ∀ (L:List Nat) (s:St),Lu cx call f lo ops c kp L seen s k=some r ->
  ∃ (S:Nat->St) (x:Nat->A) (P:Nat),S 0=s/\P<=L.length/\(∀ p i,p<P->L[p]? = some i->ui cx call f lo ops c q seen i (S p) (x p) (S (p+1))) ∧
   ((P=L.length/\k (S P)=some r)∨(∃ o y H2,L[P]? = some c/\ops[c]? = some o/\call q (ff cx (S P) o.op) (S P).H (FB cx o lo (S P).H)=some (.pan y,H2)/\kp y H2=some r))
 | [],s,h=>⟨fun _=>s,fun _=>.any,0,rfl,Yk _,fun p i hp _=>absurd hp (YC _),.inl ⟨rfl,h⟩⟩
 | i :: L,s,h=>by
  unfold Lu at h
  split at h
  ·cases h
  rename_i o ho
  have go:∀ (x0:A) (H':aB),ui cx call f lo ops c q seen i s x0 (({ s with H:=H' }:St).put o.dst x0)->Lu cx call f lo ops c kp L seen (({ s with H:=H' }:St).put o.dst x0) k=some r ->
    ∃ (S:Nat->St) (x:Nat->A) (P:Nat),S 0=s/\P<=(i :: L).length/\(∀ p j,p<P->(i :: L)[p]? = some j->ui cx call f lo ops c q seen j (S p) (x p) (S (p+1))) ∧
     ((P=(i :: L).length/\k (S P)=some r)∨(∃ o y H2,(i :: L)[P]? = some c/\ops[c]? = some o/\call q (ff cx (S P) o.op) (S P).H (FB cx o lo (S P).H)=some (.pan y,H2)/\kp y H2=some r)):=fun x0 H' hst h=>by
   obtain ⟨S,x,P,e1,e2,e3,e4⟩:=xw hq L _ h
   refine⟨fun p=>match p with | 0=>s | p+1=>S p,fun p=>match p with | 0=>x0 | p+1=>x p,P+1,rfl,Nat.succ_le_succ e2,fun p j hp hj=>?_,?_⟩
   ·cases p with
    | zero=>
     simp at hj
     subst hj
     show ui cx call f lo ops c q seen i s x0 (S 0)
     rw[e1]; exact hst
    | succ p=>exact e3 p j r7 (by simpa using hj)
   ·rcases e4 with ⟨e4,e5⟩ | ⟨o,y,H2,e4,e5⟩
    ·exact .inl ⟨by rw[e4]; rfl,e5⟩
    ·exact .inr ⟨o,y,H2,by simpa using e4,e5⟩
  cases hic:Nat.beq i c with
  | true=>
   rw[hic] at h
   simp only[Yi] at h
   obtain rfl:=Yy hic
   obtain ⟨hsn,h⟩:=bu h
   rw[hq o ho] at h
   obtain ⟨⟨out,H2⟩,hcl,h⟩:=bD h
   cases out with
   | pan y=>exact⟨fun _=>s,fun _=>.any,0,rfl,Yx _,fun p i hp _=>absurd hp (YC _),.inr ⟨o,y,H2,rfl,ho,hcl,h⟩⟩
   | ret v=>exact go v H2 ⟨o,H2,ho,rfl,.inr ⟨rfl,hsn,hcl⟩⟩ h
  | false=>
   rw[hic] at h
   simp only[Yh] at h
   obtain ⟨hc,h⟩:=bu h
   obtain ⟨hs,h⟩:=bu h
   rw[UX,Yj,Yj,Zb,Ze] at hc
   rw[iM] at h
   obtain ⟨⟨x0,H'⟩,h1,h⟩:=bD h
   refine go x0 H' ⟨o,H',ho,rfl,.inl ⟨fun e=>by subst e; simp at hic,lQ hc.1.1,?_,h1⟩⟩ h
   rcases hc.1.2 with hk | hk
   ·exact .inl ⟨hk,by rw[hk] at hs; exact hs⟩
   ·exact .inr hk
theorem Ac {call:bn} (hcall:dX cx Bs call) (hb0:Bs H0 gs ws) (horc:jV cx) (hF:gV F) (hmx:cx.P.follows .mixedOrders=true) {k:E->St->Option R} {r:R} {Q:Exit->Act->World->Prop} {m:Nat} (jm:tU ops N=true) (chkt:fA ops m=true)
  (hg:Good cx N mb lo H0 gs ws w0 s g a w) (hd:∀ o∈ops.toList,∀ d,o.dst=some d->d<N)
  (O:List Nat) (M P pc:Nat) (S:Nat->St) (x:Nat->A) (hM:M<=P) (hpc:M<=pc) (hP:P<=O.length) (hO:∀ i:Nat,i<m->∃ p:Nat,O[p]? = some i) (hOs:∀ p i:Nat,O[p]? = some i->i<m) (hnd:∀ p q i:Nat,O[p]? = some i->O[q]? = some i->p=q)
  (hdep:∀ p q i j:Nat,O[p]? = some i->O[q]? = some j->fG ops i j=true->q<p) (hE:∀ p q i j:Nat,M<=q->q<p->O[p]? = some i->O[q]? = some j->fG ops i j=true)
  (h0:S 0=s) (hH:∀ p,p<=M->(S p).H=s.H) (hgd:∀ (p i:Nat) (o:Oper),O[p]? = some i->ops[i]? = some o->o.guard=none)
  (hlk:∀ (p i:Nat) (o:Oper),p<P->O[p]? = some i->ops[i]? = some o->∀ t,look (S (p+1)).fr t=if o.dst=some t then x p else look (S p).fr t)
  (Z:Prop) (hlen:∀ p,M<=p->p<P->(pc<=p->Z)->(S p).H.length<=(S (p+1)).H.length)
  (hpure:∀ (p i:Nat) (o:Oper),p<M->O[p]? = some i->ops[i]? = some o->∀ e,M+e<=P->(pc<M+e->Z)->(∀ q j:Nat,M<=q->q<M+e->O[q]? = some j->fJ ops i j)->hX cx call f o ⟨(S p).fr,(S (M+e)).H⟩=some (x p))
  (heff:∀ (p i:Nat) (o:Oper),M<=p->p<P->O[p]? = some i->ops[i]? = some o->∀ (g':Gh) (W:World) (ev:Operand->Value),tF cx (S p) g' w0 o.op ev W->(∀ (G:Nat) (vs:List Value),cx.glob G=some vs->bK (S p).H g' W G 0 vs)->Bs (S p).H g' W ->
   FN F n cx.P o ev W (fun v w'=>∃ g2,Rel (S (p+1)).H g2 w0 w'/\Ext (S p).H g' W (S (p+1)).H g2 w'/\(∀ b,b<lo->b<(S p).H.length->(S (p+1)).H[b]? = (S p).H[b]?)/\g2.S=g'.S/\VR (S (p+1)).H g2 w' (x p) v/\(p=pc->Z)) (fun _ _=>False))
  (hpan:∀ (i:Nat) (o:Oper),O[P]? = some i->ops[i]? = some o->∃ (H2:aB) (y:A),k (.pan y) ⟨[],H2⟩=some r/\∀ (g':Gh) (W:World) (ev:Operand->Value),tF cx (S P) g' w0 o.op ev W->(∀ (G:Nat) (vs:List Value),cx.glob G=some vs->bK (S P).H g' W G 0 vs)->Bs (S P).H g' W ->
   FN F n cx.P o ev W (fun _ _=>False) (fun ch w'=>∃ c g2,ch=[{ v:=c,recovered:=false }]/\Rel H2 g2 w0 w'/\Ext (S P).H g' W H2 g2 w'/\(S P).H.length<=H2.length/\(∀ b,b<lo->b<(S P).H.length->H2[b]? = (S P).H[b]?)/\g2.S=g'.S/\VR H2 g2 w' y c))
  (hend:P=O.length->fL cx call f lo ops (ops.toList.drop m) (S P) k=some r)
  (hk:∀ s' g' a' w',Good cx N mb lo H0 gs ws w0 s' g' a' w'->k .normal s'=some r->Q .normal a' w')
  (hp:∀ x s' g' a' w' c,Good cx N mb lo H0 gs ws w0 s' g' a' w'->VR s'.H g' w' x c->k (.pan x) s'=some r->Q (.panic [{ v:=c,recovered:=false }]) a' w'):LW F n cx.P ops Q a w:=by
 have hr:=hg.sr.rel
 have hm2:m<=ops.size:=by
  simp only[fA,Yj,Yn] at chkt
  exact chkt.1.1
 have hdst:∀ {i o},ops[i]? = some o->cA ops i=o.dst:=fun {i o} ho=>by unfold cA; rw[ho]; rfl
 have hop:∀ {p i:Nat},O[p]? = some i->∃ o,ops[i]? = some o:=fun {p i} h=>⟨_,Zo (YA (hOs _ _ h) hm2)⟩
 have hdlt:∀ {i t},cA ops i=some t->∃ o,ops[i]? = some o/\o.dst=some t:=fun {i t} h=>by
  unfold cA at h
  cases ho:ops[i]? with
  | none=>rw[ho] at h; cases h
  | some o=>rw[ho] at h; exact⟨o,rfl,h⟩
 have hat:∀ p:Nat,p<O.length->∃ (i:Nat) (o:Oper),O[p]? = some i/\ops[i]? = some o:=fun p h=>by
  have h1:=Yg h
  obtain ⟨o,ho⟩:=hop h1
  exact⟨_,o,h1,ho⟩
 have lookA:∀ t q j:Nat,O[q]? = some j->cA ops j=some t->∀ p,q<p->p<=P->look (S p).fr t=x q:=by
  intro t q j hq hj p
  obtain ⟨oj,hoj,hdj⟩:=hdlt hj
  induction p with
  | zero=>intro h; omega
  | succ p ih=>
   intro h1 h2
   by_cases e:q=p
   ·subst e; rw[hlk q j oj r7 hq hoj,Yq hdj]
   ·obtain ⟨i,o,hi,ho⟩:=hat p r7
    obtain ⟨c4,_⟩:=mC jm ho
    rw[hlk p i o r7 hi ho,Yp fun hdo=>c4 j t (fun e2=>e (hnd q p j hq (e2 ▸ hi))) hdo hj]
    exact ih r7 r7
 have lookB:∀ t p:Nat,p<=P->(∀ q j:Nat,q<p->O[q]? = some j->cA ops j≠some t)->look (S p).fr t=look s.fr t:=by
  intro t p
  induction p with
  | zero=>intro _ _; rw[h0]
  | succ p ih=>
   intro h1 h2
   obtain ⟨i,o,hi,ho⟩:=hat p r7
   rw[hlk p i o r7 hi ho,Yp fun hdo=>h2 p i r7 hi (by rw[hdst ho]; exact hdo)]
   exact ih r7 fun q j hq hj=>h2 q j r7 hj
 have lenM:∀ e,M+e<=P->(pc<M+e->Z)->s.H.length<=(S (M+e)).H.length:=by
  intro e
  induction e with
  | zero=>intro _ _; rw[ZM,hH M (Yk _)]; exact Yk _
  | succ e ih=>intro h hz; exact YG (ih r7 (fun h=>hz r7)) (hlen (M+e) r7 r7 (fun h=>hz r7))
 refine te (F:=F) ⟨hF.1,hF.2.1⟩ hmx N m hg.siz jm chkt (fun D a' W=>∃ (e:Nat) (g':Gh),M+e<=P/\(pc<M+e->Z)/\(∀ q j:Nat,M<=q->O[q]? = some j->(D j↔q<M+e))/\Rel (S (M+e)).H g' w0 W/\Ext s.H g w (S (M+e)).H g' W/\(∀ b,b<lo->b<s.H.length->(S (M+e)).H[b]? = s.H[b]?)/\g'.S=g.S ∧
   (∀ q j t:Nat,O[q]? = some j->cA ops j=some t->D j->VR (S (M+e)).H g' W (x q) (slot a' t))/\(∀ t,(∀ j,j<m->cA ops j=some t->¬ D j)->VR (S (M+e)).H g' W (look s.fr t) (slot a' t))) ?_ ?_ ?_
 ·intro D hD
  have hb:=Ext.below hr (Below.refl w.heap.size w).drew
  refine⟨0,g,hM,fun h=>r7,fun q j hq _=>⟨fun h=>absurd h (hD j),fun h=>r7⟩,?_,?_,fun b _ _=>?_,rfl,fun q j t _ _ h=>absurd h (hD j),fun t _=>?_⟩
  ·rw[ZM,hH M (Yk _)]; exact hr.eQ (Below.refl _ _).drew
  ·rw[ZM,hH M (Yk _)]; exact hb
  ·rw[ZM,hH M (Yk _)]
  ·rw[ZM,hH M (Yk _)]; exact VR.ext hb _ _ (hg.sr.fr t)
 ·rintro D D' i o him ho hDm hDi hbef hcl hD' a' W ⟨e,g',heP,heZ,hDe,hrW,heW,hlow,hgS,hv1,hv2⟩ hsz hdf
  obtain ⟨p,hpi⟩:=hO i him
  have hpl:p<O.length:=(Ym.1 hpi).1
  obtain ⟨c4,c5⟩:=mC jm ho
  rw[Yq (by simp[Region.wanted,hgd p i o hpi ho])]
  have hbs:Bs (S (M+e)).H g' W:=hcall.up _ _ _ _ _ _ hb0 (hg.ext.trans heW)
  have hgl:∀ (G:Nat) (vs:List Value),cx.glob G=some vs->bK (S (M+e)).H g' W G 0 vs:=fun G vs hG=>(hg.sr.gl G vs hG).ext heW
  have hlook:p<=P->∀ t∈o.looksAt ops,VR (S (M+e)).H g' W (look (S p).fr t) (a'.tmps.getD t undef):=fun hpP t ht=>by
   by_cases hj:∃ j,cA ops j=some t/\fG ops i j=true
   ·obtain ⟨j,hjt,hjb⟩:=hj
    obtain ⟨oj,hoj,_⟩:=hdlt hjt
    obtain ⟨q,hq⟩:=hO j (Nat.lt_trans (nR jm (fW i j hjb)) him)
    have hqp:=hdep p q i j hpi hq hjb
    rw[lookA t q j hq hjt p hqp hpP]
    exact hv1 q j t hq hjt (hbef j hjb)
   ·have hno:∀ j,cA ops j=some t->fG ops i j=false:=fun j hjt=>by
     cases hb:fG ops i j with
     | false=>rfl
     | true=>exact absurd ⟨j,hjt,hb⟩ hj
    rw[lookB t p hpP fun q j hq hqj hjt=>by
     rcases c5 j t hjt ht with h | h | h
     ·subst h; have:=hnd p q i hpi hqj; omega
     ·rw[hno j hjt] at h; cases h
     ·have:=hdep q p j i hqj hpi h; omega]
    exact hv2 t fun j _ hjt hDj=>by
     rcases c5 j t hjt ht with h | h | h
     ·subst h; exact hDi hDj
     ·rw[hno j hjt] at h; cases h
     ·exact hDi (hcl j i hDj h)
  have hopr:p<=P->tF cx ⟨(S p).fr,(S (M+e)).H⟩ g' w0 o.op a'.eval W:=fun hpP=>⟨hrW,fun y hy=>pf (fun t ht=>by
    refine hlook hpP t ?_
    subst ht
    unfold Oper.looksAt
    exact Zz.2 (.inl (qbg.2 ⟨.tmp t,hy,rfl⟩))) hgl,fun _=>rfl⟩
  have fin:p<P->∀ (e':Nat) (g2:Gh) (W':World) (v:Value),M+e'<=P->(pc<M+e'->Z)->(∀ q j:Nat,M<=q->O[q]? = some j->(D' j↔q<M+e'))->Rel (S (M+e')).H g2 w0 W'->Ext (S (M+e)).H g' W (S (M+e')).H g2 W'->(∀ b,b<lo->b<s.H.length->(S (M+e')).H[b]? = s.H[b]?)->g2.S=g.S->VR (S (M+e')).H g2 W' (x p) v ->
    ∃ (e:Nat) (g':Gh),M+e<=P/\(pc<M+e->Z)/\(∀ q j:Nat,M<=q->O[q]? = some j->(D' j↔q<M+e))/\Rel (S (M+e)).H g' w0 W'/\Ext s.H g w (S (M+e)).H g' W'/\(∀ b,b<lo->b<s.H.length->(S (M+e)).H[b]? = s.H[b]?)/\g'.S=g.S ∧
     (∀ q j t:Nat,O[q]? = some j->cA ops j=some t->D' j->VR (S (M+e)).H g' W' (x q) (slot (a'.put o.dst v) t))/\(∀ t,(∀ j,j<m->cA ops j=some t->¬ D' j)->VR (S (M+e)).H g' W' (look s.fr t) (slot (a'.put o.dst v) t)):=by
   intro hpP e' g2 W' v h1 hz' h2 h3 h4 h5 h6 h7
   refine⟨e',g2,h1,hz',h2,h3,heW.trans h4,h5,h6,fun q j t hq hjt hDj=>?_,fun t ht=>?_⟩
   ·rcases (hD' j).1 hDj with rfl | hDj
    ·have hdt:o.dst=some t:=by rw[<-hdst ho]; exact hjt
     rw[hdt,fz (by rw[hsz]; exact hd o (by rw[<-Array.mem_def]; exact qbE ho) t hdt),hnd q p j hq hpi]
     exact h7
    ·have hne:j≠i:=fun e=>hDi (e ▸ hDj)
     rw[dN (fun hdt=>c4 j t (Zl hne) hdt hjt)]
     exact VR.ext h4 _ _ (hv1 q j t hq hjt hDj)
   ·rw[dN (fun hdt=>ht i him (by rw[hdst ho]; exact hdt) ((hD' i).2 (.inl rfl)))]
    exact VR.ext h4 _ _ (hv2 t (fun j hjm hjt hDj=>ht j hjm hjt ((hD' j).2 (.inr hDj))))
  by_cases hpM:p<M
  ·
   have hun:∀ q j:Nat,M<=q->q<M+e->O[q]? = some j->fJ ops i j:=fun q j hq1 hq2 hq=>by
    unfold fJ
    rw[Zh]
    constructor
    ·cases hb:fG ops i j with
     | false=>rfl
     | true=>have:=hdep p q i j hpi hq hb; omega
    ·cases hb:fG ops j i with
     | false=>rfl
     | true=>exact absurd (hcl j i ((hDe q j hq1 hq).2 hq2) hb) hDi
   have hev:=hpure p i o hpM hpi ho e heP heZ hun
   refine .inl ((nm hcall horc hev F n g' w0 W a'.eval hF (hopr r7) hgl hbs).mono ?_)
   rintro v w' ⟨k1,k2,k3⟩
   refine fin r7 e g' w' v heP heZ (fun q j hq1 hq=>⟨fun h=>?_,fun h=>(hD' j).2 (.inr ((hDe q j hq1 hq).2 h))⟩) k2 k3 hlow hgS k1
   rcases (hD' j).1 h with rfl | h
   ·have:=hnd p q j hpi hq; omega
   ·exact(hDe q j hq1 hq).1 h
  ·
   have hpe:p=M+e:=by
    have h1:¬ p<M+e:=fun h=>hDi ((hDe p i r7 hpi).2 h)
    refine qa5 (qad fun h2=>?_) r7
    obtain ⟨j,oj,hj,_⟩:=hat (M+e) r7
    have:=(hDe (M+e) j r7 hj).1 (hbef j (hE p (M+e) i j r7 h2 hpi hj))
    omega
   subst hpe
   by_cases hpP:M+e<P
   ·refine(heff (M+e) i o r7 hpP hpi ho g' W a'.eval (hopr r7) hgl hbs).elim (fun h=>.inl (h.mono ?_)) fun ⟨f',args,w',h1,h2⟩=>.inr ⟨f',args,w',h1,h2.mono fun e' w'' h=>?_⟩
    ·rintro v w' ⟨g2,k1,k2,k3,k4,k5,k6⟩
     refine fin hpP (e+1) g2 w' v r7 (fun _=>if he0:pc<M+e then heZ he0 else k6 r7) (fun q j hq1 hq=>⟨fun h=>?_,fun h=>?_⟩) k1 k2 (fun b hb hb'=>?_) (k4.trans hgS) k5
     ·rcases (hD' j).1 h with rfl | h
      ·have:=hnd (M+e) q j hpi hq; omega
      ·have:=(hDe q j hq1 hq).1 h; omega
     ·refine(hD' j).2 ?_
      by_cases hq2:q=M+e
      ·subst hq2; rw[hq] at hpi; exact .inl (by cases hpi; rfl)
      ·exact .inr ((hDe q j hq1 hq).2 r7)
     ·rw[show M+(e+1)=M+e+1 from rfl,k3 b hb (YA hb' (lenM e heP heZ))]; exact hlow b hb hb'
    ·cases e' with
     | returned v=>
      obtain ⟨g2,k1,k2,k3,k4,k5,k6⟩:=h
      refine fin hpP (e+1) g2 w'' v r7 (fun _=>if he0:pc<M+e then heZ he0 else k6 r7) (fun q j hq1 hq=>⟨fun h=>?_,fun h=>?_⟩) k1 k2 (fun b hb hb'=>?_) (k4.trans hgS) k5
      ·rcases (hD' j).1 h with rfl | h
       ·have:=hnd (M+e) q j hpi hq; omega
       ·have:=(hDe q j hq1 hq).1 h; omega
      ·refine(hD' j).2 ?_
       by_cases hq2:q=M+e
       ·subst hq2; rw[hq] at hpi; exact .inl (by cases hpi; rfl)
       ·exact .inr ((hDe q j hq1 hq).2 r7)
      ·rw[show M+(e+1)=M+e+1 from rfl,k3 b hb (YA hb' (lenM e heP heZ))]; exact hlow b hb hb'
     | panicked ch=>exact h.elim
     | outgrown=>exact h.elim
   ·obtain rfl:P=M+e:=by omega
    obtain ⟨H2,y,hky,hst⟩:=hpan i o hpi ho
    have pan:∀ (ch:List PanicEntry) (w':World),(∃ c g2,ch=[{ v:=c,recovered:=false }]/\Rel H2 g2 w0 w'/\Ext (S (M+e)).H g' W H2 g2 w'/\(S (M+e)).H.length<=H2.length/\(∀ b,b<lo->b<(S (M+e)).H.length->H2[b]? = (S (M+e)).H[b]?)/\g2.S=g'.S/\VR H2 g2 w' y c)->Q (.panic ch) a' w':=by
     rintro ch w' ⟨c,g2,rfl,k1,k2,k3,k4,k5,k6⟩
     have hx:=heW.trans k2
     refine hp y ⟨[],H2⟩ g2 a' w' c ⟨⟨k1,fun t=>by rw[show look [] t=.any from rfl,VR]; trivial,fun G vs hG=>(hg.sr.gl G vs hG).ext hx⟩,hg.ext.trans hx,YG hg.len (YG (lenM e heP heZ) k3),fun b hb hb'=>?_,hsz,?_,YG hg.mbw hx.size,k5.trans (hgS.trans hg.st)⟩ k6 hky
     ·have hb2:b<s.H.length:=YA hb' hg.len
      show H2[b]? = _
      rw[k4 b hb (YA hb2 (lenM e heP heZ)),hlow b hb hb2]
      exact hg.low b hb hb'
     ·rw[hdf]; exact hg.dfr.my hx.kept
    refine(hst g' W a'.eval (hopr (Yk _)) hgl hbs).elim (fun h=>.inl (h.mono fun _ _ h=>h.elim)) fun ⟨f',args,w',h1,h2⟩=>.inr ⟨f',args,w',h1,h2.mono fun e' w'' h=>?_⟩
    cases e' with
    | returned v=>exact h.elim
    | panicked ch=>exact pan ch w'' h
    | outgrown=>exact h.elim
 ·rintro D a' W hall hDm ⟨e,g',heP,heZ,hDe,hrW,heW,hlow,hgS,hv1,hv2⟩ hdf hsz
  have hdone:M+e=O.length:=by
   refine qa5 r7 (qad fun hlt=>?_)
   obtain ⟨j,oj,hj,_⟩:=hat (M+e) hlt
   have:=(hDe (M+e) j r7 hj).1 (hall j (hOs _ _ hj))
   omega
  obtain rfl:P=M+e:=r7
  refine fM (f:=f) (ops:=ops) hcall hb0 horc hF hk hp _ (S (M+e)) g' a' W (fun o ho=>hd o (Y0 ho)) ⟨⟨hrW,fun t=>?_,fun G vs hG=>(hg.sr.gl G vs hG).ext heW⟩,hg.ext.trans heW,YG hg.len (lenM e heP heZ),fun b hb hb'=>?_,hsz,by rw[hdf]; exact hg.dfr.my heW.kept,YG hg.mbw heW.size,hgS.trans hg.st⟩ (hend hdone)
  ·by_cases ht:∃ q j:Nat,O[q]? = some j/\cA ops j=some t
   ·obtain ⟨q,j,hq,hjt⟩:=ht
    rw[lookA t q j hq hjt (M+e) (by have:=(Ym.1 hq).1; omega) (Yk _)]
    exact hv1 q j t hq hjt (hall j (hOs q j hq))
   ·rw[lookB t (M+e) (Yk _) fun q j _ hq hjt=>ht ⟨q,j,hq,hjt⟩]
    exact hv2 t fun j hj hjt=>absurd (let ⟨q,hq⟩:=hO j hj; ⟨q,j,hq,hjt⟩) ht
  ·have hb2:b<s.H.length:=YA hb' hg.len
   rw[hlow b hb hb2]; exact hg.low b hb hb'
theorem xV {o:Oper} (h:vY cx o=true):∃ c q,o.op=.call c/\c.callee=.value (.func q)/\cY cx.P q=true/\cx.isOrc q=false/\(cx.cut q≠0∨cx.fre q=true)/\FZ cx o=cx.cut q/\(∀ lo H,FB cx o lo H=bif cx.fre q then H.length else lo):=by
 unfold vY at h
 split at h
 ·rename_i c ho
  split at h
  ·rename_i q hq
   simp only[Yj,Ze,Zb] at h
   refine⟨c,q,ho,hq,h.1.1,h.1.2,h.2.imp (fun h e=>by rw[e] at h; cases h) id,by unfold FZ; rw[ho]; simp only[hq],fun lo H=>by unfold FB; rw[ho]; simp only[hq]⟩
  ·cases h
 ·cases h
theorem qX:∀ {L ps:List Nat},vE ops ps L=true->(∀ k∈ps,∀ i∈L,fG ops i k=true)/\L.Pairwise fun k i=>fG ops i k=true
 | [],ps,_=>⟨fun _ _ _ h=>(by cases h),.nil⟩
 | t :: L,ps,h=>by
  unfold vE at h
  have h1:ps.all (fun p=>fG ops t p)=true:=by cases hh:ps.all (fun p=>fG ops t p)<;>simp_all
  rw[h1] at h
  obtain ⟨h2,h3⟩:=qX (L:=L) (ps:=t :: ps) h
  refine⟨fun k hk i hi=>?_,.cons (fun i hi=>h2 t r9 i hi) h3⟩
  rcases Y1.1 hi with rfl | hi
  ·exact Yw.1 h1 k hk
  ·exact h2 k (by simp[hk]) i hi
theorem rq (p:Nat->Bool) (n:Nat):((List.range n).filter p).Pairwise (· < ·):=List.Pairwise.filter _ List.pairwise_lt_range
theorem wy {α:Type} {R:α->α->Prop} {L:List α} (h:L.Pairwise R) {p q:Nat} {x y:α} (hp:L[p]? = some x) (hq:L[q]? = some y) (hpq:p<q):R x y:=by
 obtain ⟨h1,rfl⟩:=Ym.1 hp
 obtain ⟨h2,rfl⟩:=Ym.1 hq
 exact List.pairwise_iff_getElem.1 h p q h1 h2 hpq
theorem pn {c m:Nat}:∀ {l:List (Nat×A)},uW ops c m l=true->∀ p∈l,fG ops c p.1=false->∀ b,blk? p.2=some b->m<=b
 | [],_,p,hp,_,_,_=>by cases hp
 | q :: l,h,p,hp,hb,b,hbl=>by
  unfold uW at h
  cases hq:fG ops c q.1 with
  | true=>
   rw[hq] at h
   rcases Y1.1 hp with rfl | hp
   ·rw[hq] at hb; cases hb
   ·exact pn h p hp hb b hbl
  | false=>
   rw[hq] at h
   simp only[Yh] at h
   cases hm:jA m q.2 with
   | false=>rw[hm] at h; cases h
   | true=>
    rw[hm] at h
    rcases Y1.1 hp with rfl | hp
    ·unfold jA at hm
     rw[hbl] at hm
     exact YK hm
    ·exact pn h p hp hb b hbl
theorem xv {call:bn} (hcall:dX cx Bs call) (hb0:Bs H0 gs ws) (horc:jV cx) (hF:gV F) (hmx:cx.P.follows .mixedOrders=true) {c:Nat} {k:E->St->Option R} {r:R} {Q:Exit->Act->World->Prop}
  (hg:Good cx N mb lo H0 gs ws w0 s g a w) (hd:∀ o∈ops.toList,∀ d,o.dst=some d->d<N) (h:AR cx call f lo N ops c s k=some r)
  (hk:∀ s' g' a' w',Good cx N mb lo H0 gs ws w0 s' g' a' w'->k .normal s'=some r->Q .normal a' w')
  (hp:∀ x s' g' a' w' c,Good cx N mb lo H0 gs ws w0 s' g' a' w'->VR s'.H g' w' x c->k (.pan x) s'=some r->Q (.panic [{ v:=c,recovered:=false }]) a' w'):LW F n cx.P ops Q a w:=by
 unfold AR at h
 split at h
 ·cases h
 rename_i oc hoc
 obtain ⟨m,hm0,h⟩:=bD h
 have hmt:fA ops m=true:=by
  unfold qN at hm0
  exact List.find?_some hm0
 have hm2:m<=ops.size:=by
  simp only[fA,Yj,Yn] at hmt
  exact hmt.1.1
 obtain ⟨hchk,h⟩:=bu h
 simp only[JE,Yj] at hchk
 obtain ⟨⟨⟨⟨⟨hcg,hcut⟩,jm⟩,hch⟩,hcl⟩,hTm⟩:=hchk
 obtain ⟨SL,xL,seen,hS0,h,_,hL⟩:=xp _ _ _ h
 obtain ⟨cc,q,hop,hcal,hcb,hno,hc0,hcm,hloC⟩:=xV hcut
 let L1:=Bi ops c m
 let T:=qw ops c m
 let M:=L1.length
 have hlt:∀ {i j},fG ops i j=true->j<i:=fun {i j} hb=>nR jm (fW i j hb)
 have memL:∀ {i},i∈L1↔i<m/\i ∉ T:=fun {i}=>by
  simp only[L1,Bi,qa4,YR,Yw,Ze]
  refine and_congr_right fun _=>⟨fun h hi=>?_,fun h j hj=>?_⟩
  ·have:=h i hi; simp at this
  ·cases hb:Nat.beq i j with
   | false=>rfl
   | true=>exact absurd (Yy hb ▸ hj) h
 have hTm:∀ i∈T,i<m:=fun i hi=>YK (Yw.1 hTm i hi)
 have hcl:∀ i∈L1,∀ j∈T,fG ops i j=false:=fun i hi j hj=>by
  have:=Yw.1 (Yw.1 hcl i hi) j hj
  simpa using this
 have hcT:c∈T:=by
  show c∈NH ops c m++c :: _
  simp
 have pwL:L1.Pairwise (· < ·):=rq _ _
 have hch2:=(qX hch).2
 have pwT:T.Pairwise (· < ·):=hch2.imp fun h=>hlt h
 obtain ⟨pt,hpt,hpt2⟩:=Zf hcT
 have hptc:T[pt]? = some c:=by rw[Yg hpt,hpt2]
 let O:=L1++T
 have oL:∀ {p:Nat},p<M->O[p]? = L1[p]?:=fun {p} hp=>YE hp
 have oT:∀ {p:Nat},M<=p->O[p]? = T[p - M]?:=fun {p} hp=>YY hp
 have hOl:O.length=M+T.length:=YF
 have kinds:∀ {p i:Nat},O[p]? = some i->(p<M/\L1[p]? = some i/\i<m/\i ∉ T)∨(M<=p/\T[p - M]? = some i/\i∈T):=fun {p i} hp=>by
  rcases qbr p M with h1 | h1
  ·rw[oL h1] at hp
   exact .inl ⟨h1,hp,memL.1 (YQ hp)⟩
  ·rw[oT h1] at hp
   exact .inr ⟨h1,hp,YQ hp⟩
 have hO:∀ i:Nat,i<m->∃ p:Nat,O[p]? = some i:=fun i hi=>by
  have:i∈O:=by
   show i∈L1++T
   rw[Zz]
   by_cases e:i∈T
   ·exact .inr e
   ·exact .inl (memL.2 ⟨hi,e⟩)
  obtain ⟨p,hp,he⟩:=Zf this
  exact⟨p,by rw[Yg hp,he]⟩
 have hOs:∀ p i:Nat,O[p]? = some i->i<m:=fun p i hp=>by
  rcases kinds hp with ⟨_,_,h,_⟩ | ⟨_,_,h⟩
  ·exact h
  ·exact hTm i h
 have pos:∀ {L:List Nat} {p q i j:Nat},L.Pairwise (· < ·)->L[p]? = some i->L[q]? = some j->j<i->q<p:=fun {L p q i j} pw hp hq hji=>by
  refine ZL fun hle=>?_
  rcases Nat.lt_or_eq_of_le hle with h | h
  ·have:=wy pw hp hq h; omega
  ·subst h; rw[hp] at hq; cases hq; omega
 have inj:∀ {L:List Nat} {p q i:Nat},L.Pairwise (· < ·)->L[p]? = some i->L[q]? = some i->p=q:=fun {L p q i} pw hp hq=>by
  rcases Nat.lt_trichotomy p q with h | h | h
  ·have:=wy pw hp hq h; omega
  ·exact h
  ·have:=wy pw hq hp h; omega
 have hnd:∀ p q i:Nat,O[p]? = some i->O[q]? = some i->p=q:=fun p q i hp hq=>by
  rcases kinds hp with ⟨a1,a2,_,a3⟩ | ⟨a1,a2,a3⟩<;>rcases kinds hq with ⟨b1,b2,_,b3⟩ | ⟨b1,b2,b3⟩
  ·exact inj pwL a2 b2
  ·exact absurd b3 a3
  ·exact absurd a3 b3
  ·have:=inj pwT a2 b2; omega
 have hdep:∀ p q i j:Nat,O[p]? = some i->O[q]? = some j->fG ops i j=true->q<p:=fun p q i j hp hq hb=>by
  have hji:=hlt hb
  rcases kinds hp with ⟨a1,a2,_,a3⟩ | ⟨a1,a2,a3⟩<;>rcases kinds hq with ⟨b1,b2,_,b3⟩ | ⟨b1,b2,b3⟩
  ·exact pos pwL a2 b2 hji
  ·rw[hcl i (YQ a2) j b3] at hb; cases hb
  ·omega
  ·have:=pos pwT a2 b2 hji; omega
 have hE:∀ p q i j:Nat,M<=q->q<p->O[p]? = some i->O[q]? = some j->fG ops i j=true:=fun p q i j hq0 hqp hp hq=>by
  rw[oT r7] at hp; rw[oT hq0] at hq
  exact wy hch2 hq hp r7
 have gL:∀ {p i:Nat} {o:Oper},L1[p]? = some i->ops[i]? = some o->o.guard=none/\(bR o=0∨(bR o=1/\(i,addrOf cx (SL p) o.op)∈seen)∨(bR o=2/\pU (partsOf cx (SL p) o.op)=true))/\hX cx call f o (SL p)=some (xL p)/\SL (p+1)=(SL p).put o.dst (xL p):=fun {p i o} hp ho=>by
  obtain ⟨o',e1,e2⟩:=hL p i hp
  rw[ho] at e1; cases e1
  exact e2
 have hSH:∀ p,p<=M->(SL p).H=s.H:=fun p=>by
  induction p with
  | zero=>intro _; rw[hS0]
  | succ p ih=>
   intro hp
   obtain ⟨i,hi⟩:∃ i,L1[p]? = some i:=⟨_,Yg (by show p<M; omega)⟩
   obtain ⟨o,ho⟩:∃ o,ops[i]? = some o:=⟨_,Zo (YA (memL.1 (YQ hi)).1 hm2)⟩
   rw[(gL hi ho).2.2.2,gy]; exact ih r7
 obtain ⟨ST,xT,PT,hT0,hPT,hT,hTe⟩:=xw (q:=q) (fun o ho s lo' k kp=>by
  rw[hoc] at ho; cases ho
  have hfv:jr cx s oc.op=.fn (.func q) [] []:=by unfold jr; rw[hop]; simp only[hcal]; rfl
  rw[hfv]
  simp only[dA,hcb,hno,Yi,Yh,Zs,Zp]) _ _ h
 have hPT:PT<=T.length:=hPT
 have hT:∀ p i,p<PT->T[p]? = some i->ui cx call f lo ops c q seen i (ST p) (xT p) (ST (p+1)):=hT
 have hT0:ST 0=SL M:=hT0
 let S:Nat->St:=fun p=>if p<=M then SL p else ST (p - M)
 let x:Nat->A:=fun p=>if p<M then xL p else xT (p - M)
 let pc:=M+pt
 have sL:∀ {p},p<=M->S p=SL p:=fun {p} hp=>Yq hp
 have sT:∀ {p},M<=p->S p=ST (p - M):=fun {p} hp=>by
  by_cases h:p<=M
  ·obtain rfl:p=M:=by omega
   rw[sL (Yk _),qbs,hT0]
  ·exact Yp h
 have xL':∀ {p},p<M->x p=xL p:=fun {p} hp=>Yq hp
 have xT':∀ {p},M<=p->x p=xT (p - M):=fun {p} hp=>Yp r7
 have tT:∀ {p i:Nat},M<=p->p<M+PT->O[p]? = some i->ui cx call f lo ops c q seen i (S p) (x p) (S (p+1)):=fun {p i} hp hp2 h1=>by
  rw[oT hp] at h1
  have:=hT _ i r7 h1
  rw[sT hp,xT' hp,sT (show M<=p+1 by omega),show p+1 - M=p - M+1 by omega]
  exact this
 have oC:∀ {p:Nat},O[p]? = some c->p=pc:=fun {p} hp=>hnd p pc c hp (by rw[oT (Z1 _ _),show M+pt - M=pt by omega]; exact hptc)
 have oC':O[pc]? = some c:=by rw[oT (Z1 _ _),show M+pt - M=pt by omega]; exact hptc
 let Z:Prop:=(S pc).H.length<=(S (pc+1)).H.length/\∀ b,b<(S pc).H.length->cx.cut q<=b->(S (pc+1)).H[b]? = (S pc).H[b]?
 have stepB:∀ {p i:Nat},M<=p->p<M+PT->(pc<=p->Z)->O[p]? = some i->(S p).H.length<=(S (p+1)).H.length/\∀ b,b<(S p).H.length->(∀ j a,(j,a)∈seen->blk? a=some b->fJ ops j i->False)∨(S (p+1)).H[b]? = (S p).H[b]?:=fun {p i} hp hp2 hz h1=>by
  obtain ⟨o,H',ho,hs',⟨hic,_,e1,e2⟩ | ⟨rfl,hsn,e2⟩⟩:=tT hp hp2 h1
  ·rw[hs',gy]
   rcases e1 with ⟨e1,e4⟩ | e1
   ·obtain ⟨t1,t2⟩:=qx e1 e2
    refine⟨t1,fun b hb=>?_⟩
    by_cases hc:∀ c,blk? (du cx (S p) o.op)=some c->b≠c
    ·exact .inr (t2 b hb hc)
    ·refine .inl fun j y hj hy hun=>hc fun c hcc e5=>?_
     subst e5
     have:=iy e4 (j,y) hj (by unfold fJ at hun ⊢; rw[Bool.or_comm]; exact hun)
     unfold apart at this
     simp only[hy,hcc,Nat.beq_refl] at this
     cases this
   ·obtain ⟨y,hy⟩:=sf e2 e1
    cases hy
    exact⟨Yk _,fun b _=>.inr rfl⟩
  ·obtain rfl:=oC h1
   have hz:=hz (Yk _)
   refine⟨hz.1,fun b hbl=>?_⟩
   by_cases hb:cx.cut q<=b
   ·exact .inr (hz.2 b hbl hb)
   ·rw[hoc] at ho; cases ho
    rw[hcm] at hsn
    refine .inl fun j y hj hy hun=>hb (pn hsn (j,y) hj ?_ b hy)
    unfold fJ at hun
    rw[Zh] at hun
    exact hun.2
 have atO:∀ p,p<O.length->∃ i,O[p]? = some i:=fun p hp=>⟨_,Yg hp⟩
 have lenE:∀ e,M+e<=M+PT->(pc<M+e->Z)->s.H.length<=(S (M+e)).H.length:=by
  intro e
  induction e with
  | zero=>intro _ _; rw[ZM,sL (Yk _),hSH M (Yk _)]; exact Yk _
  | succ e ih=>
   intro he hz
   obtain ⟨i,hi⟩:=atO (M+e) r7
   exact YG (ih r7 fun h=>hz r7) (stepB r7 r7 (fun h=>hz r7) hi).1
 have post:∀ (st:St) (out:Out) (H2:aB),call q (ff cx st oc.op) st.H (FB cx oc lo st.H)=some (out,H2)->∀ (g':Gh) (W:World) (ev:Operand->Value),tF cx st g' w0 oc.op ev W->(∀ (G:Nat) (vs:List Value),cx.glob G=some vs->bK st.H g' W G 0 vs)->Bs st.H g' W->∃ args w',(execOp ev oc).run cx.P W=.ok (.enter q args) w'/\CallsIn F (n - 1) cx.P q args w' (ia st.H g' w0 W (FB cx oc lo st.H) (out,H2)):=fun st out H2 hcl2 g' W ev ho hgl hbs=>by
  have hce:callee? cx st oc.op=some (q,ff cx st oc.op):=by
   unfold callee? ff
   rw[hop]
   simp only[hcal,cd,hcb,Yi,Zs,Zp]
  obtain ⟨_,cargs,hrun,hv⟩:=kz ho hce
  have hci:CallsIn F.plain (n - 1) cx.P q cargs.toArray W _:=hcall.fn q _ st.H (FB cx oc lo st.H) (out,H2) (jl hcb) hcl2 F.plain (n - 1) g' w0 W cargs hF rfl hbs ho.rel hgl hv
  exact⟨_,_,hrun,hci⟩
 have hlo':∀ (st:St) b,b<lo->b<st.H.length->b<FB cx oc lo st.H:=fun st b h1 h2=>by
  rw[hloC]
  cases cx.fre q with
  | true=>exact h2
  | false=>exact h1
 have hgL:∀ {p i:Nat} {o:Oper},p<M->O[p]? = some i->ops[i]? = some o->L1[p]? = some i:=fun {p i o} hp h1 _=>by rw[<-oL hp]; exact h1
 have hgd:∀ (p i:Nat) (o:Oper),O[p]? = some i->ops[i]? = some o->o.guard=none:=fun p i o hpi ho=>lQ (Yw.1 hcg o (YQ (i:=i) (by rw[YN,Yq (hOs p i hpi),YV]; exact ho)))
 refine Ac (f:=f) hcall hb0 horc hF hmx jm hmt hg hd O M (M+PT) pc S x (Z1 _ _) (Z1 _ _) r7 hO hOs hnd hdep hE (by rw[sL (Yx _),hS0]) (fun p hp=>by rw[sL hp]; exact hSH p hp) hgd (fun p i o hp h1 ho t=>?_) Z (fun p h1 h2 hz=>?_) (fun p i o hp h1 ho e he hze hun=>?_) (fun p i o h1 h2 hpi ho g' W ev hopr hgl hbs=>?_) (fun i o hi ho=>?_) (fun hPe=>?_) hk hp
 ·rcases qbr p M with h2 | h2
  ·rw[sL r7,sL r7,xL' h2,(gL (hgL h2 h1 ho) ho).2.2.2,fY]
  ·obtain ⟨o',H',ho',hs',_⟩:=tT h2 hp h1
   rw[ho] at ho'; cases ho'
   rw[hs',fY]
 ·obtain ⟨i,hi⟩:=atO p r7
  exact(stepB h1 h2 hz hi).1
 ·obtain ⟨_,e1,e2,_⟩:=gL (hgL hp h1 ho) ho
  rw[sL r7,xL' hp]
  have hsi:(⟨(SL p).fr,(SL p).H⟩:St)=SL p:=rfl
  rcases e1 with e1 | ⟨e1,e3⟩ | ⟨e1,e3⟩
  ·rw[su e1 (H':=(SL p).H)]; exact e2
  ·rw[<-vT e1 (H:=(SL p).H) (fun b hb=>?_)]
   ·exact e2
   ·obtain ⟨B,hB⟩:=uC (s:=SL p) e1 e2 hb
    rw[hSH p r7] at hB ⊢
    have hbl:=(Ym.1 hB).1
    clear hsi
    induction e with
    | zero=>rw[ZM,sL (Yk _),hSH M (Yk _)]
    | succ e ih=>
     obtain ⟨j,hj⟩:=atO (M+e) r7
     rcases (stepB r7 r7 (fun h=>hze r7) hj).2 b (YA hbl (lenE e r7 (fun h=>hze r7))) with h4 | h4
     ·exact(h4 i _ e3 hb (hun (M+e) j r7 r7 hj)).elim
     ·rw[show M+(e+1)=M+e+1 from rfl,h4]
      exact ih r7 (fun h=>hze r7) fun q' j' h5 h6 h7=>hun q' j' h5 r7 h7
  ·rw[<-xx e1 e3]; exact e2
 ·obtain ⟨o',H',ho',hs',⟨hic,_,e1,e2⟩ | ⟨hic,hsn,e2⟩⟩:=tT h1 h2 hpi
  ·rw[ho] at ho'; cases ho'
   obtain ⟨c',w',x',H3,g2,k1,k2,k3,k4,k5,k6,k7,k8⟩:=kA hopr e2
   cases k2
   refine .inl (ki k1 ⟨g2,?_,?_,?_,k8,?_,fun e=>(hic (by rw[e,oC'] at hpi; cases hpi; rfl)).elim⟩)
   ·rw[hs',gy]; exact k3
   ·rw[hs',gy]; exact k4
   ·rw[hs',gy]; exact fun b hb hb'=>by first | exact k7 b hb hb' | exact k6 b hb hb'
   ·rw[hs',gy]; first | exact k5 | exact k6
  ·subst hic
   rw[ho] at ho'; cases ho'
   rw[hoc] at ho; cases ho
   obtain rfl:=oC hpi
   obtain ⟨args,w',e1,e3⟩:=post (S pc) _ H' e2 g' W ev hopr hgl hbs
   refine .inr ⟨q,args,w',e1,e3.mono ?_⟩
   rintro e w'' ⟨g2,k1,k2,k3,k4,k6,k5⟩
   rw[hs',gy]
   cases e with
   | returned c'=>
    refine⟨g2,k1,k2,fun b hb hb'=>k4 b (hlo' _ b hb hb') hb',k6,k5,fun _=>⟨by rw[hs',gy]; exact k3,fun b hb hcb'=>?_⟩⟩
    rw[hs',gy]
    cases hfr:cx.fre q with
    | true=>
     refine k4 b ?_ hb
     rw[hloC,hfr]
     exact hb
    | false=>exact(hcall.ct q _ _ _ _ (jl hcb) (hc0.resolve_right (by rw[hfr]; simp)) r7 e2).2 b hcb'
   | panicked _=>exact k5.elim
   | outgrown=>exact k5.elim
 ·rcases hTe with ⟨hTe,_⟩ | ⟨o',y,H2,e0,e1,e2,e3⟩
  ·rw[oT (Z1 _ _),show M+PT - M=PT by omega,hTe,Y7 (Yk _)] at hi
   cases hi
  ·rw[oT (Z1 _ _),show M+PT - M=PT by omega,e0] at hi
   cases hi
   rw[hoc] at ho e1; cases ho; cases e1
   refine⟨H2,y,e3,fun g' W ev hopr hgl hbs=>?_⟩
   rw[sT (Z1 _ _),show M+PT - M=PT by omega] at hopr hgl hbs ⊢
   obtain ⟨args,w',e1,e4⟩:=post (ST PT) _ H2 e2 g' W ev hopr hgl hbs
   refine .inr ⟨q,args,w',e1,e4.mono ?_⟩
   rintro e w'' ⟨g2,k1,k2,k3,k4,k6,k5⟩
   cases e with
   | returned _=>exact k5.elim
   | panicked ch=>
    obtain ⟨c',rfl,hv⟩:=k5
    exact⟨c',g2,rfl,k1,k2,k3,fun b hb hb'=>k4 b (hlo' _ b hb hb') hb',k6,hv⟩
   | outgrown=>exact k5.elim
 ·rcases hTe with ⟨hTe,hkT⟩ | ⟨o',y,H2,e0,_⟩
  ·rw[sT (Z1 _ _),show M+PT - M=PT by omega]
   exact iP _ _ _ hkT
  ·have hl:PT=T.length:=by omega
   have e0':T[PT]? = some c:=e0
   rw[hl,Y7 (Yk _)] at e0'
   cases e0'
end
section
open Go.RowKit
variable {H H':aB} {g g':Gh} {w0 w w':World} {cx:Cx} {s:St} {a:Act} {N lo:Nat} {mb:Mb} {H0:aB} {gs:Gh} {ws:World}
theorem Rel.rng (hr:Rel H g w0 w) {b l:Nat} {st:jW} {r0:Loop} (hB:H[b]? = some (.rng st)) (B':aC) (ko:Option Nat) (o':Obj) (hk:g.mu b=some l) (hw:w.heap[l]? = some (.loop r0))
  (hcase:(∃ st',B'=.rng st'/\ko=some l/\o'=.loop (jv (g.lr b) st'))∨(B'=.dead/\ko=none)) :
  Rel (H.set b B') (g.put b ko (g.ga b)) w0 (w.putObj l o')/\Ext H g w (H.set b B') (g.put b ko (g.ga b)) (w.putObj l o'):=by
 have hlt:b<H.length:=(Ym.1 hB).1
 have hll:l<w.heap.size:=(hr.dom b l hk).2.2
 have hoth:∀ j,j≠l->(w.putObj l o').heap[j]? = w.heap[j]?:=fun j hj=>Zu hj
 have hsz:(w.putObj l o').heap.size=w.heap.size:=r9
 have hkol:∀ k,ko=some k->k=l:=fun k hk'=>by
  rcases hcase with ⟨_,_,h,_⟩ | ⟨_,h⟩<;>rw[h] at hk'<;>cases hk'; rfl
 have he:Ext H g w (H.set b B') (g.put b ko (g.ga b)) (w.putObj l o'):=by
  refine⟨fun k o v hs hc=>?_,fun c C hC=>?_,fun k x h=>(hoth k (fun e=>by subst e; rw[hw] at h; cases h)).trans h,by rw[hsz]; exact Yk _,fun k marr cl hs hm=>?_,fun k _ hn=>hoth k (fun e=>hn b (e ▸ hk)),fun c k h=>?_⟩
  rotate_right 1
  ·by_cases e:c=b
   ·subst e; rw[Gh.bJ] at h; exact .inl ⟨c,(hkol k h) ▸ hk⟩
   ·exact .inl ⟨c,by rwa [Gh.aR _ _ _ e] at h⟩
  ·have hne:k≠l:=fun e=>by
    subst e
    obtain ⟨o1,ho,hc1⟩:=cells_of_cell hc
    rw[hw] at ho; cases ho; cases hc1
   refine⟨(ZU (a:=⟨k,o,none⟩) (hoth k hne)).trans hc,hs.1,fun c hck=>?_⟩
   by_cases e:c=b
   ·subst e; rw[Gh.bJ] at hck; exact absurd (hkol k hck) hne
   ·rw[Gh.aR _ _ _ e] at hck
    obtain ⟨es,els,h1,h2⟩:=hs.2 c hck
    exact⟨es,els,by rw[Yz (Zl e)]; exact h1,h2⟩
  ·by_cases e:c=b
   ·subst e
    rw[hB] at hC; cases hC
    refine⟨B',by rw[YO hlt],?_⟩
    rcases hcase with ⟨st',rfl,rfl,_⟩ | ⟨rfl,_⟩
    ·exact⟨by rw[Gh.bJ,hk],rfl⟩
    ·trivial
   ·refine⟨C,by rw[Yz (Zl e)]; exact hC,?_⟩
    have hne:∀ k,g.mu c=some k->k≠l:=fun k hk' e2=>e (hr.inj c b k hk' (e2 ▸ hk))
    cases C with
    | box _=>exact Gh.aR _ _ _ e
    | row wr es' els'=>cases wr with
     | true=>exact⟨rfl,rfl,Gh.aR _ _ _ e⟩
     | false=>exact⟨rfl,⟨[],by rw[Gh.ft _ _ _ e]; simp⟩,(hr.blk c _ hC).len,Yk _,fun _=>⟨Gh.aR _ _ _ e,fun k arr ty hk' ha=>⟨arr,(hoth k (hne k hk')).trans ha,Yk _⟩⟩⟩
    | rng _=>exact⟨Gh.aR _ _ _ e,rfl⟩
    | mp _ _ _=>exact Gh.aR _ _ _ e
    | dead=>trivial
    | hole=>trivial
  ·have hne:k≠l:=fun e=>by subst e; rw[hw] at hm; cases hm
   refine⟨(hoth k hne).trans hm,hs.1,fun c hck=>?_⟩
   by_cases e:c=b
   ·subst e; rw[Gh.bJ] at hck; exact absurd (hkol k hck) hne
   ·rw[Gh.aR _ _ _ e] at hck
    obtain ⟨es,els,h1,h2⟩:=hs.2 c hck
    exact⟨es,els,by rw[Yz (Zl e)]; exact h1,h2⟩
 refine⟨⟨hr.below.trans ((Below.refl w0.heap.size w).grown (qbx w l _) (hr.below.size) (fun k e=>by cases e; exact(hr.dom b l hk).2.1)),fun c k hck=>?_,fun c d k h1 h2=>?_,hr.Aa he,hr.yk he,fun c C hC=>?_⟩,he⟩
 ·by_cases e:c=b
  ·subst e
   rw[Gh.bJ] at hck
   rw[hkol k hck]
   exact⟨by simpa using hlt,(hr.dom c l hk).2.1,by rw[hsz]; exact hll⟩
  ·rw[Gh.aR _ _ _ e] at hck
   have:=hr.dom c k hck
   exact⟨by simpa using this.1,this.2.1,by rw[hsz]; exact this.2.2⟩
 ·by_cases e:c=b
  ·by_cases e':d=b
   ·rw[e,e']
   ·subst e
    rw[Gh.bJ] at h1
    rw[Gh.aR _ _ _ e'] at h2
    rw[hkol k h1] at h2
    exact hr.inj _ _ l hk h2
  ·by_cases e':d=b
   ·subst e'
    rw[Gh.bJ] at h2
    rw[Gh.aR _ _ _ e] at h1
    rw[hkol k h2] at h1
    exact hr.inj _ _ l h1 hk
   ·rw[Gh.aR _ _ _ e] at h1
    rw[Gh.aR _ _ _ e'] at h2
    exact hr.inj c d k h1 h2
 ·by_cases e:c=b
  ·subst e
   rw[YO hlt] at hC; cases hC
   rcases hcase with ⟨st',rfl,rfl,rfl⟩ | ⟨rfl,rfl⟩
   ·exact⟨l,Gh.bJ _ _ _ _,qaZ hll⟩
   ·exact Gh.bJ _ _ _ _
  ·rw[Yz (Zl e)] at hC
   have h:=hr.blk c C hC
   have hne:∀ k,g.mu c=some k->k≠l:=fun k hk' e2=>e (hr.inj c b k hk' (e2 ▸ hk))
   cases C with
   | box cs=>obtain ⟨k,arr,ty,h1,h2,h3⟩:=h; exact⟨k,arr,ty,(Gh.aR _ _ _ e).trans h1,(hoth k (hne k h1)).trans h2,bE.ext he _ _ h3⟩
   | row wr es' els'=>cases wr with
    | true=>
     obtain ⟨ds,h1,h2,h3⟩:=h
     exact⟨ds,bC.ext he _ _ h1,h2,fun hp=>let ⟨k,arr,ty,e1,e2,e3⟩:=h3 hp; ⟨k,arr,ty,(Gh.aR _ _ _ e).trans e1,(hoth k (hne k e1)).trans e2,e3⟩⟩
    | false=>
     obtain ⟨h1,h2⟩:=h
     refine⟨?_,?_⟩
     ·rw[Gh.ft _ _ _ e]; exact bC.ext he _ _ h1
     ·rw[Gh.ft _ _ _ e]; exact h2
   | rng st=>obtain ⟨k,h1,h2⟩:=h; exact⟨k,(Gh.aR _ _ _ e).trans h1,(hoth k (hne k h1)).trans h2⟩
   | mp _ _ _=>obtain ⟨k,arr,cl,h1,h2,h3,h4⟩:=h; exact⟨k,arr,cl,(Gh.aR _ _ _ e).trans h1,(hoth k (hne k h1)).trans h2,h3,bE.ext he _ _ h4⟩
   | dead=>exact(Gh.aR _ _ _ e).trans h
   | hole=>exact(Gh.aR _ _ _ e).trans h
def Gh.A2 (g:Gh) (b:Nat) (r:Loop):Gh:={ g with lr:=fun c=>if c=b then r else g.lr c }
theorem Rel.A2 (hr:Rel H g w0 w) (r:Loop):Rel H (g.A2 H.length r) w0 w/\Ext H g w H (g.A2 H.length r) w:=by
 have hlr:∀ {c:Nat} {B:aC},H[c]? = some B->(g.A2 H.length r).lr c=g.lr c:=fun {c B} h=>by
  have:=(Ym.1 h).1
  simp only[Gh.A2]; rw[Yp r7]
 have he:Ext H g w H (g.A2 H.length r) w:=by
  refine⟨fun k o v hs hc=>⟨hc,hs⟩,fun b B hB=>⟨B,hB,?_⟩,fun _ _ h=>h,Yk _,fun k arr cl hs hm=>⟨hm,hs⟩,fun _ _ _=>rfl,fun b k h=>.inl ⟨b,h⟩⟩
  cases B with
  | box _=>rfl
  | row wr es els=>cases wr with
   | true=>exact⟨rfl,rfl,rfl⟩
   | false=>exact⟨rfl,⟨[],by simp[Gh.A2]⟩,(hr.blk b _ hB).len,Yk _,fun _=>⟨rfl,fun k arr ty _ ha=>⟨arr,ha,Yk _⟩⟩⟩
  | rng _=>exact⟨rfl,hlr hB⟩
  | mp _ _ _=>rfl
  | dead=>trivial
  | hole=>trivial
 refine⟨⟨hr.below,hr.dom,hr.inj,hr.out,hr.own,fun b B hB=>?_⟩,he⟩
 have h:=hr.blk b B hB
 cases B with
 | box cs=>obtain ⟨k,arr,ty,h1,h2,h3⟩:=h; exact⟨k,arr,ty,h1,h2,bE.ext he _ _ h3⟩
 | row wr es els=>cases wr with
  | true=>obtain ⟨ds,h1,h2,h3⟩:=h; exact⟨ds,bC.ext he _ _ h1,h2,h3⟩
  | false=>exact⟨bC.ext he _ _ h.1,h.2⟩
 | rng st=>obtain ⟨k,h1,h2⟩:=h; exact⟨k,h1,by rw[hlr hB]; exact h2⟩
 | mp _ _ _=>obtain ⟨k,arr,cl,h1,h2,h3,h4⟩:=h; exact⟨k,arr,cl,h1,h2,h3,bE.ext he _ _ h4⟩
 | dead=>exact h
 | hole=>exact h
theorem Rel.begin (hr:Rel H g w0 w) (r:Loop) (hr0:jv r .ready=r) :
  Rel (H++[.rng .ready]) ((g.A2 H.length r).put H.length (some (w.heap.size+1)) []) w0 ((w.alloc (.deferred (some []))).alloc (.loop r)) ∧
  Ext H g w (H++[.rng .ready]) ((g.A2 H.length r).put H.length (some (w.heap.size+1)) []) ((w.alloc (.deferred (some []))).alloc (.loop r)):=by
 have hb1:Below w.heap.size w (w.alloc (.deferred (some []))):=(Below.refl _ w).alloc (Yk _) _
 have r1:=hr.eQ hb1
 have e1:=Ext.below hr hb1
 obtain ⟨r2,e2⟩:=r1.A2 r
 have hs:(w.alloc (.deferred (some []))).heap.size=w.heap.size+1:=r9
 have hb2:Below (w.alloc (.deferred (some []))).heap.size (w.alloc (.deferred (some []))) ((w.alloc (.deferred (some []))).alloc (.loop r)):=(Below.refl _ _).alloc (Yk _) _
 obtain ⟨r3,e3⟩:=r2.push hb2 (.rng .ready) (some (w.heap.size+1)) [] (fun k hk=>by cases hk; exact⟨hs.symm,r9⟩) (fun _=>⟨w.heap.size+1,Gh.bJ _ _ _ _,by
  have:=qa8 (w.alloc (.deferred (some []))) (.loop r)
  rw[hs] at this
  rw[this]
  have:((g.A2 H.length r).put H.length (some (w.heap.size+1)) []).lr H.length=r:=by simp[Gh.put,Gh.A2]
  rw[this,hr0]⟩)
 exact⟨r3,e1.trans (e2.trans e3)⟩
def ER (s:St) (g:Gh) (w:World):E->Exit->Prop
 | .normal,.normal=>True
 | .exit i,.exit j=>i=j
 | .goto i,.goto j=>i=j
 | .ret,.ret=>True
 | .pan x,.panic ch=>∃ c,ch=[{ v:=c,recovered:=false }]/\VR s.H g w x c
 | _,_=>False
def ub (cx:Cx) (lo N:Nat) (Bs:aB->Gh->World->Prop) (F1:St->(E->St->Option R)->Option R) (c:Code):Prop:=
 ∀ (F:Fence) (n:Nat) (mb:Mb) (w0:World) (r:R) (H0:aB) (gs:Gh) (ws:World) (k:E->St->Option R) (Q:Exit->Act->World->Prop) (s:St) (g:Gh) (a:Act) (w:World),gV F->Bs H0 gs ws->Good cx N mb lo H0 gs ws w0 s g a w->F1 s k=some r ->
  (∀ e e' s' g' a' w',Good cx N mb lo H0 gs ws w0 s' g' a' w'->ER s' g' w' e e'->k e s'=some r->Q e' a' w')->c.wpIn F n cx.P Q a w
theorem rR {N:Nat}:∀ {ps:List Nat},xa N ps=true->∀ p∈ps,p<N
 | [],_,p,hp=>by cases hp
 | q :: ps,h,p,hp=>by
  unfold xa at h
  obtain ⟨h1,h2⟩:=DJ h
  rcases Y1.1 hp with rfl | hp
  ·simpa [Nat.blt_eq] using h1
  ·exact rR h2 p hp
theorem Be:∀ (ps:List Nat) (as:List A) (cs:List Value) (fr:List (Nat×A)) (ts:Array Value),(∀ t,VR H g w (look fr t) (ts.getD t undef))->bE H g w as cs->as.length=ps.length->(∀ p∈ps,p<ts.size) ->
  (∀ t,VR H g w (look (Bd ps as fr) t) (((ps.zip cs).foldl (fun ts p=>ts.setIfInBounds p.1 p.2) ts).getD t undef))/\((ps.zip cs).foldl (fun ts p=>ts.setIfInBounds p.1 p.2) ts).size=ts.size
 | [],as,cs,fr,ts,h,_,hl,_=>by
  have:as=[]:=YI hl
  subst this
  exact⟨h,rfl⟩
 | p :: ps,[],cs,fr,ts,h,_,hl,_=>by cases hl
 | p :: ps,x :: as,cs,fr,ts,h,hv,hl,hlt=>by
  rw[bE] at hv
  obtain ⟨d,ds,rfl,h1,h2⟩:=hv
  have hp:=hlt p r9
  have:=Be ps as ds ((p,x) :: fr) (ts.setIfInBounds p d) (fun t=>by
   rw[ez]
   by_cases e:p=t
   ·subst e
    rw[Yq rfl,Zj,qaM hp]
    exact h1
   ·rw[Yp e,Zj,Z4 e,<-Zj]
    exact h t) h2 (by simpa using hl) (fun q hq=>by simpa using hlt q (by simp[hq]))
  exact⟨this.1,by simpa using this.2⟩
theorem yr {β:Type} {H:aB} {b:Nat} {x:Option β} {r:β} (h:JC H b x=some r):H[b]? = some (.rng .ready)/\x=some r:=by
 unfold JC at h
 split at h
 ·rename_i e; exact⟨e,h⟩
 ·cases h
theorem pH {β:Type} {H:aB} {b:Nat} {x:Option β} {r:β} (h:Fz H b x=some r):H[b]? = some (.rng .busy)/\x=some r:=by
 unfold Fz at h
 split at h
 ·rename_i e; exact⟨e,h⟩
 ·cases h
theorem Ext.K4 (he:Ext H g w H' g' w') {b:Nat} {st st':jW} (h:H[b]? = some (.rng st)) (h':H'[b]? = some (.rng st')):g'.mu b=g.mu b/\g'.lr b=g.lr b:=by
 obtain ⟨B',hB',ht⟩:=he.blk b _ h
 rw[h'] at hB'
 cases hB'
 exact ht
theorem yx {Bs:aB->Gh->World->Prop} {F1 F2:St->(E->St->Option R)->Option R} {ps:Array Nat} {asg body:Code} (h1:ub cx lo N Bs F1 asg) (h2:ub cx lo N Bs F2 body) {b lo' l:Nat} {fr:List (Nat×A)} {args:List A} {cargs:List Value} {r:R} {rec0:Loop}
  (hps:xa N ps.toList=true) (hlob:lo<=b) (e1:rec0.params=ps) (e2:rec0.assign=asg) (e3:rec0.body=body) (hsz:rec0.tmps.size=N)
  (h:roundOf F1 F2 lo b ps.toList fr args H lo'=some r) {F:Fence} {n:Nat} (hF:gV F) (hr:Rel H g w0 w) (hbs:Bs H g w) (hgl:∀ (G:Nat) (vs:List Value),cx.glob G=some vs->bK H g w G 0 vs)
  (hfr:∀ t,VR H g w (look fr t) (rec0.tmps.getD t undef)) (hlr:g.lr b=rec0) (hv:bE H g w args cargs) (hmu:g.mu b=some l):YieldAt F n cx.P l cargs.toArray w (ia H g w0 w lo' r):=by
 unfold roundOf at h
 obtain ⟨hc,h⟩:=bu h
 rw[Yj] at hc
 have hlo:lo'<=lo:=by simpa [qaG] using hc.2
 have hlen:args.length=ps.toList.length:=by simpa using hc.1
 obtain ⟨hB,h⟩:=yr h
 have hrecAt:∀ {H2:aB} {g2:Gh} {w2:World} {st:jW},Rel H2 g2 w0 w2->Ext H g w H2 g2 w2->H2[b]? = some (.rng st)->g2.mu b=some l/\g2.lr b=rec0/\w2.heap[l]? = some (.loop (jv rec0 st)):=fun {H2 g2 w2 st} hr2 he2 hB2=>by
  obtain ⟨m1,m2⟩:=he2.K4 hB hB2
  obtain ⟨k,k1,k2⟩:=hr2.blk b _ hB2
  rw[m1,hmu] at k1; cases k1
  rw[m2,hlr] at k2
  exact⟨m1.trans hmu,m2.trans hlr,k2⟩
 obtain ⟨_,_,hw⟩:=hrecAt hr (Ext.refl hr) hB
 have hcl:=hv.length
 have hy:=run_yield (P:=cx.P) (args:=cargs.toArray) hw (by show cargs.toArray.size=rec0.params.size; rw[e1]; simp at hlen ⊢; omega)
 refine⟨_,_,_,_,hy,roundIn_of_wpIn (hF.2.1 _) ?_⟩
 show rec0.assign.wpIn _ _ _ _ _ _
 rw[e2]
 have hfold:(((jv rec0 .ready).params.zip cargs.toArray).foldl (fun tmps (t,a)=>tmps.setIfInBounds t a) (jv rec0 .ready).tmps)=(ps.toList.zip cargs).foldl (fun ts p=>ts.setIfInBounds p.1 p.2) rec0.tmps:=by
  show ((rec0.params.zip cargs.toArray).foldl _ rec0.tmps)=_
  rw[e1,<-qat,Array.toList_zip]
 have hp:=Be ps.toList args cargs fr rec0.tmps hfr hv hlen (fun p hp=>by rw[hsz]; exact rR hps p hp)
 refine h1 (F.inRound l) n ⟨w.heap.size,[],false⟩ w0 r H g w _ _ ⟨Bd ps.toList args fr,H⟩ g _ w hF hbs ⟨⟨hr,fun t=>by
  show VR H g w _ (Array.getD (((jv rec0 .ready).params.zip cargs.toArray).foldl (fun tmps (t,a)=>tmps.setIfInBounds t a) (jv rec0 .ready).tmps) t undef)
  rw[hfold]; exact hp.1 t,hgl⟩,Ext.refl hr,Yk _,fun _ _ _=>rfl,by
  show Array.size (((jv rec0 .ready).params.zip cargs.toArray).foldl (fun tmps (t,a)=>tmps.setIfInBounds t a) (jv rec0 .ready).tmps)=N
  rw[hfold,hp.2,hsz],iJ.start _ _ _ _,Yk _,rfl⟩ h ?_
 intro e e' s2 g2 a2 w2 hg2 he h
 cases e with
 | exit i=>cases h
 | goto i=>cases h
 | ret=>cases h
 | pan x=>cases h
 | normal=>
  cases e' with
  | normal=>
   obtain ⟨hB2,h⟩:=yr h
   obtain ⟨m2,l2,hw2⟩:=hrecAt hg2.sr.rel hg2.ext hB2
   have hbr:=run_beginRound (P:=cx.P) hw2 rfl
   obtain ⟨q1,q2⟩:=hg2.sr.rel.rng hB2 (.rng .busy) (some l) (.loop (jv rec0 .busy)) m2 hw2 (.inl ⟨.busy,rfl,rfl,by rw[l2]⟩)
   refine⟨_,hbr,?_⟩
   have hg3:=hg2.step (dst:=none) (x:=.any) (c:=undef) q1 q2 r9 (nH s2.H _ hlob) rfl X2 (fun d hd=>by cases hd)
   show rec0.body.wpIn _ _ _ _ _ _
   rw[e3]
   refine h2 (F.inRound l) n ⟨w.heap.size,[],false⟩ w0 r H g w _ _ ⟨s2.fr,s2.H.set b (.rng .busy)⟩ _ a2 _ hF hbs hg3 h ?_
   intro e e' s3 g3 a3 w3 hg he h
   have fin:∀ (st:jW) (jump:Option Code) (v:Bool),s3.H[b]? = some (.rng .busy)->jump.isNone=v->jv rec0 st={ jv rec0 .busy with state:=if jump.isNone then .ready else .done,pending:=jump }->r=(.ret (.v (.bool v)),s3.H.set b (.rng st)) ->
     ∃ x W,(Instr.endRound l jump).run cx.P w3=.ok x W/\ia H g w0 w lo' r (.returned x) W:=fun st jump v hB3 hjv hst hrr=>by
    obtain ⟨m3,l3,hw3⟩:=hrecAt hg.sr.rel hg.ext hB3
    have her:=run_endRound (P:=cx.P) jump hw3
    obtain ⟨p1,p2⟩:=hg.sr.rel.rng hB3 (.rng st) (some l) (.loop (jv rec0 st)) m3 hw3 (.inl ⟨st,rfl,rfl,by rw[l3]⟩)
    subst hrr
    rw[<-hst] at her
    refine⟨_,_,her,_,p1,hg.ext.trans p2,by simpa using hg.len,fun c hc hc'=>?_,hg.st,?_⟩
    ·show (s3.H.set b (.rng st))[c]? = _
     rw[Yz r7]
     exact hg.low c r7 hc'
    ·show VR _ _ _ (.v (.bool v)) (.bool jump.isNone)
     rw[VR,hjv]
   cases e with
   | normal=>cases e'<;>first
     | (obtain ⟨hB3,h⟩:=pH h; exact fin .ready none true hB3 rfl rfl (by cases h; rfl))
     | exact he.elim
   | exit i=>cases e'<;>first
     | (obtain rfl:i=_:=he; obtain ⟨hB3,h⟩:=pH h; exact fin (.done (.exit i)) (some (.exit i)) false hB3 rfl rfl (by cases h; rfl))
     | exact he.elim
   | goto i=>cases e'<;>first
     | (obtain rfl:i=_:=he; obtain ⟨hB3,h⟩:=pH h; exact fin (.done (.goto i)) (some (.goto i)) false hB3 rfl rfl (by cases h; rfl))
     | exact he.elim
   | ret=>cases e'<;>first
     | (obtain ⟨hB3,h⟩:=pH h; exact fin (.done .ret) (some .ret) false hB3 rfl rfl (by cases h; rfl))
     | exact he.elim
   | pan x=>cases h
  | _=>exact he.elim
end
section
open Go.RowKit
variable {F:Fence} {n:Nat} {P:Program}
theorem nG {fn:Func} {tmps:Array Value} {R:Ending->World->Prop} {B:Nat} {ds:List Deferred}:∀ (ms:List Deferred) (u:FrameMode) (W:World),u≠.run->Marks B W ms ->
  (∀ W',cq B W W'->(∀ (k:Nat) (o:Loop),W.heap[k]? = some (.loop o)->W'.heap[k]? = some (.loop o))->LeavesInM F n P fn tmps R ds u W')->LeavesInM F n P fn tmps R (ms++ds) u W:=by
 intro ms u
 induction ms with
 | nil=>intro W _ _ h; exact h W (cq.refl _ _) (fun _ _ h=>h)
 | cons d ms ih=>
  rintro W hu ⟨rs,e,h2,h3⟩ h
  match rs,e,h2,h3 with
  | r :: rs,e,h2,h3=>
   cases e
   obtain ⟨hB,hr⟩:=h3 r r9
   refine⟨hu,.inl ⟨r,_,rfl,run_takeDeferred hr,ih _ hu ⟨rs,rfl,(qbv.1 h2).2,fun q hq=>⟨(h3 q (by simp[hq])).1,?_⟩⟩ fun W' hc hl=>?_⟩⟩
   ·have hne:q≠r:=fun e=>(qbv.1 h2).1 (e ▸ hq)
    exact(Zu hne).trans (h3 q (by simp[hq])).2
   ·exact h W' ((cq.putObj _ hB hr rfl).trans hc) (fun k o hk=>hl k o ((Zu (fun e=>by subst e; rw[hr] at hk; cases hk)).trans hk))
theorem Oper.Al {o:Oper} {a:Act} {w:World} {K K':Act->World->Prop} {Q Q':Exit->Act->World->Prop} (hK:∀ a w,K a w->K' a w) (hQ:∀ e a w,e≠.normal->Q e a w->Q' e a w) (h:o.wpIn F n P a w K Q):o.wpIn F n P a w K' Q':=by
 unfold Oper.wpIn at *
 refine⟨h.1,?_⟩
 have hh:=h.2
 have lo:LetsOut Q->LetsOut Q':=fun ⟨a,w,h⟩=>⟨a,w,hQ _ _ _ r9 h⟩
 generalize (o.semAt F.round a.eval).run P w=r at *
 cases r with
 | ok x w'=>
  cases x<;>simp only[Oper.uponIn] at hh ⊢<;>first
   | exact hK _ _ hh
   | exact⟨hh.1,CallsIn.mono hh.2 (fun e w'' he=>by cases e<;>first | exact hK _ _ he | exact hQ _ _ _ r9 he | exact lo he)⟩
   | exact⟨hh.1,RowsIn.mono hh.2 (fun _ _ he=>hK _ _ he)⟩
   | exact⟨hh.1,RoundIn.mono hh.2 (fun e w'' he=>by cases e<;>first | exact hK _ _ he | exact hQ _ _ _ r9 he | exact lo he)⟩
   | exact hh.elim
 | halt x w'=>cases x<;>simp only[Oper.uponIn] at hh ⊢<;>first | exact hQ _ _ _ r9 hh | exact hh.elim
theorem mG {ops:Array Oper} {Q Q':Exit->Act->World->Prop} {os':List Oper} (hQ:∀ e a w,e≠.normal->Q e a w->Q' e a w) (hn:∀ a w,Q .normal a w->wpListIn F n P ops Q' os' a w):∀ (os:List Oper) (a:Act) (w:World),wpListIn F n P ops Q os a w->wpListIn F n P ops Q' (os++os') a w
 | [],a,w,h=>hn a w h
 | o :: os,a,w,h=>by
  rw[Y5]
  unfold wpListIn at h ⊢
  split
  ·rename_i hw; rw[Yq hw] at h; exact Oper.Al (mG hQ hn os) hQ h
  ·rename_i hw; rw[Yp hw] at h; exact⟨h.1,mG hQ hn os _ _ h.2⟩
theorem nL {o:Oper} {d:Nat} (h:mB o=some d):o.dst=some d/\o.guard=none/\∀ (ev:Operand->Value) (w:World),(execOp ev o).run P w=.ok .recover w:=by
 unfold mB at h
 split at h
 ·rename_i c ho
  split at h
  ·rename_i hcal hargs
   cases hg:tQ o with
   | false=>rw[hg] at h; cases h
   | true=>
    rw[hg] at h
    refine⟨h,by unfold tQ at hg; split at hg<;>simp_all,fun ev w=>?_⟩
    unfold execOp
    rw[ho]
    simp[resolve,hcal,invoke,builtin]
  ·cases h
 ·cases h
theorem qQ {Q:Exit->Act->List Frame->World->Prop} {a:Act} {cs cs':List Frame} {w:World} {id d:Nat} {ops:Array Oper} {o:Oper} {os:List Oper} {v:Value} (hl:ops.toList=o :: os) (hd:mB o=some d) (hFa:∀ f,F.fn f) (hro:F.round=none)
  (hrec:recoverD cs=some (v,cs')∨(recoverD cs=none/\cs'=cs/\v=.nilIface)) (h:wpListIn F n P ops (fun e a' w'=>Q e a' cs' w') os (a.put (some d) v) w):(Code.region id ops false).wpSIn F n P Q a cs w:=by
 obtain ⟨hdst,hgd,hrun⟩:=nL (P:=P) hd
 have ho:ops[0]? = some o:=by rw[<-YV,hl]; rfl
 have hlen:cs'.length=cs.length:=by
  rcases hrec with h1 | ⟨_,rfl,_⟩
  ·exact recoverD_length h1
  ·rfl
 intro b k hb hr hFb hroom
 have hw:Region.wanted o (yielded ops a.tmps)=true:=by simp[Region.wanted,hgd]
 have hsz:List.range ops.size=0 :: List.range' 1 os.length:=by
  rw[<-qar,hl,YD,List.range_eq_range',List.range'_succ]
 have h':wpOpsIn F n P ops (fun e a' w'=>Q e a' cs' w') (List.range' 1 os.length) (a.put (some d) v) w:=by
  rw[wpOpsIn_eq_wpListIn os 1 (fun j=>by rw[<-YV,hl,qbo 1 j,qaY])]
  exact h
 obtain ⟨e,a',w',q,harr⟩:=wp_opsIn _ _ _ h' b k cs' (hr.trans hro.symm) hFb (hlen ▸ hroom)
 have i0:(lone (b.atR a (.code (.region id ops false) :: k)) cs w).fenced P F:=qbB hFb hroom rfl
 have i1:(lone (b.atR a (.inRegion ops (0 :: List.range' 1 os.length) :: k)) cs w).fenced P F:=qbV hFb hroom ho (fun f _=>hFa f)
 refine⟨e,a',cs',w',hlen,q,.of_steps (.head i0 (hsz ▸ stepR_region) (.one i1 (qba ?_))) harr⟩
 have hg:=stepGR_op (P:=P) (b:=b) (k:=k) (cs:=cs) (w:=w) (rest:=List.range' 1 os.length) ho hw
 rw[hr,qay] at hg
 have hfin:∀ v,(b.atR a (.inRegion ops (0 :: List.range' 1 os.length) :: k)).finish v=b.atR (a.put o.dst v) (.inRegion ops (List.range' 1 os.length) :: k):=by
  intro v; rw[qbt,ho]; rfl
 have hk:(b.atR a (.inRegion ops (0 :: List.range' 1 os.length) :: k)).kind=.deferred:=hb
 have htr:=qbP hk cs
 rw[hg,<-hdst,<-hfin]
 simp only[Frame.atR,hr] at htr ⊢
 rcases hrec with h1 | ⟨h1,rfl,rfl⟩
 ·simp[stepG.apply,hrun,htr,h1]
 ·simp[stepG.apply,hrun,htr,h1]
theorem lR {ops:Array Oper} {i d j:Nat} {o:Oper} (ho:ops[i]? = some o):(kB ops i d)[j]? = if j=i then some { o with op:=.move (.tmp d) } else ops[j]?:=by
 unfold kB
 rw[ho]
 simp only
 have hi:=(Yo.1 ho).1
 by_cases e:j=i
 ·subst e; rw[Yq rfl]; simp[hi]
 ·rw[Yp e,Z4 (Zl e)]
theorem sW {ops:Array Oper} {i d:Nat}:(kB ops i d).size=ops.size:=by
 unfold kB; split<;>simp
theorem yd {ops:Array Oper} {i d:Nat} {o:Oper} (ho:ops[i]? = some o) (t:Nat):Region.linearise .any (kB ops i d) t=Region.linearise .any ops t:=by
 have key:∀ (fuel t:Nat) (listed:Array Bool) (acc:List Nat),Region.linearise.go .any (kB ops i d) fuel t listed acc=Region.linearise.go .any ops fuel t listed acc:=by
  intro fuel
  induction fuel with
  | zero=>intro t listed acc; rfl
  | succ fuel ih=>
   intro t listed acc
   unfold Region.linearise.go
   simp only[sW,ih]
   have e:∀ j,((kB ops i d)[j]?).map (fun (o:Oper)=>o.after.all fun e=>!Region.binds .any e || listed.getD e.on false)=(ops[j]?).map (fun (o:Oper)=>o.after.all fun e=>!Region.binds .any e || listed.getD e.on false):=fun j=>by
    rw[lR ho]
    split
    ·rename_i h; subst h; rw[ho]; rfl
    ·rfl
   simp only[e]
 unfold Region.linearise
 rw[sW,key]
theorem D3 {ops:Array Oper}:∀ (fuel t:Nat) (listed:Array Bool) (L1:List Nat) (j:Nat) (L2:List Nat),Region.linearise.go .any ops fuel t listed []=L1++j :: L2->∀ (o:Oper) (e:Edge),ops[j]? = some o->e∈o.after->Region.binds .any e=true->listed.getD e.on false=true∨e.on∈L1
 | 0,t,listed,L1,j,L2,h,o,e,ho,he,hb=>by
  simp[Region.linearise.go] at h
 | fuel+1,t,listed,L1,j,L2,h,o,e,ho,he,hb=>by
  simp only[Region.linearise.go] at h
  change (match (Region.ready .any ops listed)[t % (Region.ready .any ops listed).length]? with
   | some i=>Region.linearise.go .any ops fuel (t / (Region.ready .any ops listed).length) (listed.setIfInBounds i true) [i]
   | none=>[].reverse)=_ at h
  split at h
  ·rename_i i hi
   rw[qaH,qah,ZS] at h
   have hrd:=(qau.1 (YQ hi))
   cases L1 with
   | nil=>
    simp only[Zs,Y8] at h
    obtain ⟨rfl,_⟩:=h
    obtain ⟨_,o',ho',hall⟩:=hrd
    rw[ho] at ho'; cases ho'
    exact .inl (hall e he hb)
   | cons x L1=>
    simp only[Y5,Y8] at h
    obtain ⟨rfl,h⟩:=h
    rcases D3 fuel _ _ L1 j L2 h o e ho he hb with h1 | h1
    ·by_cases hx:e.on=i
     ·exact .inr (by rw[hx]; exact ZJ ..)
     ·rw[qak false (Zl hx)] at h1; exact .inl h1
    ·exact .inr (ZD _ h1)
  ·simp at h
theorem D4 {ops:Array Oper} {i0:Nat} {o0:Oper} (ho:ops[i0]? = some o0) (hn:∀ e∈o0.after,Region.binds .any e=true->False):∀ (fuel t:Nat) (listed:Array Bool),listed.size=ops.size->Bq ops listed<=fuel->listed.getD i0 true=false->i0∈Region.linearise.go .any ops fuel t listed []
 | 0,t,listed,hs,hu,hl=>by
  exfalso
  have hi:=(Yo.1 ho).1
  have hmem:i0∈(List.range ops.size).filter (fun i=>!listed.getD i true):=qa4.2 ⟨YR.2 hi,by rw[hl]; rfl⟩
  have:=qag hmem
  unfold Bq at hu; omega
 | fuel+1,t,listed,hs,hu,hl=>by
  have hrd:i0∈Region.ready .any ops listed:=qau.2 ⟨hl,o0,ho,fun e he hb=>(hn e he hb).elim⟩
  have hlen:=qag hrd
  simp only[Region.linearise.go]
  change i0∈(match (Region.ready .any ops listed)[t % (Region.ready .any ops listed).length]? with
   | some i=>Region.linearise.go .any ops fuel (t / (Region.ready .any ops listed).length) (listed.setIfInBounds i true) [i]
   | none=>[].reverse)
  have hlt:t % (Region.ready .any ops listed).length<(Region.ready .any ops listed).length:=qaD _ hlen
  rw[Yg hlt]
  simp only
  rw[qaH,qah,ZS]
  generalize hi:(Region.ready .any ops listed)[t % (Region.ready .any ops listed).length]=i
  have him:i∈Region.ready .any ops listed:=by rw[<-hi]; exact YH _
  obtain ⟨hun,o,hoi,_⟩:=qau.1 him
  have his:i<ops.size:=(Yo.1 hoi).1
  by_cases e:i=i0
  ·rw[e]; exact ZJ ..
  ·refine ZD _ (D4 ho hn fuel _ _ (by simpa using hs) ?_ (by rw[qak true e]; exact hl))
   have:=filter_lt (fun k=>!listed.getD k true) (fun k=>!(listed.setIfInBounds i true).getD k true) (List.range ops.size) (fun x hx hq=>by
    by_cases e:i=x
    ·subst e; rw[hun]; rfl
    ·rw[qak true e] at hq; exact hq) ⟨i,YR.2 his,by rw[hun]; rfl,by simp[hs,his]⟩
   unfold Bq at hu ⊢
   omega
theorem D5 {ops:Array Oper} {i0:Nat}:∀ (fuel t:Nat) (listed:Array Bool),listed.getD i0 true=true->i0 ∉ Region.linearise.go .any ops fuel t listed []
 | 0,t,listed,h,hm=>by simp[Region.linearise.go] at hm
 | fuel+1,t,listed,h,hm=>by
  simp only[Region.linearise.go] at hm
  change i0∈(match (Region.ready .any ops listed)[t % (Region.ready .any ops listed).length]? with
   | some i=>Region.linearise.go .any ops fuel (t / (Region.ready .any ops listed).length) (listed.setIfInBounds i true) [i]
   | none=>[].reverse) at hm
  split at hm
  ·rename_i i hi
   rw[qaH,qah,ZS] at hm
   obtain ⟨hun,_⟩:=qau.1 (YQ hi)
   have hne:i≠i0:=fun e=>by rw[e,h] at hun; cases hun
   rcases Y1.1 hm with hm | hm
   ·exact hne hm.symm
   ·exact D5 fuel _ _ (by rw[qak true hne]; exact h) hm
  ·simp at hm
theorem AW {ops:Array Oper} {i0:Nat}:∀ (fuel t:Nat) (listed:Array Bool) (L1 L2:List Nat),listed.size=ops.size->Region.linearise.go .any ops fuel t listed []=L1++i0 :: L2->i0 ∉ L2
 | 0,t,listed,L1,L2,_,h=>by simp[Region.linearise.go] at h
 | fuel+1,t,listed,L1,L2,hs,h=>by
  simp only[Region.linearise.go] at h
  change (match (Region.ready .any ops listed)[t % (Region.ready .any ops listed).length]? with
   | some i=>Region.linearise.go .any ops fuel (t / (Region.ready .any ops listed).length) (listed.setIfInBounds i true) [i]
   | none=>[].reverse)=_ at h
  split at h
  ·rename_i i hi
   rw[qaH,qah,ZS] at h
   cases L1 with
   | nil=>
    simp only[Zs,Y8] at h
    obtain ⟨rfl,h⟩:=h
    rw[<-h]
    obtain ⟨_,o,ho,_⟩:=qau.1 (YQ hi)
    have:=(Yo.1 ho).1
    exact D5 fuel _ _ (by simp[hs,this])
   | cons x L1=>
    simp only[Y5,Y8] at h
    exact AW fuel _ _ L1 L2 (by simpa using hs) h.2
  ·simp at h
theorem AX {ops:Array Oper}:∀ (fuel t:Nat) (listed:Array Bool) (j:Nat),j∈Region.linearise.go .any ops fuel t listed []->∃ o,ops[j]? = some o
 | 0,t,listed,j,h=>by simp[Region.linearise.go] at h
 | fuel+1,t,listed,j,h=>by
  simp only[Region.linearise.go] at h
  change j∈(match (Region.ready .any ops listed)[t % (Region.ready .any ops listed).length]? with
   | some i=>Region.linearise.go .any ops fuel (t / (Region.ready .any ops listed).length) (listed.setIfInBounds i true) [i]
   | none=>[].reverse) at h
  split at h
  ·rename_i i hi
   rw[qaH,qah,ZS] at h
   obtain ⟨_,o,ho,_⟩:=qau.1 (YQ hi)
   rcases Y1.1 h with h | h
   ·exact⟨o,by rw[h]; exact ho⟩
   ·exact AX fuel _ _ j h
  ·simp at h
theorem ua {ops:Array Oper} {i d:Nat} {o:Oper} (ho:ops[i]? = some o) (tm:Array Value):yielded (kB ops i d) tm=yielded ops tm:=by
 funext j
 have e:((kB ops i d)[j]?).bind (·.dst)=(ops[j]?).bind (·.dst):=by
  rw[lR ho]
  by_cases h:j=i
  ·subst h; rw[Yq rfl,ho]; rfl
  ·rw[Yp h]
 unfold yielded
 rw[e]
theorem jg {ops:Array Oper} {Q:Exit->Act->World->Prop} {i d:Nat} {o:Oper} (ho:ops[i]? = some o):∀ (L:List Nat) (a:Act) (w:World),i ∉ L->wpOpsIn F n P (kB ops i d) Q L a w->wpOpsIn F n P ops Q L a w
 | [],a,w,_,h=>h
 | j :: L,a,w,hn,h=>by
  have hj:j≠i:=fun e=>hn (by rw[e]; exact ZJ ..)
  have hL:i ∉ L:=fun e=>hn (ZD _ e)
  unfold wpOpsIn at h ⊢
  rw[lR ho,Yp hj,ua ho] at h
  cases hoj:ops[j]? with
  | none=>rw[hoj] at h; exact jg ho L a w hL h
  | some oj=>
   rw[hoj] at h
   simp only at h ⊢
   split
   ·rename_i hw; rw[Yq hw] at h; exact Oper.wpIn_mono (fun a w h=>jg ho L a w hL h) h
   ·rename_i hw; rw[Yp hw] at h; exact⟨h.1,jg ho L _ _ hL h.2⟩
theorem Ec {o:Oper} {d:Nat} (h:jM d o=true):o.guard=none/\(∃ e,o.dst=some e/\e≠d)/\∀ (a:Act) (v:Value),execOp (a.put (some d) v).eval o=execOp a.eval o:=by
 unfold jM at h
 simp only[Yj] at h
 obtain ⟨⟨h1,h2⟩,h3⟩:=h
 refine⟨lQ h1,?_,fun a v=>?_⟩
 ·cases hd:o.dst with
  | none=>rw[hd] at h3; cases h3
  | some e=>rw[hd] at h3; exact⟨e,rfl,fun e2=>by subst e2; simp at h3⟩
 ·split at h2
  ·rename_i t x ho
   have hx:x≠d:=fun e=>by subst e; simp at h2
   unfold execOp
   rw[ho]
   simp only[Act.eval_put (a:=a) (dst:=some d) (v:=v) (x:=.tmp x) (fun e he=>by cases he; intro h; cases h; exact hx rfl)]
  ·cases h2
theorem Eb {o:Oper} {d:Nat} (h:jM d o=true) (ev:Operand->Value) (w:World):(∃ y w',(execOp ev o).run P w=.ok (.value y) w')∨(∃ x w',(execOp ev o).run P w=.halt x w'):=by
 unfold jM at h
 simp only[Yj] at h
 obtain ⟨⟨h1,h2⟩,h3⟩:=h
 split at h2
 ·rename_i t x ho
  unfold execOp
  rw[ho]
  simp only
  cases hr:(Instr.loadAt t (ev (.tmp x))).run P w with
  | ok y w'=>exact .inl ⟨y,w',by simp[hr]⟩
  | halt y w'=>exact .inr ⟨y,w',by simp[hr]⟩
 ·cases h2
theorem Bg {Q:Exit->Act->List Frame->World->Prop} {ops:Array Oper} {i0 d:Nat} {o0:Oper} {v:Value} {cs cs':List Frame} (ho:ops[i0]? = some o0) (hd:mB o0=some d) (hFa:∀ f,F.fn f) (hro:F.round=none) (hrec:recoverD cs=some (v,cs')∨(recoverD cs=none/\cs'=cs/\v=.nilIface)) {L2:List Nat} (hL2:i0 ∉ L2):∀ (L1:List Nat) (a:Act) (w:World),(∀ j∈L1,∃ o,ops[j]? = some o/\jM d o=true)->d<a.tmps.size ->
  wpOpsIn F n P (kB ops i0 d) (fun e a' w'=>match e with | .panic _=>False | e=>Q e a' cs' w') (L1++i0 :: L2) (a.put (some d) v) w->∀ (b:Frame) (k:List Item),b.kind=.deferred->b.roundOf=none->F.fn b.fn->F.room (cs.length+1+n) ->
  ∃ e a' cs2 w',cs2.length=cs.length/\Q e a' cs2 w'/\ArrivesIn (Machine.fenced P F) P (lone (b.atR a (.inRegion ops (L1++i0 :: L2) :: k)) cs w) b k cs2 e a' w'
 | [],a,w,hld,hds,h,b,k,hb,hr,hFb,hroom=>by
  obtain ⟨hdst,hgd,hrun⟩:=nL (P:=P) hd
  have hlen:cs'.length=cs.length:=by
   rcases hrec with h1 | ⟨_,rfl,_⟩
   ·exact recoverD_length h1
   ·rfl
  rw[Zs] at h ⊢
  unfold wpOpsIn at h
  rw[lR ho,Yq rfl] at h
  simp only at h
  rw[Yq (by simp[Region.wanted,hgd])] at h
  replace h:=h.2
  rw[hro,qay] at h
  have hev:(execOp (a.put (some d) v).eval { o0 with op:=.move (.tmp d) }).run P w=.ok (.value v) w:=by
   have:(a.put (some d) v).eval (.tmp d)=v:=fz hds
   simp[execOp,this]
  rw[hev,Oper.uponIn_value] at h
  have hpp:(a.put (some d) v).put o0.dst v=a.put (some d) v:=by
   rw[hdst]
   unfold Act.put
   simp
  rw[hpp] at h
  have h':=jg ho L2 _ w hL2 h
  obtain ⟨e,a',w',q,harr⟩:=wp_opsIn _ _ _ h' b k cs' (hr.trans hro.symm) hFb (hlen ▸ hroom)
  have hw:Region.wanted o0 (yielded ops a.tmps)=true:=by simp[Region.wanted,hgd]
  have i1:(lone (b.atR a (.inRegion ops (i0 :: L2) :: k)) cs w).fenced P F:=qbV hFb hroom ho (fun f _=>hFa f)
  have q':Q e a' cs' w':=by cases e<;>first | exact q | exact q.elim
  refine⟨e,a',cs',w',hlen,q',.of_steps (.one i1 (qba ?_)) harr⟩
  have hg:=stepGR_op (P:=P) (b:=b) (k:=k) (cs:=cs) (w:=w) (rest:=L2) ho hw
  rw[hr,qay] at hg
  have hfin:∀ v,(b.atR a (.inRegion ops (i0 :: L2) :: k)).finish v=b.atR (a.put o0.dst v) (.inRegion ops L2 :: k):=by
   intro v; rw[qbt,ho]; rfl
  have hk:(b.atR a (.inRegion ops (i0 :: L2) :: k)).kind=.deferred:=hb
  have htr:=qbP hk cs
  rw[hg,<-hdst,<-hfin]
  simp only[Frame.atR,hr] at htr ⊢
  rcases hrec with h1 | ⟨h1,rfl,rfl⟩
  ·simp[stepG.apply,hrun,htr,h1]
  ·simp[stepG.apply,hrun,htr,h1]
 | j :: L1,a,w,hld,hds,h,b,k,hb,hr,hFb,hroom=>by
  obtain ⟨oj,hoj,hlo⟩:=hld j (ZJ ..)
  obtain ⟨hgd,⟨e0,hde,hne⟩,hsame⟩:=Ec hlo
  have hji:j≠i0:=fun e=>by
   subst e
   rw[ho] at hoj; cases hoj
   unfold mB at hd
   unfold jM at hlo
   split at hd
   ·rename_i c hc; rw[hc] at hlo; simp at hlo
   ·cases hd
  rw[Y5] at h ⊢
  unfold wpOpsIn at h
  rw[lR ho,Yp hji,hoj] at h
  simp only at h
  rw[Yq (by simp[Region.wanted,hgd])] at h
  replace h:=h.2
  rw[hro,qay,hsame] at h
  have hw:Region.wanted oj (yielded ops a.tmps)=true:=by simp[Region.wanted,hgd]
  rcases Eb (P:=P) hlo a.eval w with ⟨y,w1,hrun⟩ | ⟨x,w1,hrun⟩
  ·rw[hrun,Oper.uponIn_value,hde,Act.put_comm a v y (fun e he=>by cases he; intro h; cases h; exact hne rfl),<-hde] at h
   obtain ⟨e,a',cs2,w2,hl2,q,harr⟩:=Bg ho hd hFa hro hrec hL2 L1 (a.put oj.dst y) w1 (fun j hj=>hld j (ZD _ hj)) (by rw[Act.p3]; exact hds) h b k hb hr hFb hroom
   have i1:(lone (b.atR a (.inRegion ops (j :: (L1++i0 :: L2)) :: k)) cs w).fenced P F:=qbV hFb hroom hoj (fun f _=>hFa f)
   refine⟨e,a',cs2,w2,hl2,q,.of_steps (.one i1 (qba ?_)) harr⟩
   have hg:=stepGR_op (P:=P) (b:=b) (k:=k) (cs:=cs) (w:=w) (rest:=L1++i0 :: L2) hoj hw
   rw[hr,qay] at hg
   have hfin:∀ v,(b.atR a (.inRegion ops (j :: (L1++i0 :: L2)) :: k)).finish v=b.atR (a.put oj.dst v) (.inRegion ops (L1++i0 :: L2) :: k):=by
    intro v; rw[qbt,hoj]; rfl
   rw[hg,<-hfin]
   simp[stepG.apply,hrun]
  ·rw[hrun] at h
   cases x<;>exact h.elim
theorem qa {Q:Exit->Act->List Frame->World->Prop} {a:Act} {cs cs':List Frame} {w:World} {id i0 d:Nat} {ops:Array Oper} {o0:Oper} {v:Value} (hm:P.follows .mixedOrders=true) (ho:ops[i0]? = some o0) (hd:mB o0=some d) (hna:o0.after=#[]) (hok:JD ops i0 d=true) (hFa:∀ f,F.fn f) (hro:F.round=none) (hds:d<a.tmps.size)
  (hrec:recoverD cs=some (v,cs')∨(recoverD cs=none/\cs'=cs/\v=.nilIface)) (h:LW F n P (kB ops i0 d) (fun e a' w'=>match e with | .panic _=>False | e=>Q e a' cs' w') (a.put (some d) v) w):(Code.region id ops true).wpSIn F n P Q a cs w:=by
 intro b k hb hr hFb hroom
 have h:=h (w.tape w.drawn (.order b.fn id))
 have hs:∀ (ops:Array Oper) t,Region.schedule (P.follows .mixedOrders) ops t=Region.linearise.go .any ops ops.size t (Array.replicate ops.size false) []:=fun ops t=>by
  simp only[Region.schedule,hm,qbR,qas]; rfl
 have hsz:(Array.replicate ops.size false).size=ops.size:=r9
 have hrep:∀ i,(Array.replicate ops.size false).getD i false=false:=fun i=>by
  by_cases hi:i<ops.size<;>simp[hi]
 have hi0:=(Yo.1 ho).1
 have i0l:(lone (b.atR a (.code (.region id ops true) :: k)) cs w).fenced P F:=qbB hFb hroom rfl
 have hL:=hs ops (w.tape w.drawn (.order b.fn id))
 have hL':Region.schedule (P.follows .mixedOrders) (kB ops i0 d) (w.tape w.drawn (.order b.fn id))=Region.schedule (P.follows .mixedOrders) ops (w.tape w.drawn (.order b.fn id)):=by
  have:=yd (d:=d) ho (w.tape w.drawn (.order b.fn id))
  simp only[Region.schedule,hm,qbR,qas]
  exact this
 rw[hL'] at h
 have hmem:i0∈Region.schedule (P.follows .mixedOrders) ops (w.tape w.drawn (.order b.fn id)):=by
  rw[hL]
  refine D4 ho (fun e he _=>by rw[hna] at he; simp at he) _ _ _ hsz ?_ (by simp[hi0])
  unfold Bq
  exact YG (qa1 _ _) r9
 obtain ⟨L1,L2,hLe,hn1⟩:=List.eq_append_cons_of_mem hmem
 have hn2:i0 ∉ L2:=AW _ _ _ L1 L2 hsz (hL ▸ hLe)
 have hgo:Region.linearise.go .any ops ops.size (w.tape w.drawn (.order b.fn id)) (Array.replicate ops.size false) []=L1++i0 :: L2:=hL ▸ hLe
 have hload:∀ (p:Nat) (j:Nat),L1[p]? = some j->∃ o,ops[j]? = some o/\jM d o=true:=by
  intro p
  induction p using Nat.strongRecOn with
  | _ p ih=>
   intro j hp
   have hjm:j∈L1:=YQ hp
   obtain ⟨o,hoj⟩:=AX _ _ _ j (hgo ▸ List.mem_append_left _ hjm)
   have hjs:=(Yo.1 hoj).1
   have hck:=Yw.1 hok j (YR.2 hjs)
   rw[hoj] at hck
   simp only[Zb] at hck
   rcases hck with h1 | h1 | h1
   ·exact absurd (Yy h1 ▸ hjm) hn1
   ·exact⟨o,hoj,h1⟩
   ·exfalso
    obtain ⟨q,hq1,hq2⟩:=Array.any_eq_true.1 h1
    rw[Yj,Ze] at hq2
    obtain ⟨hp1,hpe⟩:=Ym.1 hp
    have hsplit:L1++i0 :: L2=L1.take p++j :: (L1.drop (p+1)++i0 :: L2):=by
     rw[<-Y5,<-hpe,<-Yt hp1,<-Za,ZH]
    rcases D3 _ _ _ (L1.take p) j _ (hgo.trans hsplit) o o.after[q] hoj (Array.getElem_mem _) hq2.1 with h2 | h2
    ·rw[hrep] at h2; cases h2
    ·obtain ⟨x,hx,hxe⟩:=Zf h2
     rw[List.getElem_take] at hxe
     have hxp:x<p:=by rw[Zq] at hx; omega
     obtain ⟨o',ho',hl'⟩:=ih x hxp o.after[q].on (by rw[<-hxe]; exact Yg _)
     unfold xX at hq2
     rw[ho'] at hq2
     simp only at hq2
     rw[hl'] at hq2
     exact absurd hq2.2 r9
 rw[hLe] at h
 obtain ⟨e,a',cs2,w2,hl,q,harr⟩:=Bg ho hd hFa hro hrec hn2 L1 a _ (fun j hj=>by
  obtain ⟨p,hp,hpe⟩:=Zf hj
  exact hload p j (by rw[<-hpe]; exact Yg hp)) hds h b k hb hr hFb hroom
 refine⟨e,a',cs2,w2,hl,q,.of_steps (.one i0l ?_) harr⟩
 rw[<-hLe]
 exact stepR_region_draw
end
section
open Go.RowKit
variable {H H':aB} {g g':Gh} {w0 w w':World} {cx:Cx} {s:St} {a:Act} {F:Fence} {n:Nat} {N lo:Nat} {mb:Mb} {H0:aB} {gs:Gh} {ws:World}
theorem lM (fr:List (Nat×A)) (keep:List Nat) (t:Nat):look (keep.map fun t=>(t,look fr t)) t=look fr t∨look (keep.map fun t=>(t,look fr t)) t=.any:=by
 induction keep with
 | nil=>exact .inr rfl
 | cons u ks ih=>
  rw[Zc,ez]
  split
  ·rename_i e; rw[e]; exact .inl rfl
  ·exact ih
theorem wg (fr:List (Nat×A)) (keep:List Nat) (t:Nat) (ht:look (keep.map fun t=>(t,look fr t)) t≠.any):t∈keep:=by
 induction keep with
 | nil=>exact absurd rfl ht
 | cons u ks ih=>
  rw[Zc,ez] at ht
  split at ht
  ·rename_i e; subst e; simp
  ·exact ZD _ (ih ht)
theorem Good.dM (hg:Good cx N mb lo H0 gs ws w0 s g a w) {keep:List Nat}:Good cx N mb lo H0 gs ws w0 (dM keep s) g a w:=
 ⟨⟨hg.sr.rel,fun t=>by
  show VR s.H g w (look (keep.map fun t=>(t,look s.fr t)) t) _
  rcases lM s.fr keep t with h | h
  ·rw[h]; exact hg.sr.fr t
  ·rw[h,VR]; trivial,hg.sr.gl⟩,hg.ext,hg.len,hg.low,hg.siz,hg.dfr,hg.mbw,hg.st⟩
theorem Good.EO (hg:Good cx N mb lo H0 gs ws w0 s g a w) {keep:List Nat} {L:Nat} (hL:H0.length<=L) (hLs:L<=s.H.length) {k:St->Option R} {r:R} (h:ye keep L s k=some r):∃ s' g',k s'=some r/\Good cx N mb lo H0 gs ws w0 s' g' a w/\s'.H.length=L:=by
 unfold ye at h
 obtain ⟨H',h1,h⟩:=bD h
 obtain ⟨h2,h⟩:=bu h
 have lM:=lM s.fr keep
 have wg:=wg s.fr keep
 unfold trim at h1
 rw[bF] at h1
 split at h1
 ·rename_i hl
  have hl:s.H.length=L:=by simpa using hl
  cases h1
  refine⟨_,g,h,⟨⟨hg.sr.rel,fun t=>?_,hg.sr.gl⟩,hg.ext,hg.len,hg.low,hg.siz,hg.dfr,hg.mbw,hg.st⟩,hl⟩
  rcases lM t with h | h
  ·rw[h]; exact hg.sr.fr t
  ·rw[h,VR]; trivial
 ·rename_i hl
  obtain ⟨hall,h1⟩:=bu h1
  cases h1
  have hl:¬ s.H.length=L:=by simpa using hl
  have hk:keep.all (fun t=>A.under L (look s.fr t))=true:=by
   have hb:Nat.beq s.H.length L=false:=by
    cases hb:Nat.beq s.H.length L with
    | true=>exact absurd (Yy hb) hl
    | false=>rfl
   rw[hb] at h2
   exact nE _ _ _ h2
  have hu:∀ (b:Nat) B,b<L->s.H[b]? = some B->B.under L=true:=fun b B hb hB=>by
   refine Yw.1 hall B (YQ (i:=b) ?_)
   rw[YN,Yq hb]; exact hB
  obtain ⟨r1,ag⟩:=hg.sr.rel.cut hLs hu
  refine⟨_,g.cut L,h,⟨⟨r1,fun t=>?_,fun G vs hG=>(hg.sr.gl G vs hG).to ag⟩,hg.ext.cut hL,XX,fun b hb hb'=>by rw[YN,Yq r7]; exact hg.low b hb hb',hg.siz,hg.dfr,hg.mbw,hg.st⟩,XX⟩
  rcases lM t with h | h
  ·rw[h]
   by_cases hany:look s.fr t=.any
   ·rw[hany,VR]; trivial
   ·have htk:=wg t (by rw[h]; exact hany)
    exact VR.to ag _ _ (Yw.1 hk t htk) (hg.sr.fr t)
  ·rw[h,VR]; trivial
theorem sE (lo:Nat):∀ (ps:List (Nat×Nat×Nat)) {s:St} {g:Gh},Good cx N mb lo H0 gs ws w0 s g a w->∃ g',Good cx N mb lo H0 gs ws w0 (en lo (zG ps) s) g' a w/\(en lo (zG ps) s).H.length=s.H.length
 | [],s,g,h=>⟨g,h,rfl⟩
 | p :: ps,s,g,h=>by
  unfold zG
  split
  ·rename_i he
   obtain ⟨g',h1,_,h2⟩:=h.oB p
   obtain ⟨g'',h3,h4⟩:=sE lo ps h1
   exact⟨g'',h3,h4.trans (h2 he)⟩
  ·exact sE lo ps h
theorem Good.norm (hg:Good cx N mb lo H0 gs ws w0 s g a w) {keep:List Nat} {acts:List (Nat×Nat×Nat)} {n L:Nat} (hL:H0.length<=n) (hnL:n<=L) (hr:yy acts≠none->n+1<=L) (hLs:L<=s.H.length) {k:St->Option R} {r:R} (h:EN lo keep acts L s k=some r):∃ s' g',k s'=some r/\Good cx N mb lo H0 gs ws w0 s' g' a w/\s'.H.length=L:=by
 obtain ⟨g',h1,h2⟩:=sE lo acts hg
 unfold EN at h
 split at h
 ·exact h1.EO r7 r7 h
 ·rename_i p hp
  have hr:n+1<=L:=hr (by rw[hp]; exact Option.some_ne_none p)
  unfold Jw at h
  rw[bF] at h
  split at h
  ·obtain ⟨s2,g2,h3,h4,h5⟩:=h1.EO (L:=L - 1) r7 r7 h
   obtain ⟨h6,h3⟩:=bu h3
   obtain ⟨g3,h7,_,_⟩:=h4.oB p
   exact⟨_,g3,h3,h7.dM,Yy h6⟩
  ·exact h1.EO r7 r7 h
theorem qE {p:Prop} {a b:Code} (h:p∨(jJ a&&jJ b)=true):(p∨jJ a=true)/\(p∨jJ b=true):=by
 rcases h with h | h
 ·exact⟨.inl h,.inl h⟩
 ·rw[Yj] at h; exact⟨.inr h.1,.inr h.2⟩
def rv (cx:Cx) (rg:bn->bn):Prop:=∀ (Bs:aB->Gh->World->Prop) (base:bn),pz cx Bs base->dX cx Bs (rg base)
theorem BS {P:Program} {x:A} {v:Value} {gf:Nat} {cap:List A} (h:Ge P x=some (gf,cap)) (hv:VR H g w x v):cY P gf=true/\∃ es:Array Value,v=.func (.func gf) #[] es/\bE H g w cap es.toList:=by
 unfold Ge at h
 split at h
 ·obtain ⟨h1,h⟩:=bu h
  cases h
  rw[VR] at hv
  obtain ⟨ds,es,e1,e2,e3⟩:=hv
  rw[bE] at e2
  have:ds=#[]:=by apply Z6; simpa using e2
  subst this
  exact⟨h1,es,e1,e3⟩
 ·cases h
theorem pJ {P:Program} {k:Nat} (hk:cY P k=true) (args:Array Value) (w:World):(callFunc k args).run P w=.ok (.enter k args) w:=by
 unfold cY at hk
 cases hf:P.funcs[k]? with
 | none=>rw[hf] at hk; cases hk
 | some fn=>
  rw[hf] at hk
  simp only[Yj,Ze] at hk
  have h1:¬ fn.body=none:=by intro hb; rw[hb] at hk; simp at hk
  have h2:¬ fn.name = "runtime.NumGoroutine" := by simpa using hk.2
  simp[callFunc,program,Sem.run,hf,h1,h2]
theorem g9 {P:Program} {b:Frame} {a:Act} {k:List Item} {cs:List Frame} {w:World} {c:Code}:step P (lone (b.atR a (.code (.scope c) :: k)) cs w)=.next (lone (b.atR a (.code c :: .inScope c :: k)) cs w):=
 qba (by simp[stepG,stepG.exec,Frame.atR])
theorem tV {P:Program} {b:Frame} {a:Act} {k:List Item} {cs:List Frame} {w:World} {c:Code}:step P (lone (b.atR a (.inScope c :: k)) cs w)=.next (lone (b.atR a k) cs w):=
 qba (by simp[stepG,stepG.exec,Frame.atR])
theorem Am {F:Fence} {n:Nat} {P:Program} {a:Act} {w:World} {Q:Exit->Act->World->Prop} {c:Code} (h:c.wpIn F n P (fun e a w=>match e with | .goto _=>False | e=>Q e a w) a w):(Code.scope c).wpIn F n P Q a w:=by
 intro b k cs hro hb hr
 have h0:(lone (b.atR a (.code (.scope c) :: k)) cs w).fenced P F:=qbB hb hr rfl
 obtain ⟨e,a₁,w₁,hq,harr⟩:=h b (.inScope c :: k) cs hro hb hr
 cases e with
 | normal=>exact⟨.normal,a₁,w₁,hq,.head h0 g9 (StepsIn.trans harr (.one (qbB hb hr rfl) tV))⟩
 | exit id'=>
  have hx:exitTo id' (.inScope c :: k)=exitTo id' k:=by simp[exitTo]
  exact⟨.exit id',a₁,w₁,hq,fun k' hk=>.head h0 g9 (harr.1 k' (by rw[hx]; exact hk)),
   fun hr' hk=>let ⟨k₁,h1,h2⟩:=harr.2 hr' (by rw[hx]; exact hk); ⟨k₁,h1,.head h0 g9 h2⟩⟩
 | goto l=>exact hq.elim
 | ret=>exact⟨_,a₁,w₁,hq,.of_steps (.one h0 g9) harr⟩
 | panic ch=>exact⟨_,a₁,w₁,hq,.of_steps (.one h0 g9) harr⟩
 | outgrown=>exact⟨_,a₁,w₁,hq,.of_steps (.one h0 g9) harr⟩
theorem pQ {Bs:aB->Gh->World->Prop} {call:bn} (hcall:dX cx Bs call) (hb0:Bs H0 gs ws) (horc:jV cx) {F:Fence} {n:Nat} (hF:gV F) (hmx:cx.P.follows .mixedOrders=true) {f:Nat} {ops:Array Oper} {k:E->St->Option R} {r:R} {Q:Exit->Act->World->Prop}
  (hg:Good cx N mb lo H0 gs ws w0 s g a w) (h:vQ cx call f lo N ops s k=some r)
  (hk:∀ s' g' a' w',Good cx N mb lo H0 gs ws w0 s' g' a' w'->k .normal s'=some r->Q .normal a' w')
  (hp:∀ x s' g' a' w' c,Good cx N mb lo H0 gs ws w0 s' g' a' w'->VR s'.H g' w' x c->k (.pan x) s'=some r->Q (.panic [{ v:=c,recovered:=false }]) a' w'):LW F n cx.P ops Q a w:=by
 unfold vQ at h
 obtain ⟨hd,h⟩:=bu h
 have hd':∀ o∈ops.toList,∀ d,o.dst=some d->d<N:=fun o ho d hod=>by
  have:=Yw.1 hd o ho
  rw[hod] at this; simpa using this
 cases hci:Kg cx ops with
 | some c=>
  rw[hci] at h
  exact(xv (f:=f) hcall hb0 horc hF hmx hg hd' h hk hp)
 | none=>
 rw[hci] at h
 replace h:=bu h
 obtain ⟨jm,h⟩:=h
 replace h:=bD h
 obtain ⟨m,hm,h⟩:=h
 have hmt:fA ops m=true:=by
  unfold qN at hm
  exact List.find?_some hm
 rw[bF] at h
 split at h
 ·have htk:∀ j o,(ops.toList.take m)[j]? = some o->ops[0+j]? = some o:=fun j o ho=>by
   rw[YN] at ho
   split at ho
   ·rw[Y9]; rw[YV] at ho; exact ho
   ·cases ho
  have hm2:m<=ops.size:=by
   simp only[fA,Yj,Yn] at hmt
   exact hmt.1.1
  have htl:(ops.toList.take m).length=m:=by rw[Zq]; simp; omega
  rw[bF] at h
  split at h
  ·rename_i hch
   exact(om (f:=f) (m:=m) hcall hb0 horc hF hmx jm hmt (fun i j h1 h2 h3 h4 _ _=>zq hch h1 h2 h3 h4) LF.none hg hd' (fun s h=>iP _ _ _ h) h hk hp)
  obtain ⟨hch,h⟩:=bu h
  obtain ⟨fl,H1,h,hfl,_,hno⟩:=oD (ops:=ops) (m:=m) (ops.toList.take m) 0 s.H _ htk r7 h
  have hnf:∀ {i},i<m->cZ i fl=none->sM cx f ops i=false:=fun {i} hi hn=>hno i hn (Yx _) r7
  exact(om (f:=f) (m:=m) hcall hb0 horc hF hmx jm hmt (fun i j h1 h2 h3 h4 h5 h6=>xh hch h1 h2 h3 h4 (hnf r7 h5) (hnf h1 h6)) hfl hg hd' (fun s h=>iP _ _ _ h) h hk hp)
 exact(vO (f:=f) (m:=m) hcall hb0 horc hF hmx jm hmt hg hd' (oK (fun s h=>iP _ _ _ h) (qA _ _ _ h)) hk hp)
theorem dI {Bs:aB->Gh->World->Prop} {call:bn} {rg:bn->bn} (hcall:dX cx Bs call) (hrg:rv cx rg) (horc:jV cx) (hmx:cx.P.follows .mixedOrders=true) {nf f:Nat}:∀ (c:Code) (F:Fence) (n:Nat) (mb:Mb) (w0:World) (r:R) (H0:aB) (gs:Gh) (ws:World) (k:E->St->Option R) (Q:Exit->Act->World->Prop) (s:St) (g:Gh) (a:Act) (w:World),gV F->((F.round=none/\mb.free=true)∨jJ c=true)->Bs H0 gs ws->Good cx N mb lo H0 gs ws w0 s g a w->ot cx call rg nf f lo N c s k=some r ->
  (∀ e e' s' g' a' w',Good cx N mb lo H0 gs ws w0 s' g' a' w'->ER s' g' w' e e'->k e s'=some r->Q e' a' w')->c.wpIn F n cx.P Q a w
 | .skip,F,n,mb,w0,r,H0,gs,ws,k,Q,s,g,a,w,hF,hro,hb0,hg,h,hk=>wpIn_skip (hk .normal .normal _ _ _ _ hg trivial h)
 | .label l,F,n,mb,w0,r,H0,gs,ws,k,Q,s,g,a,w,hF,hro,hb0,hg,h,hk=>wpIn_label (hk .normal .normal _ _ _ _ hg trivial h)
 | .region id ops draw,F,n,mb,w0,r,H0,gs,ws,k,Q,s,g,a,w,hF,hro,hb0,hg,h,hk=>by
  rw[ot] at h
  obtain ⟨s,g1,hg,h⟩:=Good.Jg _ hg h
  replace h:=bu h
  obtain ⟨hd,h⟩:=h
  have hd':∀ o∈ops.toList,∀ d,o.dst=some d->d<N:=fun o ho d hod=>by
   have:=Yw.1 hd o ho
   rw[hod] at this; simpa using this
  cases draw with
  | false=>
   exact wpIn_region_list (fM (f:=f) (ops:=ops) hcall hb0 horc hF (fun s' g' a' w' hg' h'=>hk .normal .normal _ _ _ _ hg' trivial h') (fun x s' g' a' w' c hg' hv h'=>hk (.pan x) (.panic _) _ _ _ _ hg' ⟨c,rfl,hv⟩ h') _ s g1 a w hd' hg (iP _ _ _ h))
  | true=>
   simp only[Yi] at h
   refine(pQ (f:=f) hcall hb0 horc hF hmx hg (k:=k) ?_ (fun s' g' a' w' hg' h'=>hk .normal .normal _ _ _ _ hg' trivial h') (fun x s' g' a' w' c hg' hv h'=>hk (.pan x) (.panic _) _ _ _ _ hg' ⟨c,rfl,hv⟩ h')).wpIn
   unfold vQ
   rw[hd]
   exact h
 | .seq x y,F,n,mb,w0,r,H0,gs,ws,k,Q,s,g,a,w,hF,hro,hb0,hg,h,hk=>by
  rw[ot] at h
  cases hj:cx.join f (v9 x) with
  | cons j js=>
   rw[hj] at h
   obtain ⟨r0,h0,h⟩:=bD (show ((ot cx call rg nf f lo N x s (Jf (j :: js))).bind fun r=>NR r fun l H=>HS (j :: js) l fun fr=>ot cx call rg nf f lo N y ⟨fr,H⟩ k)=some r from h)
   refine qbX (dI hcall hrg horc hmx x F n mb w0 r0 H0 gs ws _ _ s g a w hF (qE hro).1 hb0 hg h0 fun e e' s' g' a' w' hg' he h'=>?_)
   cases e with
   | normal=>
    have hr:(Out.ret (.tup ((j :: js).map (look s'.fr))),s'.H)=r0:=Option.some.inj h'
    subst hr
    have h2:HS (j :: js) ((j :: js).map (look s'.fr)) (fun fr=>ot cx call rg nf f lo N y ⟨fr,s'.H⟩ k)=some r:=h
    rw[Bp] at h2
    cases e'<;>first
     | exact dI hcall hrg horc hmx y F n mb w0 r H0 gs ws k Q (dM (j :: js) s') g' a' w' hF (qE hro).2 hb0 hg'.dM h2 hk
     | exact he.elim
   | _=>cases h'
  | nil=>
  rw[hj] at h
  replace h:ot cx call rg nf f lo N x s (fun e s'=>match e with | .normal=>ot cx call rg nf f lo N y s' k | e=>k e s')=some r:=h
  refine qbX (dI hcall hrg horc hmx x F n mb w0 r H0 gs ws _ _ s g a w hF (qE hro).1 hb0 hg h fun e e' s' g' a' w' hg' he h'=>?_)
  cases e with
  | normal=>cases e'<;>first
    | exact dI hcall hrg horc hmx y F n mb w0 r H0 gs ws k Q s' g' a' w' hF (qE hro).2 hb0 hg' h' hk
    | exact he.elim
  | exit i=>cases e'<;>first
    | exact hk _ _ _ _ _ _ hg' he h'
    | exact he.elim
  | goto i=>cases e'<;>first
    | exact hk _ _ _ _ _ _ hg' he h'
    | exact he.elim
  | ret=>cases e'<;>first
    | exact hk _ _ _ _ _ _ hg' he h'
    | exact he.elim
  | pan x=>cases e'<;>first
    | exact hk _ _ _ _ _ _ hg' he h'
    | exact he.elim
 | .cond c x y,F,n,mb,w0,r,H0,gs,ws,k,Q,s,g,a,w,hF,hro,hb0,hg,h,hk=>by
  rw[ot] at h
  obtain ⟨b,hv,h⟩:=BG h (pf (x:=c) (fun t _=>hg.sr.fr t) hg.sr.gl)
  refine wpIn_cond hv ?_
  cases b
  ·exact dI hcall hrg horc hmx y F n mb w0 r H0 gs ws k Q s g a w hF (qE hro).2 hb0 hg h hk
  ·exact dI hcall hrg horc hmx x F n mb w0 r H0 gs ws k Q s g a w hF (qE hro).1 hb0 hg h hk
 | .block id c,F,n,mb,w0,r,H0,gs,ws,k,Q,s,g,a,w,hF,hro,hb0,hg,h,hk=>by
  rw[ot] at h
  refine wpIn_block (dI hcall hrg horc hmx c F n mb w0 r H0 gs ws _ _ s g a w hF hro hb0 hg h fun e e' s' g' a' w' hg' he h'=>?_)
  cases e with
  | exit i=>cases e' with
   | exit j=>
    obtain rfl:i=j:=he
    simp only[Exit.inBlock]
    simp only[bF] at h'
    split at h'
    ·rename_i hij
     rw[Yq (by simpa using hij)]
     exact hk .normal .normal _ _ _ _ hg' trivial h'
    ·rename_i hij
     rw[Yp (by simpa using hij)]
     exact hk (.exit i) (.exit i) _ _ _ _ hg' rfl h'
   | _=>exact he.elim
  | normal=>cases e'<;>first
    | exact hk _ .normal _ _ _ _ hg' he h'
    | exact he.elim
  | goto i=>cases e'<;>first
    | exact hk _ (.goto _) _ _ _ _ hg' he h'
    | exact he.elim
  | ret=>cases e'<;>first
    | exact hk _ .ret _ _ _ _ hg' he h'
    | exact he.elim
  | pan x=>cases e'<;>first
    | exact hk _ (.panic _) _ _ _ _ hg' he h'
    | exact he.elim
 | .scope c,F,n,mb,w0,r,H0,gs,ws,k,Q,s,g,a,w,hF,hro,hb0,hg,h,hk=>by
  rw[ot] at h
  have hro':(F.round=none/\mb.free=true)∨jJ c=true:=by
   rcases hro with h1 | h1
   ·exact .inl h1
   ·cases h1
  refine Am (dI hcall hrg horc hmx c F n mb w0 r H0 gs ws _ _ s g a w hF hro' hb0 hg h fun e e' s' g' a' w' hg' he h'=>?_)
  cases e with
  | exit i=>cases e'<;>first
    | exact hk _ (.exit _) _ _ _ _ hg' he h'
    | exact he.elim
  | normal=>cases e'<;>first
    | exact hk _ .normal _ _ _ _ hg' he h'
    | exact he.elim
  | goto i=>cases h'
  | ret=>cases e'<;>first
    | exact hk _ .ret _ _ _ _ hg' he h'
    | exact he.elim
  | pan x=>cases e'<;>first
    | exact hk _ (.panic _) _ _ _ _ hg' he h'
    | exact he.elim
 | .loop c,F,n,mb,w0,r,H0,gs,ws,k,Q,s,g,a,w,hF,hro,hb0,hg,h,hk=>by
  rw[ot] at h
  unfold Fq at h
  have hrst:=rP lo (cx.acts f (cb c)) (dM (cx.keep f (cb c)) s)
  obtain ⟨g0,hg0,hl0⟩:=hg.dM (keep:=cx.keep f (cb c)) |>.acts (cx.acts f (cb c))
  have rounds:∀ (m:Nat) (s':St) (g':Gh) (a':Act) (w':World),Good cx N mb lo H0 gs ws w0 s' g' a' w'->(en lo (cx.acts f (cb c)) (dM (cx.keep f (cb c)) s)).H.length<=s'.H.length->iter lo (cx.keep f (cb c)) (cx.acts f (cb c)) (en lo (cx.acts f (cb c)) (dM (cx.keep f (cb c)) s)).H.length (fun s k=>ot cx call rg nf f lo N c s k) (fun i s=>k (.exit i) s) (fun l s=>k (.goto l) s) (fun s=>k .ret s) (fun a s=>k (.pan a) s) m s'=some r->Code.roundsIn F n cx.P c Q m a' w':=by
   intro m
   induction m with
   | zero=>intro s' g' a' w' _ _ h; cases h
   | succ m ih=>
    intro s1 g1 a' w' hg1 hl h
    rw[iter] at h
    rw[roundsIn_succ]
    refine dI hcall hrg horc hmx c F n mb w0 r s1.H g1 w' _ _ s1 g1 a' w' hF hro (hcall.up _ _ _ _ _ _ hb0 hg1.ext) ⟨hg1.sr,Ext.refl hg1.sr.rel,Yk _,fun _ _ _=>rfl,hg1.siz,hg1.dfr,hg1.mbw,rfl⟩ h fun e e' s2 g2 a2 w2 hg2 he h2=>?_
    have hg3:Good cx N mb lo H0 gs ws w0 s2 g2 a2 w2:=⟨hg2.sr,hg1.ext.trans hg2.ext,YG hg1.len hg2.len,fun b hb hb'=>(hg2.low b hb (YA hb' hg1.len)).trans (hg1.low b hb hb'),hg2.siz,hg2.dfr,hg2.mbw,hg2.st.trans hg1.st⟩
    have hlen2:(en lo (cx.acts f (cb c)) (dM (cx.keep f (cb c)) s)).H.length<=s2.H.length:=by have:=hg2.len; omega
    have hg4:Good cx N mb lo H0 gs ws w0 (dM (cx.keep f (cb c)) s2) g2 a2 w2:=hg3.dM
    cases e with
    | normal=>cases e'<;>first
      | (obtain ⟨s3,g3,h3,hg5,hl5⟩:=hg3.norm hg.len hl0 hrst hlen2 h2
         exact ih s3 g3 a2 w2 hg5 r7 h3)
      | exact he.elim
    | exit i=>cases e'<;>first
      | exact hk (.exit i) (.exit _) _ _ _ _ hg4 he h2
      | exact he.elim
    | goto i=>cases e'<;>first
      | exact hk (.goto i) (.goto _) _ _ _ _ hg4 he h2
      | exact he.elim
    | ret=>cases e'<;>first
      | exact hk .ret .ret _ _ _ _ hg4 he h2
      | exact he.elim
    | pan x=>cases e'<;>first
      | exact hk (.pan x) (.panic _) _ _ _ _ hg4 he h2
      | exact he.elim
  exact wpIn_loop_rounds nf (rounds nf (dM (cx.keep f (cb c)) (en lo (cx.acts f (cb c)) (dM (cx.keep f (cb c)) s))) g0 a w hg0.dM (Yk _) h)
 | .exit id,F,n,mb,w0,r,H0,gs,ws,k,Q,s,g,a,w,hF,hro,hb0,hg,h,hk=>wpIn_exit (hk (.exit id) (.exit id) _ _ _ _ hg rfl h)
 | .goto l,F,n,mb,w0,r,H0,gs,ws,k,Q,s,g,a,w,hF,hro,hb0,hg,h,hk=>wpIn_goto (hk (.goto l) (.goto l) _ _ _ _ hg rfl h)
 | .ret,F,n,mb,w0,r,H0,gs,ws,k,Q,s,g,a,w,hF,hro,hb0,hg,h,hk=>wpIn_ret (hk .ret .ret _ _ _ _ hg trivial h)
 | .rangeFunc gop ps asg body,F,n,mb,w0,r,H0,gs,ws,k,Q,s,g,a,w,hF,hro,hb0,hg,h,hk=>by
  rw[ot] at h
  unfold nO at h
  obtain ⟨g,hg,_⟩:=hg.acts (cx.acts f (Af body))
  generalize en lo (cx.acts f (Af body)) s=s at h hg
  obtain ⟨⟨gf,cap⟩,hfn,h⟩:=bD h
  obtain ⟨jm,h⟩:=bu h
  obtain ⟨⟨out,H2⟩,hcl,h⟩:=bD h
  simp only[Yj] at jm
  obtain ⟨⟨⟨c2,c3⟩,c4⟩,c1⟩:=jm
  have hlo:lo<=s.H.length:=by simpa [qaG] using c1
  obtain ⟨hro,hfree⟩:F.round=none/\mb.free=true:=hro.elim id (fun h=>by cases h)
  obtain ⟨hcb,es,hgv,hcv⟩:=BS hfn (pf (x:=gop) (fun t _=>hg.sr.fr t) hg.sr.gl)
  refine wpIn_rangeFunc ?_
  intro fn hfnF
  rw[hro]
  obtain ⟨rec0,hrec⟩:∃ rec0:Loop,rec0={ state:=.ready,pending:=none,fn:=fn,tmps:=a.tmps,params:=ps,assign:=asg,body:=body,defers:=w.heap.size }:=⟨_,rfl⟩
  have hrr:jv rec0 .ready=rec0:=by rw[hrec]; rfl
  obtain ⟨W1,hW1⟩:∃ W1,(w.alloc (.deferred (some []))).alloc (.loop rec0)=W1:=⟨_,rfl⟩
  obtain ⟨hr1,he1⟩:=hg.sr.rel.begin rec0 hrr
  rw[hW1] at hr1 he1
  obtain ⟨g1,hg1⟩:∃ g1,(g.A2 s.H.length rec0).put s.H.length (some (w.heap.size+1)) []=g1:=⟨_,rfl⟩
  have hmu1:g1.mu s.H.length=some (w.heap.size+1):=by rw[<-hg1]; exact Gh.bJ _ _ _ _
  have hlr1:g1.lr s.H.length=rec0:=by rw[<-hg1]; simp[Gh.put,Gh.A2]
  have hst1:g1.S=g.S:=by rw[<-hg1]; rfl
  rw[hg1] at hr1 he1
  have hB1:(s.H++[aC.rng .ready])[s.H.length]? = some (.rng .ready):=r9
  have hsz1:W1.heap.size=w.heap.size+2:=by rw[<-hW1]; simp
  have hD1:W1.heap[w.heap.size]? = some (.deferred (some [])):=by
   rw[<-hW1]; exact(Below.heap_alloc _ _ _ r9).trans (qa8 w _)
  have hfr1:∀ t,VR s.H g w (look (dM (cx.keep f (Af body)) s).fr t) (a.tmps.getD t undef):=fun t=>(hg.dM (keep:=cx.keep f (Af body))).sr.fr t
  have hy:pz cx (fun H g w=>Bs H g w/\Ext (s.H++[.rng .ready]) g1 W1 H g w) (tZ cx.P.funcs.size call s.H.length (roundOf (fun s k=>ot cx call rg nf f lo N asg s k) (fun s k=>ot cx call rg nf f lo N body s k) lo s.H.length ps.toList (dM (cx.keep f (Af body)) s).fr)):=by
   refine⟨fun H g w H' g' w' hb he=>⟨hcall.up _ _ _ _ _ _ hb.1 he,hb.2.trans he⟩,fun b args H lo' r' hy F' n' l g' w0' w' cargs hF' hb hr' hgl' hv' hmu'=>?_⟩
   unfold tZ at hy
   rw[bF] at hy
   split at hy
   ·rename_i hbb
    have hbb:b=s.H.length:=by have:=Yy hbb; omega
    subst hbb
    have hB':∃ st,H[s.H.length]? = some (.rng st):=by
     obtain ⟨B',hB',ht⟩:=hb.2.blk _ _ hB1
     cases B' with
     | rng st=>exact⟨st,hB'⟩
     | dead=>have h1:=hr'.blk _ _ hB'; rw[show g'.mu s.H.length=none from h1] at hmu'; cases hmu'
     | box _=>exact ht.elim
     | mp _ _ _=>exact ht.elim
     | hole=>exact ht.elim
     | row wr _ _=>cases wr<;>exact ht.elim
    obtain ⟨st',hB'⟩:=hB'
    obtain ⟨m1,m2⟩:=hb.2.K4 hB1 hB'
    have hex:=he1.trans hb.2
    exact yx (rec0:=rec0) (Bs:=Bs)
     (fun F n mb w0 r H0 gs ws k Q s g a w hF hb0 hg h hk=>dI hcall hrg horc hmx asg F n mb w0 r H0 gs ws k Q s g a w hF (.inr c3) hb0 hg h hk)
     (fun F n mb w0 r H0 gs ws k Q s g a w hF hb0 hg h hk=>dI hcall hrg horc hmx body F n mb w0 r H0 gs ws k Q s g a w hF (.inr c4) hb0 hg h hk)
     c2 hlo (by rw[hrec]) (by rw[hrec]) (by rw[hrec]) (by rw[hrec]; exact hg.siz) hy hF' hr' hb.1 hgl' (fun t=>by rw[hrec]; exact VR.ext hex _ _ (hfr1 t)) (m2.trans hlr1) hv' hmu'
   ·exact hcall.yl b args H lo' r' hy F' n' l g' w0' w' cargs hF' hb.1 hr' hgl' hv' hmu'
  have hv1:bE (s.H++[.rng .ready]) g1 W1 (.yld s.H.length :: cap) (.func (.yield (w.heap.size+1)) #[] #[] :: es.toList):=by
   rw[bE]
   refine⟨_,_,rfl,?_,bE.ext he1 _ _ hcv⟩
   rw[VR,hB1]
   exact⟨_,hmu1,rfl⟩
  have hgl1:∀ (G:Nat) (vs:List Value),cx.glob G=some vs->bK (s.H++[.rng .ready]) g1 W1 G 0 vs:=fun G vs hG=>(hg.sr.gl G vs hG).ext he1
  have hci:=(hrg _ _ hy).fn gf _ _ lo (out,H2) (jl hcb) hcl F (n - 1) g1 w0 W1 _ hF hro ⟨hcall.up _ _ _ _ _ _ hb0 (hg.ext.trans he1),Ext.refl hr1⟩ hr1 hgl1 hv1
  refine⟨w.heap.size+1,[{ target:=.collected w.heap.size,args:=#[] }],W1,{ target:=.fn (.func gf) es,args:=#[.func (.yield (w.heap.size+1)) #[] #[]] },W1,gf,
   #[.func (.yield (w.heap.size + 1)) #[] #[]] ++ es, W1, ?_, ?_, ?_, ?_, fun h => (by rw [hF.1] at h; cases h), ?_⟩
  ·rw[<-hW1,hrec]; exact run_enterLoop_outer _ _ _ _ _
  ·simp only[resolve,hgv]
   simp[go_sem]
  ·intro f' _; exact hF.2.1 f'
  ·simp[invoke,pJ hcb]
  ·have ea:(Value.func (.yield (w.heap.size+1)) #[] #[] :: es.toList).toArray=#[.func (.yield (w.heap.size+1)) #[] #[]]++es:=by apply Z6; simp
   rw[<-ea]
   refine hci.mono ?_
   rintro e W2 ⟨g2,e1,e2,e3,e4,e6,e5⟩
   cases out with
   | pan x=>cases h
   | ret x=>
    cases e with
    | panicked _=>exact e5.elim
    | outgrown=>exact e5.elim
    | returned c=>
     have fin:∀ (st:jW) (e:E),st≠.busy->H2[s.H.length]? = some (.rng st)->k e ⟨s.fr,H2.set s.H.length .dead⟩=some r ->
       ∃ W3,(Instr.endLoop (w.heap.size+1)).run cx.P W2=.ok (jv rec0 st).pending W3/\∃ g3,Good cx N mb lo H0 gs ws w0 ⟨s.fr,H2.set s.H.length .dead⟩ g3 { a with defers:={ target:=.collected w.heap.size,args:=#[] } :: a.defers } W3:=fun st e hnb hB2 h=>by
      obtain ⟨m1,m2⟩:=e2.K4 hB1 hB2
      obtain ⟨l2,hl2,hw2⟩:=e1.blk _ _ hB2
      rw[m1,hmu1] at hl2; cases hl2
      rw[m2,hlr1] at hw2
      have hel:=run_endLoop (P:=cx.P) hw2 (by cases st<;>first | (intro h; cases h; done) | exact absurd rfl hnb)
      obtain ⟨p1,p2⟩:=e1.rng hB2 .dead none (.loop { jv rec0 st with state:=.exhausted }) (m1.trans hmu1) hw2 (.inr ⟨rfl,rfl⟩)
      have hex:=he1.trans (e2.trans p2)
      have hlen:s.H.length<=H2.length:=by have:(s.H++[aC.rng .ready]).length<=H2.length:=e3; simp at this; omega
      refine⟨_,hel,_,⟨p1,fun t=>VR.ext hex _ _ (hg.sr.fr t),fun G vs hG=>(hg.sr.gl G vs hG).ext hex⟩,hg.ext.trans hex,by simp; exact YG hg.len hlen,fun c hc hc'=>?_,hg.siz,?_,YG hg.mbw hex.size,?_⟩
      ·have hcs:c<s.H.length:=YA hc' hg.len
       show (H2.set s.H.length .dead)[c]? = _
       rw[Yz r7,e4 c hc so,YE hcs]
       exact hg.low c hc hc'
      ·obtain ⟨ms,q1,q2,q3⟩:=hg.dfr
       refine⟨_ :: ms,by show _ :: a.defers=_; rw[q1]; rfl,Marks.cons (q2.my hex.kept) hg.mbw ((e2.trans p2).kept _ _ hD1) (fun r hr=>?_),fun h=>by rw[hfree] at h; cases h⟩
       have:=q2.lt hr
       omega
      ·show g2.S=gs.S
       rw[e6,hst1]; exact hg.st
     replace h:Ag s.H.length H2 (fun e H=>k e ⟨s.fr,H⟩)=some r:=h
     unfold Ag ph at h
     split at h
     ·rename_i hB2
      obtain ⟨W3,hel,g3,hg3⟩:=fin .ready .normal r9 hB2 h
      exact⟨none,W3,hel,hk .normal .normal _ _ _ _ hg3 trivial h⟩
     ·rename_i i hB2
      obtain ⟨W3,hel,g3,hg3⟩:=fin (.done (.exit i)) (.exit i) r9 hB2 h
      exact⟨some (.exit i),W3,hel,wpIn_exit (hk (.exit i) (.exit i) _ _ _ _ hg3 rfl h)⟩
     ·rename_i i hB2
      obtain ⟨W3,hel,g3,hg3⟩:=fin (.done (.goto i)) (.goto i) r9 hB2 h
      exact⟨some (.goto i),W3,hel,wpIn_goto (hk (.goto i) (.goto i) _ _ _ _ hg3 rfl h)⟩
     ·rename_i hB2
      obtain ⟨W3,hel,g3,hg3⟩:=fin (.done .ret) .ret r9 hB2 h
      exact⟨some .ret,W3,hel,wpIn_ret (hk .ret .ret _ _ _ _ hg3 trivial h)⟩
     ·cases h
 | .refuse _,F,n,mb,w0,r,H0,gs,ws,k,Q,s,g,a,w,hF,hro,hb0,hg,h,hk=>by cases h
theorem zJ (args:List A) (t:Nat):look (frame args) t=(args[t]?).getD .any:=by
 have gen:∀ (args:List A) (i t:Nat),look ((args.zipIdx i).map fun p=>(p.2,p.1)) t=if i<=t then (args[t - i]?).getD .any else .any:=by
  intro args
  induction args with
  | nil=>intro i t; simp[look]
  | cons x r ih=>
   intro i t
   rw[List.zipIdx_cons,Zc,ez,ih]
   by_cases e:i=t
   ·subst e; simp
   ·rw[Yp e]
    by_cases hlt:i<t
    ·rw[Yq r7,Yq r7]
     rw[show t - i=(t - (i+1))+1 by omega,qaY]
    ·rw[Yp r7,Yp r7]
 have:=gen args 0 t
 simpa [frame] using this
theorem tP {P:Program} {t:TypeId} {c d:Value} (h:(Instr.loadAt t c).run P w=.ok d w):(do loadVar t (<-asAddr c):Sem Value).run P w=.ok d w:=by
 unfold Instr.loadAt at h
 cases c with
 | pointer p=>cases p with
  | some p=>simpa [Instr.sureAddr,asAddr] using h
  | none=>simp[Instr.sureAddr,stuck,Sem.run,Result.andThen] at h
 | _=>simp[Instr.sureAddr,stuck,Sem.run,Result.andThen] at h
def KF (tmps:Array Value):ResultVar->Sem Value
 | .tmp t=>pure (tmps.getD t undef)
 | .cell a t=>do loadVar t (<-asAddr (tmps.getD a undef))
theorem pR (hs:SR cx s g w0 a w) {r:ResultVar} {x:A} (h:sn cx s r=some x):∃ c,(KF a.tmps r).run cx.P w=.ok c w/\VR s.H g w x c:=by
 cases r with
 | tmp t=>cases h; exact⟨_,rfl,hs.fr t⟩
 | cell b t=>
  obtain ⟨d,h1,h2⟩:=qW hs.rel h (hs.fr b)
  exact⟨d,tP h1,h2⟩
theorem pS (hs:SR cx s g w0 a w):∀ {rs:List ResultVar} {xs:List A},oM cx s rs=some xs->∃ cs:List Value,(rs.mapM (KF a.tmps)).run cx.P w=.ok cs w/\bE s.H g w xs cs/\cs.length=rs.length
 | [],xs,h=>by simp only[oM,Zd] at h; subst h; exact⟨[],r9,H7,rfl⟩
 | r :: rs,xs,h=>by
  rw[oM] at h
  obtain ⟨y,hy,h⟩:=bD h
  obtain ⟨ys,hys,h⟩:=bD h
  cases h
  obtain ⟨c,h1,h2⟩:=pR hs hy
  obtain ⟨cs,h3,h4,h5⟩:=pS hs hys
  refine⟨c :: cs,?_,by rw[bE]; exact⟨c,cs,rfl,h2,h4⟩,by simp[h5]⟩
  rw[List.mapM_cons,YZ,h1]
  simp only[YS,YZ,h3,qam]
theorem Ad (fn:Func) (tmps:Array Value):results fn tmps=(do let vs <-fn.results.mapM (KF tmps); pure (if h:vs.size=1 then vs[0] else .tuple vs)):=by
 unfold results
 congr 1
theorem xu (hs:SR cx s g w0 a w) {fn:Func} {x:A} (h:AQ cx fn s=some x):∃ c,(results fn a.tmps).run cx.P w=.ok c w/\VR s.H g w x c:=by
 rw[Ad,Array.mapM_eq_mapM_toList]
 unfold AQ at h
 split at h
 ·rename_i r hr
  obtain ⟨c,h1,h2⟩:=pR hs h
  refine⟨c,?_,h2⟩
  rw[hr]
  simp[h1]
 ·rename_i hne
  obtain ⟨xs,hxs,h⟩:=bD h
  cases h
  obtain ⟨cs,h1,h2,h3⟩:=pS hs hxs
  refine⟨.tuple cs.toArray,?_,by rw[VR]; exact⟨_,rfl,by simpa using h2⟩⟩
  have hn1:cs.length≠1:=fun h1'=>by
   obtain ⟨r,hr⟩:=List.length_eq_one_iff.1 (show fn.results.toList.length=1 by omega)
   exact hne r hr
  simp[h1,hn1]
theorem rV {k m:Nat} (h:k<m):Nat.ble m k=false:=by
 cases hb:Nat.ble m k with
 | false=>rfl
 | true=>rw[qaG] at hb; omega
theorem Good.calm (hg:Good cx N mb lo H0 gs ws w0 s g a w) {B:Nat} (hB:ws.heap.size<=B) (hb:w0.heap.size<=B) (hc:cq B w w') (hl:∀ (k:Nat) (o:Loop),w.heap[k]? = some (.loop o)->w'.heap[k]? = some (.loop o)) (fr:Bool):Good cx N ⟨0,a.defers,fr⟩ lo H0 gs ws w0 s g a w':=
 have h0:=hg.sr.rel.xf hc
 ⟨⟨hg.sr.rel.calm hb hc hl,fun t=>VR.fq h0 _ _ (hg.sr.fr t),fun G vs hG=>(hg.sr.gl G vs hG).fq h0⟩,hg.ext.calm hg.sr.rel hB hc,hg.len,hg.low,hg.siz,iJ.start _ _ _ _,Yx _,hg.st⟩
theorem xd {fn:Func} {f:Nat} {r:R} (hg:Good cx N mb lo H0 gs ws w0 s g a w) (h:(nO (en lo (cx.acts f 3000000) s) fun s=>mm cx fn s)=some r):∃ v,(results fn a.tmps).run cx.P w=.ok v w/\ia H0 gs w0 ws lo r (.returned v) w:=by
 obtain ⟨g1,hg',_⟩:=Good.acts (cx.acts f 3000000) hg
 replace h:mm cx fn (en lo (cx.acts f 3000000) s)=some r:=h
 generalize en lo (cx.acts f 3000000) s=s' at hg' h
 obtain ⟨x,hx,hrx⟩:=bD ((BR cx fn s').symm.trans h)
 cases hrx
 obtain ⟨v,h1,h2⟩:=xu hg'.sr hx
 exact⟨v,h1,g1,hg'.sr.rel,hg'.ext,hg'.len,hg'.low,hg'.st,h2⟩
theorem sC {args:List A} {cargs:List Value} {m:Nat} (hv:bE H g w args cargs):∀ t,VR H g w (look (frame args) t) ((cargs.toArray++Array.replicate m undef).getD t undef):=fun t=>by
 rw[zJ,Zj]
 cases ha:args[t]? with
 | none=>rw[Option.getD_none,VR]; trivial
 | some x=>
  obtain ⟨d,hd,hvd⟩:=hv.get ha
  rw[qaK (by simpa using (Ym.1 hd).1)]
  simp[hd]
  exact hvd
theorem yt:∀ {l:List Oper} {b i d:Nat},recAt b l=some (i,d)->b<=i
 | [],b,i,d,h=>by cases h
 | o :: os,b,i,d,h=>by
  unfold recAt at h
  split at h
  ·cases h; exact Yk _
  ·have:=yt h; omega
theorem tc:∀ {l:List Oper} {b i d:Nat},recAt b l=some (i,d)->∃ o,l[i - b]? = some o/\mB o=some d
 | [],b,i,d,h=>by cases h
 | o :: os,b,i,d,h=>by
  unfold recAt at h
  split at h
  ·rename_i d' hd
   cases h
   exact⟨o,by rw[qbs]; rfl,hd⟩
  ·obtain ⟨o',h1,h2⟩:=tc h
   have hb:b+1<=i:=yt h
   refine⟨o',?_,h2⟩
   rw[show i - b=i - (b+1)+1 by omega]
   exact h1
theorem xr {Bs:aB->Gh->World->Prop} {call:bn} {rg:bn->bn} (hcall:dX cx Bs call) (hrg:rv cx rg) (horc:jV cx) (hmx:cx.P.follows .mixedOrders=true) {nf q lo:Nat} {cap:List A} {v:A} {H:aB} {k:aB->Option R} {r:R} (h:xq cx call rg nf lo q cap v H k=some r) {F:Fence} {n:Nat} {g:Gh} {w0 w:World} {ccap:List Value} {u:FrameMode} {cv:Value}
  (hF:gV F) (hro:F.round=none) (hbs:Bs H g w) (hr:Rel H g w0 w) (hgl:∀ (G:Nat) (vs:List Value),cx.glob G=some vs->bK H g w G 0 vs) (hv:bE H g w cap ccap) (hcv:VR H g w v cv) (hu:u=.panicking [{ v:=cv,recovered:=false }]∨(u=.returning/\cv=.nilIface)) :
  CallsDIn F n cx.P q ccap.toArray u w fun e u' w'=>(∃ x,e=.returned x)/\settle u'=.returning/\∃ H' g',Rel H' g' w0 w'/\Ext H g w H' g' w'/\H.length<=H'.length/\(∀ b,b<lo->b<H.length->H'[b]? = H[b]?)/\g'.S=g.S/\k H'=some r:=by
 unfold xq at h
 obtain ⟨fn,hfn,h⟩:=bD h
 obtain ⟨c,hc,h⟩:=bD h
 split at h
 ·rename_i id ops rest
  split at h
  ·rename_i o os hops
   obtain ⟨d,hd,h⟩:=bD h
   obtain ⟨hchk,h⟩:=bu h
   simp only[UW,Yj,Yn] at hchk
   obtain ⟨⟨⟨hle,hdo⟩,hnr⟩,hre⟩:=hchk
   have hres:fn.results=#[]:=by
    have:fn.results.toList=[]:=by simpa using hre
    apply Z6; simpa using this
   have hl:=hv.length
   have hdst:o.dst=some d:=(nL (P:=cx.P) hd).1
   have hd':∀ o∈ops.toList,∀ d,o.dst=some d->d<fn.ntmps:=fun o ho d hod=>by
    have:=Yw.1 hdo o ho
    rw[hod] at this; simpa using this
   refine callsDIn_of_wpSIn hfn hc (hF.2.1 q) fun c₀ cs hu0=>?_
   obtain ⟨u',hset,hrec⟩:∃ u',settle u'=.returning/\(recoverD (c₀ :: cs)=some (cv,{ c₀ with mode:=u' } :: cs)∨(recoverD (c₀ :: cs)=none/\({ c₀ with mode:=u' } :: cs:List Frame)=c₀ :: cs/\cv=.nilIface)):=by
    rcases hu with hu | ⟨hu,hcn⟩
    ·refine⟨.panicking [{ v:=cv,recovered:=true }],rfl,.inl ?_⟩
     have e:=hu0.trans hu
     simp only[recoverD,e]
    ·refine⟨.returning,rfl,.inr ⟨?_,?_,hcn⟩⟩
     ·have e:=hu0.trans hu
      simp only[recoverD,e]
     ·have:({ c₀ with mode:=.returning }:Frame)=c₀:=by rw[<-hu,<-hu0]
      rw[this]
   refine wpSIn_seq (qQ hops hd (fun f=>hF.2.1 f) hro hrec ?_)
   have hsz:(ccap.toArray++Array.replicate (fn.ntmps - ccap.toArray.size) undef).size=fn.ntmps:=so
   have hdl:d<fn.ntmps:=hd' o (by rw[hops]; simp) d hdst
   have hg0:Good cx fn.ntmps ⟨0,[],false⟩ lo H g w w0 ⟨(d,v) :: frame cap,H⟩ g (({ tmps:=ccap.toArray++Array.replicate (fn.ntmps - ccap.toArray.size) undef,defers:=[] }:Act).put (some d) cv) w:=by
    refine⟨⟨hr,fun t=>?_,hgl⟩,Ext.refl hr,Yk _,fun _ _ _=>rfl,by rw[Act.p3]; exact hsz,iJ.start _ _ _ _,Yx _,rfl⟩
    show VR H g w (look ((d,v) :: frame cap) t) (slot _ t)
    rw[ez]
    split
    ·rename_i e; subst e; rw[fz (by rw[hsz]; exact hdl)]; exact hcv
    ·rename_i e; rw[dN (fun e2=>e (by cases e2; rfl))]; exact sC hv t
   refine fM (f:=q) (ops:=ops) hcall hbs horc hF (fun s' g' a' w' hg' h'=>?_) (fun x s' g' a' w' c hg' hvx h'=>by cases h') os _ g _ w (fun o' ho'=>hd' o' (by rw[hops]; simp[ho'])) hg0 h
   refine wpSIn_of_wpIn hro ?_
   refine dI hcall hrg horc hmx rest F n ⟨0,[],false⟩ w0 r H g w _ _ s' g' a' w' hF (.inr hnr) hbs hg' h' fun e e' s2 g2 a2 w2 hg2 he h2=>?_
   have hdf:a2.defers=[]:=by
    obtain ⟨ms,q1,_,q3⟩:=hg2.dfr
    rw[q1,q3 rfl]; rfl
   have fin:∀ x:Value,k s2.H=some r->(∃ y:Value,Ending.returned x=.returned y)/\settle u'=.returning/\∃ H' g',Rel H' g' w0 w2/\Ext H g w H' g' w2/\H.length<=H'.length/\(∀ b,b<lo->b<H.length->H'[b]? = H[b]?)/\g'.S=g.S/\k H'=some r:=fun x hk=>⟨⟨x,rfl⟩,hset,s2.H,g2,hg2.sr.rel,hg2.ext,hg2.len,hg2.low,hg2.st,hk⟩
   have hrs:(results fn a2.tmps).run cx.P w2=.ok (.tuple #[]) w2:=by simp[results,hres]
   cases e with
   | normal=>cases e'<;>first
     | exact⟨hdf,u',rfl,_,hrs,fin _ h2⟩
     | exact he.elim
   | ret=>cases e'<;>first
     | exact⟨hdf,u',rfl,_,hrs,fin _ h2⟩
     | exact he.elim
   | pan x=>cases h2
   | exit i=>cases h2
   | goto i=>cases h2
  ·cases h
 ·rename_i id ops
  obtain ⟨⟨i0,d⟩,hra,h⟩:=bD h
  obtain ⟨hchk,h⟩:=bu h
  simp only[UY,Yj,Yn] at hchk
  obtain ⟨⟨⟨⟨hle,hdl⟩,hok⟩,hna0⟩,hre⟩:=hchk
  obtain ⟨o0,ho0,hd⟩:=tc hra
  rw[Nat.sub_zero,YV] at ho0
  have hna:o0.after=#[]:=by
   rw[ho0] at hna0
   have:o0.after.toList=[]:=by simpa using hna0
   apply Z6; simpa using this
  have hres:fn.results=#[]:=by
   have:fn.results.toList=[]:=by simpa using hre
   apply Z6; simpa using this
  have hl:=hv.length
  have hsz:(ccap.toArray++Array.replicate (fn.ntmps - ccap.toArray.size) undef).size=fn.ntmps:=so
  refine callsDIn_of_wpSIn hfn hc (hF.2.1 q) fun c₀ cs hu0=>?_
  obtain ⟨u',hset,hrec⟩:∃ u',settle u'=.returning/\(recoverD (c₀ :: cs)=some (cv,{ c₀ with mode:=u' } :: cs)∨(recoverD (c₀ :: cs)=none/\({ c₀ with mode:=u' } :: cs:List Frame)=c₀ :: cs/\cv=.nilIface)):=by
   rcases hu with hu | ⟨hu,hcn⟩
   ·refine⟨.panicking [{ v:=cv,recovered:=true }],rfl,.inl ?_⟩
    have e:=hu0.trans hu
    simp only[recoverD,e]
   ·refine⟨.returning,rfl,.inr ⟨?_,?_,hcn⟩⟩
    ·have e:=hu0.trans hu
     simp only[recoverD,e]
    ·have:({ c₀ with mode:=.returning }:Frame)=c₀:=by rw[<-hu,<-hu0]
     rw[this]
  refine qa hmx ho0 hd hna hok (fun f=>hF.2.1 f) hro (by rw[hsz]; exact hdl) hrec ?_
  have hg0:Good cx fn.ntmps ⟨0,[],false⟩ lo H g w w0 ⟨(d,v) :: frame cap,H⟩ g (({ tmps:=ccap.toArray++Array.replicate (fn.ntmps - ccap.toArray.size) undef,defers:=[] }:Act).put (some d) cv) w:=by
   refine⟨⟨hr,fun t=>?_,hgl⟩,Ext.refl hr,Yk _,fun _ _ _=>rfl,by rw[Act.p3]; exact hsz,iJ.start _ _ _ _,Yx _,rfl⟩
   show VR H g w (look ((d,v) :: frame cap) t) (slot _ t)
   rw[ez]
   split
   ·rename_i e; subst e; rw[fz (by rw[hsz]; exact hdl)]; exact hcv
   ·rename_i e; rw[dN (fun e2=>e (by cases e2; rfl))]; exact sC hv t
  refine pQ hcall hbs horc hF hmx hg0 h (fun s2 g2 a2 w2 hg2 h2=>?_) (fun x s' g' a' w' c hg' hvx h'=>by cases h')
  have hdf:a2.defers=[]:=by
   obtain ⟨ms,q1,_,q3⟩:=hg2.dfr
   rw[q1,q3 rfl]; rfl
  have fin:∀ x:Value,k s2.H=some r->(∃ y:Value,Ending.returned x=.returned y)/\settle u'=.returning/\∃ H' g',Rel H' g' w0 w2/\Ext H g w H' g' w2/\H.length<=H'.length/\(∀ b,b<lo->b<H.length->H'[b]? = H[b]?)/\g'.S=g.S/\k H'=some r:=fun x hk=>⟨⟨x,rfl⟩,hset,s2.H,g2,hg2.sr.rel,hg2.ext,hg2.len,hg2.low,hg2.st,hk⟩
  have hrs:(results fn a2.tmps).run cx.P w2=.ok (.tuple #[]) w2:=by simp[results,hres]
  exact⟨hdf,u',rfl,_,hrs,fin _ h2⟩
 ·cases h
theorem sP:∀ {os init:List Oper} {o:Oper},xZ os=some (init,o)->os=init++[o]
 | [],_,_,h=>by cases h
 | [x],_,_,h=>by
  simp only[xZ,Zd,Prod.mk.injEq] at h
  rw[<-h.1,<-h.2]; rfl
 | x :: y :: os,init,o,h=>by
  unfold xZ at h
  simp only[Y2] at h
  obtain ⟨⟨i,o'⟩,h1,h2⟩:=h
  cases h2
  rw[sP h1]; rfl
theorem zr {o:Oper} {q:Nat} {cap:List A} (h:DN cx s o=some (q,cap)) (hs:SR cx s g w0 a w):o.guard=none/\o.dst=none/\cY cx.P q=true/\∃ es:Array Value,bE s.H g w cap es.toList/\(execOp a.eval o).run cx.P w=.ok (.defer { target:=.fn (.func q) es,args:=#[] }) w:=by
 unfold DN at h
 split at h
 ·rename_i c ho
  split at h
  ·rename_i gop hcal hargs
   split at h
   ·rename_i q' cap' hop
    obtain ⟨hc,h⟩:=bu h
    cases h
    simp only[US,Yj] at hc
    have hvr:=pf (cx:=cx) (x:=gop) (fun t _=>hs.fr t) hs.gl
    rw[hop,VR] at hvr
    obtain ⟨ds,es,e1,e2,e3⟩:=hvr
    rw[bE] at e2
    have hds:ds=#[]:=by apply Z6; simpa using e2
    subst hds
    have hca:c.args=#[]:=by apply Z6; simpa using hargs
    refine⟨lQ hc.1.2,by simpa using hc.2,hc.1.1,es,e3,?_⟩
    unfold execOp
    rw[ho]
    simp[resolve,hcal,e1,Deferred.ofValue,hca]
   ·cases h
  ·cases h
 ·cases h
theorem og {Bs:aB->Gh->World->Prop} {call:bn} {rg:bn->bn} (hcall:dX cx Bs call) (hrg:rv cx rg) (horc:jV cx) (hmx:cx.P.follows .mixedOrders=true) {n f lo:Nat} {args:List A} {H:aB} {r:R} (h:aG cx call rg n f args H lo=some r) {F:Fence} {d:Nat} {g:Gh} {w0 w:World} {cargs:List Value} (hF:gV F) (hro:F.round=none) (hbs:Bs H g w) (hr:Rel H g w0 w)
  (hgl:∀ (G:Nat) (vs:List Value),cx.glob G=some vs->bK H g w G 0 vs) (hv:bE H g w args cargs):CallsIn F d cx.P f cargs.toArray w (ia H g w0 w lo r):=by
 rw[aG] at h
 obtain ⟨fn,hfn,h⟩:=bD h
 obtain ⟨c,hc,h⟩:=bD h
 obtain ⟨hle,h⟩:=bu h
 have hle:=Yr hle
 have hl:=hv.length
 refine callsIn_of_wp_marks hfn hc (hF.2.1 f) ?_ hro
 have hsz:(cargs.toArray++Array.replicate (fn.ntmps - cargs.toArray.size) undef).size=fn.ntmps:=so
 have hfr:=sC (m:=fn.ntmps - cargs.toArray.size) hv
 have hbase:w0.heap.size<=w.heap.size:=hr.below.size
 have hg0:∀ b,Good cx fn.ntmps ⟨w.heap.size,[],b⟩ lo H g w w0 ⟨frame args,H⟩ g { tmps:=cargs.toArray++Array.replicate (fn.ntmps - cargs.toArray.size) undef,defers:=[] } w:=fun b=>⟨⟨hr,hfr,hgl⟩,Ext.refl hr,Yk _,fun _ _ _=>rfl,hsz,iJ.start _ _ _ _,Yk _,rfl⟩
 cases hdf:xQ c with
 | false=>
  rw[hdf] at h
  refine dI (cx:=cx) (N:=fn.ntmps) (lo:=lo) (nf:=n) (f:=f) hcall hrg horc hmx c F d ⟨w.heap.size,[],true⟩ w0 r H g w _ _ ⟨frame args,H⟩ g _ w hF (.inl ⟨hro,rfl⟩) hbs (hg0 true) h fun e e' s' g' a' w' hg' he h'=>?_
  obtain ⟨ms,q1,q2,_⟩:=hg'.dfr
  have hret:(nO (en lo (cx.acts f 3000000) s') fun s=>mm cx fn s)=some r->LeavesInM F d cx.P fn a'.tmps (ia H g w0 w lo r) a'.defers .returning w':=fun h'=>by
   rw[q1]
   refine nG ms .returning w' r9 q2 fun W' hcm hlm=>?_
   obtain ⟨v,h1,h2⟩:=xd (hg'.calm (Yk _) hbase hcm hlm true) h'
   exact⟨v,h1,h2⟩
  cases e with
  | normal=>cases e'<;>first
    | exact hret h'
    | exact he.elim
  | ret=>cases e'<;>first
    | exact hret h'
    | exact he.elim
  | pan x=>cases e'<;>first
    | (obtain ⟨c',rfl,hvr⟩:=he
       cases h'
       show LeavesInM F d cx.P fn a'.tmps _ a'.defers (.panicking _) w'
       rw[q1]
       refine nG ms _ w' r9 q2 fun W' hcm hlm=>?_
       have hg2:=hg'.calm (Yk _) hbase hcm hlm true
       exact⟨g',hg2.sr.rel,hg2.ext,hg2.len,hg2.low,hg2.st,c',rfl,VR.fq (hg'.sr.rel.xf hcm) _ _ hvr⟩)
    | exact he.elim
  | exit i=>cases h'
  | goto i=>cases h'
 | true=>
  rw[hdf] at h
  replace h:vN cx call rg n f lo fn c args H=some r:=h
  unfold vN at h
  split at h
  ·rename_i c0 id ops rest _
   obtain ⟨hchk,h⟩:=bu h
   rw[UT,Yj] at hchk
   have hd':∀ o∈ops.toList,∀ d,o.dst=some d->d<fn.ntmps:=fun o ho d hod=>by
    have:=Yw.1 hchk.1 o ho
    rw[hod] at this; simpa using this
   have hem:∀ {s':St} {g':Gh} {a':Act} {w':World},Good cx fn.ntmps ⟨w.heap.size,[],false⟩ lo H g w w0 s' g' a' w'->a'.defers=[]:=fun hg'=>by
    obtain ⟨ms,q1,_,q3⟩:=hg'.dfr
    rw[q1,q3 rfl]; rfl
   refine qbX (dI hcall hrg horc hmx c0 F d ⟨w.heap.size,[],false⟩ w0 r H g w _ _ ⟨frame args,H⟩ g _ w hF (.inr hchk.2) hbs (hg0 false) h fun e e' s1 g1 a1 w1 hg1 he h=>?_)
   cases e with
   | normal=>
    cases e' with
    | normal=>
     obtain ⟨⟨init,dop⟩,hla,h⟩:=bD h
     have hsp:=sP hla
     refine qbX (wpIn_region_list ?_)
     rw[hsp]
     refine mG (Q:=fun e a w2=>e=.normal/\wpListIn F d cx.P ops _ [dop] a w2) (fun e a w2 he h=>absurd h.1 he) (fun a w2 h=>h.2) init a1 w1 ?_
     refine fM (f:=f) (ops:=ops) hcall hbs horc hF (fun s2 g2 a2 w2 hg2 h=>⟨rfl,?_⟩) (fun x s' g' a' w' c hg' hvx h=>by cases h) init s1 g1 a1 w1 (fun o ho=>hd' o (by rw[hsp]; simp[ho])) hg1 h
     obtain ⟨⟨q,cap⟩,hcl,h⟩:=bD h
     obtain ⟨k1,k2,hcb,es,hes,hrun⟩:=zr (o:=dop) hcl hg2.sr
     unfold wpListIn
     rw[Yq (by simp[Region.wanted,k1])]
     refine⟨fun f _=>hF.2.1 f,?_⟩
     rw[hro,qay,hrun,Oper.uponIn_defer,k2,hem hg2]
     obtain ⟨dd,hdd⟩:∃ dd:Deferred,dd={ target:=.fn (.func q) es,args:=#[] }:=⟨_,rfl⟩
     rw[<-hdd]
     refine dI hcall hrg horc hmx rest F d ⟨w.heap.size,[dd],true⟩ w0 r s2.H g2 w2 _ _ s2 g2 { a2 with defers:=[dd] } w2 hF (.inl ⟨hro,rfl⟩) (hcall.up _ _ _ _ _ _ hbs hg2.ext) ⟨⟨hg2.sr.rel,hg2.sr.fr,hg2.sr.gl⟩,Ext.refl hg2.sr.rel,Yk _,fun _ _ _=>rfl,hg2.siz,iJ.start _ _ _ _,hg2.mbw,rfl⟩ h fun e e' s3 g3 a3 w3 hg30 he h=>?_
     have hg3:Good cx fn.ntmps ⟨w.heap.size,[dd],true⟩ lo H g w w0 s3 g3 a3 w3:=⟨hg30.sr,hg2.ext.trans hg30.ext,YG hg2.len hg30.len,fun b hb hb'=>(hg30.low b hb (YA hb' hg2.len)).trans (hg2.low b hb hb'),hg30.siz,hg30.dfr,hg30.mbw,hg30.st.trans hg2.st⟩
     obtain ⟨ms,q1,q2,_⟩:=hg3.dfr
     replace q1:a3.defers=ms++[dd]:=q1
     have key:∀ (u:FrameMode) (x:A) (cv:Value),(u=.panicking [{ v:=cv,recovered:=false }]∨(u=.returning/\cv=.nilIface))->VR s3.H g3 w3 x cv->xq cx call rg n lo q cap x s3.H (fun H=>nO (en lo (cx.acts f 3000000) ⟨s3.fr,H⟩) fun s=>mm cx fn s)=some r->LeavesInM F d cx.P fn a3.tmps (ia H g w0 w lo r) a3.defers u w3:=fun u x cv hu hx h=>by
      rw[q1]
      have hrunu:u≠.run:=by rcases hu with rfl | ⟨rfl,_⟩<;>simp
      refine nG ms u w3 hrunu q2 fun W' hcm hlm=>?_
      have hg4:=hg3.calm (Yk _) hbase hcm hlm true
      have h0:=hg3.sr.rel.xf hcm
      refine⟨hrunu,.inr ⟨fun hs=>(by rw[hF.1] at hs; cases hs),.func q,es,q,es,by rw[hdd],?_,fun f _=>hF.2.1 f,?_⟩⟩
      ·rw[hdd]
       have:=pJ hcb (#[]++es) W'
       simpa [invoke] using this
      ·have hcap:bE s3.H g3 W' cap es.toList:=bE.fq h0 _ _ (bE.ext hg30.ext _ _ hes)
       have hrc:CallsDIn F.plain (d - 1) cx.P q es.toList.toArray u W' _:=xr (F:=F.plain) (n:=d - 1) hcall hrg horc hmx h hF rfl (hcall.up _ _ _ _ _ _ hbs hg4.ext) hg4.sr.rel hg4.sr.gl hcap (VR.fq h0 _ _ hx) hu
       rw[show es.toList.toArray=es by simp] at hrc
       have hrc':CallsDIn F (d - 1) cx.P q es u W' _:=hrc
       refine hrc'.mono ?_
       rintro e u' w4 ⟨⟨v,rfl⟩,hset,H',g',j1,j2,j3,j4,j5,hk⟩
       show LeavesInM F d cx.P fn a3.tmps _ [] (settle u') w4
       rw[hset]
       have hx2:=hg4.ext.trans j2
       obtain ⟨v',l1,l2⟩:=xd (a:=a3) (mb:=⟨0,a3.defers,true⟩) (s:=⟨s3.fr,H'⟩) ⟨⟨j1,fun t=>VR.ext j2 _ _ (hg4.sr.fr t),fun G vs hG=>(hg4.sr.gl G vs hG).ext j2⟩,hx2,YG hg4.len j3,fun b hb hb'=>(j4 b hb (YA hb' hg4.len)).trans (hg4.low b hb hb'),hg4.siz,iJ.start _ _ _ _,Yx _,j5.trans hg4.st⟩ hk
       exact⟨v',l1,l2⟩
     have hni:VR s3.H g3 w3 (.v .nilIface) .nilIface:=y7
     cases e with
     | normal=>cases e' with
      | normal=>exact key .returning (.v .nilIface) .nilIface (.inr ⟨rfl,rfl⟩) hni h
      | _=>exact he.elim
     | ret=>cases e' with
      | ret=>exact key .returning (.v .nilIface) .nilIface (.inr ⟨rfl,rfl⟩) hni h
      | _=>exact he.elim
     | pan x=>cases e' with
      | panic ch=>
       obtain ⟨c',rfl,hvr⟩:=he
       exact key _ x c' (.inl rfl) hvr h
      | _=>exact he.elim
     | exit i=>cases h
     | goto i=>cases h
    | _=>exact he.elim
   | _=>cases h
  ·cases h
theorem xb {p:aC->Bool} {H:aB} {m:Nat} (h:(H.take m).all p=true) (b:Nat) (B:aC) (hb:b<m) (hB:H[b]? = some B):p B=true:=
 Yw.1 h B (YQ (i:=b) (by rw[YN,Yq hb]; exact hB))
theorem pK {m:Nat} {f:aB->Option R} {args:List A} {H:aB} {r:R} (h:nW m f args H=some r):bt m args=true/\(H.take m).all (aC.under m)=true/\∃ o H1,f (H.take m)=some (o,H1)/\m<=H1.length/\(H1.take m).all (aC.under m)=true/\lU m o=true/\r=(o,H1.take m++H.drop m):=by
 unfold nW at h
 obtain ⟨h1,h⟩:=bu h
 obtain ⟨⟨o,H1⟩,h2,h⟩:=bD h
 obtain ⟨h3,h⟩:=bu h
 rw[Yj] at h1
 simp only[Yj] at h3
 cases h
 exact⟨h1.1,h1.2,o,H1,h2,YK h3.1.1,h3.1.2,h3.2,rfl⟩
theorem DK {k:Nat} {H:aB}:cutAt cx k H<=H.length:=by
 unfold cutAt
 cases hb:Nat.ble (cx.cut k) H.length with
 | true=>exact YK hb
 | false=>exact Yk _
theorem oh (horc:jV cx) (hmx:cx.P.follows .mixedOrders=true):∀ n,rv cx (bw cx n)
 | 0=>fun Bs base hy=>⟨⟨hy.up,fun b args H lo r h=>hy.yl b args H lo r (by
   rw[bw,bF,Yq (by rw[qaG]; omega)] at h; exact h)⟩,(fun k args H lo r hk h=>by rw[bw,rV hk] at h; cases h),fun k args H lo r hk _ _ h=>by rw[bw,rV hk] at h; cases h⟩
 | n+1=>fun Bs base hy=>by
  refine⟨⟨hy.up,fun b args H lo r h=>hy.yl b args H lo r (by
   rw[bw,bF,Yq (by rw[qaG]; omega)] at h; exact h)⟩,?_,fun k args H lo r hk h0 hm h=>?_⟩
  rotate_left 1
  ·rw[bw,rV hk] at h
   replace h:(bif gD cx k H then nW (cutAt cx k H) (fun H=>aG cx (bw cx n Gx) (bw cx n) n k args H lo) args H else bif il cx k H then nc cx k args H else aG cx (bw cx n base) (bw cx n) n k args H lo)=some r:=h
   have hc:gD cx k H=true:=by
    unfold gD
    have:Nat.beq (cx.cut k) 0=false:=by
     cases hb:Nat.beq (cx.cut k) 0 with
     | false=>rfl
     | true=>exact absurd (Yy hb) h0
    rw[this,Zm hm]; rfl
   have hcm:cutAt cx k H=cx.cut k:=by unfold cutAt; rw[Zm hm]; rfl
   simp only[hc,Yi,hcm] at h
   obtain ⟨_,_,o,H1,_,hm1,_,_,rfl⟩:=pK h
   refine⟨X9,fun b hb=>?_⟩
   rw[YY XX,Zq,ZC,ZQ hm1]
   congr 1; omega
  intro f args H lo r hkc h F d g w0 w cargs hF hro hbs hr hgl hv
  have hrg:=oh horc hmx n
  have hcall:=hrg Bs base hy
  rw[bw,rV hkc] at h
  replace h:(bif gD cx f H then nW (cutAt cx f H) (fun H=>aG cx (bw cx n Gx) (bw cx n) n f args H lo) args H else bif il cx f H then nc cx f args H else aG cx (bw cx n base) (bw cx n) n f args H lo)=some r:=h
  cases hc:gD cx f H with
  | false=>
   rw[hc] at h
   cases hd:il cx f H with
   | false=>rw[hd] at h; exact og hcall hrg horc hmx h hF hro hbs hr hgl hv
   | true=>
    rw[hd] at h
    replace h:nc cx f args H=some r:=h
    unfold nc at h
    obtain ⟨y,hy,h⟩:=bD h
    obtain ⟨hv1,h⟩:=bu h
    cases h
    have hdp:cx.deep f=true:=by
     unfold il at hd
     cases hq:cx.deep f with
     | true=>rfl
     | false=>rw[hq] at hd; cases hd
    have hcallok:=horc f _ y (.inr (.inr hdp)) hy g.S w cargs hr.out (fun G vs hG j v hj=>let ⟨e1,e2⟩:=hgl G vs hG j v hj; ⟨e1,e2.1,fun b hb=>by cases hb⟩) (uX hr 6 _ _ hv)
    refine(iL hF hcallok).mono ?_
    rintro e w' ⟨c',rfl,hb,hvr⟩
    refine⟨g,hr.eQ hb,Ext.below hr hb,Yk _,fun _ _ _=>rfl,rfl,?_⟩
    cases y with
    | v x=>rw[VR] at hvr; show VR H g w' (.v x) c'; rw[VR]; exact hvr
    | _=>cases hv1
  | true=>
   simp only[hc,Yi] at h
   obtain ⟨hu1,hu2,o,H1,h9,hm1,hu3,hu4,rfl⟩:=pK h
   have hm:=DK (cx:=cx) (k:=f) (H:=H)
   obtain ⟨hr',ag⟩:=hr.rp hm (xb hu2)
   have hno:pz cx (fun _ _ _=>True) Gx:=⟨fun _ _ _ _ _ _ _ _=>trivial,fun _ _ _ _ _ h=>by cases h⟩
   refine(og (hrg _ _ hno) hrg horc hmx h9 hF hro trivial hr' (fun G vs hG=>(hgl G vs hG).to ag) (bE.to ag _ _ hu1 hv)).mono ?_
   rintro e w' ⟨g1,k1,k2,k3,k4,k6,k5⟩
   obtain ⟨g2,e1,e2,e3,ag2⟩:=hr.join hm k1 k2 hm1 k6 (xb hu3)
   refine⟨g2,e1,e2,X9,fun b hb hb'=>?_,e3,?_⟩
   ·by_cases hbm:b<cutAt cx f H
    ·rw[YE XX,YN,Yq hbm,k4 b hb XX,YN,Yq hbm]
    ·rw[YY XX,Zq,ZC,ZQ hm1]
     congr 1; omega
   ·cases o with
    | ret x=>cases e with
     | returned c=>exact VR.to ag2 _ _ hu4 k5
     | panicked _=>exact k5
     | outgrown=>exact k5
    | pan x=>cases e with
     | panicked ch=>obtain ⟨c,rfl,hv⟩:=k5; exact⟨c,rfl,VR.to ag2 _ _ hu4 hv⟩
     | returned _=>exact k5
     | outgrown=>exact k5
theorem BQ {n k:Nat} {args:List A} {H:aB} {lo:Nat} {r:R} (h:dH cx n k args H lo=some r):k<cx.P.funcs.size:=by
 refine ZL fun hle=>?_
 have hb:Nat.ble cx.P.funcs.size k=true:=by rw[qaG]; exact hle
 unfold dH at h
 cases n with
 | zero=>rw[bw,hb] at h; cases h
 | succ n=>rw[bw,hb] at h; cases h
theorem pI (horc:jV cx) (hmx:cx.P.follows .mixedOrders=true) {n k:Nat} {args:List A} {x:A} {H':aB} (h:dH cx n k args [] 0=some (.ret x,H')):fm cx.P cx.glob k args (br H' x):=by
 intro S w cargs hS hgl hv
 have hr:Rel [] (G0 S) w w:=⟨Below.refl _ _,fun b k h=>(by cases h),fun b c k h=>(by cases h),hS,fun b k o h=>(by cases h),fun b B h=>(by simp at h)⟩
 have hno:pz cx (fun _ _ _=>True) Gx:=⟨fun _ _ _ _ _ _ _ _=>trivial,fun _ _ _ _ _ h=>by cases h⟩
 have hkc:=BQ h
 have hc:=(oh horc hmx n _ _ hno).fn k args [] 0 _ hkc h Fence.wide 0 (G0 S) w w cargs Ak rfl trivial hr hgl hv
 refine(callsIn_wide.1 hc).mono ?_
 rintro e w' ⟨g',e1,e2,_,_,e5,e6⟩
 cases e with
 | returned c=>
  refine⟨c,rfl,e1.below,?_⟩
  exact VR.fq (H:=[]) (g:=G0 g'.S) ⟨fun k o v hs hc=>⟨hc,by have:=hs.1; rw[show (G0 g'.S).S=g'.S from rfl,e5] at this; exact this,fun b hb=>(by cases hb)⟩,fun b B hB=>(by simp at hB),fun k arr cl hs hm=>⟨hm,by have:=hs.1; rw[show (G0 g'.S).S=g'.S from rfl,e5] at this; exact this,fun b hb=>(by cases hb)⟩⟩ _ _ (Fo e1 x c e6)
 | panicked _=>exact e6.elim
 | outgrown=>exact e6.elim
end
section
open Go.RowKit
def Quiet (w w':World):Prop:=∃ m,w'=w.drewN m
theorem Quiet.refl (w:World):Quiet w w:=⟨0,rfl⟩
theorem Quiet.trans {a b c:World} (h:Quiet a b) (k:Quiet b c):Quiet a c:=by
 obtain ⟨m,rfl⟩:=h
 obtain ⟨n,rfl⟩:=k
 exact⟨m+n,by rw[World.drewN_drewN]⟩
theorem Quiet.drewN {a b:World} (h:Quiet a b) (n:Nat):Quiet a (b.drewN n):=h.trans ⟨n,rfl⟩
theorem Quiet.drew {a b:World} (h:Quiet a b):Quiet a b.drew:=h.trans ⟨1,rfl⟩
theorem Quiet.cell {w w':World} (h:Quiet w w') (a:Addr):w'.cell? a=w.cell? a:=by obtain ⟨m,rfl⟩:=h; rfl
theorem Quiet.below {w w':World} (h:Quiet w w') (B:Nat):Below B w w':=by obtain ⟨m,rfl⟩:=h; exact below_drewN (Below.refl _ _) m
theorem Quiet.size {w w':World} (h:Quiet w w'):w'.heap.size=w.heap.size:=by obtain ⟨m,rfl⟩:=h; rfl
end
section
open Go.RowKit Go.ChangeShapes Go.WideShapes Go.ChangeAt Go.Deep
theorem ov {H:Type} {enc:TypeId×Value->H} {P:Program} (hl:laidOutB P=true) {W W':World} (hb:Below W.heap.size W W') :
  ∀ (ts:List TypeId) (vs:List Value) (ds:List (DataW H)) (ps:List MemPlace),ts.all (fun t=>P.readableRec t&&decide (t<P.types.size))=true ->
   DataW.TrodAll enc P W 0 (fun _=>true) true ts vs ds ps->DataW.TrodAll enc P W' 0 (fun b=>decide (b<W.heap.size)) true ts vs ds ps
 | [],[],[],ps,_,h=>h
 | t :: ts,v :: vs,d :: ds,ps,hr,h=>by
  obtain ⟨p,q,h1,h2,rfl⟩:=h
  simp only[Z8,Yj,Yn] at hr
  have lt:∀ x∈p,x.block<W.heap.size:=by obtain ⟨m,hm⟩:=h1; exact DataW.trod_lt m _ _ _ hm
  exact⟨p,q,Below.trod hl hr.1.1 hr.1.2 h1 hb lt,ov hl hb ts vs ds q hr.2 h2,rfl⟩
 | [],_ :: _,_,_,_,h=>h.elim
 | [],[],_ :: _,_,_,h=>h.elim
 | _ :: _,[],_,_,_,h=>h.elim
 | _ :: _,_ :: _,[],_,_,h=>h.elim
theorem nQ {H:Type} {enc:TypeId×Value->H} {P:Program} {W:World} {base:Nat} {sp:Nat->Bool} {held:Bool} :
  ∀ (ts:List TypeId) (vs:List Value) (ds:List (DataW H)) (ps:List MemPlace),DataW.TrodAll enc P W base sp held ts vs ds ps->vs.length=ts.length/\ds.length=ts.length
 | [],[],[],_,_=>⟨rfl,rfl⟩
 | t :: ts,v :: vs,d :: ds,ps,h=>by
  obtain ⟨p,q,_,h2,_⟩:=h
  have:=nQ ts vs ds q h2
  simp[this.1,this.2]
 | [],_ :: _,_,_,h=>h.elim
 | [],[],_ :: _,_,h=>h.elim
 | _ :: _,[],_,_,h=>h.elim
 | _ :: _,_ :: _,[],_,h=>h.elim
theorem rl {H:Type} {enc:TypeId×Value->H} {P:Program} {W:World} {base:Nat} {sp:Nat->Bool} {held:Bool} :
  ∀ (ts:List TypeId) (vs:List Value) (ds:List (DataW H)) (ps:List MemPlace),DataW.TrodAll enc P W base sp held ts vs ds ps ->
   ∀ (j:Nat) (t:TypeId) (v:Value),ts[j]? = some t->vs[j]? = some v->∃ d p,DataW.Trod enc P W base sp held t v d p
 | t :: ts,v :: vs,d :: ds,ps,h,j,t',v',hj,hv=>by
  obtain ⟨p,q,h1,h2,_⟩:=h
  cases j with
  | zero=>cases hj; cases hv; exact⟨d,p,h1⟩
  | succ j=>exact rl ts vs ds q h2 j t' v' hj hv
 | [],[],[],_,_,_,_,_,hj,_=>by simp at hj
 | [],_ :: _,_,_,h,_,_,_,_,_=>h.elim
 | [],[],_ :: _,_,h,_,_,_,_,_=>h.elim
 | _ :: _,[],_,_,h,_,_,_,_,_=>h.elim
 | _ :: _,_ :: _,[],_,h,_,_,_,_,_=>h.elim
def qS {H:Type} (enc:TypeId×Value->H) (P:Program) (W:World) (base:Nat) (ts:Array TypeId) (args:Array Value):Prop:=
 args.size=ts.size/\∀ (j:Nat) t v,ts[j]? = some t->args[j]? = some v->Value.okWide P W .any base t v/\∃ d p,DataW.Trod enc P W 0 (fun _=>true) true t v d p
theorem we {H:Type} {enc:TypeId×Value->H} {P:Program} {f:Nat} {fn:Func} {s:ChangeSpec} {tb:TypeId} (hv:s.vars=[]) (hres:fn.resultTypes=#[tb]) (htb:P.underlying tb=some .bool)
  (hl:laidOutB P=true) (hread:fn.params.toList.all (fun t=>P.readableRec t&&decide (t<P.types.size))=true)
  (hs:∀ ds:List (DataW H),ds.length=fn.params.size->s.fn H ds={ results:=[.lit (.bool true)],args:=ds })
  (W:World) (base:Nat) (args:Array Value) (ds gs:List (DataW H)) (before:List MemPlace)
  (hval:∀ (j:Nat) t v,fn.params[j]? = some t->args[j]? = some v->Value.okWide P W .any base t v)
  (hW:DataW.Whole enc P fn.params.toList s.vars false W args.toList ds gs before)
  (walk:qS enc P W base fn.params args->Calls P f args W fun e W'=>e=.returned (.bool true)/\Below W.heap.size W W') :
  Calls P f args W fun e W'=>∃ v,e=.returned v/\s.post enc P fn false true false false W args v W':=by
 have hW':=hW
 obtain ⟨p,q,hA,hV,rfl,hfz,hnd⟩:=hW
 rw[hv] at hV
 obtain ⟨rfl,rfl⟩:=trodVars_none hV
 have hlen:=nQ _ _ _ _ hA
 refine(walk ⟨by simpa using hlen.1,fun j t v hj hv=>⟨hval j t v hj hv,?_⟩⟩).mono fun e W' ⟨he,bel⟩=>?_
 ·exact rl _ _ _ _ hA j t v (by simpa using hj) (by simpa using hv)
 ·subst he
  have e1:s.fn H (ds++[])={ results:=[.lit (.bool true)],args:=ds }:=by rw[Zp]; exact hs ds (by simpa using hlen.2)
  refine⟨_,rfl,ds,[],_,[],p,[],hW',?_,?_,?_,bel.frame _,fun h=>by cases h⟩
  ·rw[e1,hres]
   exact trodAll_mk1 (shut_bool htb _)
  ·rw[e1]
   exact ov hl bel _ _ _ _ hread hA
  ·rw[e1,hv]; exact rfl
theorem BZ {H:Type} {enc:TypeId×Value->H} {P:Program} {W:World} {base:Nat} {ts:Array TypeId} {args:Array Value} (h:qS enc P W base ts args) (j:Nat) {t:TypeId} {v:Value} (hj:ts[j]? = some t) (hv:args[j]? = some v) (ht:P.underlying t=some (.int .i64)) :
  ∃ n:Int,v=.int .i64 n/\-9223372036854775808<=n/\n<=9223372036854775807:=by
 obtain ⟨ok,d,p,htr⟩:=h.2 j t v hj hv
 obtain ⟨n,rfl,rfl,rfl,hw⟩:=open_int ht ok htr
 exact⟨n,rfl,(qbJ hw).1,(qbJ hw).2⟩
end
section
theorem pg {α β:Type} (P:Program) (f:α->Sem β):∀ (m:Sem α),cP P (m >>= f)=(cP P m).bind fun a=>cP P (f a)
 | .pure a=>rfl
 | .program k=>pg P f (k P)
 | .mark _ k=>pg P f k
 | .load .. | .store .. | .new .. | .shape .. | .freeze .. | .frozen .. | .getObj .. | .setObj .. | .choose .. | .sys .. | .halt _=>rfl
theorem qG (P:Program) (t:TypeId):cP P (underlying t)=P.underlying t:=by
 unfold underlying
 show cP P (match P.underlying t with | some d=>pure d | none=>stuck "no such type")=_
 cases P.underlying t<;>rfl
@[simp] theorem Mi {β:Type} (b:Bool) (x y:Option β):cu (.v (.bool b)) x y=bif b then x else y:=rfl
@[simp] theorem M0 {β:Type} (b:Bool) (x y:Option β):pY (.v (.bool b)) true x y=bif b then x else y:=rfl
@[simp] theorem Lv {β:Type} (b:Bool) (x y:Option β):pY (.v (.bool b)) false x y=bif b then y else x:=by cases b<;>rfl
@[simp] theorem Lw {β:Type} (w:Bool) (x y:Option β):pY (.v undef) w x y=y:=by cases w<;>rfl
@[simp] theorem NC (k:IntKind) (n:Int):(Value.int k n).oneCell'=true:=rfl
@[simp] theorem LA (b:Bool):(Value.bool b).oneCell'=true:=rfl
@[simp] theorem Jy (s:ByteArray):(Value.string s).oneCell'=true:=rfl
section
variable (P:Program) (t s d:TypeId) (i j:Bool) (k:IntKind) (a b:Int) (p q:Bool) (H:aB) (lo:Nat)
@[simp] theorem aZ:km P .eql t i j (.v (.int k a)) (.v (.int k b))=some (.v (.bool (a==b))):=by cases k<;>rfl
@[simp] theorem aH:km P .neq t i j (.v (.int k a)) (.v (.int k b))=some (.v (.bool (a != b))):=by cases k<;>rfl
@[simp] theorem aS:km P .lss t i j (.v (.int k a)) (.v (.int k b))=some (.v (.bool (decide (a<b)))):=by cases k<;>rfl
@[simp] theorem dT:km P .leq t i j (.v (.int k a)) (.v (.int k b))=some (.v (.bool (decide (a<=b)))):=by cases k<;>rfl
@[simp] theorem cC:km P .gtr t i j (.v (.int k a)) (.v (.int k b))=some (.v (.bool (decide (b<a)))):=by cases k<;>rfl
@[simp] theorem dq:km P .geq t i j (.v (.int k a)) (.v (.int k b))=some (.v (.bool (decide (b<=a)))):=by cases k<;>rfl
@[simp] theorem aF:km P .add t i j (.v (.int k a)) (.v (.int k b))=some (.v (.int k (k.wrap (a+b)))):=by cases k<;>rfl
@[simp] theorem dh:km P .sub t i j (.v (.int k a)) (.v (.int k b))=some (.v (.int k (k.wrap (a - b)))):=by cases k<;>rfl
@[simp] theorem pA:km P .mul t i j (.v (.int k a)) (.v (.int k b))=some (.v (.int k (k.wrap (a*b)))):=by cases k<;>rfl
def jy (a b:ByteArray):Bool:=a.toList==b.toList
theorem jX (x y:ByteArray):km P .eql t i j (.v (.string x)) (.v (.string y))=some (.v (.bool (jy x y))):=rfl
theorem yX (x y:ByteArray):km P .neq t i j (.v (.string x)) (.v (.string y))=some (.v (.bool (!jy x y))):=rfl
theorem rI (hb:b≠0):km P .rem t i j (.v (.int k a)) (.v (.int k b))=some (.v (.int k (a.tmod b))):=by
 have h:cP P (do eqGuard .rem t (rep i) (rep j) (.int k a) (.int k b); binOp .rem t (.int k a) (.int k b))=some (.int k (a.tmod b)):=by
  show cP P (binOp .rem t (.int k a) (.int k b))=_
  simp only[binOp,ne_eq,qaA,qap,Op.intDiv,Yp hb]; rfl
 show (cP P _).map tR=_
 rw[h]; rfl
theorem rH (hb:b≠0):km P .quo t i j (.v (.int k a)) (.v (.int k b))=some (.v (.int k (k.wrap (a.tdiv b)))):=by
 have h:cP P (do eqGuard .quo t (rep i) (rep j) (.int k a) (.int k b); binOp .quo t (.int k a) (.int k b))=some (.int k (k.wrap (a.tdiv b))):=by
  show cP P (binOp .quo t (.int k a) (.int k b))=_
  simp only[binOp,ne_eq,qaA,qap,Op.intDiv,Yp hb]; rfl
 show (cP P _).map tR=_
 rw[h]; rfl
@[simp] theorem Px:iC P .not (.v (.bool p))=some (.v (.bool (!p))):=rfl
@[simp] theorem Pw:iC P .neg (.v (.int k a))=some (.v (.int k (k.wrap (0 - a)))):=rfl
@[simp] theorem FT (l:List A) (n:Nat):m9 (.tup l) n=l[n]?:=rfl
@[simp] theorem TK (x:Value):snap H (.v x)=.v x:=rfl
@[simp] theorem PN (L:Nat) (x:Value):A.under L (.v x)=true:=rfl
@[simp] theorem SS (L:Nat) (x:Value) (H':aB):Ae L (.ret (.v x),H')=some (.v x):=rfl
@[simp] theorem NG (x:A) (f g:A->Option R):ee (.ret x) f g=f x:=rfl
@[simp] theorem NF (x:A) (f g:A->Option R):ee (.pan x) f g=g x:=rfl
@[simp] theorem Ls {α β:Type} (x y:α) (f:α->Option β):(bif p then some x else some y).bind f=f (bif p then x else y):=by cases p<;>rfl
@[simp] theorem Re (x y:Value):(bif p then A.v x else A.v y)=A.v (bif p then x else y):=by cases p<;>rfl
@[simp] theorem Lt (x y:Bool):(bif p then Value.bool x else Value.bool y)=Value.bool (bif p then x else y):=by cases p<;>rfl
@[simp] theorem Mn (x y:Int):(bif p then Value.int k x else Value.int k y)=Value.int k (bif p then x else y):=by cases p<;>rfl
theorem aV {l:IntKind} (hs:P.underlying s=some (.int l)) (hd:P.underlying d=some (.int k)):bz P s d (.v (.int l a)) H=some (.v (.int k (k.wrap a))):=by
 simp only[bz,hs,hd]
 have h:cP P (convert s d (.int l a))=some (.int k (k.wrap a)):=by
  unfold convert
  simp only[pg,qG,hs,hd,Yf]
  rfl
 show (cP P _).map tR=_
 rw[h]; rfl
end
end
end Go.Proofs.YtebkhfhcipnfgaaGreat
