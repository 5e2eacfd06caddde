/-
 What the interpreter's steps are on plain data: equations for simp.
-/
import Derived.Test.YtebkhfhcipnfgaaGreatEvHole
import Derived.LoopNIn
import Derived.RecoverIn
import Derived.Deep.QuietTactic
import Derived.BigQuiet
import Derived.WalkSmall
import Derived.Below
import Derived.ProofKit
import Derived.OpenShut
import Derived.ChangeOld
import Derived.Carry
namespace Go.Proofs.YtebkhfhcipnfgaaGreat
set_option linter.unusedSimpArgs false
set_option linter.unusedVariables false
set_option linter.defProp false
def X7:=@Bool.not_true
def Yl:=@Nat.not_lt_zero
def Yp:=@Nat.le_of_ble_eq_true
def YO:=@Bool.eq_iff_iff
def YU:=@Nat.ble_eq_true_of_le
def Y9:=@Int.toNat_natCast
def Zd:=@List.length_drop
def Zt:=@List.mem_cons_of_mem
def ZB:=@Nat.le_add_right
def ZM:=@List.reverse_singleton
def ZN:=@List.mem_cons_self
def ZQ:=@Bool.eq_false_iff
def Z4:=@Oper.semAt_none
def Z9:=@not_true_eq_false
def qae:=@linearise_go_acc
def qap:=@Nat.ble_eq
def qaG:=@step_lone_go
def qaU:=@Option.isNone_iff_eq_none
def qaV:=@List.pairwise_iff_getElem
def qa1:=@Nat.lt_or_ge
def qa2:=@Frame.finish_atR
def qa3:=@List.length_eq_zero_iff
def qa8:=@fenced_calm
def qbf:=@Array.mem_of_getElem?
def qbk:=@bounds_i64
def qbs:=@List.map_congr_left
def qbt:=@tryRecover_deferred
def qbB:=@fenced_oper
def qbD:=@wpIn_seq
section
open Go.RowKit
section
variable {F:Fence} {n:Nat} {P:Program} {ops:Array Oper} {Q:Exit->Act->World->Prop}
def E8 (F:Fence) (n:Nat) (P:Program) (o:Oper) (ev:Operand->Value) (w:World) (R:Value->World->Prop) (Rp:List PanicEntry->World->Prop):Prop:=
 yq F n P o ev w R∨∃ f args w',(execOp ev o).run P w=.ok (.enter f args) w'/\CallsIn F (n - 1) P f args w' fun
   | .returned v,w''=>R v w''
   | .panicked ch,w''=>Rp ch w''
   | _,_=>False
theorem th (hWF:rb F) {i:Nat} {o:Oper} (ho:ops[i]? = some o) (hp:mg o=true) {a:Act} {w:World} {K:Act->World->Prop} {R:Value->World->Prop}
  (h:if Region.wanted o (yielded ops a.tmps)=true then E8 F n P o a.eval w R (fun ch w'=>Q (.panic ch) a w') else R undef w) (hK:∀ v w',R v w'->K (a.put o.dst v) w'):wpOpIn F n P ops Q i K a w:=by
 by_cases hw:Region.wanted o (yielded ops a.tmps)=true
 ·rw[XX hw] at h
  rcases h with h | ⟨f,args,w',h1,h2⟩
  ·exact kF hWF ho hp (by rw[XX hw]; exact h) hK
  ·unfold wpOpIn
   simp only[ho]
   rw[XX hw]
   refine⟨fun f _=>hWF.2 f,?_⟩
   rw[qbm _ _ _ (fun c hc=>by unfold mg at hp; rw[hc] at hp; cases hp),h1]
   have hd:F.depth.isSome=true->1<=n:=fun hs=>by rw[hWF.1] at hs; cases hs
   simp only[Oper.uponIn]
   exact⟨hd,h2.mono fun e w'' he=>by cases e<;>first | exact hK _ _ he | exact he | exact he.elim⟩
 ·exact kF hWF ho hp (by rw[XW hw] at h ⊢; exact h) hK
theorem sK {a0:Act} {w0:World} (hWF:rb F) (hm:P.follows .mixedOrders=true) (N m:Nat) (hN:a0.tmps.size=N) (lU:tI ops N=true) (chkt:ft ops m=true)
  (I:(Nat->Prop)->Act->World->Prop) (h0:∀ D,(∀ i,¬ D i)->I D a0 w0.drew)
  (hstep:∀ (D D':Nat->Prop) i o,i<m->ops[i]? = some o->(∀ j,D j->j<m)->¬ D i->(∀ j,fB ops i j=true->D j)->(∀ j k,D j->fB ops j k=true->D k)->(∀ j,D' j↔j=i∨D j)->∀ (a:Act) (w:World),I D a w->a.tmps.size=N->a.defers=a0.defers ->
   if Region.wanted o (yielded ops a.tmps)=true then E8 F n P o a.eval w (fun v w'=>I D' (a.put o.dst v) w') (fun ch w'=>Q (.panic ch) a w') else I D' (a.put o.dst undef) w)
  (hend:∀ (D:Nat->Prop) (a:Act) (w:World),(∀ i,i<m->D i)->(∀ j,D j->j<m)->I D a w->a.defers=a0.defers->a.tmps.size=N->wpListIn F n P ops Q (ops.toList.drop m) a w) :
  LW F n P ops Q a0 w0:=by
 have chk1:∀ i o,ops[i]? = some o->mg o=true/\(∀ e∈o.after,Region.binds .any e=true->e.on<i):=by
  intro i o ho
  have hi:i<ops.size:=(XU.1 ho).1
  have h:=X0.1 lU i (Yj.2 hi)
  simp only[ho,XQ] at h
  obtain ⟨⟨⟨⟨⟨h1,h2⟩,h3⟩,h4⟩,h5⟩,h6⟩:=h
  refine⟨h1,fun e he hb=>?_⟩
  have:=ZT.1 h3 e he
  rw[hb] at this; simpa using this
 have hm2:m<=ops.size:=by
  simp only[ft,XQ,XV] at chkt
  exact chkt.1.1
 have main:∀ (fuel:Nat) (listed:Array Bool) (a:Act) (w:World),A2 ops listed<=fuel->listed.size=ops.size->I (fun i=>eL ops listed i) a w->a.defers=a0.defers->a.tmps.size=N ->
   (∀ i o,ops[i]? = some o->eL ops listed i->∀ e∈o.after,Region.binds .any e=true->eL ops listed e.on)->(∀ i,m<=i->¬ eL ops listed i)->wpAnyIn F n P .any ops Q fuel listed a w:=by
  have getD_eq:∀ (listed:Array Bool) (i:Nat),i<listed.size->listed.getD i true=listed.getD i false:=fun listed i hi=>by simp[hi]
  intro fuel
  induction fuel with
  | zero=>
   intro listed a w hu hls hI hdf hsz hcl hnt
   have all:∀ i,i<ops.size->eL ops listed i:=fun i hi=>by
    cases hc:listed.getD i false with
    | true=>exact hc
    | false=>
     have hmem:i∈(List.range ops.size).filter (fun i=>!listed.getD i true):=qay.2 ⟨Yj.2 hi,by rw[getD_eq _ _ o3,hc]; rfl⟩
     have:=ZL hmem
     unfold A2 at hu; omega
   have hmm:m=ops.size:=qaz hm2 (ZA fun h=>hnt m (XP _) (all m h))
   exact pI chkt 0 ops.size o3 hm2 0 listed a w (XP _) hls (fun i hi=>⟨fun _=>hi,fun _=>all i hi⟩)
    (by rw[<-hmm]; exact hend _ a w (fun i hi=>all i o3) (fun j hj=>Y1 fun hle=>hnt j hle hj) hI hdf hsz)
  | succ fuel ih=>
   intro listed a w hu hls hI hdf hsz hcl hnt
   by_cases hall:∀ i,i<m->eL ops listed i
   ·refine pI chkt (ops.size - m) m o3 (XP _) (fuel+1) listed a w ?_ hls (fun i hi=>⟨fun h=>Y1 fun hle=>hnt i hle h,fun h=>hall i h⟩)
     (hend _ a w hall (fun j hj=>Y1 fun hle=>hnt j hle hj) hI hdf hsz)
    refine Yb ?_ hu
    unfold A2
    have:((List.range ops.size).filter fun i=>decide (m<=i)).length=ops.size - m:=by
     rw[<-Za]
     have:∀ s,(List.range s).countP (fun i=>decide (m<=i))=s - m:=by
      intro s
      induction s with
      | zero=>simp
      | succ s ih=>rw[List.range_succ,List.countP_append,ih]; simp[List.countP_cons]; split<;>omega
     exact this _
    rw[<-this]
    rw[<-Za,<-Za]
    refine qbc fun i hi h=>?_
    have hi:=Yj.1 hi
    have hn:=hnt i (by simpa using h)
    unfold eL at hn
    rw[getD_eq _ _ o3]
    simpa using hn
   ·simp only[qbi] at hall
    obtain ⟨i0,hi0,hni0⟩:=hall
    refine⟨fun hrd=>?_,fun i hi=>?_⟩
    ·exfalso
     have:∀ i,i<m->eL ops listed i:=by
      intro i
      induction i using Nat.strongRecOn with
      | _ i ih2=>
       intro hi
       cases hc:listed.getD i false with
       | true=>exact hc
       | false=>
        have:i∈Region.ready .any ops listed:=by
         refine ZZ.2 ⟨by rw[getD_eq _ _ o3]; exact hc,_,YD o3,fun e he hb=>?_⟩
         have hlt:=(chk1 i _ (YD o3)).2 e he hb
         exact ih2 e.on hlt o3
        rw[hrd] at this; cases this
     exact hni0 (this i0 hi0)
    obtain ⟨hun,o,ho,hall⟩:=ZZ.1 hi
    have his:i<ops.size:=(XU.1 ho).1
    have him:i<m:=Y1 fun hle=>by
     simp only[ft,XQ] at chkt
     have h1:=X0.1 chkt.1.2 i (Yj.2 his)
     simp only[YP,XV] at h1
     have h2:=X0.1 (h1.resolve_left o3) i0 (Yj.2 hi0)
     exact hni0 (ll hcl i i0 ⟨o,ho,hall⟩ h2)
    obtain ⟨c1,c3⟩:=chk1 i o ho
    have hnot:¬ eL ops listed i:=by unfold eL; rw[<-getD_eq _ _ o3,hun]; simp
    have come_set:∀ k,eL ops (listed.setIfInBounds i true) k↔k=i∨eL ops listed k:=fun k=>by
     unfold eL
     by_cases e:k=i
     ·subst e; simp[hls,his]
     ·rw[ZR false (YS e)]; simp[e]
    have hlt:∀ j,eL ops listed j->j<m:=fun j hj=>Y1 fun hle=>hnt j hle hj
    refine th hWF ho c1 (R:=fun v w'=>I (fun k=>eL ops (listed.setIfInBounds i true) k) (a.put o.dst v) w') (hstep _ _ i o him ho hlt hnot (fun j hb=>ll hcl i j ⟨o,ho,hall⟩ hb) (fun j k hj hb=>?_) come_set a w hI hsz hdf) ?_
    ·cases hoj:ops[j]? with
     | none=>exact absurd (Array.getElem?_eq_none_iff.1 hoj) (by have:=hlt j hj; omega)
     | some oj=>exact ll hcl j k ⟨oj,hoj,hcl j oj hoj hj⟩ hb
    ·intro v w' hI'
     refine ih _ _ _ ?_ (by simpa using hls) hI' ?_ ?_ ?_ ?_
     ·have:=filter_lt (fun k=>!listed.getD k true) (fun k=>!(listed.setIfInBounds i true).getD k true) (List.range ops.size) (fun x hx hq=>by
       by_cases e:i=x
       ·subst e; rw[hun]; rfl
       ·rw[ZR true e] at hq; exact hq) ⟨i,Yj.2 his,by rw[hun]; rfl,by simp[hls,his]⟩
      unfold A2 at *; omega
     ·cases hd:o.dst<;>simp[Act.put,hdf]
     ·cases hd:o.dst<;>simp[Act.put,hsz]
     ·intro k ok hok hk e he hb
      rw[come_set]
      rcases (come_set k).1 hk with rfl | hk
      ·rw[ho] at hok; cases hok
       exact .inr (hall e he hb)
      ·exact .inr (hcl k ok hok hk e he hb)
     ·intro k hk hc
      rcases (come_set k).1 hc with rfl | hc
      ·omega
      ·exact hnt k hk hc
 have h00:∀ i,¬ eL ops (Array.replicate ops.size false) i:=fun i hc=>by
  unfold eL at hc
  by_cases h:i<ops.size<;>simp[Array.getD,h] at hc
 refine Cc hm (main _ _ _ _ ?_ r8 (h0 _ h00) rfl hN ?_ ?_)
 ·unfold A2
  exact Yb (qax _ _) r8
 ·intro i o _ hc; exact absurd hc (h00 i)
 ·intro i _ hc; exact h00 i hc
end
variable {H H':aC} {g g':Gh} {w0 w w':World} {cx:Cx} {s:St} {a:Act} {F:Fence} {n:Nat} {N lo:Nat} {mb:Mb} {H0:aC} {gs:Gh} {ws:World} {Bs:aC->Gh->World->Prop} {f:Nat} {ops:Array Oper}
theorem rN {call:bo} {o:Oper} {fr:List (Nat×A)} {H H':aC} (hk:bV o=0):gS cx call f o ⟨fr,H⟩=gS cx call f o ⟨fr,H'⟩:=by
 have ho:∀ x,cg cx ⟨fr,H⟩ x=cg cx ⟨fr,H'⟩ x:=fun x=>by cases x<;>rfl
 have hof:cg cx ⟨fr,H⟩=cg cx ⟨fr,H'⟩:=funext ho
 unfold bV at hk
 unfold gS bQ
 split at hk
 all_goals first
  | (rename_i h; simp only[h,ho,hof]; done)
  | (rename_i h; simp only[h,ho,hof]; rfl)
  | (cases hk; done)
  | (split at hk<;>cases hk; done)
theorem Bt {H H':aC} {a:A} (h:qt a=true):di H a=di H' a:=by
 unfold qt at h
 unfold di
 split
 ·cases h
 ·rename_i cs
  congr 1
  refine qbs fun c hc=>?_
  have:=X0.1 h c hc
  unfold HW at this
  unfold Br
  split
  ·cases this
  ·rfl
  ·rfl
 ·rfl
theorem rT:∀ {l:List A},py l=true->∀ a∈l,qt a=true
 | [],_,a,ha=>by cases ha
 | x :: l,h,a,ha=>by
  unfold py at h
  cases hx:qt x with
  | false=>rw[hx] at h; cases h
  | true=>
   rw[hx] at h
   rcases YC.1 ha with rfl | ha
   ·exact hx
   ·exact rT h a ha
theorem xl {call:bo} {o:Oper} {fr:List (Nat×A)} {H H':aC} (hk:bV o=2) (hf:py (partsOf cx ⟨fr,H⟩ o.op)=true):gS cx call f o ⟨fr,H⟩=gS cx call f o ⟨fr,H'⟩:=by
 have ho:∀ x,cg cx ⟨fr,H⟩ x=cg cx ⟨fr,H'⟩ x:=fun x=>by cases x<;>rfl
 unfold bV at hk
 split at hk<;>first | (cases hk; done) | (split at hk<;>cases hk; done) | skip
 rename_i t len parts h
 have hf:=rT hf
 unfold partsOf at hf
 rw[h] at hf
 simp only[] at hf
 unfold gS bQ
 simp only[h]
 have:(parts.toList.map fun p=>(p.1,di H (cg cx ⟨fr,H⟩ p.2)))=parts.toList.map fun p=>(p.1,di H' (cg cx ⟨fr,H'⟩ p.2)):=by
  refine qbs fun p hp=>?_
  rw[<-ho,Bt (hf _ (qaW.2 ⟨p,hp,rfl⟩))]
 rw[this]
theorem nE {H H':aC} {x:A} (hb:∀ b,blk? x=some b->H'[b]? = H[b]?):gw H x=gw H' x:=by
 unfold gw
 cases x with
 | ptr b o=>simp only[]; rw[hb b rfl]
 | ep b i o=>simp only[]; rw[hb b rfl]
 | sl b o n c=>simp only[]; rw[hb b rfl]
 | mr b=>simp only[]; rw[hb b rfl]
 | _=>rfl
theorem vG {call:bo} {o:Oper} {fr:List (Nat×A)} {H H':aC} (hk:bV o=1) (hb:∀ b,blk? (addrOf cx ⟨fr,H⟩ o.op)=some b->H'[b]? = H[b]?):gS cx call f o ⟨fr,H⟩=gS cx call f o ⟨fr,H'⟩:=by
 have ho:∀ x,cg cx ⟨fr,H⟩ x=cg cx ⟨fr,H'⟩ x:=fun x=>by cases x<;>rfl
 have hof:cg cx ⟨fr,H⟩=cg cx ⟨fr,H'⟩:=funext ho
 unfold bV at hk
 split at hk<;>first | (cases hk; done) | skip
 ·rename_i t x h
  unfold addrOf at hb
  rw[h] at hb
  simp only[] at hb
  unfold gS bQ
  simp only[h]
  have:lh cx.P t (cg cx ⟨fr,H⟩ x) H=lh cx.P t (cg cx ⟨fr,H'⟩ x) H':=by
   rw[<-ho]
   unfold lh
   cases hx:cg cx ⟨fr,H⟩ x with
   | ptr b o=>simp only[]; rw[hb b (by rw[hx]; rfl)]
   | ep b i o=>simp only[]; rw[hb b (by rw[hx]; rfl)]
   | _=>rfl
  rw[this]
 ·rename_i t x i h
  unfold addrOf at hb
  rw[h] at hb
  simp only[] at hb
  unfold gS bQ
  simp only[h]
  have:fG cx.P t (cg cx ⟨fr,H⟩ x) i H=fG cx.P t (cg cx ⟨fr,H'⟩ x) i H':=by
   rw[<-ho]
   unfold fG
   rw[nE hb]
  rw[this]
 ·rename_i t x i h
  unfold addrOf at hb
  rw[h] at hb
  simp only[] at hb
  unfold gS bQ
  simp only[h]
  have:dj cx.P t (cg cx ⟨fr,H⟩ x) (cg cx ⟨fr,H⟩ i) H=dj cx.P t (cg cx ⟨fr,H'⟩ x) (cg cx ⟨fr,H'⟩ i) H':=by
   rw[<-ho,<-ho]
   unfold dj
   rw[nE hb]
   cases hx:cg cx ⟨fr,H⟩ x with
   | ptr b o=>rfl
   | ep b i o=>simp only[]; rw[hb b (by rw[hx]; rfl)]
   | sl b o n c=>simp only[]; rw[hb b (by rw[hx]; rfl)]
   | _=>rfl
  rw[this]
 ·rename_i t x lo hi mx h
  unfold addrOf at hb
  rw[h] at hb
  simp only[] at hb
  unfold gS bQ
  simp only[h]
  have:∀ a b c,dA cx.P t (cg cx ⟨fr,H⟩ x) a b c H=dA cx.P t (cg cx ⟨fr,H'⟩ x) a b c H':=fun a b c=>by
   rw[<-ho]
   generalize hx:cg cx ⟨fr,H⟩ x=y at hb ⊢
   unfold dA
   split
   ·rfl
   ·rfl
   ·rename_i hb'
    rw[hb _ rfl]
   ·rfl
   ·rename_i hb'
    rw[hb _ rfl]
   ·rfl
  simp only[this]
  simp only[hof]
 ·rename_i x h
  unfold addrOf at hb
  rw[h] at hb
  simp only[] at hb
  unfold gS bQ
  simp only[h]
  have:Ba (cg cx ⟨fr,H⟩ x) H=Ba (cg cx ⟨fr,H'⟩ x) H':=by
   rw[<-ho]
   have hr:=nE hb
   unfold Ba
   cases hx:cg cx ⟨fr,H⟩ x with
   | ptr b o=>rw[hx] at hr; simp only[qb,hr]
   | ep b i o=>rw[hx] at hr; simp only[qb,hr]
   | fn q _ _=>cases q<;>rfl
   | _=>rfl
  rw[this]
 ·rename_i t1 t2 x h
  unfold addrOf at hb
  rw[h] at hb
  simp only[] at hb
  unfold gS bQ
  simp only[h]
  have:bt cx.P t1 t2 (cg cx ⟨fr,H⟩ x) H=bt cx.P t1 t2 (cg cx ⟨fr,H'⟩ x) H':=by
   rw[<-ho]
   have he:xc H (cg cx ⟨fr,H⟩ x)=xc H' (cg cx ⟨fr,H⟩ x):=by
    unfold xc els?
    cases hx:cg cx ⟨fr,H⟩ x with
    | sl b o n c=>simp only[]; rw[hb b (by rw[hx]; rfl)]
    | v y=>rfl
    | _=>rfl
   generalize cg cx ⟨fr,H⟩ x=z at he
   unfold bt
   split
   ·rw[he]
   ·rfl
   ·rfl
  rw[this]
 ·rename_i t x q c h
  unfold addrOf at hb
  rw[h] at hb
  simp only[] at hb
  unfold gS bQ
  simp only[h]
  have:lR cx.P t (cg cx ⟨fr,H⟩ x) (cg cx ⟨fr,H⟩ q) c H=lR cx.P t (cg cx ⟨fr,H'⟩ x) (cg cx ⟨fr,H'⟩ q) c H':=by
   rw[<-ho,<-ho]
   unfold lR
   cases hx:cg cx ⟨fr,H⟩ x with
   | mr b=>simp only[]; rw[hb b (by rw[hx]; rfl)]
   | _=>rfl
  rw[this]
 ·rename_i c h
  split at hk<;>first | (cases hk; done) | skip
  rename_i hc
  unfold addrOf at hb
  rw[h] at hb
  simp only[] at hb
  unfold gS bQ
  simp only[h,hc]
  have hi:iD (.call c)=false:=by unfold iD; simp only[hc]
  rw[hi,XO,XO]
  unfold pn
  simp only[hc]
  cases hx:c.args.toList with
  | nil=>rfl
  | cons y l=>
   rw[hx] at hb
   simp only[] at hb
   cases l with
   | nil=>
    cases c.argTypes.toList with
    | nil=>rfl
    | cons t ts=>cases ts with
     | nil=>
      simp only[]
      have:rk cx.P t (cg cx ⟨fr,H⟩ y) H=rk cx.P t (cg cx ⟨fr,H'⟩ y) H':=by
       rw[<-ho]
       unfold rk
       rw[nE hb]
      rw[this]
     | cons _ _=>rfl
   | cons _ _=>rfl
theorem jd {H:aC} {x:A} {b:Nat} (h:gw H x=true) (hb:blk? x=some b):∃ B,H[b]? = some B:=by
 unfold gw at h
 cases x with
 | ptr b' o=>cases hb; cases hq:H[b]? with
  | none=>simp only[hq] at h; cases h
  | some B=>exact⟨B,rfl⟩
 | ep b' i o=>cases hb; cases hq:H[b]? with
  | none=>simp only[hq] at h; cases h
  | some B=>exact⟨B,rfl⟩
 | sl b' o n c=>cases hb; cases hq:H[b]? with
  | none=>simp only[hq] at h; cases h
  | some B=>exact⟨B,rfl⟩
 | mr b'=>cases hb; cases hq:H[b]? with
  | none=>simp only[hq] at h; cases h
  | some B=>exact⟨B,rfl⟩
 | _=>cases hb
theorem uo {call:bo} {o:Oper} {s:St} {x:A} {b:Nat} (hk:bV o=1) (h1:gS cx call f o s=some x) (hb:blk? (addrOf cx s o.op)=some b):∃ B,s.H[b]? = some B:=by
 unfold bV at hk
 unfold addrOf at hb
 split at hk<;>first | (cases hk; done) | skip
 ·rename_i t y hx
  rw[hx] at hb
  simp only[] at hb
  unfold gS bQ at h1
  simp only[hx] at h1
  obtain ⟨_,h1,_⟩:=bE h1
  unfold lh at h1
  obtain ⟨_,_,h1⟩:=bE h1
  obtain ⟨_,h1⟩:=eE h1
  generalize cg cx s y=z at hb h1
  cases z with
  | ptr b2 o2=>cases hb; cases hq:s.H[b]? with
   | none=>simp only[hq] at h1; cases h1
   | some B=>exact⟨B,rfl⟩
  | ep b2 i2 o2=>cases hb; cases hq:s.H[b]? with
   | none=>simp only[hq] at h1; cases h1
   | some B=>exact⟨B,rfl⟩
  | sl b2 o2 n2 c2=>cases h1
  | mr _=>cases h1
  | _=>cases hb
 ·rename_i t y q hx
  rw[hx] at hb
  simp only[] at hb
  unfold gS bQ at h1
  simp only[hx] at h1
  obtain ⟨_,h1,_⟩:=bE h1
  unfold fG at h1
  exact jd (bu h1).1 hb
 ·rename_i t y q hx
  rw[hx] at hb
  simp only[] at hb
  unfold gS bQ at h1
  simp only[hx] at h1
  obtain ⟨_,h1,_⟩:=bE h1
  unfold dj at h1
  obtain ⟨_,_,h1⟩:=bE h1
  exact jd (bu h1).1 hb
 ·rename_i t y q1 q2 q3 hx
  rw[hx] at hb
  simp only[] at hb
  unfold gS bQ at h1
  simp only[hx] at h1
  obtain ⟨_,h1,_⟩:=bE h1
  obtain ⟨_,h1⟩:=bu h1
  generalize cg cx s y=z at hb h1
  unfold dA at h1
  split at h1
  ·cases hb
  ·cases hb
  ·cases hb
   obtain ⟨_,_,h1⟩:=bE h1
   obtain ⟨_,_,h1⟩:=bE h1
   obtain ⟨_,_,h1⟩:=bE h1
   obtain ⟨hc,_⟩:=bu h1
   rw[XQ] at hc
   have hc:=hc.2
   cases hq:s.H[b]? with
   | none=>rw[hq] at hc; cases hc
   | some B=>exact⟨B,rfl⟩
  ·cases hb
  ·cases hb
   obtain ⟨_,_,h1⟩:=bE h1
   obtain ⟨_,_,h1⟩:=bE h1
   obtain ⟨_,_,h1⟩:=bE h1
   obtain ⟨hc,_⟩:=bu h1
   rw[XQ] at hc
   have hc:=hc.2
   cases hq:s.H[b]? with
   | none=>rw[hq] at hc; cases hc
   | some B=>exact⟨B,rfl⟩
  ·cases h1
 ·rename_i y hx
  rw[hx] at hb
  simp only[] at hb
  unfold gS bQ at h1
  simp only[hx] at h1
  obtain ⟨_,h1,_⟩:=bE h1
  unfold Ba at h1
  obtain ⟨hn,_⟩:=bu h1
  generalize cg cx s y=z at hb hn
  cases z with
  | ptr b2 o2=>exact jd (x:=.ptr b2 o2) hn hb
  | ep b2 i2 o2=>exact jd (x:=.ep b2 i2 o2) hn hb
  | sl b2 o2 n2 c2=>cases hn
  | mr _=>cases hn
  | _=>cases hb
 ·rename_i t1 t2 y hx
  rw[hx] at hb
  simp only[] at hb
  unfold gS bQ at h1
  simp only[hx] at h1
  obtain ⟨_,h1,_⟩:=bE h1
  generalize cg cx s y=z at hb h1
  cases z with
  | sl b2 o2 n2 c2=>
   cases hb
   cases hq:s.H[b]? with
   | some B=>exact⟨B,rfl⟩
   | none=>
    unfold bt at h1
    split at h1
    ·rename_i heq
     split at h1
     ·obtain ⟨_,h1,_⟩:=bE h1
      simp only[xc,els?,hq] at h1
      cases h1
     ·cases h1
    ·rename_i heq
     cases heq
    ·obtain ⟨_,h1,_⟩:=bE h1
     cases h1
  | ptr _ _=>
   unfold bt at h1
   split at h1
   ·split at h1
    ·obtain ⟨_,h1,_⟩:=bE h1
     cases h1
    ·cases h1
   ·rename_i heq
    cases heq
   ·obtain ⟨_,h1,_⟩:=bE h1
    cases h1
  | ep _ _ _=>
   unfold bt at h1
   split at h1
   ·split at h1
    ·obtain ⟨_,h1,_⟩:=bE h1
     cases h1
    ·cases h1
   ·rename_i heq
    cases heq
   ·obtain ⟨_,h1,_⟩:=bE h1
    cases h1
  | mr _=>
   unfold bt at h1
   split at h1
   ·split at h1
    ·obtain ⟨_,h1,_⟩:=bE h1
     cases h1
    ·cases h1
   ·rename_i heq
    cases heq
   ·obtain ⟨_,h1,_⟩:=bE h1
    cases h1
  | _=>cases hb
 ·rename_i t y q c hx
  rw[hx] at hb
  simp only[] at hb
  unfold gS bQ at h1
  simp only[hx] at h1
  obtain ⟨_,h1,_⟩:=bE h1
  generalize cg cx s y=z at hb h1
  unfold lR at h1
  obtain ⟨_,_,h1⟩:=bE h1
  obtain ⟨_,_,h1⟩:=bE h1
  cases z with
  | mr b2=>cases hb; cases hq:s.H[b]? with
   | none=>simp only[hq] at h1; cases h1
   | some B=>exact⟨B,rfl⟩
  | ptr _ _=>cases h1
  | ep _ _ _=>cases h1
  | sl _ _ _ _=>cases h1
  | _=>cases hb
 ·rename_i c hx
  split at hk<;>first | (cases hk; done) | skip
  rename_i hc
  rw[hx] at hb
  simp only[] at hb
  unfold gS bQ at h1
  simp only[hx,hc] at h1
  have hi:iD (.call c)=false:=by unfold iD; simp only[hc]
  rw[hi,XO] at h1
  unfold pn at h1
  simp only[hc] at h1
  cases hargs:c.args.toList with
  | nil=>rw[hargs] at hb; cases hb
  | cons y l=>
   rw[hargs] at hb h1
   simp only[] at hb h1
   split at h1<;>first | (cases h1; done) | skip
   all_goals first
    | (rename_i hh _ _; injection hh with hh; cases hh; done)
    | (rename_i hh _; injection hh with hh; cases hh; done)
    | skip
   rename_i x' t' _ hl _
   cases hl
   obtain ⟨_,h1,_⟩:=bE h1
   unfold rk at h1
   exact jd (bu h1).1 hb
theorem rM {call:bo} {o:Oper} {fr:List (Nat×A)} {H H':aC} (hk:bV o=2∨(bV o=4/\uG cx o=true)) (h:∀ b,fX H b=fX H' b):gS cx call f o ⟨fr,H⟩=gS cx call f o ⟨fr,H'⟩:=by
 have ho:∀ x,cg cx ⟨fr,H⟩ x=cg cx ⟨fr,H'⟩ x:=fun x=>by cases x<;>rfl
 have hof:cg cx ⟨fr,H⟩=cg cx ⟨fr,H'⟩:=funext ho
 rcases hk with hk | ⟨_,hk⟩
 ·unfold bV at hk
  split at hk<;>first | (cases hk; done) | (rename_i c _; split at hk<;>cases hk; done) | skip
  rename_i t len parts ho
  unfold gS bQ
  simp only[ho,hof,uu h]
 ·unfold uG at hk
  split at hk
  ·rename_i c hc
   split at hk
   ·rename_i q hq
    rw[XQ] at hk
    have hi:iD o.op=true:=by unfold iD; rw[hc]; simp only[hq]
    unfold gS
    simp only[hc] at hi ⊢
    rw[hi,XR,XR]
    unfold iZ eT
    simp only[hq]
    have hfv:∀ K,cg cx ⟨fr,K⟩ (.func q)=.fn (.func q) [] []:=fun _=>rfl
    rw[hfv,hfv]
    unfold qK
    simp only[hk.1,hk.2,XR,hof,qe h]
   ·cases hk
  ·cases hk
theorem Du {call:bo} {o:Oper} {s:St} {H H':aC} (hk:FJ cx s o=true) (h:∀ b,fX H b=fX H' b):gS cx call f o ⟨s.fr,H⟩=gS cx call f o ⟨s.fr,H'⟩:=by
 have ho:∀ x,cg cx ⟨s.fr,H⟩ x=cg cx ⟨s.fr,H'⟩ x:=fun x=>by cases x<;>rfl
 have ho2:∀ x,cg cx ⟨s.fr,H'⟩ x=cg cx s x:=fun x=>by cases x<;>rfl
 have hof:cg cx ⟨s.fr,H⟩=cg cx ⟨s.fr,H'⟩:=funext ho
 have hof2:cg cx ⟨s.fr,H'⟩=cg cx s:=funext ho2
 unfold FJ at hk
 split at hk
 ·rename_i c hc
  have hi:iD (.call c)=true:=by
   cases hi:iD (.call c) with
   | true=>rfl
   | false=>rw[hi] at hk; cases hk
  rw[hi,XR] at hk
  have e1:iZ cx ⟨s.fr,H⟩ (.call c)=iZ cx s (.call c):=by unfold iZ; rw[hof,hof2]
  have e2:iZ cx ⟨s.fr,H'⟩ (.call c)=iZ cx s (.call c):=by unfold iZ; rw[hof2]
  have e3:eT cx ⟨s.fr,H⟩ (.call c)=eT cx ⟨s.fr,H'⟩ (.call c):=by unfold eT; rw[hof]
  unfold gS
  simp only[hc]
  rw[hi,XR,XR,e1,e2,e3]
  split at hk
  ·rename_i q first cap hfv
   rw[XQ] at hk
   rw[hfv]
   unfold qK
   simp only[hk.1,hk.2,XR,qe h]
  ·cases hk
 ·cases hk
theorem Bh {o:Oper} {x:A} {H':aC} (he:yL o=true) (h:bQ cx f lo o s (fun a H=>some (a,H))=some (x,H')):∀ b,fX H' b=fX s.H b:=by
 have new:∀ B,(∀ es els,B≠aO.row false es els)->∀ b,fX (s.H++[B]) b=fX s.H b:=fun B hB b=>by
  unfold fX
  by_cases hb:b<s.H.length
  ·rw[X6 hb]
  ·rw[Yr o3,YT (by omega:s.H.length<=b)]
   cases hx:[B][b - s.H.length]? with
   | none=>rfl
   | some C=>
    have:C=B:=by
     have:=Yh hx
     simpa using this
    subst this
    cases C with
    | row wr es els=>cases wr with
     | true=>rfl
     | false=>exact absurd rfl (hB es els)
    | _=>rfl
 have setb:∀ c B B0,s.H[c]? = some B0->(∀ es els,B0≠aO.row false es els)->(∀ es els,B≠aO.row false es els)->∀ b,fX (s.H.set c B) b=fX s.H b:=fun c B B0 h0 h1 h2 b=>by
  by_cases hb:b=c
  ·subst hb
   rw[uJ (Yf (XS.1 h0).1) h2,uJ h0 h1]
  ·unfold fX
   rw[X4 (YS hb)]
 have nb:∀ cs es els,aO.box cs≠aO.row false es els:=fun _ _ _ h=>by cases h
 have nt:∀ es els es' els',aO.row true es els≠aO.row false es' els':=fun _ _ _ _ h=>by cases h
 have row:∀ {t cs y K},rowOf cx.P t cs s.H=some (y,K)->∃ es els,K=s.H++[.row true es els]:=fun {t cs y K} h=>by
  unfold rowOf at h
  split at h
  ·obtain ⟨es,_,h⟩:=bE h
   obtain ⟨_,h⟩:=eE h
   cases h
   exact⟨_,_,rfl⟩
  ·cases h
 unfold yL at he
 split at he
 ·rename_i t ad v ho
  unfold bQ at h
  simp only[ho] at h
  obtain ⟨K,h1,h⟩:=bE h
  cases h
  unfold ji at h1
  obtain ⟨nn,_,h1⟩:=bE h1
  obtain ⟨xs,_,h1⟩:=bE h1
  obtain ⟨_,h1⟩:=eE h1
  split at h1
  ·split at h1
   ·rename_i hb
    obtain ⟨_,h1⟩:=bu h1
    cases h1
    exact setb _ _ _ hb (nb _) (nb _)
   ·cases h1
  ·split at h1
   ·rename_i hb
    split at h1
    ·rw[bG] at h1
     split at h1
     ·cases h1
      exact setb _ _ _ hb (nt _ _) (nt _ _)
     ·obtain ⟨_,h1⟩:=bu h1
      cases h1
      exact setb _ _ _ hb (nt _ _) (nt _ _)
    ·cases h1
   ·cases h1
  ·cases h1
 ·rename_i t ho
  unfold bQ at h
  simp only[ho] at h
  obtain ⟨⟨y,K⟩,h1,h⟩:=bE h
  cases h
  unfold n0 at h1
  rw[bG] at h1
  split at h1
  ·unfold jZ at h1
   obtain ⟨cs,_,h1⟩:=bE h1
   obtain ⟨es,els,rfl⟩:=row h1
   exact new _ (nt _ _)
  ·unfold lQ at h1
   obtain ⟨cs,_,h1⟩:=Yu.1 h1
   cases h1
   exact new _ (nb _)
 ·rename_i t v ho
  unfold bQ at h
  simp only[ho] at h
  obtain ⟨⟨y,K⟩,h1,h⟩:=bE h
  cases h
  unfold yK at h1
  rw[bG] at h1
  split at h1
  ·unfold ua at h1
   obtain ⟨cs,_,h1⟩:=bE h1
   obtain ⟨es,els,rfl⟩:=row h1
   exact new _ (nt _ _)
  ·unfold yC at h1
   obtain ⟨cs,_,h1⟩:=Yu.1 h1
   cases h1
   exact new _ (nb _)
 ·rename_i t a b ho
  have hab:a=b:=X3 he
  subst hab
  unfold bQ at h
  simp only[ho] at h
  obtain ⟨⟨y,K⟩,h1,h⟩:=bE h
  cases h
  unfold sx at h1
  rw[bG] at h1
  split at h1
  ·unfold gW at h1
   obtain ⟨_,_,h1⟩:=bE h1
   obtain ⟨_,_,h1⟩:=bE h1
   obtain ⟨_,_,h1⟩:=bE h1
   obtain ⟨_,_,h1⟩:=bE h1
   obtain ⟨_,_,h1⟩:=bE h1
   obtain ⟨_,_,h1⟩:=bE h1
   obtain ⟨_,h1⟩:=eE h1
   cases h1
   exact fun _=>rfl
  ·unfold gE fH at h1
   obtain ⟨_,_,h1⟩:=bE h1
   obtain ⟨_,_,h1⟩:=bE h1
   obtain ⟨_,_,h1⟩:=bE h1
   obtain ⟨_,_,h1⟩:=bE h1
   obtain ⟨n,hn,h1⟩:=bE h1
   obtain ⟨c,hc,h1⟩:=bE h1
   rw[hn] at hc
   cases hc
   obtain ⟨_,h1⟩:=eE h1
   rw[show (n==n)=true from r8,XR] at h1
   cases h1
   exact new _ (nt _ _)
 ·rename_i c ho
  unfold bQ at h
  simp only[ho] at h
  split at he
  ·rename_i hca
   unfold pn at h
   simp only[hca] at h
   split at h
   all_goals first | (rename_i hh _ _; cases hh; done) | (rename_i hh _ _; injection hh with hh; cases hh; done) | skip
   ·rename_i x y t t2 _ hargs _
    obtain ⟨⟨z,K⟩,h1,h⟩:=bE h
    cases h
    unfold qn at h1
    obtain ⟨_,_,h1⟩:=bE h1
    obtain ⟨_,_,h1⟩:=bE h1
    obtain ⟨_,_,h1⟩:=bE h1
    obtain ⟨_,h1⟩:=eE h1
    split at h1
    ·split at h1
     ·rename_i hb
      obtain ⟨_,h1⟩:=bu h1
      cases h1
      exact setb _ _ _ hb (nt _ _) (nt _ _)
     ·cases h1
    ·cases h1
   all_goals first | (cases h; done) | (rename_i hh _; injection hh with hh; cases hh; done)
  ·cases he
 ·cases he
theorem pY {o:Oper} {x:A} {H':aC} (he:dQ o=true) (h:bQ cx f lo o s (fun a H=>some (a,H))=some (x,H')):s.H.length<=H'.length/\∀ b,b<s.H.length->(∀ c,blk? (dm cx s o.op)=some c->b≠c)->H'[b]? = s.H[b]?:=by
 have new:∀ B,s.H.length<=(s.H++[B]).length/\∀ b,b<s.H.length->(∀ c,blk? (dm cx s o.op)=some c->b≠c)->(s.H++[B])[b]? = s.H[b]?:=fun B=>⟨r8,fun b hb _=>X6 hb⟩
 have setb:∀ c B,blk? (dm cx s o.op)=some c->s.H.length<=(s.H.set c B).length/\∀ b,b<s.H.length->(∀ c,blk? (dm cx s o.op)=some c->b≠c)->(s.H.set c B)[b]? = s.H[b]?:=fun c B hc=>⟨r8,fun b _ hb=>X4 (YS (hb c hc))⟩
 have row:∀ {t cs y K},rowOf cx.P t cs s.H=some (y,K)->∃ B,K=s.H++[B]:=fun {t cs y K} h=>by
  unfold rowOf at h
  split at h
  ·obtain ⟨es,_,h⟩:=bE h
   obtain ⟨_,h⟩:=eE h
   cases h
   exact⟨_,rfl⟩
  ·cases h
 unfold dQ at he
 split at he
 ·rename_i t ad v ho
  unfold bQ at h
  simp only[ho] at h
  obtain ⟨K,h1,h⟩:=bE h
  cases h
  unfold ji at h1
  obtain ⟨nn,_,h1⟩:=bE h1
  obtain ⟨xs,_,h1⟩:=bE h1
  obtain ⟨_,h1⟩:=eE h1
  have ht:dm cx s o.op=cg cx s ad:=by unfold dm; rw[ho]
  cases hx:cg cx s ad with
  | ptr b oo=>
   simp only[hx] at h1
   split at h1
   ·obtain ⟨_,h1⟩:=bu h1
    cases h1
    exact setb b _ (by rw[ht,hx]; rfl)
   ·cases h1
  | ep b i oo=>
   simp only[hx] at h1
   split at h1
   ·split at h1
    ·rw[bG] at h1
     split at h1
     ·cases h1
      exact setb b _ (by rw[ht,hx]; rfl)
     ·obtain ⟨_,h1⟩:=bu h1
      cases h1
      exact setb b _ (by rw[ht,hx]; rfl)
    ·cases h1
   ·cases h1
  | _=>simp only[hx] at h1; cases h1
 ·rename_i t ho
  unfold bQ at h
  simp only[ho] at h
  obtain ⟨⟨y,K⟩,h1,h⟩:=bE h
  cases h
  unfold n0 at h1
  rw[bG] at h1
  split at h1
  ·unfold jZ at h1
   obtain ⟨cs,_,h1⟩:=bE h1
   obtain ⟨B,rfl⟩:=row h1
   exact new B
  ·unfold lQ at h1
   obtain ⟨cs,_,h1⟩:=Yu.1 h1
   cases h1
   exact new _
 ·rename_i t v ho
  unfold bQ at h
  simp only[ho] at h
  obtain ⟨⟨y,K⟩,h1,h⟩:=bE h
  cases h
  unfold yK at h1
  rw[bG] at h1
  split at h1
  ·unfold ua at h1
   obtain ⟨cs,_,h1⟩:=bE h1
   obtain ⟨B,rfl⟩:=row h1
   exact new B
  ·unfold yC at h1
   obtain ⟨cs,_,h1⟩:=Yu.1 h1
   cases h1
   exact new _
 ·rename_i t l c ho
  unfold bQ at h
  simp only[ho] at h
  obtain ⟨⟨y,K⟩,h1,h⟩:=bE h
  cases h
  unfold sx at h1
  rw[bG] at h1
  split at h1
  ·unfold gW at h1
   obtain ⟨_,_,h1⟩:=bE h1
   obtain ⟨_,_,h1⟩:=bE h1
   obtain ⟨_,_,h1⟩:=bE h1
   obtain ⟨_,_,h1⟩:=bE h1
   obtain ⟨_,_,h1⟩:=bE h1
   obtain ⟨_,_,h1⟩:=bE h1
   obtain ⟨_,h1⟩:=eE h1
   cases h1
   exact⟨XP _,fun _ _ _=>rfl⟩
  unfold gE fH at h1
  obtain ⟨_,_,h1⟩:=bE h1
  obtain ⟨_,_,h1⟩:=bE h1
  obtain ⟨_,_,h1⟩:=bE h1
  obtain ⟨_,_,h1⟩:=bE h1
  obtain ⟨_,_,h1⟩:=bE h1
  obtain ⟨_,_,h1⟩:=bE h1
  obtain ⟨_,h1⟩:=eE h1
  rw[bG] at h1
  split at h1
  ·cases h1; exact new _
  ·obtain ⟨_,h1⟩:=bu h1
   cases h1; exact new _
 ·rename_i c ho
  have ht:∀ x r,c.args.toList=x :: r->dm cx s o.op=cg cx s x:=fun x r hc=>by unfold dm; rw[ho]; simp only[hc]
  unfold bQ at h
  simp only[ho] at h
  split at he
  ·rename_i hca
   unfold pn at h
   simp only[hca] at h
   split at h
   all_goals first | (rename_i hh _ _; cases hh; done) | (rename_i hh _ _; injection hh with hh; cases hh; done) | skip
   ·rename_i x y t t2 _ hargs _
    obtain ⟨⟨z,K⟩,h1,h⟩:=bE h
    cases h
    have ht:=ht x [y] hargs
    unfold bK at h1
    obtain ⟨_,_,h1⟩:=bE h1
    obtain ⟨_,_,h1⟩:=bE h1
    obtain ⟨_,_,h1⟩:=bE h1
    obtain ⟨_,_,h1⟩:=bE h1
    obtain ⟨_,_,h1⟩:=bE h1
    obtain ⟨_,h1⟩:=eE h1
    cases hx:cg cx s x with
    | imm xs cl=>
     simp only[hx] at h1
     cases cl with
     | false=>cases h1
     | true=>
      simp only[] at h1
      obtain ⟨_,h1⟩:=eE h1
      rw[bG] at h1
      split at h1
      ·cases h1; exact new _
      ·obtain ⟨_,h1⟩:=bu h1
       cases h1; exact new _
    | sl b oo nn cl=>
     simp only[hx] at h1
     split at h1
     ·obtain ⟨_,h1⟩:=eE h1
      rw[bG] at h1
      split at h1
      ·cases h1; exact new _
      ·obtain ⟨_,h1⟩:=bu h1
       cases h1
       exact setb b _ (by rw[ht,hx]; rfl)
     ·cases h1
    | _=>simp only[hx] at h1; cases h1
   all_goals first | (cases h; done) | (rename_i hh _; injection hh with hh; cases hh; done)
  ·rename_i hca
   unfold pn at h
   simp only[hca] at h
   split at h
   all_goals first | (rename_i hh _ _; cases hh; done) | (rename_i hh _ _; injection hh with hh; cases hh; done) | skip
   ·rename_i x y t t2 _ hargs _
    obtain ⟨⟨z,K⟩,h1,h⟩:=bE h
    cases h
    have ht:=ht x [y] hargs
    unfold qn at h1
    obtain ⟨_,_,h1⟩:=bE h1
    obtain ⟨_,_,h1⟩:=bE h1
    obtain ⟨_,_,h1⟩:=bE h1
    obtain ⟨_,h1⟩:=eE h1
    cases hx:cg cx s x with
    | sl b oo nn cl=>
     simp only[hx] at h1
     split at h1
     ·obtain ⟨_,h1⟩:=bu h1
      cases h1
      exact setb b _ (by rw[ht,hx]; rfl)
     ·cases h1
    | _=>simp only[hx] at h1; cases h1
   all_goals first | (cases h; done) | (rename_i hh _; injection hh with hh; cases hh; done)
  ·cases he
 ·cases he
def Alike (s s':St):Prop:=s'.H=s.H/\∀ t,look s'.fr t=look s.fr t
theorem Alike.refl (s:St):Alike s s:=⟨rfl,fun _=>rfl⟩
theorem Alike.trans {a b c:St} (h1:Alike a b) (h2:Alike b c):Alike a c:=⟨h2.1.trans h1.1,fun t=>(h2.2 t).trans (h1.2 t)⟩
theorem fV (s:St) (d:Option Nat) (x:A) (t:Nat):look (s.put d x).fr t=if d=some t then x else look s.fr t:=by
 cases d with
 | none=>simp[St.put]
 | some d=>
  show look ((d,x) :: s.fr) t=_
  rw[ez]
  by_cases e:d=t
  ·subst e; simp
  ·rw[XW e,XW (by simpa using e)]
theorem gu (s:St) (d:Option Nat) (x:A):(s.put d x).H=s.H:=by cases d<;>rfl
theorem Alike.lit {s:St} {t:Nat} {x:A} (h:look s.fr t=x):Alike s (s.put (some t) x):=⟨rfl,fun t'=>by
 rw[fV]
 split
 ·rename_i e
  cases e
  exact h.symm
 ·rfl⟩
def k9 (cx:Cx) (call:bo) (f lo:Nat) (ops:Array Oper) (m:Nat) (fl:List (Nat×A)) (i:Nat) (o:Oper) (s s':St) (x:A):Prop:=
 (cU i fl=some x/\Alike (s.put o.dst x) s') ∨
 (cU i fl=none/\dQ o=true/\∃ H',bQ cx f lo o s (fun a H=>some (a,H))=some (x,H')/\Alike (({ s with H:=H' }:St).put o.dst x) s') ∨
 (cU i fl=none/\dQ o=false/\gS cx call f o s=some x/\Alike (s.put o.dst x) s'/\((jA fl ops m i=true/\((oy cx o=true∨xo ops i fl=true)∨FJ cx s o=true))∨bV o=0∨bV o=1∨((bV o=2∨(bV o=4/\uG cx o=true))/\HR ops m i=true)∨(bV o=2/\py (partsOf cx s o.op)=true)))
def K9 (cx:Cx) (call:bo) (f:Nat) (ops:Array Oper) (fl:List (Nat×A)) (i:Nat) (o:Oper) (s s':St) (x:A):Prop:=
 ∃ t w,cd ops o=some (t,w)/\cU i fl=none/\dQ o=false/\bV o=0/\Alike (s.put o.dst x) s'/\((∃ b,look s.fr t=.v (.bool b)/\if b==w then gS cx call f o s=some x else x=.v undef)∨((∃ y,look s.fr t=.v (.tuple y))/\x=.v undef))
def La (cx:Cx) (call:bo) (f lo:Nat) (ops:Array Oper) (m:Nat) (fl:List (Nat×A)) (i:Nat) (o:Oper) (s s':St) (x:A):Prop:=
 ∃ t w b,cd ops o=some (t,w)/\cU i fl=none/\look s.fr t=.v (.bool b)/\((b==w)=true/\k9 cx call f lo ops m fl i o s s' x∨(b==w)=false/\x=.v undef/\Alike (s.put o.dst x) s')
def mq (cx:Cx) (call:bo) (f lo:Nat) (ops:Array Oper) (m:Nat) (fl:List (Nat×A)) (i:Nat) (o:Oper) (s s':St) (x:A):Prop:=
 (o.guard=none/\k9 cx call f lo ops m fl i o s s' x)∨K9 cx call f ops fl i o s s' x∨La cx call f lo ops m fl i o s s' x
theorem k9.alike {call:bo} {o:Oper} {m:Nat} {fl:List (Nat×A)} {i:Nat} {s s' s2:St} {x:A} (h:k9 cx call f lo ops m fl i o s s' x) (h2:Alike s' s2):k9 cx call f lo ops m fl i o s s2 x:=by
 rcases h with ⟨a,b⟩ | ⟨a,b,H',c,d⟩ | ⟨a,b,c,d,e⟩
 ·exact .inl ⟨a,b.trans h2⟩
 ·exact .inr (.inl ⟨a,b,H',c,d.trans h2⟩)
 ·exact .inr (.inr ⟨a,b,c,d.trans h2,e⟩)
theorem mq.alike {call:bo} {o:Oper} {m:Nat} {fl:List (Nat×A)} {i:Nat} {s s' s2:St} {x:A} (h:mq cx call f lo ops m fl i o s s' x) (h2:Alike s' s2):mq cx call f lo ops m fl i o s s2 x:=by
 rcases h with ⟨a,b⟩ | ⟨t,w,a,b,c,d,e,g⟩ | ⟨t,w,b,a1,a2,a3,a4⟩
 ·exact .inl ⟨a,b.alike h2⟩
 ·exact .inr (.inl ⟨t,w,a,b,c,d,e.trans h2,g⟩)
 ·refine .inr (.inr ⟨t,w,b,a1,a2,a3,?_⟩)
  rcases a4 with ⟨c,d⟩ | ⟨c,d,e⟩
  ·exact .inl ⟨c,d.alike h2⟩
  ·exact .inr ⟨c,d,e.trans h2⟩
theorem k9.look {call:bo} {o:Oper} {m:Nat} {fl:List (Nat×A)} {i:Nat} {s s':St} {x:A} (h:k9 cx call f lo ops m fl i o s s' x) (t:Nat):look s'.fr t=if o.dst=some t then x else look s.fr t:=by
 rcases h with ⟨_,b⟩ | ⟨_,_,H',_,d⟩ | ⟨_,_,_,d,_⟩
 ·rw[b.2,fV]
 ·rw[d.2,fV]
 ·rw[d.2,fV]
theorem mq.look {call:bo} {o:Oper} {m:Nat} {fl:List (Nat×A)} {i:Nat} {s s':St} {x:A} (h:mq cx call f lo ops m fl i o s s' x) (t:Nat):look s'.fr t=if o.dst=some t then x else look s.fr t:=by
 rcases h with ⟨_,b⟩ | ⟨_,_,_,_,_,_,e,_⟩ | ⟨_,_,_,_,_,_,a4⟩
 ·exact b.look t
 ·rw[e.2,fV]
 ·rcases a4 with ⟨_,d⟩ | ⟨_,_,e⟩
  ·exact d.look t
  ·rw[e.2,fV]
theorem k9.heap {call:bo} {o:Oper} {m:Nat} {fl:List (Nat×A)} {i:Nat} {s s':St} {x:A} (h:k9 cx call f lo ops m fl i o s s' x):(dQ o=false∨(cU i fl).isSome=true->s'.H=s.H)/\s.H.length<=s'.H.length/\∀ b,b<s.H.length->(dQ o=true->cU i fl=none->∀ c,blk? (dm cx s o.op)=some c->b≠c)->s'.H[b]? = s.H[b]?:=by
 rcases h with ⟨_,e⟩ | ⟨hn,he,H',h1,e⟩ | ⟨_,he,_,e,_⟩
 ·rw[e.1,gu]
  exact⟨fun _=>rfl,XP _,fun _ _ _=>rfl⟩
 ·obtain ⟨t1,t2⟩:=pY he h1
  rw[e.1,gu]
  exact⟨fun h'=>(by rw[he,hn] at h'; rcases h' with h' | h'<;>cases h'),t1,fun b hb hc=>t2 b hb (hc he hn)⟩
 ·rw[e.1,gu]
  exact⟨fun _=>rfl,XP _,fun _ _ _=>rfl⟩
theorem mq.heap {call:bo} {o:Oper} {m:Nat} {fl:List (Nat×A)} {i:Nat} {s s':St} {x:A} (h:mq cx call f lo ops m fl i o s s' x):(dQ o=false∨(cU i fl).isSome=true->s'.H=s.H)/\s.H.length<=s'.H.length/\∀ b,b<s.H.length->(dQ o=true->cU i fl=none->∀ c,blk? (dm cx s o.op)=some c->b≠c)->s'.H[b]? = s.H[b]?:=by
 rcases h with ⟨_,b⟩ | ⟨_,_,_,_,_,_,e,_⟩ | ⟨_,_,_,_,_,_,a4⟩
 ·exact b.heap
 ·rw[e.1,gu]
  exact⟨fun _=>rfl,XP _,fun _ _ _=>rfl⟩
 ·rcases a4 with ⟨_,d⟩ | ⟨_,_,e⟩
  ·exact d.heap
  ·rw[e.1,gu]
   exact⟨fun _=>rfl,XP _,fun _ _ _=>rfl⟩
def fF (ops:Array Oper) (i j:Nat):Prop:=(fB ops i j || fB ops j i)=false
theorem ib {i:Nat} {e:A}:∀ {l:List (Nat×A)},kj ops i e l=true->∀ p∈l,fF ops i p.1->apart p.2 e=true
 | [],_,p,hp,_=>by cases hp
 | q :: l,h,p,hp,hu=>by
  unfold kj at h
  cases hb:(fB ops i q.1 || fB ops q.1 i) with
  | true=>
   rw[hb] at h
   rcases YC.1 hp with rfl | hp
   ·unfold fF at hu; rw[hb] at hu; cases hu
   ·exact ib h p hp hu
  | false=>
   rw[hb] at h
   cases ha:apart q.2 e with
   | false=>rw[ha] at h; cases h
   | true=>
    rw[ha] at h
    rcases YC.1 hp with rfl | hp
    ·exact ha
    ·exact ib h p hp hu
theorem iI {i:Nat} {a:A}:∀ {l:List (Nat×A)},lj ops i a l=true->∀ p∈l,fF ops i p.1->apart a p.2=true
 | [],_,p,hp,_=>by cases hp
 | q :: l,h,p,hp,hu=>by
  unfold lj at h
  cases hb:(fB ops i q.1 || fB ops q.1 i) with
  | true=>
   rw[hb] at h
   rcases YC.1 hp with rfl | hp
   ·unfold fF at hu; rw[hb] at hu; cases hu
   ·exact iI h p hp hu
  | false=>
   rw[hb] at h
   cases ha:apart a q.2 with
   | false=>rw[ha] at h; cases h
   | true=>
    rw[ha] at h
    rcases YC.1 hp with rfl | hp
    ·exact ha
    ·exact iI h p hp hu
theorem beq_spec {a b:Nat} (h:Nat.beq a b=true):a=b:=X3 h
def Tr (cx:Cx) (call:bo) (f lo:Nat) (ops:Array Oper) (m:Nat) (fl:List (Nat×A)) (k:St->Option R) (r:R) (os:List Oper) (i:Nat) (effs seen:List (Nat×A)) (s:St):Prop:=
  ∃ (σ:Nat->St) (xs:Nat->A),Alike s (σ 0)/\k (σ os.length)=some r/\∀ (j:Nat) o,os[j]? = some o->mq cx call f lo ops m fl (i+j) o (σ j) (σ (j+1)) (xs j) ∧
   (cU (i+j) fl=none->dQ o=true->(∀ p∈seen,fF ops (i+j) p.1->apart p.2 (dm cx (σ j) o.op)=true)/\∀ (j':Nat) o',j'<j->os[j']? = some o'->dQ o'=false->bV o'=1->jA fl ops m (i+j')=false->fF ops (i+j) (i+j')->apart (addrOf cx (σ j') o'.op) (dm cx (σ j) o.op)=true) ∧
   (dQ o=false->bV o=1->jA fl ops m (i+j)=false->(∀ p∈effs,fF ops (i+j) p.1->apart (addrOf cx (σ j) o.op) p.2=true)/\∀ (j':Nat) o',j'<j->os[j']? = some o'->cU (i+j') fl=none->dQ o'=true->fF ops (i+j) (i+j')->apart (addrOf cx (σ j) o.op) (dm cx (σ j') o'.op)=true)
theorem qq {call:bo} {m:Nat} {fl:List (Nat×A)} {k:St->Option R} {r:R} (hfe:∀ i o a,cU i fl=some a->ops[i]? = some o->dQ o=true) (hV:∀ {o:Oper} {s:St} (k:A->Option R),rO cx call f o s k=(gS cx call f o s).bind k):∀ (os:List Oper) (i:Nat) (effs seen:List (Nat×A)) (s:St),(∀ j o,os[j]? = some o->ops[i+j]? = some o)->fK cx call f lo ops m fl i os effs seen s k=some r->Tr cx call f lo ops m fl k r os i effs seen s
 | [],i,effs,seen,s,_,h=>⟨fun _=>s,fun _=>.any,Alike.refl _,h,fun j o ho=>by simp at ho⟩
 | o :: os,i,effs,seen,s,hos,h=>by
  have hos':∀ j o,os[j]? = some o->ops[i+1+j]? = some o:=fun j o' ho'=>by
   have:=hos (j+1) o' (by simpa using ho')
   rwa [show i+1+j=i+(j+1) by omega]
  have hoi:ops[i]? = some o:=by simpa using hos 0 o r8
  have finG:∀ (s1 s':St) (x:A) (effs' seen':List (Nat×A)),Alike s s1->mq cx call f lo ops m fl i o s1 s' x->(∀ p∈effs,p∈effs')->(∀ p∈seen,p∈seen')->(cU i fl=none->dQ o=true->(i,dm cx s1 o.op)∈effs'/\∀ p∈seen,fF ops i p.1->apart p.2 (dm cx s1 o.op)=true) ->
    (dQ o=false->bV o=1->jA fl ops m i=false->(i,addrOf cx s1 o.op)∈seen'/\∀ p∈effs,fF ops i p.1->apart (addrOf cx s1 o.op) p.2=true)->fK cx call f lo ops m fl (i+1) os effs' seen' s' k=some r->Tr cx call f lo ops m fl k r (o :: os) i effs seen s:=by
   intro s1 s' x effs' seen' hal hst he1 hs1 hce hcp h
   obtain ⟨σ,xs,g0,g1,g2⟩:=qq hfe hV os (i+1) effs' seen' s' hos' h
   refine⟨fun j=>match j with | 0=>s1 | j+1=>σ j,fun j=>match j with | 0=>x | j+1=>xs j,hal,g1,fun j o1 ho1=>?_⟩
   cases j with
   | zero=>
    simp at ho1
    subst ho1
    refine⟨hst.alike g0,fun hn he=>⟨(hce hn he).2,fun j' o' hj'=>o3⟩,fun he hk ho=>⟨(hcp he hk ho).2,fun j' o' hj'=>o3⟩⟩
   | succ j=>
    obtain ⟨q2,q3,q4⟩:=g2 j o1 (by simpa using ho1)
    have e:i+1+j=i+(j+1):=o3
    rw[e] at q2 q3 q4
    refine⟨q2,fun hn he=>⟨fun p hp=>(q3 hn he).1 p (hs1 p hp),fun j' o' hj' ho' he' hk' hod hu=>?_⟩,fun he hk hod=>⟨fun p hp=>(q4 he hk hod).1 p (he1 p hp),fun j' o' hj' ho' hn' he' hu=>?_⟩⟩
    ·cases j' with
     | zero=>
      simp at ho'
      subst ho'
      exact(q3 hn he).1 _ (hcp he' hk' hod).1 hu
     | succ j'=>
      refine(q3 hn he).2 j' o' o3 (by simpa using ho') he' hk' ?_ ?_
      ·rw[show i+1+j'=i+(j'+1) by omega]; exact hod
      ·rw[show i+1+j'=i+(j'+1) by omega]; exact hu
    ·cases j' with
     | zero=>
      simp at ho'
      subst ho'
      exact(q4 he hk hod).1 _ (hce hn' he').1 hu
     | succ j'=>
      refine(q4 he hk hod).2 j' o' o3 (by simpa using ho') ?_ he' ?_
      ·rw[show i+1+j'=i+(j'+1) by omega]; exact hn'
      ·rw[show i+1+j'=i+(j'+1) by omega]; exact hu
  have doB:∀ (s1:St),Alike s s1->(∀ s' x,k9 cx call f lo ops m fl i o s1 s' x->mq cx call f lo ops m fl i o s1 s' x)->rJ cx call f lo ops m fl i o effs seen s1 (fun effs seen s=>fK cx call f lo ops m fl (i+1) os effs seen s k)=some r->Tr cx call f lo ops m fl k r (o :: os) i effs seen s:=by
   intro s1 hal hA h
   have fin:∀ (s':St) (x:A) (effs' seen':List (Nat×A)),k9 cx call f lo ops m fl i o s1 s' x->(∀ p∈effs,p∈effs')->(∀ p∈seen,p∈seen')->(cU i fl=none->dQ o=true->(i,dm cx s1 o.op)∈effs'/\∀ p∈seen,fF ops i p.1->apart p.2 (dm cx s1 o.op)=true) ->
     (dQ o=false->bV o=1->jA fl ops m i=false->(i,addrOf cx s1 o.op)∈seen'/\∀ p∈effs,fF ops i p.1->apart (addrOf cx s1 o.op) p.2=true)->fK cx call f lo ops m fl (i+1) os effs' seen' s' k=some r->Tr cx call f lo ops m fl k r (o :: os) i effs seen s:=fun s' x effs' seen' hst=>finG s1 s' x effs' seen' hal (hA _ _ hst)
   unfold rJ at h
   cases hfl:cU i fl with
   | some a=>
    simp only[hfl] at h
    have he:=hfe i o a hfl hoi
    exact fin _ a effs seen (.inl ⟨hfl,Alike.refl _⟩) (fun p hp=>hp) (fun p hp=>hp) (fun h'=>(by rw[hfl] at h'; cases h')) (fun h'=>(by rw[he] at h'; cases h')) h
   | none=>
   simp only[hfl] at h
   rw[bG] at h
   split at h
   ·rename_i he
    obtain ⟨hsn,h⟩:=bu h
    rw[iB] at h
    obtain ⟨⟨x,H'⟩,h1,h⟩:=bE h
    exact fin _ x _ seen (.inr (.inl ⟨hfl,he,H',h1,Alike.refl _⟩)) (fun p hp=>by simp[hp]) (fun p hp=>hp) (fun _ _=>⟨r8,ib hsn⟩) (fun h'=>(by rw[he] at h'; cases h')) h
   ·rename_i he
    have he:dQ o=false:=by simpa using he
    rw[bG] at h
    split at h
    ·rename_i hod
     simp only[XQ,YP] at hod
     rw[hV] at h
     obtain ⟨x,h1,h⟩:=bE h
     exact fin _ x effs seen (.inr (.inr ⟨hfl,he,h1,Alike.refl _,.inl hod⟩)) (fun p hp=>hp) (fun p hp=>hp) (fun _ h'=>(by rw[he] at h'; cases h')) (fun _ _ h'=>(by rw[hod.1] at h'; cases h')) h
    ·rename_i hod
     rw[bG] at h
     split at h
     ·rename_i hk
      rw[hV] at h
      obtain ⟨x,h1,h⟩:=bE h
      have hk:=beq_spec hk
      exact fin _ x effs seen (.inr (.inr ⟨hfl,he,h1,Alike.refl _,.inr (.inl hk)⟩)) (fun p hp=>hp) (fun p hp=>hp) (fun _ h'=>(by rw[he] at h'; cases h')) (fun _ h' _=>(by rw[hk] at h'; cases h')) h
     ·rw[bG] at h
      split at h
      ·rename_i hk
       have hk:=beq_spec hk
       obtain ⟨hap,h⟩:=bu h
       rw[hV] at h
       obtain ⟨x,h1,h⟩:=bE h
       exact fin _ x effs _ (.inr (.inr ⟨hfl,he,h1,Alike.refl _,.inr (.inr (.inl hk))⟩)) (fun p hp=>hp) (fun p hp=>by simp[hp]) (fun _ h'=>(by rw[he] at h'; cases h')) (fun _ _ _=>⟨r8,iI hap⟩) h
      ·rename_i hk1
       rw[bG] at h
       split at h
       ·rename_i hk
        simp only[XQ,YP] at hk
        have hk2:bV o=2∨(bV o=4/\uG cx o=true):=hk.1.imp beq_spec (fun h=>⟨beq_spec h.1,h.2⟩)
        rw[hV] at h
        obtain ⟨x,h1,h⟩:=bE h
        exact fin _ x effs seen (.inr (.inr ⟨hfl,he,h1,Alike.refl _,.inr (.inr (.inr (.inl ⟨hk2,hk.2⟩)))⟩)) (fun p hp=>hp) (fun p hp=>hp) (fun _ h'=>(by rw[he] at h'; cases h')) (fun _ h' _=>(by rcases hk2 with hk2 | hk2<;>(first | rw[hk2] at h' | rw[hk2.1] at h')<;>cases h')) h
       obtain ⟨hk,h⟩:=bu h
       have hk:=beq_spec hk
       obtain ⟨hfl2,h⟩:=bu h
       rw[hV] at h
       obtain ⟨x,h1,h⟩:=bE h
       exact fin _ x effs seen (.inr (.inr ⟨hfl,he,h1,Alike.refl _,.inr (.inr (.inr (.inr ⟨hk,hfl2⟩)))⟩)) (fun p hp=>hp) (fun p hp=>hp) (fun _ h'=>(by rw[he] at h'; cases h')) (fun _ h' _=>(by rw[hk] at h'; cases h')) h
  have doS:∀ (s1:St),Alike s s1->(∀ s',Alike (s1.put o.dst (.v undef)) s'->mq cx call f lo ops m fl i o s1 s' (.v undef))->vC cx ops m fl i o effs seen s1 (fun effs seen s=>fK cx call f lo ops m fl (i+1) os effs seen s k)=some r->Tr cx call f lo ops m fl k r (o :: os) i effs seen s:=by
   intro s1 hal hA h
   have fin:=fun effs' seen'=>finG s1 (s1.put o.dst (.v undef)) (.v undef) effs' seen' hal (hA _ (Alike.refl _))
   unfold vC at h
   rw[bG] at h
   split at h
   ·rename_i he
    obtain ⟨hsn,h⟩:=bu h
    exact fin _ seen (fun p hp=>by simp[hp]) (fun p hp=>hp) (fun _ _=>⟨r8,ib hsn⟩) (fun h'=>(by rw[he] at h'; cases h')) h
   ·rename_i he
    have he:dQ o=false:=by simpa using he
    rw[bG] at h
    split at h
    ·rename_i hk
     rw[bG] at h
     split at h
     ·rename_i hod
      exact fin effs seen (fun p hp=>hp) (fun p hp=>hp) (fun _ h'=>(by rw[he] at h'; cases h')) (fun _ _ h'=>(by rw[hod] at h'; cases h')) h
     ·obtain ⟨hap,h⟩:=bu h
      exact fin effs _ (fun p hp=>hp) (fun p hp=>by simp[hp]) (fun _ h'=>(by rw[he] at h'; cases h')) (fun _ _ _=>⟨r8,iI hap⟩) h
    ·rename_i hk
     exact fin effs seen (fun p hp=>hp) (fun p hp=>hp) (fun _ h'=>(by rw[he] at h'; cases h')) (fun _ h' _=>(by rw[h'] at hk; exact absurd rfl hk)) h
  unfold fK at h
  cases hgd:o.guard with
  | some _=>
   simp only[hgd] at h
   cases hgs:cd ops o with
   | none=>rw[hgs] at h; cases h
   | some tw=>
    obtain ⟨t,w⟩:=tw
    simp only[hgs] at h
    rw[bG] at h
    split at h
    ·rename_i hc
     simp only[XQ,YQ,qaU] at hc
     obtain ⟨⟨hk,he⟩,hn⟩:=hc
     have hk:=beq_spec hk
     obtain ⟨x,h0,h⟩:=bE h
     refine finG s _ x effs seen (Alike.refl _) (.inr (.inl ⟨t,w,hgs,hn,he,hk,Alike.refl _,?_⟩)) (fun p hp=>hp) (fun p hp=>hp) (fun _ h'=>(by rw[he] at h'; cases h')) (fun _ h' _=>(by rw[hk] at h'; cases h')) h
     rcases m6 h0 with ⟨b,hb,h0⟩ | ⟨y,hb,h0⟩
     ·refine .inl ⟨b,hb,?_⟩
      split at h0
      ·rename_i hbw; rw[XX hbw]; exact h0
      ·rename_i hbw; rw[XW hbw]; cases h0; rfl
     ·cases h0; exact .inr ⟨⟨y,hb⟩,rfl⟩
    ·obtain ⟨hn,h⟩:=bu h
     simp only[qaU] at hn
     obtain ⟨b,hb,h⟩:=oY h
     have hl:look (s.put (some t) (.v (.bool b))).fr t=.v (.bool b):=by rw[fV,XX rfl]
     cases b with
     | true=>
      simp only[ZS] at h
      cases w with
      | true=>exact doB _ (Alike.lit hb) (fun s' x hE=>.inr (.inr ⟨t,true,true,hgs,hn,hl,.inl ⟨rfl,hE⟩⟩)) h
      | false=>exact doS _ (Alike.lit hb) (fun s' hE=>.inr (.inr ⟨t,false,true,hgs,hn,hl,.inr ⟨rfl,rfl,hE⟩⟩)) h
     | false=>
      simp only[Yg,Z7] at h
      cases w with
      | true=>exact doS _ (Alike.lit hb) (fun s' hE=>.inr (.inr ⟨t,true,false,hgs,hn,hl,.inr ⟨rfl,rfl,hE⟩⟩)) h
      | false=>exact doB _ (Alike.lit hb) (fun s' x hE=>.inr (.inr ⟨t,false,false,hgs,hn,hl,.inl ⟨rfl,hE⟩⟩)) h
  | none=>
   simp only[hgd] at h
   exact doB s (Alike.refl _) (fun s' x hE=>.inl ⟨hgd,hE⟩) h
theorem v9 {fl:List (Nat×A)} {m i e:Nat} (h:jA fl ops m i=true) (he:e<m) (hf:dq ops e=true) (hn:cU e fl=none):e=i∨fB ops i e=true∨fB ops e i=true:=by
 have:=X0.1 h e (Yj.2 he)
 simp only[YP,YQ,YV] at this
 rcases this with (((h | h) | h) | h) | h
 ·rw[hf] at h; cases h
 ·rw[hn] at h; cases h
 ·exact .inl h
 ·exact .inr (.inl h)
 ·exact .inr (.inr h)
theorem yP {m i j:Nat} (h:vq ops m=true) (hj:j<m) (hij:i<j) (h1:dq ops i=true) (h2:dq ops j=true):fB ops j i=true:=by
 have:=X0.1 (X0.1 h i (Yj.2 o3)) j (Yj.2 hj)
 simpa [h1,h2,hij] using this
theorem w7 {m i j:Nat} (h:rB cx f ops m=true) (hj:j<m) (hij:i<j) (h1:dq ops i=true) (h2:dq ops j=true) (h3:sn cx f ops i=false) (h4:sn cx f ops j=false):fB ops j i=true:=by
 have:=X0.1 (X0.1 h i (Yj.2 o3)) j (Yj.2 hj)
 simpa [h1,h2,h3,h4,hij] using this
theorem rR {i:Nat}:∀ {fl:List (Nat×A)},xo ops i fl=true->∀ j a,cU j fl=some a->fB ops i j=true
 | [],_,j,a,h=>by cases h
 | p :: l,h,j,a,hj=>by
  unfold xo at h
  cases hb:fB ops i p.1 with
  | false=>rw[hb] at h; cases h
  | true=>
   rw[hb] at h
   unfold cU at hj
   cases he:Nat.beq p.1 j with
   | true=>rw[<-X3 he]; exact hb
   | false=>rw[he] at hj; exact rR h j a hj
structure KD (cx:Cx) (ops:Array Oper) (m:Nat) (H H1:aC) (fl:List (Nat×A)):Prop where
 at_:∀ i a,cU i fl=some a->i<m/\∃ o t b cs,ops[i]? = some o/\o.op=.alloc t/\a=.ptr b 0/\H.length<=b/\H1[b]? = some (.box cs)/\gR cx.P t=some cs
 inj:∀ i j b,cU i fl=some (.ptr b 0)->cU j fl=some (.ptr b 0)->i=j
 all:∀ b,H.length<=b->b<H1.length->∃ i,cU i fl=some (.ptr b 0)
 len:H.length<=H1.length
 low:∀ b,b<H.length->H1[b]? = H[b]?
theorem KD.none {m:Nat} {H:aC}:KD cx ops m H H []:=⟨fun i a h=>(by cases h),fun i j b h=>(by cases h),fun b h1 h2=>o3,XP _,fun _ _=>rfl⟩
theorem nZ {β:Type} {m:Nat} {r:β}:∀ (os:List Oper) (i:Nat) (H:aC) (k:List (Nat×A)->aC->Option β),(∀ j o,os[j]? = some o->ops[i+j]? = some o)->i+os.length<=m->ahead cx f i os H k=some r ->
  ∃ fl H1,k fl H1=some r/\KD cx ops m H H1 fl/\(∀ j a,cU j fl=some a->i<=j)/\(∀ j,cU j fl=none->i<=j->j<i+os.length->sn cx f ops j=false)
 | [],i,H,k,_,_,h=>⟨[],H,h,.none,fun j a h=>(by cases h),fun j _ h1 h2=>(by simp at h2; omega)⟩
 | o :: os,i,H,k,hos,hm,h=>by
  have hos':∀ j o,os[j]? = some o->ops[i+1+j]? = some o:=fun j o' ho'=>by
   have:=hos (j+1) o' (by simpa using ho')
   rwa [show i+1+j=i+(j+1) by omega]
  have hoi:ops[i]? = some o:=by simpa using hos 0 o r8
  simp only[X8] at hm
  unfold ahead at h
  cases hft:vI cx f o with
  | none=>
   simp only[hft] at h
   obtain ⟨fl,H1,h1,h2,h3,h4⟩:=nZ (m:=m) os (i+1) H k hos' o3 h
   refine⟨fl,H1,h1,h2,fun j a hj=>by have:=h3 j a hj; omega,fun j hj h5 h6=>?_⟩
   by_cases e:j=i
   ·subst e; unfold sn; rw[hoi]; simp[hft]
   ·exact h4 j hj o3 (by simp at h6; omega)
  | some t=>
   simp only[hft] at h
   obtain ⟨⟨y,H2⟩,ha,h⟩:=bE h
   unfold lQ at ha
   obtain ⟨cs,hz,ha⟩:=Yu.1 ha
   cases ha
   obtain ⟨fl,H1,h1,h2,h3,h4⟩:=nZ (m:=m) os (i+1) _ _ hos' o3 h
   have hop:o.op=.alloc t:=by
    unfold vI at hft
    split at hft
    ·rename_i t' ho
     obtain ⟨_,e⟩:=eE hft
     cases e; exact ho
    ·cases hft
   have hl2:=h2.len
   simp only[X9,X8,Z3] at hl2
   have hnew:H1[H.length]? = some (.box cs):=by rw[h2.low _ r8]; exact ew _ _
   have hof:∀ j,cU j ((i,A.ptr H.length 0) :: fl)=if i=j then some (.ptr H.length 0) else cU j fl:=fun j=>by
    show (bif Nat.beq i j then some (A.ptr H.length 0) else cU j fl)=_
    by_cases e:i=j
    ·subst e; simp
    ·rw[XW e,show Nat.beq i j=false from by cases hh:Nat.beq i j with | false=>rfl | true=>exact absurd (X3 hh) e]; rfl
   have hni:cU i fl=none:=by
    cases hh:cU i fl with
    | none=>rfl
    | some a=>have:=h3 i a hh; omega
   refine⟨(i,.ptr H.length 0) :: fl,H1,h1,⟨fun j a hj=>?_,fun j j' b hj hj'=>?_,fun b hb1 hb2=>?_,o3,fun b hb=>?_⟩,fun j a hj=>?_,fun j hj h5 h6=>?_⟩
   ·rw[hof] at hj
    split at hj
    ·rename_i e; subst e; cases hj
     exact⟨o3,o,t,_,cs,hoi,hop,rfl,XP _,hnew,hz⟩
    ·obtain ⟨q1,o',t',b,cs',q2,q3,q4,q5,q6⟩:=h2.at_ j a hj
     simp only[X9,X8,Z3] at q5
     exact⟨q1,o',t',b,cs',q2,q3,q4,o3,q6⟩
   ·rw[hof] at hj hj'
    have out:∀ j b,cU j fl=some (.ptr b 0)->b≠H.length:=fun j b hj e=>by
     obtain ⟨_,_,_,b',_,_,_,q4,q5,_⟩:=h2.at_ j _ hj
     cases q4
     simp only[X9,X8,Z3] at q5
     omega
    split at hj<;>split at hj'
    ·omega
    ·cases hj; exact absurd rfl (out _ _ hj')
    ·cases hj'; exact absurd rfl (out _ _ hj)
    ·exact h2.inj j j' b hj hj'
   ·by_cases e:b=H.length
    ·subst e; exact⟨i,by rw[hof,XX rfl]⟩
    ·obtain ⟨j,hj⟩:=h2.all b r9 hb2
     refine⟨j,?_⟩
     rw[hof,XW (fun e=>by subst e; rw[hni] at hj; cases hj)]
     exact hj
   ·rw[h2.low b r9,X6 hb]
   ·rw[hof] at hj
    split at hj
    ·omega
    ·have:=h3 j a hj; omega
   ·rw[hof] at hj
    split at hj
    ·cases hj
    ·exact h4 j hj o3 (by simp at h6; omega)
open Classical in
theorem nS {call:bo} {fl:List (Nat×A)} {H1:aC} (hcall:eh cx Bs call) (hb0:Bs H0 gs ws) (horc:jK cx) (hF:gk F) (hmx:cx.P.follows .mixedOrders=true) {m:Nat} {k:E->St->Option R} {r:R} {Q:Exit->Act->World->Prop} (lU:tI ops N=true) (chkt:ft ops m=true) (hch:∀ i j,j<m->i<j->dq ops i=true->dq ops j=true->cU i fl=none->cU j fl=none->fB ops j i=true) (hfl:KD cx ops m s.H H1 fl)
  (hg:Good cx N mb lo H0 gs ws w0 s g a w) (hd:∀ o∈ops.toList,∀ d,o.dst=some d->d<N)
  {kk:St->Option R} (hkk:∀ s,kk s=some r->fI cx call f lo ops (ops.toList.drop m) s k=some r) (h:fK cx call f lo ops m fl 0 (ops.toList.take m) [] [] ⟨s.fr,H1⟩ kk=some r)
  (hk:∀ s' g' a' w',Good cx N mb lo H0 gs ws w0 s' g' a' w'->k .normal s'=some r->Q .normal a' w')
  (hp:∀ x s' g' a' w' c,Good cx N mb lo H0 gs ws w0 s' g' a' w'->VR s'.H g' w' x c->k (.pan x) s'=some r->Q (.panic [{ v:=c,recovered:=false }]) a' w'):LW F n cx.P ops Q a w:=by
 have hfe:∀ i o a,cU i fl=some a->ops[i]? = some o->dQ o=true:=fun i o a h1 h2=>by
  obtain ⟨_,o',t,_,_,q1,q2,_⟩:=hfl.at_ i a h1
  rw[h2] at q1; cases q1
  unfold dQ; rw[q2]
 obtain ⟨σ,xs,hσ0,hz,htr⟩:=qq hfe (fun k=>qS k) _ _ _ _ _ (fun j o ho=>by
  rw[Yc] at ho
  split at ho
  ·rw[YB]; rw[Yt] at ho; exact ho
  ·cases ho) h
 have hσH:(σ 0).H=H1:=hσ0.1
 have hσf:∀ t,look (σ 0).fr t=look s.fr t:=hσ0.2
 have hm2:m<=ops.size:=by
  simp only[ft,XQ,XV] at chkt
  exact chkt.1.1
 have hlen:(ops.toList.take m).length=m:=by rw[YG]; simp; omega
 rw[hlen] at hz
 replace hz:=hkk _ hz
 have hget:∀ {i o},i<m->ops[i]? = some o->(ops.toList.take m)[i]? = some o:=fun {i o} him ho=>by
  rw[Yc,XX him,Yt]; exact ho
 have hop:∀ i,i<m->∃ o,ops[i]? = some o:=fun i hi=>⟨_,YD o3⟩
 have hdst:∀ {i o},ops[i]? = some o->cw ops i=o.dst:=fun {i o} ho=>by unfold cw; rw[ho]; rfl
 have heff:∀ {i o},ops[i]? = some o->dq ops i=dQ o:=fun {i o} ho=>by unfold dq; rw[ho]
 have hlt:∀ {i j},fB ops i j=true->j<i:=fun {i j} hb=>np lU (fR i j hb)
 have hsel:∀ j,j<m->∀ o,ops[j]? = some o->mq cx call f lo ops m fl j o (σ j) (σ (j+1)) (xs j):=fun j hj o ho=>by
  have:=(htr j o (hget hj ho)).1
  rwa [YB] at this
 have fstep:∀ j,j<m->∀ o,ops[j]? = some o->∀ t,look (σ (j+1)).fr t=if o.dst=some t then xs j else look (σ j).fr t:=fun j hj o ho t=>(hsel j hj o ho).look t
 have fkeep:∀ t i j,i<=j->j<=m->(∀ q,i<=q->q<j->cw ops q≠some t)->look (σ j).fr t=look (σ i).fr t:=by
  intro t i j hij
  induction j with
  | zero=>
   intro _ _; obtain rfl:i=0:=o3
   rfl
  | succ j ih=>
   intro hjm hq
   by_cases e:i=j+1
   ·subst e; rfl
   ·obtain ⟨o,ho⟩:=hop j o3
    rw[fstep j o3 o ho,XW (by rw[<-hdst ho]; exact hq j o3 o3)]
    exact ih o3 o3 (fun q h1 h2=>hq q h1 o3)
 have hstep:∀ j,j<m->∀ o,ops[j]? = some o->(dq ops j=false∨(cU j fl).isSome=true->(σ (j+1)).H=(σ j).H)/\(σ j).H.length<=(σ (j+1)).H.length/\∀ b,b<(σ j).H.length->(dq ops j=true->cU j fl=none->∀ c,blk? (dm cx (σ j) o.op)=some c->b≠c)->(σ (j+1)).H[b]? = (σ j).H[b]?:=fun j hj o ho=>by
  have h:=(hsel j hj o ho).heap
  rw[heff ho]
  exact h
 have hlenm:∀ i j,i<=j->j<=m->(σ i).H.length<=(σ j).H.length:=by
  intro i j hij
  induction j with
  | zero=>
   intro _; obtain rfl:i=0:=o3
   exact XP _
  | succ j ih=>
   intro hjm
   by_cases e:i=j+1
   ·subst e; exact XP _
   ·obtain ⟨o,ho⟩:=hop j o3
    exact Yb (ih o3 o3) (hstep j o3 o ho).2.1
 have hsame:∀ i j,i<=j->j<=m->(∀ q,i<=q->q<j->dq ops q=false∨(cU q fl).isSome=true)->(σ j).H=(σ i).H:=by
  intro i j hij
  induction j with
  | zero=>
   intro _ _; obtain rfl:i=0:=o3
   rfl
  | succ j ih=>
   intro hjm hq
   by_cases e:i=j+1
   ·subst e; rfl
   ·obtain ⟨o,ho⟩:=hop j o3
    rw[(hstep j o3 o ho).1 (hq j o3 o3)]
    exact ih o3 o3 (fun q h1 h2=>hq q h1 o3)
 have hblk:∀ i j,i<=j->j<=m->∀ b,b<(σ i).H.length->(∀ q o,i<=q->q<j->ops[q]? = some o->dq ops q=true->cU q fl=none->∀ c,blk? (dm cx (σ q) o.op)=some c->b≠c)->(σ j).H[b]? = (σ i).H[b]?:=by
  intro i j hij
  induction j with
  | zero=>
   intro _ b _ _; obtain rfl:i=0:=o3
   rfl
  | succ j ih=>
   intro hjm b hb hq
   by_cases e:i=j+1
   ·subst e; rfl
   ·obtain ⟨o,ho⟩:=hop j o3
    rw[(hstep j o3 o ho).2.2 b (X5 hb (hlenm i j o3 o3)) (fun he hn=>hq j o o3 o3 ho he hn)]
    exact ih o3 o3 b hb (fun q o h1 h2=>hq q o h1 o3)
 have hnf:∀ {q},dq ops q=true->¬ (cU q fl=none)->(cU q fl).isSome=true:=fun _ h=>by cases hh:cU _ fl with | none=>exact absurd hh h | some _=>rfl
 let zm:(Nat->Prop)->Nat->Bool:=fun D b=>decide (∃ i,cU i fl=some (.ptr b 0)/\¬ D i)
 have zmT:∀ (D:Nat->Prop) (b:Nat),zm D b=true↔∃ i,cU i fl=some (.ptr b 0)/\¬ D i:=fun D b=>by simp only[zm,XV]
 have zmF:∀ (D:Nat->Prop) (b:Nat),zm D b=false↔∀ i,cU i fl=some (.ptr b 0)->D i:=fun D b=>by
  rw[ZQ,ne_eq,zmT,not_exists]
  exact forall_congr' fun i=>⟨fun h1 h2=>Classical.byContradiction fun h3=>h1 ⟨h2,h3⟩,fun h1 h2=>h2.2 (h1 h2.1)⟩
 have zmlow:∀ (D:Nat->Prop) (b:Nat),b<s.H.length->zm D b=false:=fun D b hb=>(zmF D b).2 fun i hi=>by
  obtain ⟨_,_,_,b',_,_,_,q,q2,_⟩:=hfl.at_ i _ hi
  cases q; omega
 have zmhi:∀ (D:Nat->Prop) (b:Nat),H1.length<=b->zm D b=false:=fun D b hb=>(zmF D b).2 fun i hi=>by
  obtain ⟨_,_,_,b',_,_,_,q,_,q2,_⟩:=hfl.at_ i _ hi
  cases q
  have:=(XS.1 q2).1
  omega
 have hlen1:∀ j,j<=m->H1.length<=(σ j).H.length:=fun j hj=>by
  have:=hlenm 0 j o3 hj
  rw[hσH] at this; exact this
 refine sK (F:=F) ⟨hF.1,hF.2.1⟩ hmx N m hg.siz lU chkt (fun D a' W=>∃ (p:Nat) (g':Gh),p<=m/\(∀ i,i<m->dq ops i=true->cU i fl=none->(D i↔i<p))/\(∀ i b,cU i fl=some (.ptr b 0)->¬ D i->(σ p).H[b]? = H1[b]?)/\Rel (b9 (zm D) (σ p).H) g' w0 W/\Ext s.H g w (b9 (zm D) (σ p).H) g' W/\(∀ b,b<lo->b<s.H.length->(σ p).H[b]? = s.H[b]?)/\g'.S=g.S ∧
   (∀ t i,i<m->cw ops i=some t->D i->VR (b9 (zm D) (σ p).H) g' W (xs i) (slot a' t))/\(∀ t,(∀ i,i<m->cw ops i=some t->¬ D i)->VR (b9 (zm D) (σ p).H) g' W (look s.fr t) (slot a' t))) ?_ ?_ ?_
 ·intro D hD
  have hr:=hg.sr.rel
  obtain ⟨g',r1,r2,r3⟩:=Rel.DF (H1.length - s.H.length) (hr.eK (Below.refl _ _).drew)
  have r2:=(Ext.below hr (Below.refl _ _).drew).trans r2
  have hH0:b9 (zm D) (σ 0).H=s.H++List.replicate (H1.length - s.H.length) .hole:=by
   rw[hσH]
   refine Zk fun b=>?_
   by_cases hb:b<s.H.length
   ·rw[eX (zmlow D b hb),X6 hb]; exact hfl.low b hb
   ·by_cases hb1:b<H1.length
    ·obtain ⟨i,hi⟩:=hfl.all b o3 hb1
     rw[sz ((zmT D b).2 ⟨i,hi,hD i⟩) (XN hb1),Yr o3,Zv,XX o3]
    ·have hl1:=hfl.len
     rw[YT (by rw[df]; exact ZA hb1),YT r9]
  refine⟨0,g',Ya _,fun i _ _ _=>⟨fun h=>absurd h (hD i),fun h=>o3⟩,fun i b _ _=>by rw[hσH],by rw[hH0]; exact r1,by rw[hH0]; exact r2,fun b _ hb=>by rw[hσH]; exact hfl.low b hb,r3,fun t i _ _ h=>absurd h (hD i),fun t _=>?_⟩
  rw[hH0]
  exact VR.ext r2 _ _ (hg.sr.fr t)
 ·rintro D D' i o him ho hDm hDi hbef hcl hD' a' W ⟨p,g',hpm,hpe,hpb,hrW,heW,hlow,hgS,hv1,hv2⟩ hsz _
  obtain ⟨c4,c5⟩:=mi lU ho
  obtain ⟨_,htA,htB⟩:=htr i o (hget him ho)
  rw[YB] at htA htB
  have hDlt:∀ {q},dq ops q=true->cU q fl=none->D q->q<p:=fun he hn h=>(hpe _ (hDm _ h) he hn).1 h
  have hlook:∀ t∈o.looksAt ops,VR (b9 (zm D) (σ p).H) g' W (look (σ i).fr t) (a'.tmps.getD t undef):=fun t ht=>by
   by_cases hj:∃ j,cw ops j=some t/\fB ops i j=true
   ·obtain ⟨j,hjt,hjb⟩:=hj
    have hji:=hlt hjb
    have hv:=hv1 t j o3 hjt (hbef j hjb)
    obtain ⟨oj,hoj⟩:=hop j o3
    have e1:look (σ (j+1)).fr t=xs j:=by rw[fstep j o3 oj hoj,XX (by rw[<-hdst hoj]; exact hjt)]
    rw[fkeep t (j+1) i o3 o3 (fun q h1 h2 hq=>by
     obtain ⟨oq,hoq⟩:=hop q o3
     obtain ⟨c4',_⟩:=mi lU hoq
     exact c4' j t o3 (by rw[<-hdst hoq]; exact hq) hjt),e1]
    exact hv
   ·have hno:∀ j,cw ops j=some t->fB ops i j=false:=fun j hjt=>by
     cases hb:fB ops i j with
     | false=>rfl
     | true=>exact absurd ⟨j,hjt,hb⟩ hj
    have hs:=hv2 t (fun j hjm hjt hDj=>by
     rcases c5 j t hjt ht with rfl | h | h
     ·exact hDi hDj
     ·rw[hno j hjt] at h; cases h
     ·exact hDi (hcl j i hDj h))
    rw[fkeep t 0 i o3 o3 (fun q h1 h2 hq=>by
     rcases c5 q t hq ht with h | h | h
     ·omega
     ·rw[hno q hq] at h; cases h
     ·have:=hlt h; omega),hσf]
    exact hs
  have hopr:tn cx ⟨(σ i).fr,b9 (zm D) (σ p).H⟩ g' w0 o.op a'.eval W:=⟨hrW,fun y hy=>oG (fun t ht=>by
    refine hlook t ?_
    subst ht
    unfold Oper.looksAt
    exact Y4.2 (.inl (qaO.2 ⟨.tmp t,hy,rfl⟩))) (fun G vs hG=>(hg.sr.gl G vs hG).ext heW),fun _=>rfl⟩
  have zsame:cU i fl=none->zm D'=zm D:=fun hn=>funext fun b=>by
   have:(zm D' b=true)↔(zm D b=true):=by
    rw[zmT,zmT]
    constructor
    ·rintro ⟨j,h1,h2⟩; exact⟨j,h1,fun h=>h2 ((hD' j).2 (.inr h))⟩
    ·rintro ⟨j,h1,h2⟩
     refine⟨j,h1,fun h=>?_⟩
     rcases (hD' j).1 h with rfl | h
     ·rw[hn] at h1; cases h1
     ·exact h2 h
   exact YO.2 this
  have fin:∀ (p':Nat) (g2:Gh) (W':World) (v:Value),p'<=m->(∀ j,j<m->dq ops j=true->cU j fl=none->(D' j↔j<p'))->(∀ j b,cU j fl=some (.ptr b 0)->¬ D' j->(σ p').H[b]? = H1[b]?)->Rel (b9 (zm D') (σ p').H) g2 w0 W'->Ext (b9 (zm D) (σ p).H) g' W (b9 (zm D') (σ p').H) g2 W'->(∀ b,b<lo->b<s.H.length->(σ p').H[b]? = s.H[b]?)->g2.S=g.S->(∀ d,o.dst=some d->VR (b9 (zm D') (σ p').H) g2 W' (xs i) v) ->
    ∃ (p:Nat) (g':Gh),p<=m/\(∀ i,i<m->dq ops i=true->cU i fl=none->(D' i↔i<p))/\(∀ i b,cU i fl=some (.ptr b 0)->¬ D' i->(σ p).H[b]? = H1[b]?)/\Rel (b9 (zm D') (σ p).H) g' w0 W'/\Ext s.H g w (b9 (zm D') (σ p).H) g' W'/\(∀ b,b<lo->b<s.H.length->(σ p).H[b]? = s.H[b]?)/\g'.S=g.S ∧
     (∀ t j,j<m->cw ops j=some t->D' j->VR (b9 (zm D') (σ p).H) g' W' (xs j) (slot (a'.put o.dst v) t))/\(∀ t,(∀ j,j<m->cw ops j=some t->¬ D' j)->VR (b9 (zm D') (σ p).H) g' W' (look s.fr t) (slot (a'.put o.dst v) t)):=by
   intro p' g2 W' v h1 h2 h2b h3 h4 h5 h6 h7
   refine⟨p',g2,h1,h2,h2b,h3,heW.trans h4,h5,h6,fun t j hjm hjt hDj=>?_,fun t ht=>?_⟩
   ·rcases (hD' j).1 hDj with rfl | hDj
    ·have hdt:o.dst=some t:=by rw[<-hdst ho]; exact hjt
     rw[hdt,fq (by rw[hsz]; exact hd o (by rw[<-Array.mem_def]; exact qbf ho) t hdt)]
     exact h7 t hdt
    ·have hne:j≠i:=fun e=>hDi (e ▸ hDj)
     rw[dK (fun hdt=>c4 j t (YS hne) hdt hjt)]
     exact VR.ext h4 _ _ (hv1 t j hjm hjt hDj)
   ·rw[dK (fun hdt=>ht i him (by rw[hdst ho]; exact hdt) ((hD' i).2 (.inl rfl)))]
    exact VR.ext h4 _ _ (hv2 t (fun j hjm hjt hDj=>ht j hjm hjt ((hD' j).2 (.inr hDj))))
  have rowM:∀ b,fX (b9 (zm D) (σ p).H) b=fX (σ p).H b:=fun b=>by
   cases hzb:zm D b with
   | false=>unfold fX; rw[eX hzb]
   | true=>
    obtain ⟨j,hj,hDj⟩:=(zmT D b).1 hzb
    obtain ⟨_,_,_,b',cs',_,_,q3,_,q5,_⟩:=hfl.at_ j _ hj
    cases q3
    have hB:=(hpb j b hj hDj).trans q5
    unfold fX
    rw[sz hzb hB,hB]
  have hwant:(Region.wanted o (yielded ops a'.tmps)=false/\cU i fl=none/\(dQ o=false∨(σ (i+1)).H=(σ i).H)/\xs i=.v undef)∨(Region.wanted o (yielded ops a'.tmps)=true/\k9 cx call f lo ops m fl i o (σ i) (σ (i+1)) (xs i)):=by
   have htl:∀ {t want},cd ops o=some (t,want)->t∈o.looksAt ops:=fun {t want} hgs=>by
    rw[jw] at hgs
    unfold Oper.looksAt
    split at hgs
    ·rename_i j want' hgd
     cases hdj:(ops[j]?).bind (·.dst) with
     | none=>rw[hdj] at hgs; cases hgs
     | some t'=>
      rw[hdj] at hgs
      cases hgs
      refine Y4.2 (.inr ?_)
      rw[hgd]
      simp[hdj]
    ·cases hgs
   rcases hsel i him o ho with ⟨hgd,hse⟩ | ⟨t,want,hgs,hni,he,hk,hs1,hor⟩ | ⟨t,want,b,hgs,hni,hlb,hor⟩
   ·exact .inr ⟨by simp[Region.wanted,hgd],hse⟩
   ·have hv:=hlook t (htl hgs)
    rcases hor with ⟨b,hlb,hcond⟩ | ⟨⟨y,hlb⟩,hcond⟩
    ·rw[hlb,VR] at hv
     rw[jR hgs hv]
     split at hcond
     ·rename_i hbw
      exact .inr ⟨hbw,.inr (.inr ⟨hni,he,hcond,hs1,.inr (.inl hk)⟩)⟩
     ·rename_i hbw
      exact .inl ⟨by simpa using hbw,hni,.inl he,hcond⟩
    ·rw[hlb,VR] at hv
     rw[lZ hgs hv]
     exact .inl ⟨rfl,hni,.inl he,hcond⟩
   ·have hv:=hlook t (htl hgs)
    rw[hlb,VR] at hv
    rw[jR hgs hv]
    rcases hor with ⟨hbw,hE⟩ | ⟨hbw,hx,hal⟩
    ·exact .inr ⟨hbw,hE⟩
    ·exact .inl ⟨hbw,hni,.inr (by rw[hal.1,gu]),hx⟩
  rcases hwant with ⟨hw,hni,he,hxu⟩ | ⟨hw,hse⟩
  ·rw[XW (by rw[hw]; simp)]
   cases hee:dQ o with
   | false=>
    refine fin p g' W undef hpm (fun j hjm hje hjn=>⟨fun h'=>?_,fun h'=>(hD' j).2 (.inr ((hpe j hjm hje hjn).2 h'))⟩) (fun j b hj hnj=>hpb j b hj (fun h=>hnj ((hD' j).2 (.inr h)))) (by rw[zsame hni]; exact hrW) (by rw[zsame hni]; exact Ext.refl hrW) hlow hgS (fun d _=>by rw[hxu,VR])
    rcases (hD' j).1 h' with rfl | h'
    ·rw[heff ho,hee] at hje; cases hje
    ·exact hDlt hje hjn h'
   | true=>
    have hei:dq ops i=true:=by rw[heff ho]; exact hee
    have hpi:p<=i:=ZA fun hlt'=>hDi ((hpe i him hei hni).2 hlt')
    have hHp:(σ i).H=(σ p).H:=hsame p i hpi o3 (fun q h2 h3=>by
     cases hq:dq ops q with
     | false=>exact .inl rfl
     | true=>
      by_cases hnq:cU q fl=none
      ·have:=hDlt hq hnq (hbef q (hch q i him h3 hq hei hnq hni)); omega
      ·exact .inr (hnf hq hnq))
    have hH2:(σ (i+1)).H=(σ p).H:=by
     rcases he with he | he
     ·rw[hee] at he; cases he
     ·rw[he,hHp]
    refine fin (i+1) g' W undef o3 (fun j hjm hje hjn=>⟨fun h'=>?_,fun h'=>?_⟩) (fun j b hj hnj=>by rw[hH2]; exact hpb j b hj (fun h=>hnj ((hD' j).2 (.inr h)))) (by rw[hH2,zsame hni]; exact hrW) (by rw[hH2,zsame hni]; exact Ext.refl hrW) (fun b hb hb'=>by rw[hH2]; exact hlow b hb hb') hgS (fun d _=>by rw[hxu,VR])
    ·rcases (hD' j).1 h' with rfl | h'
     ·omega
     ·have:=hDlt hje hjn h'; omega
    ·refine(hD' j).2 ?_
     by_cases e:j=i
     ·exact .inl e
     ·exact .inr (hbef j (hch j i him o3 hje hei hjn hni))
  rw[XX hw]
  refine .inl ?_
  rcases hse with ⟨hfi,hs1⟩ | ⟨hni,he,H',h1,hs1⟩ | ⟨hni,he,h1,hs1,hkind⟩
  ·
   obtain ⟨_,o',t,b,cs,q1,q2,q3,q4,q5,q6⟩:=hfl.at_ i _ hfi
   rw[ho] at q1; cases q1
   have hxi:xs i=.ptr b 0:=q3
   have hfb:cU i fl=some (.ptr b 0):=by rw[<-hxi]; exact hfi
   have hHb:(σ p).H[b]? = some (.box cs):=(hpb i b hfb hDi).trans q5
   have hhole:(b9 (zm D) (σ p).H)[b]? = some .hole:=sz ((zmT D b).2 ⟨i,hfb,hDi⟩) hHb
   have hmk:b9 (zm D') (σ p).H=(b9 (zm D) (σ p).H).set b (.box cs):=zv hHb ((zmF D' b).2 fun j hj=>(hD' j).2 (.inl (hfl.inj j i b hj hfb))) fun c hc=>by
    have:(zm D' c=true)↔(zm D c=true):=by
     rw[zmT,zmT]
     constructor
     ·rintro ⟨j,h1,h2⟩; exact⟨j,h1,fun h=>h2 ((hD' j).2 (.inr h))⟩
     ·rintro ⟨j,h1,h2⟩
      refine⟨j,h1,fun h=>?_⟩
      rcases (hD' j).1 h with rfl | h
      ·rw[hfb] at h1; cases h1; exact hc rfl
      ·exact h2 h
    exact YO.2 this
   obtain ⟨d,W',g2,r1,r2,r3,r4,r5⟩:=yJ (P:=cx.P) hrW hhole q6
   have r1':(execOp a'.eval o).run cx.P W=.ok (.value d) W':=by
    unfold execOp
    simp only[q2]
    exact iH r1
   refine jU (.inl r1') ?_
   refine fin p g2 W' d hpm (fun j hjm hje hjn=>⟨fun h'=>?_,fun h'=>(hD' j).2 (.inr ((hpe j hjm hje hjn).2 h'))⟩) (fun j b' hj hnj=>hpb j b' hj (fun h=>hnj ((hD' j).2 (.inr h)))) (by rw[hmk]; exact r2) (by rw[hmk]; exact r3) hlow (r5.trans hgS) (fun _ _=>by rw[hmk,hxi]; exact r4)
   rcases (hD' j).1 h' with rfl | h'
   ·rw[hfb] at hjn; cases hjn
   ·exact hDlt hje hjn h'
  ·
   have hei:dq ops i=true:=by rw[heff ho]; exact he
   have hpi:p<=i:=ZA fun hlt'=>hDi ((hpe i him hei hni).2 hlt')
   have hHp:(σ i).H=(σ p).H:=hsame p i hpi o3 (fun q h2 h3=>by
    cases hq:dq ops q with
    | false=>exact .inl rfl
    | true=>
     by_cases hnq:cU q fl=none
     ·have:=hDlt hq hnq (hbef q (hch q i him h3 hq hei hnq hni)); omega
     ·exact .inr (hnf hq hnq))
   have hst:(⟨(σ i).fr,(σ p).H⟩:St)=σ i:=by rw[<-hHp]
   have hzl:zm D (σ p).H.length=false:=zmhi D _ (hlen1 p hpm)
   have hbl:∀ y∈o.op.operands.toList,∀ b,blk? (cg cx ⟨(σ i).fr,(σ p).H⟩ y)=some b->zm D b=false:=fun y hy b hb=>Af (hopr.one y hy) (by rw[<-hb]; cases y<;>rfl)
   have h1m:bQ cx f lo o ⟨(σ i).fr,b9 (zm D) (σ p).H⟩ (fun a H=>some (a,H))=some (xs i,b9 (zm D) H'):=by
    rw[Dq he hzl rowM hbl,hst,h1]; rfl
   obtain ⟨c,w',x,H2,g2,e1,e2,e3,e4,e5,e6,e7,e8⟩:=kd hopr h1m
   cases e2
   refine jU e1 ?_
   have hH1:(σ (i+1)).H=H':=by rw[hs1.1,gu]
   have hz':=zsame hni
   have htch:=pY he h1
   refine fin (i+1) g2 w' c o3 (fun j hjm hje hjn=>⟨fun h'=>?_,fun h'=>?_⟩) (fun j b hj hnj=>?_) (by rw[hH1,hz']; exact e3) (by rw[hH1,hz']; exact e4) (fun b hb hb'=>?_) (e8.trans hgS) (fun d _=>by rw[hH1,hz']; first | exact e5 | exact e6 | exact e7)
   ·rcases (hD' j).1 h' with rfl | h'
    ·omega
    ·have:=hDlt hje hjn h'; omega
   ·refine(hD' j).2 ?_
    by_cases e:j=i
    ·exact .inl e
    ·exact .inr (hbef j (hch j i him o3 hje hei hjn hni))
   ·have hDj:¬ D j:=fun h=>hnj ((hD' j).2 (.inr h))
    obtain ⟨_,_,_,b',cs',_,_,q3,q4,q5,_⟩:=hfl.at_ j _ hj
    cases q3
    have hbH:b<(σ i).H.length:=X5 (XS.1 q5).1 (hlen1 i o3)
    rw[hH1,htch.2 b hbH (fun c hc e=>?_),hHp]
    ·exact hpb j b hj hDj
    ·subst e
     have hzb:zm D b=true:=(zmT D b).2 ⟨j,hj,hDj⟩
     have hza:zm D b=false:=by
      obtain ⟨y,hy,hty⟩:∃ y∈o.op.operands.toList,dm cx (σ i) o.op=cg cx (σ i) y:=by
       have hcs:blk? (dm cx (σ i) o.op)=some b:=hc
       unfold dm at hcs ⊢
       split at hcs
       ·rename_i t ad v hx; exact⟨ad,by rw[hx]; simp[Op.operands],rfl⟩
       ·rename_i c' hx
        split at hcs
        ·rename_i y l hl
         refine⟨y,?_,rfl⟩
         rw[hx]
         have:y∈c'.args.toList:=by rw[hl]; simp
         simp[Op.operands,Call.operands]
         exact .inr (by simpa using this)
        ·cases hcs
       ·cases hcs
      refine hbl y hy b ?_
      rw[hst,<-hty]; exact hc
     rw[hzb] at hza; cases hza
   ·have hb2:b<(σ i).H.length:=X5 hb' (by have:=hlenm 0 i o3 o3; rw[hσH] at this; exact Yb hfl.len this)
    have h3:=(by first | exact e7 b hb (by rw[df,<-hHp]; exact hb2) | exact e6 b hb (by rw[df,<-hHp]; exact hb2):(b9 (zm D) H')[b]? = (b9 (zm D) (σ p).H)[b]?)
    rw[eX (zmlow D b hb'),eX (zmlow D b hb')] at h3
    rw[hH1,h3]
    exact hlow b hb hb'
  ·
   have hun:∀ q,q<m->dq ops q=true->cU q fl=none->((i<q/\q<p)∨(p<=q/\q<i))->fF ops i q:=fun q hqm hqe hqn hq=>by
    unfold fF
    rw[YK]
    constructor
    ·cases hb:fB ops i q with
     | false=>rfl
     | true=>
      have h2:=hDlt hqe hqn (hbef q hb)
      have h3:=hlt hb
      omega
    ·cases hb:fB ops q i with
     | false=>rfl
     | true=>
      have h2:=hlt hb
      have h3:D q:=(hpe q hqm hqe hqn).2 o3
      exact absurd (hcl q i h3 hb) hDi
   have hvo:∀ {y:Operand},y∈o.op.operands.toList->∀ {b:Nat},blk? (cg cx (σ i) y)=some b->zm D b=false/\∃ B,(σ p).H[b]? = some B:=fun {y} hy {b} hb=>by
    have hvr:=hopr.one y hy
    rw[show cg cx ⟨(σ i).fr,b9 (zm D) (σ p).H⟩ y=cg cx (σ i) y from by cases y<;>rfl] at hvr
    have hz:=Af hvr hb
    obtain ⟨B,hB,_⟩:=tZ hvr hb
    rw[eX hz] at hB
    exact⟨hz,B,hB⟩
   have haddr:bV o=1->∀ {b:Nat},blk? (addrOf cx (σ i) o.op)=some b->∃ y∈o.op.operands.toList,addrOf cx (σ i) o.op=cg cx (σ i) y:=fun h2 {b} hbs=>by
    unfold bV at h2
    split at h2<;>first | (cases h2; done) | skip
    ·rename_i t x hx; exact⟨x,by rw[hx]; simp[Op.operands],by unfold addrOf; rw[hx]⟩
    ·rename_i t x q hx; exact⟨x,by rw[hx]; simp[Op.operands],by unfold addrOf; rw[hx]⟩
    ·rename_i t x q hx; exact⟨x,by rw[hx]; simp[Op.operands],by unfold addrOf; rw[hx]⟩
    ·rename_i t x q1 q2 q3 hx; exact⟨x,by rw[hx]; simp[Op.operands],by unfold addrOf; rw[hx]⟩
    ·rename_i x hx; exact⟨x,by rw[hx]; simp[Op.operands],by unfold addrOf; rw[hx]⟩
    ·rename_i t1 t2 x hx; exact⟨x,by rw[hx]; simp[Op.operands],by unfold addrOf; rw[hx]⟩
    ·rename_i t x q c hx; exact⟨x,by rw[hx]; simp[Op.operands],by unfold addrOf; rw[hx]⟩
    ·rename_i c hx
     unfold addrOf at hbs ⊢
     rw[hx] at hbs ⊢
     simp only[] at hbs ⊢
     cases hargs:c.args.toList with
     | nil=>rw[hargs] at hbs; cases hbs
     | cons y l=>
      refine⟨y,?_,rfl⟩
      have:y∈c.args.toList:=by rw[hargs]; simp
      simp[Op.operands,Call.operands]
      exact .inr (by simpa using this)
   have hev:gS cx call f o ⟨(σ i).fr,(σ p).H⟩=some (xs i):=by
    have hsi:(⟨(σ i).fr,(σ i).H⟩:St)=σ i:=rfl
    rw[<-hsi] at h1
    have allSame:(∀ q,q<m->dq ops q=true->cU q fl=none->((i<q/\q<p)∨(p<=q/\q<i))->False)->(σ p).H=(σ i).H:=fun hno=>by
     rcases qa0 i p with hip | hip
     ·exact hsame i p hip hpm (fun q h2 h3=>by
       cases hq:dq ops q with
       | false=>exact .inl rfl
       | true=>
        by_cases hnq:cU q fl=none
        ·by_cases e:q=i
         ·subst e; rw[heff ho,he] at hq; cases hq
         ·exact(hno q o3 hq hnq (.inl ⟨o3,h3⟩)).elim
        ·exact .inr (hnf hq hnq))
     ·exact(hsame p i hip o3 (fun q h2 h3=>by
       cases hq:dq ops q with
       | false=>exact .inl rfl
       | true=>
        by_cases hnq:cU q fl=none
        ·exact(hno q o3 hq hnq (.inr ⟨h2,h3⟩)).elim
        ·exact .inr (hnf hq hnq))).symm
    cases hord:jA fl ops m i with
    | true=>
     rw[allSame (fun q hqm hqe hqn hq=>by
      have hu:=hun q hqm hqe hqn hq
      unfold fF at hu
      rw[YK] at hu
      rcases v9 hord hqm hqe hqn with h2 | h2 | h2
      ·omega
      ·rw[hu.1] at h2; cases h2
      ·rw[hu.2] at h2; cases h2)]
     exact h1
    | false=>
     rcases hkind with h2 | h2 | h2 | ⟨h2,h3⟩ | ⟨h2,h3⟩
     ·rw[hord] at h2; cases h2.1
     ·rw[rN h2 (H':=(σ i).H)]; exact h1
     ·rw[<-vG h2 (H:=(σ i).H) (fun b hb=>?_)]
      ·exact h1
      ·have hbV:∃ B,(σ p).H[b]? = some B:=by
        obtain ⟨y,hy,hay⟩:=haddr h2 hb
        exact(hvo hy (by rw[<-hay]; exact hb)).2
       obtain ⟨B,hB⟩:=hbV
       have hbp:b<(σ p).H.length:=(XS.1 hB).1
       have hap:∀ {e:A} {c:Nat},apart (addrOf cx (σ i) o.op) e=true->blk? e=some c->b≠c:=fun {e c} h4 h5 h6=>by
        have hb':blk? (addrOf cx (σ i) o.op)=some b:=hb
        unfold apart at h4
        simp only[hb',h5,h6,qaC] at h4
        cases h4
       rcases qa0 i p with hip | hip
       ·
        have hbi:b<(σ i).H.length∨(σ i).H.length<=b:=qa1 _ _
        rcases hbi with hbi | hbi
        ·exact hblk i p hip hpm b hbi (fun q oq h4 h5 hoq hqe hqn c hc=>by
          by_cases e:q=i
          ·subst e; rw[heff ho,he] at hqe; cases hqe
          ·have hu:=hun q o3 hqe hqn (.inl ⟨o3,h5⟩)
           have hqA:=(htr q oq (hget o3 hoq)).2.1 (by rw[YB]; exact hqn) (by rw[<-heff hoq]; exact hqe)
           simp only[YB] at hqA
           exact hap (hqA.2 i o o3 (hget him ho) he h2 hord (by unfold fF at hu ⊢; rw[Bool.or_comm]; exact hu)) hc)
        ·exfalso
         obtain ⟨B',hB'⟩:=uo (s:=σ i) h2 h1 hb
         have:=(XS.1 hB').1
         omega
       ·exact(hblk p i hip o3 b hbp (fun q oq h4 h5 hoq hqe hqn c hc=>by
         have hu:=hun q o3 hqe hqn (.inr ⟨h4,h5⟩)
         exact hap ((htB he h2 hord).2 q oq h5 (hget o3 hoq) (by rw[YB]; exact hqn) (by rw[<-heff hoq]; exact hqe) (by rw[YB]; exact hu)) hc)).symm
     ·have hrow:∀ i j,i<=j->j<=m->(∀ q,i<=q->q<j->dq ops q=true->cU q fl=none->vn ops q=true)->∀ b,fX (σ j).H b=fX (σ i).H b:=by
       intro i j hij
       induction j with
       | zero=>
        intro _ _ b; obtain rfl:i=0:=o3
        rfl
       | succ j ih=>
        intro hjm hq b
        by_cases e:i=j+1
        ·subst e; rfl
        ·obtain ⟨oj,hoj⟩:=hop j o3
         have hprev:=ih o3 o3 (fun q h1 h2=>hq q h1 o3) b
         have stE:k9 cx call f lo ops m fl j oj (σ j) (σ (j+1)) (xs j)->fX (σ (j+1)).H b=fX (σ i).H b:=fun hE=>by
          rcases hE with ⟨_,ej⟩ | ⟨hnj,hej,H',hj1,ej⟩ | ⟨_,_,_,ej,_⟩
          ·rw[ej.1,gu]
           exact hprev
          ·have hc:=hq j o3 o3 (by rw[heff hoj]; exact hej) hnj
           unfold vn at hc
           rw[hoj] at hc
           rw[ej.1,gu]
           exact(Bh hc hj1 b).trans hprev
          ·rw[ej.1,gu]
           exact hprev
         rcases hsel j o3 oj hoj with ⟨_,hE⟩ | ⟨_,_,_,_,_,_,ej,_⟩ | ⟨_,_,_,_,_,_,a4⟩
         ·exact stE hE
         ·rw[ej.1,gu]
          exact hprev
         ·rcases a4 with ⟨_,hE⟩ | ⟨_,_,ej⟩
          ·exact stE hE
          ·rw[ej.1,gu]
           exact hprev
      have hcalm:∀ q,q<m->dq ops q=true->cU q fl=none->((i<q/\q<p)∨(p<=q/\q<i))->vn ops q=true:=fun q hqm hqe hqn hq=>by
       have hu:=hun q hqm hqe hqn hq
       unfold fF at hu
       rw[YK] at hu
       have:=X0.1 h3 q (Yj.2 hqm)
       simp only[hqe,hu.1,hu.2,YP,YQ,YV,Yg,or_false,false_or,reduceCtorEq,X7] at this
       rcases this with h | h
       ·exact h
       ·omega
      rw[rM h2 (H':=(σ i).H) (fun b=>?_)]
      ·exact h1
      ·rcases qa0 i p with hip | hip
       ·exact hrow i p hip hpm (fun q h4 h5 hqe hqn=>by
         by_cases e:q=i
         ·subst e; rw[heff ho,he] at hqe; cases hqe
         ·exact hcalm q o3 hqe hqn (.inl ⟨o3,h5⟩)) b
       ·exact(hrow p i hip o3 (fun q h4 h5 hqe hqn=>hcalm q o3 hqe hqn (.inr ⟨h4,h5⟩)) b).symm
     ·rw[<-xl h2 (H:=(σ i).H) h3]; exact h1
   have hevm:gS cx call f o ⟨(σ i).fr,b9 (zm D) (σ p).H⟩=some (xs i):=by
    have loc:oy cx o=true->gS cx call f o ⟨(σ i).fr,b9 (zm D) (σ p).H⟩=gS cx call f o ⟨(σ i).fr,(σ p).H⟩:=fun hl=>by
     unfold oy at hl
     simp only[YP,XQ] at hl
     rcases hl with ((hl | hl) | hl) | ⟨hl,hq⟩
     ·exact rN (beq_spec hl)
     ·refine(vG (beq_spec hl) fun b hb=>?_).symm
      have hb':blk? (addrOf cx (σ i) o.op)=some b:=hb
      obtain ⟨y,hy,hay⟩:=haddr (beq_spec hl) hb'
      exact eX (hvo hy (by rw[<-hay]; exact hb')).1
     ·exact rM (.inl (beq_spec hl)) rowM
     ·exact rM (.inr ⟨beq_spec hl,hq⟩) rowM
    have lk:∀ k,bV o=k->(k=0∨k=1∨k=2)->oy cx o=true:=fun k hk h=>by
     unfold oy
     rcases h with rfl | rfl | rfl<;>rw[hk]<;>rfl
    rcases hkind with ⟨_,(h2 | h2) | h2⟩ | h2 | h2 | ⟨h2 | ⟨h2,h3⟩,_⟩ | ⟨h2,_⟩
    ·rw[loc h2]; exact hev
    ·rw[sy fun b=>(zmF D b).2 fun j hj=>hbef j (rR h2 j _ hj)]; exact hev
    ·rw[Du (H':=(σ p).H) h2 rowM]; exact hev
    ·rw[loc (lk 0 h2 (.inl rfl))]; exact hev
    ·rw[loc (lk 1 h2 (.inr (.inl rfl)))]; exact hev
    ·rw[loc (lk 2 h2 (.inr (.inr rfl)))]; exact hev
    ·rw[loc (by unfold oy; rw[h2,h3]; rfl)]; exact hev
    ·rw[loc (lk 2 h2 (.inr (.inr rfl)))]; exact hev
   have hpo:=mX hcall horc hevm
   refine(hpo F n g' w0 W a'.eval hF hopr (fun G vs hG=>(hg.sr.gl G vs hG).ext heW) (hcall.up _ _ _ _ _ _ hb0 (hg.ext.trans heW))).mono ?_
   rintro v w' ⟨k1,k2,k3⟩
   refine fin p g' w' v hpm (fun j hjm hje hjn=>⟨fun h'=>?_,fun h'=>(hD' j).2 (.inr ((hpe j hjm hje hjn).2 h'))⟩) (fun j b hj hnj=>hpb j b hj (fun h=>hnj ((hD' j).2 (.inr h)))) (by rw[zsame hni]; exact k2) (by rw[zsame hni]; exact k3) hlow hgS (fun d _=>by rw[zsame hni]; exact k1)
   rcases (hD' j).1 h' with rfl | h'
   ·rw[heff ho,he] at hje; cases hje
   ·exact hDlt hje hjn h'
 ·rintro D a' W hall hDm ⟨p,g',hpm,hpe,hpb,hrW,heW,hlow,hgS,hv1,hv2⟩ hdf hsz
  have hmn:b9 (zm D) (σ p).H=(σ p).H:=sy fun b=>(zmF D b).2 fun j hj=>hall j (hfl.at_ j _ hj).1
  rw[hmn] at hrW heW hv1 hv2
  have hHm:(σ m).H=(σ p).H:=hsame p m hpm (XP _) (fun q h2 h3=>by
   cases hq:dq ops q with
   | false=>exact .inl rfl
   | true=>
    by_cases hnq:cU q fl=none
    ·have:=(hpe q h3 hq hnq).1 (hall q h3); omega
    ·exact .inr (hnf hq hnq))
  refine fJ (f:=f) (ops:=ops) hcall hb0 horc hF hk hp _ (σ m) g' a' W (fun o ho=>hd o (Yo ho)) ⟨⟨by rw[hHm]; exact hrW,fun t=>?_,fun G vs hG=>by rw[hHm]; exact(hg.sr.gl G vs hG).ext heW⟩,by rw[hHm]; exact hg.ext.trans heW,?_,fun b hb hb'=>?_,hsz,(by rw[hdf]; exact hg.dfr.mc heW.kept),Yb hg.mbw heW.size,hgS.trans hg.st⟩ hz
  ·rw[hHm]
   by_cases ht:∃ i,i<m/\cw ops i=some t
   ·obtain ⟨i,him,hit⟩:=ht
    obtain ⟨oi,hoi⟩:=hop i him
    have e1:look (σ (i+1)).fr t=xs i:=by rw[fstep i him oi hoi,XX (by rw[<-hdst hoi]; exact hit)]
    rw[fkeep t (i+1) m o3 (XP _) (fun q h1 h2 hq=>by
     obtain ⟨oq,hoq⟩:=hop q h2
     obtain ⟨c4',_⟩:=mi lU hoq
     exact c4' i t o3 (by rw[<-hdst hoq]; exact hq) hit),e1]
    exact hv1 t i him hit (hall i him)
   ·rw[fkeep t 0 m o3 (XP _) (fun q h1 h2 hq=>ht ⟨q,h2,hq⟩),hσf]
    exact hv2 t (fun i him hit=>absurd ⟨i,him,hit⟩ ht)
  ·have:=hlenm 0 m o3 (XP _)
   rw[hσH] at this
   exact Yb hg.len (Yb hfl.len this)
  ·rw[hHm,hlow b hb (X5 hb' hg.len)]
   exact hg.low b hb hb'
end
section
open Go.RowKit
variable {H H':aC} {g g':Gh} {w0 w w':World} {cx:Cx} {s:St} {a:Act} {N lo:Nat} {mb:Mb} {H0:aC} {gs:Gh} {ws:World}
theorem Fp (hr:Rel H g w0 w) {x:A} {c:Value} (h:VR H g w x c):VR H g w (Fo H x) c:=by
 unfold Fo
 split
 ·exact VR.back (fun _ _ h=>h) (pH hr _ c h)
 ·rw[VR] at h ⊢
  obtain ⟨a,cap,ds,es,h1,h2,_,h4,h5,h6⟩:=h
  exact⟨a,cap,ds,es,h1,h2,fun h=>(by cases h),h4,h5,h6⟩
 ·exact h
theorem xv (hr:Rel H g w0 w):∀ {cs:List A} {ds:List Value},bB H g w cs ds->bB H g w (cs.map (Fo H)) ds
 | [],_,h=>h
 | a :: as,_,h=>by
  rw[bB] at h
  obtain ⟨d,ds',rfl,h1,h2⟩:=h
  rw[YW,bB]
  exact⟨d,ds',rfl,Fp hr h1,xv hr h2⟩
theorem Dz (hr:Rel H g w0 w) {x:A} {c:Value} (h:VR H g w x c):VR H g w (HX H x) c:=by
 unfold HX
 split
 ·exact VR.back (fun _ _ h=>h) (pH hr _ c h)
 ·rw[VR] at h ⊢
  obtain ⟨a,cap,ds,es,h1,h2,_,h4,h5,h6⟩:=h
  exact⟨a,cap,ds,es,h1,h2,fun h=>(by cases h),h4,h5,h6⟩
 ·rw[VR] at h ⊢
  obtain ⟨ds,h1,h2⟩:=h
  exact⟨ds,h1,xv hr h2⟩
 ·exact h
theorem wj (hr:Rel H g w0 w) (es:Nat) {x:A} {c:Value} (h:VR H g w x c):∃ g',Rel (fj es H x).2 g' w0 w/\Ext H g w (fj es H x).2 g' w/\VR (fj es H x).2 g' w (fj es H x).1 c/\H.length<=(fj es H x).2.length/\(∀ b,b<H.length->(fj es H x).2[b]? = H[b]?)/\g'.S=g.S:=by
 unfold fj
 split
 ·rename_i els
  rw[bG]
  split
  ·rename_i hal
   rw[VR] at h
   obtain ⟨a,cap,ds,es',e1,e2,e3,e4,e5,e6⟩:=h
   have hc:cap=els.length:=e3 rfl
   have hds:∀ d∈ds,d.length=es:=fun d hd=>by
    obtain ⟨i,hi,rfl⟩:=YI hd
    have hl:=e6.length
    obtain ⟨q1,q2⟩:=cR.1 e6
    have:=q2 i els[i] ds[i] (XN o3) (XN hi)
    rw[this.length]
    exact X3 (X0.1 hal _ (Ys o3))
   obtain ⟨h1,h2⟩:=hr.push (Below.refl _ w) (.row false es els) none ds (fun k hk=>by cases hk) (fun he=>⟨by rw[Gh.hY]; exact bw.ext he _ _ e6,by rw[Gh.hY]; exact hds⟩)
   refine⟨_,h1,h2,?_,r8,fun b hb=>X6 hb,rfl⟩
   rw[VR,ew]
   refine⟨r8,a,cap,e1,e2,fun h=>(by cases h),fun hp=>?_,fun _ _ _ h=>o3⟩
   obtain ⟨k,off,g1,g2⟩:=e5 hp
   refine⟨k,off,g1,?_⟩
   rw[Gh.hY,Yn,YA (by rw[e6.length]; exact XP _)]
   exact g2.ext h2
  ·exact⟨g,hr,Ext.refl hr,h,XP _,fun _ _=>rfl,rfl⟩
 ·exact⟨g,hr,Ext.refl hr,h,XP _,fun _ _=>rfl,rfl⟩
theorem ED (hr:Rel H g w0 w) (es:Nat) {x:A} {c:Value} (h:VR H g w x c):∃ g',Rel (gx es H x).2 g' w0 w/\Ext H g w (gx es H x).2 g' w/\VR (gx es H x).2 g' w (gx es H x).1 c/\H.length<=(gx es H x).2.length/\(∀ b,b<H.length->(gx es H x).2[b]? = H[b]?)/\g'.S=g.S:=by
 unfold gx
 split
 ·rw[VR] at h
  obtain ⟨a,cap,ds,es',e1,e2,e3,e4,e5,e6⟩:=h
  obtain ⟨h1,h2⟩:=hr.push (Below.refl _ w) (.row true es []) none [] (fun k hk=>by cases hk) (fun he=>⟨[],by rw[bw],fun d hd=>(by cases hd),fun hp=>(by simp at hp)⟩)
  refine⟨_,h1,h2,?_,r8,fun b hb=>X6 hb,rfl⟩
  rw[VR,ew]
  exact⟨r8,a,cap,e1,o3,fun h=>(by cases h),fun hp=>o3,fun _ _ _ h=>(by have:=e3 rfl; simp at this; omega)⟩
 ·exact⟨g,hr,Ext.refl hr,h,XP _,fun _ _=>rfl,rfl⟩
theorem Am (hr:Rel H g w0 w) {x:A} {c:Value} (h:VR H g w x c):∃ g',Rel (H++[.dead]) g' w0 w/\Ext H g w (H++[.dead]) g' w/\VR (H++[.dead]) g' w x c/\H.length<=(H++[aO.dead]).length/\(∀ b,b<H.length->(H++[aO.dead])[b]? = H[b]?)/\g'.S=g.S:=by
 obtain ⟨h1,h2⟩:=hr.push (Below.refl _ w) .dead none [] (fun k hk=>by cases hk) (fun he=>Gh.bJ ..)
 exact⟨_,h1,h2,VR.ext h2 _ _ h,r8,fun b hb=>X6 hb,rfl⟩
theorem EE (hr:Rel H g w0 w) (es:Nat) {x:A} {c:Value} (h:VR H g w x c):∃ g',Rel (lJ es H x).2 g' w0 w/\Ext H g w (lJ es H x).2 g' w/\VR (lJ es H x).2 g' w (lJ es H x).1 c/\H.length<=(lJ es H x).2.length/\(∀ b,b<H.length->(lJ es H x).2[b]? = H[b]?)/\g'.S=g.S:=by
 have h1:=wj hr es h
 unfold lJ
 split
 ·rename_i els
  unfold fj at h1
  simp only at h1
  rw[bG] at h1 ⊢
  split
  ·rename_i hal
   rw[XX hal] at h1
   exact h1
  ·exact Am hr h
 ·exact Am hr h
theorem Good.slot (h:Good cx N mb lo H0 gs ws w0 s g a w) {t:Nat} {x:A} (hx:VR s.H g w x (a.tmps.getD t undef)):Good cx N mb lo H0 gs ws w0 ⟨(t,x) :: s.fr,s.H⟩ g a w:=
 ⟨⟨h.sr.rel,fun u=>by
  show VR s.H g w (look ((t,x) :: s.fr) u) _
  rw[ez]; split
  ·rename_i e; rw[<-e]; exact hx
  ·exact h.sr.fr u,h.sr.gl⟩,h.ext,h.len,h.low,h.siz,h.dfr,h.mbw,h.st⟩
theorem Good.heap (h:Good cx N mb lo H0 gs ws w0 s g a w) (hr:Rel H' g' w0 w) (he:Ext s.H g w H' g' w) (hl:s.H.length<=H'.length) (hlo:∀ b,b<lo->b<s.H.length->H'[b]? = s.H[b]?) (hst:g'.S=g.S):Good cx N mb lo H0 gs ws w0 ⟨s.fr,H'⟩ g' a w:=
 ⟨⟨hr,fun t=>VR.ext he _ _ (h.sr.fr t),fun G vs hG=>(h.sr.gl G vs hG).ext he⟩,h.ext.trans he,Yb h.len hl,fun b hb hb'=>(hlo b hb (X5 hb' h.len)).trans (h.low b hb hb'),h.siz,h.dfr.mc he.kept,Yb h.mbw he.size,hst.trans h.st⟩
theorem setRow_self {k:Nat} {arr:Array Value} {ty:TypeId} (ha:w.heap[k]? = some (.cells arr ty (0,0))):w.setRow k arr=w:=by
 have e:(w.heap.modify k fun | .cells _ elem frozen=>.cells arr elem frozen | o=>o)=w.heap:=by
  refine Array.ext r8 fun i h1 h2=>?_
  rw[qbj]
  split
  ·rename_i hik
   subst hik
   have hv:=(XU.1 ha).2
   rw[hv]
  ·rfl
 exact(YF (fun h=>({ w with heap:=h }:World)) e:_=_)
theorem Rel.box (hr:Rel H g w0 w) {b i:Nat} {cs:List A} (hb:H[b]? = some (.box cs)) {x:A} (hx:∀ k arr ty d,g.mu b=some k->w.heap[k]? = some (.cells arr ty (0,0))->arr[i]? = some d->VR H g w x d):Rel (H.set b (.box (cs.set i x))) g w0 w/\Ext H g w (H.set b (.box (cs.set i x))) g w:=by
 obtain ⟨k,arr,ty,h1,h2,h3⟩:=hr.blk b _ hb
 have key:Ext H g w (H.set b (.box (cs.set i x))) g (w.setRow k arr)->(w.setRow k arr).heap[k]? = some (.cells arr ty (0,0))->lP (H.set b (.box (cs.set i x))) g (w.setRow k arr) b (.box (cs.set i x)):=fun he hk=>by
  refine⟨k,arr,ty,h1,hk,?_⟩
  rw[setRow_self h2] at he ⊢
  refine bB.ext he _ _ (dG.2 ⟨by simpa using h3.length,fun j y d hy hd=>?_⟩)
  rw[ZH] at hy
  split at hy
  ·rename_i hij
   split at hy
   ·cases hy
    subst hij
    exact hx k arr ty d h1 h2 (by simpa using hd)
   ·cases hy
  ·exact(dG.1 h3).2 _ _ d hy hd
 have:=hr.write (arr':=arr) (B':=.box (cs.set i x)) h1 h2 hb (.inl ⟨cs,_,rfl,rfl⟩) key
 rwa [setRow_self h2] at this
def Ai (lo:Nat) (p:Nat×Nat×Nat) (s:St):St:=
 match p.2.1 with
 | 0=>match p.2.2 with
  | 0=>⟨(p.1,HX s.H (look s.fr p.1)) :: s.fr,s.H⟩
  | es+1=>bif Nat.ble 500000 es then (bif Nat.ble 1000000 es then ⟨(p.1,(lJ (es - 1000000) s.H (look s.fr p.1)).1) :: s.fr,(lJ (es - 1000000) s.H (look s.fr p.1)).2⟩ else ⟨(p.1,(gx (es - 500000) s.H (look s.fr p.1)).1) :: s.fr,(gx (es - 500000) s.H (look s.fr p.1)).2⟩) else ⟨(p.1,(fj es s.H (look s.fr p.1)).1) :: s.fr,(fj es s.H (look s.fr p.1)).2⟩
 | off+1=>match look s.fr p.1 with
  | .ptr b o=>match s.H[b]? with
   | some (.box cs)=>match cs[o+off]? with
    | some c=>bif decide (lo<=b) then match p.2.2 with
     | 0=>⟨s.fr,s.H.set b (.box (cs.set (o+off) (HX s.H c)))⟩
     | es+1=>⟨s.fr,(fj es s.H c).2.set b (.box (cs.set (o+off) (fj es s.H c).1))⟩
     else s
    | none=>s
   | _=>s
  | _=>s
theorem Dd (lo:Nat) (p:Nat×Nat×Nat) (s:St):Proofs.YtebkhfhcipnfgaaGreat.nY lo p s=Ai lo p s:=by
 obtain ⟨t,q,m⟩:=p
 cases q with
 | zero=>rfl
 | succ off=>
  simp only[Proofs.YtebkhfhcipnfgaaGreat.nY,Ai,eM]
  cases look s.fr t with
  | ptr b o=>
   simp only[]
   cases s.H[b]? with
   | none=>rfl
   | some B=>cases B with
    | box cs=>
     simp only[]
     cases cs[o+off]? with
     | none=>rfl
     | some c=>
      simp only[]
      cases decide (lo<=b) with
      | false=>rfl
      | true=>cases m<;>rfl
    | _=>rfl
  | _=>rfl
theorem uL (es:Nat) (x:A):H.length<=(fj es H x).2.length:=by
 unfold fj
 split
 ·rw[bG]; split<;>simp
 ·exact XP _
theorem BK (es:Nat) (x:A):H.length<=(gx es H x).2.length:=by
 unfold gx
 split<;>simp
theorem uM (es:Nat) (x:A):(lJ es H x).2.length=H.length+1:=by
 unfold lJ
 split
 ·rw[bG]; split<;>simp
 ·simp
theorem Dc (lo:Nat) (p:Nat×Nat×Nat) (s:St):s.H.length<=(Proofs.YtebkhfhcipnfgaaGreat.nY lo p s).H.length:=by
 rw[Dd]
 unfold Ai
 split
 ·split
  ·exact XP _
  ·rw[bG]
   split
   ·rw[bG]
    split
    ·exact Yb (Nat.le_succ _) (qam (uM ..).symm)
    ·exact BK ..
   ·exact uL ..
 ·split
  ·split
   ·split
    ·rw[bG]
     split
     ·split
      ·simp
      ·simpa using uL ..
     ·exact XP _
    ·exact XP _
   ·exact XP _
  ·exact XP _
theorem rp (lo:Nat):∀ (ps:List (Nat×Nat×Nat)) (s:St),yg ps≠none->s.H.length+1<=(eo lo ps s).H.length
 | [],s,h=>absurd rfl h
 | [p],s,h=>by
  obtain ⟨t,q,m⟩:=p
  show s.H.length+1<=(Proofs.YtebkhfhcipnfgaaGreat.nY lo (t,q,m) s).H.length
  cases q with
  | succ q=>exact absurd rfl h
  | zero=>
   unfold yg at h
   simp only at h
   rw[bG] at h
   split at h
   ·rename_i hm
    have hm:1000001<=m:=by simpa [qap] using hm
    obtain ⟨m,rfl⟩:∃ e,m=e+1:=⟨m - 1,o3⟩
    unfold Proofs.YtebkhfhcipnfgaaGreat.nY
    simp only
    rw[show Nat.ble 500000 m=true from YU o3,show Nat.ble 1000000 m=true from YU o3]
    simp only[XR]
    rw[uM]
    exact XP _
   ·exact absurd rfl h
 | p :: q :: ps,s,h=>Yb (Nat.succ_le_succ (Dc lo p s)) (rp lo (q :: ps) _ h)
theorem Good.nY (h:Good cx N mb lo H0 gs ws w0 s g a w) (p:Nat×Nat×Nat):∃ g',Good cx N mb lo H0 gs ws w0 (nY lo p s) g' a w/\s.H.length<=(Proofs.YtebkhfhcipnfgaaGreat.nY lo p s).H.length/\(p.2.2=0->(Proofs.YtebkhfhcipnfgaaGreat.nY lo p s).H.length=s.H.length):=by
 rw[Dd]
 unfold Ai
 have same:∃ g',Good cx N mb lo H0 gs ws w0 s g' a w/\s.H.length<=s.H.length/\(p.2.2=0->s.H.length=s.H.length):=⟨g,h,XP _,fun _=>rfl⟩
 split
 ·split
  ·exact⟨g,h.slot (Dz h.sr.rel (h.sr.fr _)),XP _,fun _=>rfl⟩
  ·rename_i es he'
   rw[bG]
   split
   ·rw[bG]
    split
    ·obtain ⟨g',h1,h2,h3,h4,h5,h6⟩:=EE h.sr.rel (es - 1000000) (h.sr.fr p.1)
     exact⟨g',(h.heap h1 h2 h4 (fun b _ hb=>h5 b hb) h6).slot h3,h4,fun e=>by rw[he'] at e; cases e⟩
    obtain ⟨g',h1,h2,h3,h4,h5,h6⟩:=ED h.sr.rel (es - 500000) (h.sr.fr p.1)
    exact⟨g',(h.heap h1 h2 h4 (fun b _ hb=>h5 b hb) h6).slot h3,h4,fun e=>by rw[he'] at e; cases e⟩
   obtain ⟨g',h1,h2,h3,h4,h5,h6⟩:=wj h.sr.rel es (h.sr.fr p.1)
   exact⟨g',(h.heap h1 h2 h4 (fun b _ hb=>h5 b hb) h6).slot h3,h4,fun e=>by rw[he'] at e; cases e⟩
 ·rename_i off _
  split
  ·rename_i b o _
   split
   ·rename_i cs hb
    split
    ·rename_i c hc
     rw[bG]
     split
     ·rename_i hlo
      have hlo:lo<=b:=by simpa using hlo
      split
      ·obtain ⟨k,arr,ty,m1,m2,m3⟩:=h.sr.rel.blk b _ hb
       obtain ⟨h1,h2⟩:=h.sr.rel.box hb (i:=o+off) (x:=HX s.H c) (fun k' arr' ty' d n1 n2 n3=>by
        rw[m1] at n1; cases n1
        rw[m2] at n2; cases n2
        exact Dz h.sr.rel ((dG.1 m3).2 _ _ d hc (by simpa using n3)))
       exact⟨g,h.heap h1 h2 r8 (fun b' hb' _=>X4 o3) rfl,r8,fun _=>r8⟩
      ·rename_i es he
       obtain ⟨k,arr,ty,m1,m2,m3⟩:=h.sr.rel.blk b _ hb
       have hl:=m3.length
       have hlt:=(XS.1 hc).1
       obtain ⟨d,hd⟩:∃ d,arr.toList[o+off]? = some d:=⟨_,XN o3⟩
       obtain ⟨g',h1,h2,h3,h4,h5,h6⟩:=wj h.sr.rel es ((dG.1 m3).2 _ _ d hc hd)
       have hbl:=(XS.1 hb).1
       have hb':(fj es s.H c).2[b]? = some (.box cs):=(h5 b hbl).trans hb
       have hg2:=h.heap h1 h2 h4 (fun b _ hb=>h5 b hb) h6
       have hmu:g'.mu b=g.mu b:=by
        obtain ⟨B',n1,n2⟩:=h2.blk b _ hb
        rw[hb'] at n1; cases n1
        exact n2
       have key:∀ k arr ty d,g'.mu b=some k->w.heap[k]? = some (.cells arr ty (0,0))->arr[o+off]? = some d->VR (fj es s.H c).2 g' w (fj es s.H c).1 d:=by
        intro k' arr' ty' d' n1 n2 n3
        rw[hmu,m1] at n1; cases n1
        rw[m2] at n2; cases n2
        have e:d'=d:=by
         have:arr.toList[o+off]? = some d':=by simpa using n3
         rw[hd] at this; cases this; rfl
        rw[e]; exact h3
       obtain ⟨k1,k2⟩:=h1.box hb' (i:=o+off) (x:=(fj es s.H c).1) key
       exact⟨g',hg2.heap k1 k2 r8 (fun b' hb' _=>X4 o3) rfl,by simpa using h4,fun e=>by rw[he] at e; cases e⟩
     ·exact same
    ·exact same
   ·exact same
  ·exact same
theorem Good.acts:∀ (ps:List (Nat×Nat×Nat)) {s:St} {g:Gh},Good cx N mb lo H0 gs ws w0 s g a w->∃ g',Good cx N mb lo H0 gs ws w0 (eo lo ps s) g' a w/\s.H.length<=(eo lo ps s).H.length
 | [],s,g,h=>⟨g,h,XP _⟩
 | p :: ps,s,g,h=>by
  obtain ⟨g',h1,h2,_⟩:=h.nY p
  obtain ⟨g'',h3,h4⟩:=Good.acts ps h1
  exact⟨g'',h3,Yb h2 h4⟩
theorem Good.Ih {k:St->Option R} {r:R}:∀ (ps:List (Nat×Nat×Nat)) {s:St} {g:Gh},Good cx N mb lo H0 gs ws w0 s g a w->qU lo ps s k=some r->∃ s' g',Good cx N mb lo H0 gs ws w0 s' g' a w/\k s'=some r
 | [],s,g,h,hk=>⟨s,g,h,hk⟩
 | p :: ps,s,g,h,hk=>by
  unfold qU at hk
  obtain ⟨q,h1,hk⟩:=bE hk
  obtain ⟨g',e1,e2,e3,e4,e5,e6⟩:=AE h.sr.rel h1 (h.sr.fr p.1)
  exact Good.Ih ps ((h.heap e1 e2 (qam e4.symm) e5 e6).slot e3) hk
variable {call:bo} {f:Nat} {ops:Array Oper} {r:R}
theorem uk {o:Oper} {k k':St->Option R} {pan:A->St->Option R} (hk:∀ s,k s=some r->k' s=some r) (h:rH cx call f lo o s k pan=some r):rH cx call f lo o s k' pan=some r:=by
 have one:∀ {x},bQ cx f lo x s (fun a H=>k ({ s with H:=H }.put o.dst a))=some r->bQ cx f lo x s (fun a H=>k' ({ s with H:=H }.put o.dst a))=some r:=fun {x} h=>by
  rw[iB] at h ⊢
  obtain ⟨p,h1,h2⟩:=bE h
  rw[h1]
  exact hk _ h2
 unfold rH at h ⊢
 split
 ·rename_i c x y ho
  simp only[ho] at h
  obtain ⟨z,h1,h2⟩:=bE h
  rw[h1]; exact hk _ h2
 ·rename_i x ho
  simp only[ho] at h
  exact h
 ·rename_i t' n' parts ho
  simp only[ho] at h ⊢
  rw[bG] at h ⊢
  split
  ·rename_i hc
   rw[XX hc] at h
   obtain ⟨z,h1,h2⟩:=bE h
   rw[h1]; exact hk _ h2
  ·rename_i hc
   rw[XW hc] at h
   exact one h
 ·rename_i t' n' parts ho
  simp only[ho] at h ⊢
  rw[bG] at h ⊢
  split
  ·rename_i hc
   rw[XX hc] at h
   obtain ⟨z,h1,h2⟩:=bE h
   rw[h1]; exact hk _ h2
  ·rename_i hc
   rw[XW hc] at h
   exact one h
 ·rename_i t' t'' x ho
  simp only[ho] at h ⊢
  rw[bG] at h ⊢
  split
  ·rename_i hc
   rw[XX hc] at h
   obtain ⟨z,h1,h2⟩:=bE h
   rw[h1]; exact hk _ h2
  ·rename_i hc
   rw[XW hc] at h
   exact one h
 ·rename_i c ho
  simp only[ho] at h ⊢
  rw[bG] at h ⊢
  split
  ·rename_i hc
   rw[XX hc] at h
   rw[rE] at h ⊢
   unfold IB at h ⊢
   split at h
   ·rename_i p hy
    obtain ⟨hrb,h⟩:=bu h
    obtain ⟨x,h3,h4⟩:=bE h
    simp only[hrb,XR,h3,XM]
    unfold dL at h4 ⊢
    split
    ·rename_i y hy; rw[hy] at h4; exact hk _ h4
    ·rename_i y hy; rw[hy] at h4; exact h4
   obtain ⟨p,h1,h2⟩:=bE h
   simp only[h1,XM]
   rw[bG] at h2 ⊢
   split
   ·rename_i hi
    rw[XX hi] at h2
    obtain ⟨x,h3,h4⟩:=bE h2
    rw[h3]; exact hk _ h4
   ·rename_i hi
    rw[XW hi] at h2
    obtain ⟨x,h3,h4⟩:=bE h2
    rw[h3,XM]
    unfold dL at h4 ⊢
    split
    ·rename_i y hy; rw[hy] at h4; exact hk _ h4
    ·rename_i y hy; rw[hy] at h4; exact h4
  ·rename_i hc
   rw[XW hc] at h
   exact one h
 ·rename_i h1 h2 h3 h4 h5 h6
  have:bQ cx f lo o s (fun a H=>k ({ s with H:=H }.put o.dst a))=some r:=by
   cases ho:o.op<;>first
    | (simp only[ho] at h; exact h)
    | exact absurd ho (h1 _ _ _)
    | exact absurd ho (h2 _)
    | exact absurd ho (h3 _ _ _)
    | exact absurd ho (h4 _ _ _)
    | exact absurd ho (h5 _ _ _)
    | exact absurd ho (h6 _)
  exact one this
theorem Dj {b x:Bool} (h:(bif b then x else false)=true):b=true/\x=true:=by cases b<;>simp_all
theorem nP:∀ {os:List Oper},oV cx f os=true->∀ o∈os,quiet cx f o=true
 | [],_,o,ho=>by cases ho
 | o :: os,h,o',ho'=>by
  unfold oV at h
  obtain ⟨h1,h2⟩:=Dj h
  rcases YC.1 ho' with rfl | ho'
  ·exact h1
  ·exact nP h2 o' ho'
theorem iC {k:E->St->Option R}:∀ (q:Nat) (os:List Oper) (s:St),gG cx call f lo ops q os s k=some r->fI cx call f lo ops os s k=some r
 | 0,_,_,h=>by cases h
 | _+1,[],_,h=>h
 | q+1,o :: os,s,h=>by
  have ih:=fun s=>iC (k:=k) q os s
  unfold gG at h
  unfold fI
  cases hgd:o.guard with
  | none=>
   simp only[hgd] at h ⊢
   exact uk (fun s=>ih s) h
  | some x=>
   simp only[hgd] at h ⊢
   cases hgs:cd ops o with
   | none=>rw[hgs] at h; cases h
   | some p=>
    obtain ⟨t,w⟩:=p
    simp only[hgs] at h ⊢
    rw[bG] at h
    split at h
    ·rename_i hc
     rw[XQ] at hc
     have hqq:=nP hc.2
     have hro:=(eO (ops:=ops) t w (o :: os) []).2.out.1
     have hE:∀ (o:Oper) (os:List Oper) (s:St),(quiet cx f o=true/\(o.guard≠none∨∃ c a b,o.op=.pick c a b))->fI cx call f lo ops (o :: os) s k=(mG cx call f ops o s).bind fun x=>fI cx call f lo ops os (s.put o.dst x) k:=by
      intro o os s ⟨h1,h2⟩
      rw[fI]
      unfold mG
      cases hgd:o.guard with
      | none=>
       simp only
       rcases h2 with h2 | ⟨c,a,b,hp⟩
       ·exact absurd hgd h2
       ·unfold rH gS
        rw[hp]
      | some x=>
       simp only
       cases hgs:cd ops o with
       | none=>rfl
       | some p=>
        obtain ⟨t,w⟩:=p
        simp only[h1,XR]
     obtain ⟨pre,rest,fr,e1,e2,e3,e4⟩:=sa (E:=fun os s=>fI cx call f lo ops os s k) hE (fun o c a b hp=>⟨by unfold quiet; rw[hp],.inr ⟨c,a,b,hp⟩⟩) (fun o' ho'=>⟨hqq o' ho',.inl (hro o' ho').2⟩) (fun g w h=>by cases h) (fun hlk fin l hl=>by
      obtain ⟨dl,k1,k2,k3⟩:=iX (E:=fun os s=>fI cx call f lo ops os s k) hE (fun o c a b hp=>⟨by unfold quiet; rw[hp],.inr ⟨c,a,b,hp⟩⟩) q (some (t,w)) fin _ [] s l hl (fun o' ho'=>⟨hqq o' ho',.inl (hro o' ho').2⟩) (fun g' w' hg'=>by
       cases hg'; exact⟨hlk,fun o' ho'=>(hro o' ho').1⟩)
      exact⟨dl,k1,by simpa using k2,k3⟩) h
     have:=e4 rest
     rw[<-e1] at this
     have h3:=iC q rest _ e2
     have h4:fI cx call f lo ops (o :: os) s k=some r:=this.trans h3
     rw[fI,hgd] at h4
     simp only[hgs] at h4
     exact h4
    ·rw[bG] at h ⊢
     split
     ·rename_i hq
      rw[XX hq] at h
      obtain ⟨x,h1,h2⟩:=bE h
      rw[h1]; exact ih _ h2
     ·rename_i hq
      rw[XW hq] at h
      unfold pA at h ⊢
      split
      ·rename_i b hb
       rw[hb] at h
       cases b<;>cases w<;>simp only[XR,XO] at h ⊢<;>first | exact ih _ h | exact uk (fun s=>ih s) h
      ·rename_i y hy; rw[hy] at h; exact ih _ h
      ·rename_i h1 h2
       split at h
       ·rename_i b hb; exact absurd hb (h1 b)
       ·rename_i y hy; exact absurd hy (h2 y)
       ·cases h
theorem n7 {k k':St->Option R} (hk:∀ s,k s=some r->k' s=some r):∀ {os:List Oper} {s:St},jr cx call f ops os s k=some r->jr cx call f ops os s k'=some r
 | [],s,h=>hk _ h
 | o :: os,s,h=>by
  unfold jr at h ⊢
  cases hgd:o.guard with
  | none=>
   simp only[hgd] at h ⊢
   obtain ⟨x,h1,h2⟩:=bE h
   rw[h1]; exact n7 hk h2
  | some q=>
   simp only[hgd] at h ⊢
   cases hgs:cd ops o with
   | none=>rw[hgs] at h; cases h
   | some p=>
    simp only[hgs] at h ⊢
    obtain ⟨x,h1,h2⟩:=bE h
    rw[h1]; exact n7 hk h2
theorem p6 {k:St->Option R}:∀ (q:Nat) (os:List Oper) (s:St),p0 cx call f ops q os s k=some r->jr cx call f ops os s k=some r
 | 0,_,_,h=>by cases h
 | _+1,[],_,h=>h
 | q+1,o :: os,s,h=>by
  have ih:=fun s=>p6 (k:=k) q os s
  unfold p0 at h
  have hE:∀ (o:Oper) (os:List Oper) (s:St),True->jr cx call f ops (o :: os) s k=(mG cx call f ops o s).bind fun x=>jr cx call f ops os (s.put o.dst x) k:=by
   intro o os s _
   rw[jr]
   unfold mG
   cases hgd:o.guard with
   | none=>rfl
   | some x=>
    simp only
    cases hgs:cd ops o with
    | none=>rfl
    | some p=>rfl
  cases hgd:o.guard with
  | none=>
   simp only[hgd] at h
   unfold jr
   simp only[hgd]
   rw[qS] at h
   obtain ⟨x,h1,h2⟩:=bE h
   rw[h1]; exact ih _ h2
  | some x=>
   simp only[hgd] at h
   cases hgs:cd ops o with
   | none=>rw[hgs] at h; cases h
   | some p=>
    obtain ⟨t,w⟩:=p
    simp only[hgs] at h
    obtain ⟨_,h⟩:=bu h
    have hro:=(eO (ops:=ops) t w (o :: os) []).2.out.1
    obtain ⟨pre,rest,fr,e1,e2,e3,e4⟩:=sa (E:=fun os s=>jr cx call f ops os s k) hE (fun _ _ _ _ _=>trivial) (fun _ _=>trivial) (fun g w h=>by cases h) (fun hlk fin l hl=>by
     obtain ⟨dl,k1,k2,k3⟩:=iX (E:=fun os s=>jr cx call f ops os s k) hE (fun _ _ _ _ _=>trivial) q (some (t,w)) fin _ [] s l hl (fun _ _=>trivial) (fun g' w' hg'=>by
      cases hg'; exact⟨hlk,fun o' ho'=>(hro o' ho').1⟩)
     exact⟨dl,k1,by simpa using k2,k3⟩) h
    have:=e4 rest
    rw[<-e1] at this
    exact this.trans (p6 q rest _ e2)
end
section
open Go.RowKit
variable {H H':aC} {g g':Gh} {w0 w w':World} {cx:Cx} {s:St} {a:Act} {F:Fence} {n:Nat} {N lo:Nat} {mb:Mb} {H0:aC} {gs:Gh} {ws:World} {Bs:aC->Gh->World->Prop} {f:Nat} {ops:Array Oper}
theorem lD {o:Oper} (h:tH o=true):o.guard=none:=by
 unfold tH at h; split at h
 ·assumption
 ·cases h
theorem xf {call:bo} {k:List (Nat×A)->St->Option R} {r:R}:∀ (L:List Nat) (seen:List (Nat×A)) (s:St),OE cx call f ops L seen s k=some r ->
  ∃ (S:Nat->St) (x:Nat->A) (seen1:List (Nat×A)),S 0=s/\k seen1 (S L.length)=some r/\(∀ p∈seen,p∈seen1) ∧
   ∀ (p i:Nat),L[p]? = some i->∃ o,ops[i]? = some o/\o.guard=none/\(bV o=0∨(bV o=1/\(i,addrOf cx (S p) o.op)∈seen1)∨(bV o=2/\py (partsOf cx (S p) o.op)=true))/\gS cx call f o (S p)=some (x p)/\S (p+1)=(S p).put o.dst (x p)
 | [],seen,s,h=>⟨fun _=>s,fun _=>.any,seen,rfl,h,fun _ h=>h,fun p i hp=>by simp at hp⟩
 | i :: L,seen,s,h=>by
  unfold OE at h
  split at h
  ·cases h
  ·rename_i o ho
   obtain ⟨hc,h⟩:=bu h
   obtain ⟨hfl,h⟩:=bu h
   rw[Ub,XQ,YP,YP] at hc
   rw[qS] at h
   obtain ⟨x0,h1,h⟩:=bE h
   obtain ⟨S,x,seen1,e1,e2,e3,e4⟩:=xf L _ _ h
   refine⟨fun p=>match p with | 0=>s | p+1=>S p,fun p=>match p with | 0=>x0 | p+1=>x p,seen1,rfl,e2,fun p hp=>e3 p (by
    cases Nat.beq (bV o) 1 with
    | true=>exact Zt _ hp
    | false=>exact hp),fun p j hj=>?_⟩
   cases p with
   | zero=>
    simp at hj
    subst hj
    refine⟨o,ho,lD hc.1,?_,h1,e1⟩
    rcases hc.2 with (hk | hk) | hk
    ·exact .inl (beq_spec hk)
    ·exact .inr (.inl ⟨beq_spec hk,e3 _ (by rw[hk]; exact ZN ..)⟩)
    ·exact .inr (.inr ⟨beq_spec hk,by rw[hk] at hfl; exact hfl⟩)
   | succ p=>exact e4 p j (by simpa using hj)
def tY (cx:Cx) (call:bo) (f lo:Nat) (ops:Array Oper) (c q:Nat) (seen:List (Nat×A)) (i:Nat) (s:St) (x:A) (s':St):Prop:=
 ∃ o H',ops[i]? = some o/\s'=({ s with H:=H' }:St).put o.dst x ∧
  ((i≠c/\o.guard=none/\((dQ o=true/\kj ops i (dm cx s o.op) seen=true)∨vL o.op=false)/\bQ cx f lo o s (fun a H=>some (a,H))=some (x,H')) ∨
   (i=c/\uN ops c (Fg cx o) seen=true/\call q (eT cx s o.op) s.H (EX cx o lo s.H)=some (.ret x,H')))
theorem xk {call:bo} {c q:Nat} {kp:A->aC->Option R} {k:St->Option R} {r:R} {seen:List (Nat×A)} (hq:∀ o,ops[c]? = some o->∀ (s:St) (lo':Nat) (k:A->aC->Option R) (kp:A->aC->Option R),dP cx call (iZ cx s o.op) (eT cx s o.op) s.H lo' k kp=(call q (eT cx s o.op) s.H lo').bind fun r=>dL r.1 (fun a=>k a r.2) (fun a=>kp a r.2)) :
  ∀ (L:List Nat) (s:St),Kv cx call f lo ops c kp L seen s k=some r ->
  ∃ (S:Nat->St) (x:Nat->A) (P:Nat),S 0=s/\P<=L.length/\(∀ p i,p<P->L[p]? = some i->tY cx call f lo ops c q seen i (S p) (x p) (S (p+1))) ∧
   ((P=L.length/\k (S P)=some r)∨(∃ o y H2,L[P]? = some c/\ops[c]? = some o/\call q (eT cx (S P) o.op) (S P).H (EX cx o lo (S P).H)=some (.pan y,H2)/\kp y H2=some r))
 | [],s,h=>⟨fun _=>s,fun _=>.any,0,rfl,XP _,fun p i hp _=>absurd hp (Yl _),.inl ⟨rfl,h⟩⟩
 | i :: L,s,h=>by
  unfold Kv at h
  split at h
  ·cases h
  rename_i o ho
  have go:∀ (x0:A) (H':aC),tY cx call f lo ops c q seen i s x0 (({ s with H:=H' }:St).put o.dst x0)->Kv cx call f lo ops c kp L seen (({ s with H:=H' }:St).put o.dst x0) k=some r ->
    ∃ (S:Nat->St) (x:Nat->A) (P:Nat),S 0=s/\P<=(i :: L).length/\(∀ p j,p<P->(i :: L)[p]? = some j->tY cx call f lo ops c q seen j (S p) (x p) (S (p+1))) ∧
     ((P=(i :: L).length/\k (S P)=some r)∨(∃ o y H2,(i :: L)[P]? = some c/\ops[c]? = some o/\call q (eT cx (S P) o.op) (S P).H (EX cx o lo (S P).H)=some (.pan y,H2)/\kp y H2=some r)):=fun x0 H' hst h=>by
   obtain ⟨S,x,P,e1,e2,e3,e4⟩:=xk hq L _ h
   refine⟨fun p=>match p with | 0=>s | p+1=>S p,fun p=>match p with | 0=>x0 | p+1=>x p,P+1,rfl,Nat.succ_le_succ e2,fun p j hp hj=>?_,?_⟩
   ·cases p with
    | zero=>
     simp at hj
     subst hj
     show tY cx call f lo ops c q seen i s x0 (S 0)
     rw[e1]; exact hst
    | succ p=>exact e3 p j o3 (by simpa using hj)
   ·rcases e4 with ⟨e4,e5⟩ | ⟨o,y,H2,e4,e5⟩
    ·exact .inl ⟨by rw[e4]; rfl,e5⟩
    ·exact .inr ⟨o,y,H2,by simpa using e4,e5⟩
  cases hic:Nat.beq i c with
  | true=>
   rw[hic] at h
   simp only[XR] at h
   obtain rfl:=X3 hic
   obtain ⟨hsn,h⟩:=bu h
   rw[hq o ho] at h
   obtain ⟨⟨out,H2⟩,hcl,h⟩:=bE h
   cases out with
   | pan y=>exact⟨fun _=>s,fun _=>.any,0,rfl,Ya _,fun p i hp _=>absurd hp (Yl _),.inr ⟨o,y,H2,rfl,ho,hcl,h⟩⟩
   | ret v=>exact go v H2 ⟨o,H2,ho,rfl,.inr ⟨rfl,hsn,hcl⟩⟩ h
  | false=>
   rw[hic] at h
   simp only[XO] at h
   obtain ⟨hc,h⟩:=bu h
   obtain ⟨hs,h⟩:=bu h
   rw[Ud,XQ,XQ,YP,YQ] at hc
   rw[iB] at h
   obtain ⟨⟨x0,H'⟩,h1,h⟩:=bE h
   refine go x0 H' ⟨o,H',ho,rfl,.inl ⟨fun e=>by subst e; simp at hic,lD hc.1.1,?_,h1⟩⟩ h
   rcases hc.1.2 with hk | hk
   ·exact .inl ⟨hk,by rw[hk] at hs; exact hs⟩
   ·exact .inr hk
theorem zB {call:bo} (hcall:eh cx Bs call) (hb0:Bs H0 gs ws) (horc:jK cx) (hF:gk F) (hmx:cx.P.follows .mixedOrders=true) {k:E->St->Option R} {r:R} {Q:Exit->Act->World->Prop} {m:Nat} (lU:tI ops N=true) (chkt:ft ops m=true)
  (hg:Good cx N mb lo H0 gs ws w0 s g a w) (hd:∀ o∈ops.toList,∀ d,o.dst=some d->d<N)
  (O:List Nat) (M P pc:Nat) (S:Nat->St) (x:Nat->A) (hM:M<=P) (hpc:M<=pc) (hP:P<=O.length) (hO:∀ i:Nat,i<m->∃ p:Nat,O[p]? = some i) (hOs:∀ p i:Nat,O[p]? = some i->i<m) (hnd:∀ p q i:Nat,O[p]? = some i->O[q]? = some i->p=q)
  (hdep:∀ p q i j:Nat,O[p]? = some i->O[q]? = some j->fB ops i j=true->q<p) (hE:∀ p q i j:Nat,M<=q->q<p->O[p]? = some i->O[q]? = some j->fB ops i j=true)
  (h0:S 0=s) (hH:∀ p,p<=M->(S p).H=s.H) (hgd:∀ (p i:Nat) (o:Oper),O[p]? = some i->ops[i]? = some o->o.guard=none)
  (hlk:∀ (p i:Nat) (o:Oper),p<P->O[p]? = some i->ops[i]? = some o->∀ t,look (S (p+1)).fr t=if o.dst=some t then x p else look (S p).fr t)
  (Z:Prop) (hlen:∀ p,M<=p->p<P->(pc<=p->Z)->(S p).H.length<=(S (p+1)).H.length)
  (hpure:∀ (p i:Nat) (o:Oper),p<M->O[p]? = some i->ops[i]? = some o->∀ e,M+e<=P->(pc<M+e->Z)->(∀ q j:Nat,M<=q->q<M+e->O[q]? = some j->fF ops i j)->gS cx call f o ⟨(S p).fr,(S (M+e)).H⟩=some (x p))
  (heff:∀ (p i:Nat) (o:Oper),M<=p->p<P->O[p]? = some i->ops[i]? = some o->∀ (g':Gh) (W:World) (ev:Operand->Value),tn cx (S p) g' w0 o.op ev W->(∀ (G:Nat) (vs:List Value),cx.glob G=some vs->bM (S p).H g' W G 0 vs)->Bs (S p).H g' W ->
   E8 F n cx.P o ev W (fun v w'=>∃ g2,Rel (S (p+1)).H g2 w0 w'/\Ext (S p).H g' W (S (p+1)).H g2 w'/\(∀ b,b<lo->b<(S p).H.length->(S (p+1)).H[b]? = (S p).H[b]?)/\g2.S=g'.S/\VR (S (p+1)).H g2 w' (x p) v/\(p=pc->Z)) (fun _ _=>False))
  (hpan:∀ (i:Nat) (o:Oper),O[P]? = some i->ops[i]? = some o->∃ (H2:aC) (y:A),k (.pan y) ⟨[],H2⟩=some r/\∀ (g':Gh) (W:World) (ev:Operand->Value),tn cx (S P) g' w0 o.op ev W->(∀ (G:Nat) (vs:List Value),cx.glob G=some vs->bM (S P).H g' W G 0 vs)->Bs (S P).H g' W ->
   E8 F n cx.P o ev W (fun _ _=>False) (fun ch w'=>∃ c g2,ch=[{ v:=c,recovered:=false }]/\Rel H2 g2 w0 w'/\Ext (S P).H g' W H2 g2 w'/\(S P).H.length<=H2.length/\(∀ b,b<lo->b<(S P).H.length->H2[b]? = (S P).H[b]?)/\g2.S=g'.S/\VR H2 g2 w' y c))
  (hend:P=O.length->fI cx call f lo ops (ops.toList.drop m) (S P) k=some r)
  (hk:∀ s' g' a' w',Good cx N mb lo H0 gs ws w0 s' g' a' w'->k .normal s'=some r->Q .normal a' w')
  (hp:∀ x s' g' a' w' c,Good cx N mb lo H0 gs ws w0 s' g' a' w'->VR s'.H g' w' x c->k (.pan x) s'=some r->Q (.panic [{ v:=c,recovered:=false }]) a' w'):LW F n cx.P ops Q a w:=by
 have hr:=hg.sr.rel
 have hm2:m<=ops.size:=by
  simp only[ft,XQ,XV] at chkt
  exact chkt.1.1
 have hdst:∀ {i o},ops[i]? = some o->cw ops i=o.dst:=fun {i o} ho=>by unfold cw; rw[ho]; rfl
 have hop:∀ {p i:Nat},O[p]? = some i->∃ o,ops[i]? = some o:=fun {p i} h=>⟨_,YD (X5 (hOs _ _ h) hm2)⟩
 have hdlt:∀ {i t},cw ops i=some t->∃ o,ops[i]? = some o/\o.dst=some t:=fun {i t} h=>by
  unfold cw at h
  cases ho:ops[i]? with
  | none=>rw[ho] at h; cases h
  | some o=>rw[ho] at h; exact⟨o,rfl,h⟩
 have hat:∀ p:Nat,p<O.length->∃ (i:Nat) (o:Oper),O[p]? = some i/\ops[i]? = some o:=fun p h=>by
  have h1:=XN h
  obtain ⟨o,ho⟩:=hop h1
  exact⟨_,o,h1,ho⟩
 have lookA:∀ t q j:Nat,O[q]? = some j->cw ops j=some t->∀ p,q<p->p<=P->look (S p).fr t=x q:=by
  intro t q j hq hj p
  obtain ⟨oj,hoj,hdj⟩:=hdlt hj
  induction p with
  | zero=>intro h; omega
  | succ p ih=>
   intro h1 h2
   by_cases e:q=p
   ·subst e; rw[hlk q j oj o3 hq hoj,XX hdj]
   ·obtain ⟨i,o,hi,ho⟩:=hat p o3
    obtain ⟨c4,_⟩:=mi lU ho
    rw[hlk p i o o3 hi ho,XW fun hdo=>c4 j t (fun e2=>e (hnd q p j hq (e2 ▸ hi))) hdo hj]
    exact ih o3 o3
 have lookB:∀ t p:Nat,p<=P->(∀ q j:Nat,q<p->O[q]? = some j->cw ops j≠some t)->look (S p).fr t=look s.fr t:=by
  intro t p
  induction p with
  | zero=>intro _ _; rw[h0]
  | succ p ih=>
   intro h1 h2
   obtain ⟨i,o,hi,ho⟩:=hat p o3
   rw[hlk p i o o3 hi ho,XW fun hdo=>h2 p i o3 hi (by rw[hdst ho]; exact hdo)]
   exact ih o3 fun q j hq hj=>h2 q j o3 hj
 have lenM:∀ e,M+e<=P->(pc<M+e->Z)->s.H.length<=(S (M+e)).H.length:=by
  intro e
  induction e with
  | zero=>intro _ _; rw[Zf,hH M (XP _)]; exact XP _
  | succ e ih=>intro h hz; exact Yb (ih o3 (fun h=>hz o3)) (hlen (M+e) o3 o3 (fun h=>hz o3))
 refine sK (F:=F) ⟨hF.1,hF.2.1⟩ hmx N m hg.siz lU chkt (fun D a' W=>∃ (e:Nat) (g':Gh),M+e<=P/\(pc<M+e->Z)/\(∀ q j:Nat,M<=q->O[q]? = some j->(D j↔q<M+e))/\Rel (S (M+e)).H g' w0 W/\Ext s.H g w (S (M+e)).H g' W/\(∀ b,b<lo->b<s.H.length->(S (M+e)).H[b]? = s.H[b]?)/\g'.S=g.S ∧
   (∀ q j t:Nat,O[q]? = some j->cw ops j=some t->D j->VR (S (M+e)).H g' W (x q) (slot a' t))/\(∀ t,(∀ j,j<m->cw ops j=some t->¬ D j)->VR (S (M+e)).H g' W (look s.fr t) (slot a' t))) ?_ ?_ ?_
 ·intro D hD
  have hb:=Ext.below hr (Below.refl w.heap.size w).drew
  refine⟨0,g,hM,fun h=>o3,fun q j hq _=>⟨fun h=>absurd h (hD j),fun h=>o3⟩,?_,?_,fun b _ _=>?_,rfl,fun q j t _ _ h=>absurd h (hD j),fun t _=>?_⟩
  ·rw[Zf,hH M (XP _)]; exact hr.eK (Below.refl _ _).drew
  ·rw[Zf,hH M (XP _)]; exact hb
  ·rw[Zf,hH M (XP _)]
  ·rw[Zf,hH M (XP _)]; exact VR.ext hb _ _ (hg.sr.fr t)
 ·rintro D D' i o him ho hDm hDi hbef hcl hD' a' W ⟨e,g',heP,heZ,hDe,hrW,heW,hlow,hgS,hv1,hv2⟩ hsz hdf
  obtain ⟨p,hpi⟩:=hO i him
  have hpl:p<O.length:=(XS.1 hpi).1
  obtain ⟨c4,c5⟩:=mi lU ho
  rw[XX (by simp[Region.wanted,hgd p i o hpi ho])]
  have hbs:Bs (S (M+e)).H g' W:=hcall.up _ _ _ _ _ _ hb0 (hg.ext.trans heW)
  have hgl:∀ (G:Nat) (vs:List Value),cx.glob G=some vs->bM (S (M+e)).H g' W G 0 vs:=fun G vs hG=>(hg.sr.gl G vs hG).ext heW
  have hlook:p<=P->∀ t∈o.looksAt ops,VR (S (M+e)).H g' W (look (S p).fr t) (a'.tmps.getD t undef):=fun hpP t ht=>by
   by_cases hj:∃ j,cw ops j=some t/\fB ops i j=true
   ·obtain ⟨j,hjt,hjb⟩:=hj
    obtain ⟨oj,hoj,_⟩:=hdlt hjt
    obtain ⟨q,hq⟩:=hO j (Nat.lt_trans (np lU (fR i j hjb)) him)
    have hqp:=hdep p q i j hpi hq hjb
    rw[lookA t q j hq hjt p hqp hpP]
    exact hv1 q j t hq hjt (hbef j hjb)
   ·have hno:∀ j,cw ops j=some t->fB ops i j=false:=fun j hjt=>by
     cases hb:fB ops i j with
     | false=>rfl
     | true=>exact absurd ⟨j,hjt,hb⟩ hj
    rw[lookB t p hpP fun q j hq hqj hjt=>by
     rcases c5 j t hjt ht with h | h | h
     ·subst h; have:=hnd p q i hpi hqj; omega
     ·rw[hno j hjt] at h; cases h
     ·have:=hdep q p j i hqj hpi h; omega]
    exact hv2 t fun j _ hjt hDj=>by
     rcases c5 j t hjt ht with h | h | h
     ·subst h; exact hDi hDj
     ·rw[hno j hjt] at h; cases h
     ·exact hDi (hcl j i hDj h)
  have hopr:p<=P->tn cx ⟨(S p).fr,(S (M+e)).H⟩ g' w0 o.op a'.eval W:=fun hpP=>⟨hrW,fun y hy=>oG (fun t ht=>by
    refine hlook hpP t ?_
    subst ht
    unfold Oper.looksAt
    exact Y4.2 (.inl (qaO.2 ⟨.tmp t,hy,rfl⟩))) hgl,fun _=>rfl⟩
  have fin:p<P->∀ (e':Nat) (g2:Gh) (W':World) (v:Value),M+e'<=P->(pc<M+e'->Z)->(∀ q j:Nat,M<=q->O[q]? = some j->(D' j↔q<M+e'))->Rel (S (M+e')).H g2 w0 W'->Ext (S (M+e)).H g' W (S (M+e')).H g2 W'->(∀ b,b<lo->b<s.H.length->(S (M+e')).H[b]? = s.H[b]?)->g2.S=g.S->VR (S (M+e')).H g2 W' (x p) v ->
    ∃ (e:Nat) (g':Gh),M+e<=P/\(pc<M+e->Z)/\(∀ q j:Nat,M<=q->O[q]? = some j->(D' j↔q<M+e))/\Rel (S (M+e)).H g' w0 W'/\Ext s.H g w (S (M+e)).H g' W'/\(∀ b,b<lo->b<s.H.length->(S (M+e)).H[b]? = s.H[b]?)/\g'.S=g.S ∧
     (∀ q j t:Nat,O[q]? = some j->cw ops j=some t->D' j->VR (S (M+e)).H g' W' (x q) (slot (a'.put o.dst v) t))/\(∀ t,(∀ j,j<m->cw ops j=some t->¬ D' j)->VR (S (M+e)).H g' W' (look s.fr t) (slot (a'.put o.dst v) t)):=by
   intro hpP e' g2 W' v h1 hz' h2 h3 h4 h5 h6 h7
   refine⟨e',g2,h1,hz',h2,h3,heW.trans h4,h5,h6,fun q j t hq hjt hDj=>?_,fun t ht=>?_⟩
   ·rcases (hD' j).1 hDj with rfl | hDj
    ·have hdt:o.dst=some t:=by rw[<-hdst ho]; exact hjt
     rw[hdt,fq (by rw[hsz]; exact hd o (by rw[<-Array.mem_def]; exact qbf ho) t hdt),hnd q p j hq hpi]
     exact h7
    ·have hne:j≠i:=fun e=>hDi (e ▸ hDj)
     rw[dK (fun hdt=>c4 j t (YS hne) hdt hjt)]
     exact VR.ext h4 _ _ (hv1 q j t hq hjt hDj)
   ·rw[dK (fun hdt=>ht i him (by rw[hdst ho]; exact hdt) ((hD' i).2 (.inl rfl)))]
    exact VR.ext h4 _ _ (hv2 t (fun j hjm hjt hDj=>ht j hjm hjt ((hD' j).2 (.inr hDj))))
  by_cases hpM:p<M
  ·
   have hun:∀ q j:Nat,M<=q->q<M+e->O[q]? = some j->fF ops i j:=fun q j hq1 hq2 hq=>by
    unfold fF
    rw[YK]
    constructor
    ·cases hb:fB ops i j with
     | false=>rfl
     | true=>have:=hdep p q i j hpi hq hb; omega
    ·cases hb:fB ops j i with
     | false=>rfl
     | true=>exact absurd (hcl j i ((hDe q j hq1 hq).2 hq2) hb) hDi
   have hev:=hpure p i o hpM hpi ho e heP heZ hun
   refine .inl ((mX hcall horc hev F n g' w0 W a'.eval hF (hopr o3) hgl hbs).mono ?_)
   rintro v w' ⟨k1,k2,k3⟩
   refine fin o3 e g' w' v heP heZ (fun q j hq1 hq=>⟨fun h=>?_,fun h=>(hD' j).2 (.inr ((hDe q j hq1 hq).2 h))⟩) k2 k3 hlow hgS k1
   rcases (hD' j).1 h with rfl | h
   ·have:=hnd p q j hpi hq; omega
   ·exact(hDe q j hq1 hq).1 h
  ·
   have hpe:p=M+e:=by
    have h1:¬ p<M+e:=fun h=>hDi ((hDe p i o3 hpi).2 h)
    refine qaz (ZA fun h2=>?_) o3
    obtain ⟨j,oj,hj,_⟩:=hat (M+e) o3
    have:=(hDe (M+e) j o3 hj).1 (hbef j (hE p (M+e) i j o3 h2 hpi hj))
    omega
   subst hpe
   by_cases hpP:M+e<P
   ·refine(heff (M+e) i o o3 hpP hpi ho g' W a'.eval (hopr o3) hgl hbs).elim (fun h=>.inl (h.mono ?_)) fun ⟨f',args,w',h1,h2⟩=>.inr ⟨f',args,w',h1,h2.mono fun e' w'' h=>?_⟩
    ·rintro v w' ⟨g2,k1,k2,k3,k4,k5,k6⟩
     refine fin hpP (e+1) g2 w' v o3 (fun _=>if he0:pc<M+e then heZ he0 else k6 o3) (fun q j hq1 hq=>⟨fun h=>?_,fun h=>?_⟩) k1 k2 (fun b hb hb'=>?_) (k4.trans hgS) k5
     ·rcases (hD' j).1 h with rfl | h
      ·have:=hnd (M+e) q j hpi hq; omega
      ·have:=(hDe q j hq1 hq).1 h; omega
     ·refine(hD' j).2 ?_
      by_cases hq2:q=M+e
      ·subst hq2; rw[hq] at hpi; exact .inl (by cases hpi; rfl)
      ·exact .inr ((hDe q j hq1 hq).2 o3)
     ·rw[show M+(e+1)=M+e+1 from rfl,k3 b hb (X5 hb' (lenM e heP heZ))]; exact hlow b hb hb'
    ·cases e' with
     | returned v=>
      obtain ⟨g2,k1,k2,k3,k4,k5,k6⟩:=h
      refine fin hpP (e+1) g2 w'' v o3 (fun _=>if he0:pc<M+e then heZ he0 else k6 o3) (fun q j hq1 hq=>⟨fun h=>?_,fun h=>?_⟩) k1 k2 (fun b hb hb'=>?_) (k4.trans hgS) k5
      ·rcases (hD' j).1 h with rfl | h
       ·have:=hnd (M+e) q j hpi hq; omega
       ·have:=(hDe q j hq1 hq).1 h; omega
      ·refine(hD' j).2 ?_
       by_cases hq2:q=M+e
       ·subst hq2; rw[hq] at hpi; exact .inl (by cases hpi; rfl)
       ·exact .inr ((hDe q j hq1 hq).2 o3)
      ·rw[show M+(e+1)=M+e+1 from rfl,k3 b hb (X5 hb' (lenM e heP heZ))]; exact hlow b hb hb'
     | panicked ch=>exact h.elim
     | outgrown=>exact h.elim
   ·obtain rfl:P=M+e:=by omega
    obtain ⟨H2,y,hky,hst⟩:=hpan i o hpi ho
    have pan:∀ (ch:List PanicEntry) (w':World),(∃ c g2,ch=[{ v:=c,recovered:=false }]/\Rel H2 g2 w0 w'/\Ext (S (M+e)).H g' W H2 g2 w'/\(S (M+e)).H.length<=H2.length/\(∀ b,b<lo->b<(S (M+e)).H.length->H2[b]? = (S (M+e)).H[b]?)/\g2.S=g'.S/\VR H2 g2 w' y c)->Q (.panic ch) a' w':=by
     rintro ch w' ⟨c,g2,rfl,k1,k2,k3,k4,k5,k6⟩
     have hx:=heW.trans k2
     refine hp y ⟨[],H2⟩ g2 a' w' c ⟨⟨k1,fun t=>by rw[show look [] t=.any from rfl,VR]; trivial,fun G vs hG=>(hg.sr.gl G vs hG).ext hx⟩,hg.ext.trans hx,Yb hg.len (Yb (lenM e heP heZ) k3),fun b hb hb'=>?_,hsz,?_,Yb hg.mbw hx.size,k5.trans (hgS.trans hg.st)⟩ k6 hky
     ·have hb2:b<s.H.length:=X5 hb' hg.len
      show H2[b]? = _
      rw[k4 b hb (X5 hb2 (lenM e heP heZ)),hlow b hb hb2]
      exact hg.low b hb hb'
     ·rw[hdf]; exact hg.dfr.mc hx.kept
    refine(hst g' W a'.eval (hopr (XP _)) hgl hbs).elim (fun h=>.inl (h.mono fun _ _ h=>h.elim)) fun ⟨f',args,w',h1,h2⟩=>.inr ⟨f',args,w',h1,h2.mono fun e' w'' h=>?_⟩
    cases e' with
    | returned v=>exact h.elim
    | panicked ch=>exact pan ch w'' h
    | outgrown=>exact h.elim
 ·rintro D a' W hall hDm ⟨e,g',heP,heZ,hDe,hrW,heW,hlow,hgS,hv1,hv2⟩ hdf hsz
  have hdone:M+e=O.length:=by
   refine qaz o3 (ZA fun hlt=>?_)
   obtain ⟨j,oj,hj,_⟩:=hat (M+e) hlt
   have:=(hDe (M+e) j o3 hj).1 (hall j (hOs _ _ hj))
   omega
  obtain rfl:P=M+e:=o3
  refine fJ (f:=f) (ops:=ops) hcall hb0 horc hF hk hp _ (S (M+e)) g' a' W (fun o ho=>hd o (Yo ho)) ⟨⟨hrW,fun t=>?_,fun G vs hG=>(hg.sr.gl G vs hG).ext heW⟩,hg.ext.trans heW,Yb hg.len (lenM e heP heZ),fun b hb hb'=>?_,hsz,by rw[hdf]; exact hg.dfr.mc heW.kept,Yb hg.mbw heW.size,hgS.trans hg.st⟩ (hend hdone)
  ·by_cases ht:∃ q j:Nat,O[q]? = some j/\cw ops j=some t
   ·obtain ⟨q,j,hq,hjt⟩:=ht
    rw[lookA t q j hq hjt (M+e) (by have:=(XS.1 hq).1; omega) (XP _)]
    exact hv1 q j t hq hjt (hall j (hOs q j hq))
   ·rw[lookB t (M+e) (XP _) fun q j _ hq hjt=>ht ⟨q,j,hq,hjt⟩]
    exact hv2 t fun j hj hjt=>absurd (let ⟨q,hq⟩:=hO j hj; ⟨q,j,hq,hjt⟩) ht
  ·have hb2:b<s.H.length:=X5 hb' hg.len
   rw[hlow b hb hb2]; exact hg.low b hb hb'
theorem xF {o:Oper} (h:vQ cx o=true):∃ c q,o.op=.call c/\c.callee=.value (.func q)/\cK cx.P q=true/\cx.isOrc q=false/\(cx.cut q≠0∨cx.fre q=true)/\Fg cx o=cx.cut q/\(∀ lo H,EX cx o lo H=bif cx.fre q then H.length else lo):=by
 unfold vQ at h
 split at h
 ·rename_i c ho
  split at h
  ·rename_i q hq
   simp only[XQ,YQ,YP] at h
   refine⟨c,q,ho,hq,h.1.1,h.1.2,h.2.imp (fun h e=>by rw[e] at h; cases h) id,by unfold Fg; rw[ho]; simp only[hq],fun lo H=>by unfold EX; rw[ho]; simp only[hq]⟩
  ·cases h
 ·cases h
theorem qp:∀ {L ps:List Nat},vu ops ps L=true->(∀ k∈ps,∀ i∈L,fB ops i k=true)/\L.Pairwise fun k i=>fB ops i k=true
 | [],ps,_=>⟨fun _ _ _ h=>(by cases h),.nil⟩
 | t :: L,ps,h=>by
  unfold vu at h
  have h1:ps.all (fun p=>fB ops t p)=true:=by cases hh:ps.all (fun p=>fB ops t p)<;>simp_all
  rw[h1] at h
  obtain ⟨h2,h3⟩:=qp (L:=L) (ps:=t :: ps) h
  refine⟨fun k hk i hi=>?_,.cons (fun i hi=>h2 t r8 i hi) h3⟩
  rcases YC.1 hi with rfl | hi
  ·exact X0.1 h1 k hk
  ·exact h2 k (by simp[hk]) i hi
theorem qL (p:Nat->Bool) (n:Nat):((List.range n).filter p).Pairwise (· < ·):=List.Pairwise.filter _ List.pairwise_lt_range
theorem wc {α:Type} {R:α->α->Prop} {L:List α} (h:L.Pairwise R) {p q:Nat} {x y:α} (hp:L[p]? = some x) (hq:L[q]? = some y) (hpq:p<q):R x y:=by
 obtain ⟨h1,rfl⟩:=XS.1 hp
 obtain ⟨h2,rfl⟩:=XS.1 hq
 exact qaV.1 h p q h1 h2 hpq
theorem oJ {c m:Nat}:∀ {l:List (Nat×A)},uN ops c m l=true->∀ p∈l,fB ops c p.1=false->∀ b,blk? p.2=some b->m<=b
 | [],_,p,hp,_,_,_=>by cases hp
 | q :: l,h,p,hp,hb,b,hbl=>by
  unfold uN at h
  cases hq:fB ops c q.1 with
  | true=>
   rw[hq] at h
   rcases YC.1 hp with rfl | hp
   ·rw[hq] at hb; cases hb
   ·exact oJ h p hp hb b hbl
  | false=>
   rw[hq] at h
   simp only[XO] at h
   cases hm:iy m q.2 with
   | false=>rw[hm] at h; cases h
   | true=>
    rw[hm] at h
    rcases YC.1 hp with rfl | hp
    ·unfold iy at hm
     rw[hbl] at hm
     exact Yp hm
    ·exact oJ h p hp hb b hbl
theorem xj {call:bo} (hcall:eh cx Bs call) (hb0:Bs H0 gs ws) (horc:jK cx) (hF:gk F) (hmx:cx.P.follows .mixedOrders=true) {c:Nat} {k:E->St->Option R} {r:R} {Q:Exit->Act->World->Prop}
  (hg:Good cx N mb lo H0 gs ws w0 s g a w) (hd:∀ o∈ops.toList,∀ d,o.dst=some d->d<N) (h:Au cx call f lo N ops c s k=some r)
  (hk:∀ s' g' a' w',Good cx N mb lo H0 gs ws w0 s' g' a' w'->k .normal s'=some r->Q .normal a' w')
  (hp:∀ x s' g' a' w' c,Good cx N mb lo H0 gs ws w0 s' g' a' w'->VR s'.H g' w' x c->k (.pan x) s'=some r->Q (.panic [{ v:=c,recovered:=false }]) a' w'):LW F n cx.P ops Q a w:=by
 unfold Au at h
 split at h
 ·cases h
 rename_i oc hoc
 obtain ⟨m,hm0,h⟩:=bE h
 have hmt:ft ops m=true:=by
  unfold qh at hm0
  exact List.find?_some hm0
 have hm2:m<=ops.size:=by
  simp only[ft,XQ,XV] at hmt
  exact hmt.1.1
 obtain ⟨hchk,h⟩:=bu h
 simp only[ID,XQ] at hchk
 obtain ⟨⟨⟨⟨⟨hcg,hcut⟩,lU⟩,hch⟩,hcl⟩,hTm⟩:=hchk
 obtain ⟨SL,xL,seen,hS0,h,_,hL⟩:=xf _ _ _ h
 obtain ⟨cc,q,hop,hcal,hcb,hno,hc0,hcm,hloC⟩:=xF hcut
 let L1:=AV ops c m
 let T:=pX ops c m
 let M:=L1.length
 have hlt:∀ {i j},fB ops i j=true->j<i:=fun {i j} hb=>np lU (fR i j hb)
 have memL:∀ {i},i∈L1↔i<m/\i ∉ T:=fun {i}=>by
  simp only[L1,AV,qay,Yj,X0,YQ]
  refine and_congr_right fun _=>⟨fun h hi=>?_,fun h j hj=>?_⟩
  ·have:=h i hi; simp at this
  ·cases hb:Nat.beq i j with
   | false=>rfl
   | true=>exact absurd (X3 hb ▸ hj) h
 have hTm:∀ i∈T,i<m:=fun i hi=>Yp (X0.1 hTm i hi)
 have hcl:∀ i∈L1,∀ j∈T,fB ops i j=false:=fun i hi j hj=>by
  have:=X0.1 (X0.1 hcl i hi) j hj
  simpa using this
 have hcT:c∈T:=by
  show c∈MB ops c m++c :: _
  simp
 have pwL:L1.Pairwise (· < ·):=qL _ _
 have hch2:=(qp hch).2
 have pwT:T.Pairwise (· < ·):=hch2.imp fun h=>hlt h
 obtain ⟨pt,hpt,hpt2⟩:=YI hcT
 have hptc:T[pt]? = some c:=by rw[XN hpt,hpt2]
 let O:=L1++T
 have oL:∀ {p:Nat},p<M->O[p]? = L1[p]?:=fun {p} hp=>X6 hp
 have oT:∀ {p:Nat},M<=p->O[p]? = T[p - M]?:=fun {p} hp=>Yr hp
 have hOl:O.length=M+T.length:=X9
 have kinds:∀ {p i:Nat},O[p]? = some i->(p<M/\L1[p]? = some i/\i<m/\i ∉ T)∨(M<=p/\T[p - M]? = some i/\i∈T):=fun {p i} hp=>by
  rcases qa1 p M with h1 | h1
  ·rw[oL h1] at hp
   exact .inl ⟨h1,hp,memL.1 (Yh hp)⟩
  ·rw[oT h1] at hp
   exact .inr ⟨h1,hp,Yh hp⟩
 have hO:∀ i:Nat,i<m->∃ p:Nat,O[p]? = some i:=fun i hi=>by
  have:i∈O:=by
   show i∈L1++T
   rw[Y4]
   by_cases e:i∈T
   ·exact .inr e
   ·exact .inl (memL.2 ⟨hi,e⟩)
  obtain ⟨p,hp,he⟩:=YI this
  exact⟨p,by rw[XN hp,he]⟩
 have hOs:∀ p i:Nat,O[p]? = some i->i<m:=fun p i hp=>by
  rcases kinds hp with ⟨_,_,h,_⟩ | ⟨_,_,h⟩
  ·exact h
  ·exact hTm i h
 have pos:∀ {L:List Nat} {p q i j:Nat},L.Pairwise (· < ·)->L[p]? = some i->L[q]? = some j->j<i->q<p:=fun {L p q i j} pw hp hq hji=>by
  refine Y1 fun hle=>?_
  rcases Nat.lt_or_eq_of_le hle with h | h
  ·have:=wc pw hp hq h; omega
  ·subst h; rw[hp] at hq; cases hq; omega
 have inj:∀ {L:List Nat} {p q i:Nat},L.Pairwise (· < ·)->L[p]? = some i->L[q]? = some i->p=q:=fun {L p q i} pw hp hq=>by
  rcases Nat.lt_trichotomy p q with h | h | h
  ·have:=wc pw hp hq h; omega
  ·exact h
  ·have:=wc pw hq hp h; omega
 have hnd:∀ p q i:Nat,O[p]? = some i->O[q]? = some i->p=q:=fun p q i hp hq=>by
  rcases kinds hp with ⟨a1,a2,_,a3⟩ | ⟨a1,a2,a3⟩<;>rcases kinds hq with ⟨b1,b2,_,b3⟩ | ⟨b1,b2,b3⟩
  ·exact inj pwL a2 b2
  ·exact absurd b3 a3
  ·exact absurd a3 b3
  ·have:=inj pwT a2 b2; omega
 have hdep:∀ p q i j:Nat,O[p]? = some i->O[q]? = some j->fB ops i j=true->q<p:=fun p q i j hp hq hb=>by
  have hji:=hlt hb
  rcases kinds hp with ⟨a1,a2,_,a3⟩ | ⟨a1,a2,a3⟩<;>rcases kinds hq with ⟨b1,b2,_,b3⟩ | ⟨b1,b2,b3⟩
  ·exact pos pwL a2 b2 hji
  ·rw[hcl i (Yh a2) j b3] at hb; cases hb
  ·omega
  ·have:=pos pwT a2 b2 hji; omega
 have hE:∀ p q i j:Nat,M<=q->q<p->O[p]? = some i->O[q]? = some j->fB ops i j=true:=fun p q i j hq0 hqp hp hq=>by
  rw[oT o3] at hp; rw[oT hq0] at hq
  exact wc hch2 hq hp o3
 have gL:∀ {p i:Nat} {o:Oper},L1[p]? = some i->ops[i]? = some o->o.guard=none/\(bV o=0∨(bV o=1/\(i,addrOf cx (SL p) o.op)∈seen)∨(bV o=2/\py (partsOf cx (SL p) o.op)=true))/\gS cx call f o (SL p)=some (xL p)/\SL (p+1)=(SL p).put o.dst (xL p):=fun {p i o} hp ho=>by
  obtain ⟨o',e1,e2⟩:=hL p i hp
  rw[ho] at e1; cases e1
  exact e2
 have hSH:∀ p,p<=M->(SL p).H=s.H:=fun p=>by
  induction p with
  | zero=>intro _; rw[hS0]
  | succ p ih=>
   intro hp
   obtain ⟨i,hi⟩:∃ i,L1[p]? = some i:=⟨_,XN (by show p<M; omega)⟩
   obtain ⟨o,ho⟩:∃ o,ops[i]? = some o:=⟨_,YD (X5 (memL.1 (Yh hi)).1 hm2)⟩
   rw[(gL hi ho).2.2.2,gu]; exact ih o3
 obtain ⟨ST,xT,PT,hT0,hPT,hT,hTe⟩:=xk (q:=q) (fun o ho s lo' k kp=>by
  rw[hoc] at ho; cases ho
  have hfv:iZ cx s oc.op=.fn (.func q) [] []:=by unfold iZ; rw[hop]; simp only[hcal]; rfl
  rw[hfv]
  simp only[dP,hcb,hno,XR,XO,YR,YN]) _ _ h
 have hPT:PT<=T.length:=hPT
 have hT:∀ p i,p<PT->T[p]? = some i->tY cx call f lo ops c q seen i (ST p) (xT p) (ST (p+1)):=hT
 have hT0:ST 0=SL M:=hT0
 let S:Nat->St:=fun p=>if p<=M then SL p else ST (p - M)
 let x:Nat->A:=fun p=>if p<M then xL p else xT (p - M)
 let pc:=M+pt
 have sL:∀ {p},p<=M->S p=SL p:=fun {p} hp=>XX hp
 have sT:∀ {p},M<=p->S p=ST (p - M):=fun {p} hp=>by
  by_cases h:p<=M
  ·obtain rfl:p=M:=by omega
   rw[sL (XP _),Nat.sub_self,hT0]
  ·exact XW h
 have xL':∀ {p},p<M->x p=xL p:=fun {p} hp=>XX hp
 have xT':∀ {p},M<=p->x p=xT (p - M):=fun {p} hp=>XW o3
 have tT:∀ {p i:Nat},M<=p->p<M+PT->O[p]? = some i->tY cx call f lo ops c q seen i (S p) (x p) (S (p+1)):=fun {p i} hp hp2 h1=>by
  rw[oT hp] at h1
  have:=hT _ i o3 h1
  rw[sT hp,xT' hp,sT (show M<=p+1 by omega),show p+1 - M=p - M+1 by omega]
  exact this
 have oC:∀ {p:Nat},O[p]? = some c->p=pc:=fun {p} hp=>hnd p pc c hp (by rw[oT (ZB _ _),show M+pt - M=pt by omega]; exact hptc)
 have oC':O[pc]? = some c:=by rw[oT (ZB _ _),show M+pt - M=pt by omega]; exact hptc
 let Z:Prop:=(S pc).H.length<=(S (pc+1)).H.length/\∀ b,b<(S pc).H.length->cx.cut q<=b->(S (pc+1)).H[b]? = (S pc).H[b]?
 have stepB:∀ {p i:Nat},M<=p->p<M+PT->(pc<=p->Z)->O[p]? = some i->(S p).H.length<=(S (p+1)).H.length/\∀ b,b<(S p).H.length->(∀ j a,(j,a)∈seen->blk? a=some b->fF ops j i->False)∨(S (p+1)).H[b]? = (S p).H[b]?:=fun {p i} hp hp2 hz h1=>by
  obtain ⟨o,H',ho,hs',⟨hic,_,e1,e2⟩ | ⟨rfl,hsn,e2⟩⟩:=tT hp hp2 h1
  ·rw[hs',gu]
   rcases e1 with ⟨e1,e4⟩ | e1
   ·obtain ⟨t1,t2⟩:=pY e1 e2
    refine⟨t1,fun b hb=>?_⟩
    by_cases hc:∀ c,blk? (dm cx (S p) o.op)=some c->b≠c
    ·exact .inr (t2 b hb hc)
    ·refine .inl fun j y hj hy hun=>hc fun c hcc e5=>?_
     subst e5
     have:=ib e4 (j,y) hj (by unfold fF at hun ⊢; rw[Bool.or_comm]; exact hun)
     unfold apart at this
     simp only[hy,hcc,qaC] at this
     cases this
   ·obtain ⟨y,hy⟩:=rI e2 e1
    cases hy
    exact⟨XP _,fun b _=>.inr rfl⟩
  ·obtain rfl:=oC h1
   have hz:=hz (XP _)
   refine⟨hz.1,fun b hbl=>?_⟩
   by_cases hb:cx.cut q<=b
   ·exact .inr (hz.2 b hbl hb)
   ·rw[hoc] at ho; cases ho
    rw[hcm] at hsn
    refine .inl fun j y hj hy hun=>hb (oJ hsn (j,y) hj ?_ b hy)
    unfold fF at hun
    rw[YK] at hun
    exact hun.2
 have atO:∀ p,p<O.length->∃ i,O[p]? = some i:=fun p hp=>⟨_,XN hp⟩
 have lenE:∀ e,M+e<=M+PT->(pc<M+e->Z)->s.H.length<=(S (M+e)).H.length:=by
  intro e
  induction e with
  | zero=>intro _ _; rw[Zf,sL (XP _),hSH M (XP _)]; exact XP _
  | succ e ih=>
   intro he hz
   obtain ⟨i,hi⟩:=atO (M+e) o3
   exact Yb (ih o3 fun h=>hz o3) (stepB o3 o3 (fun h=>hz o3) hi).1
 have post:∀ (st:St) (out:Out) (H2:aC),call q (eT cx st oc.op) st.H (EX cx oc lo st.H)=some (out,H2)->∀ (g':Gh) (W:World) (ev:Operand->Value),tn cx st g' w0 oc.op ev W->(∀ (G:Nat) (vs:List Value),cx.glob G=some vs->bM st.H g' W G 0 vs)->Bs st.H g' W->∃ args w',(execOp ev oc).run cx.P W=.ok (.enter q args) w'/\CallsIn F (n - 1) cx.P q args w' (gi st.H g' w0 W (EX cx oc lo st.H) (out,H2)):=fun st out H2 hcl2 g' W ev ho hgl hbs=>by
  have hce:callee? cx st oc.op=some (q,eT cx st oc.op):=by
   unfold callee? eT
   rw[hop]
   simp only[hcal,cg,hcb,XR,YR,YN]
  obtain ⟨_,cargs,hrun,hv⟩:=ka ho hce
  have hci:CallsIn F.plain (n - 1) cx.P q cargs.toArray W _:=hcall.fn q _ st.H (EX cx oc lo st.H) (out,H2) (iW hcb) hcl2 F.plain (n - 1) g' w0 W cargs hF rfl hbs ho.rel hgl hv
  exact⟨_,_,hrun,hci⟩
 have hlo':∀ (st:St) b,b<lo->b<st.H.length->b<EX cx oc lo st.H:=fun st b h1 h2=>by
  rw[hloC]
  cases cx.fre q with
  | true=>exact h2
  | false=>exact h1
 have hgL:∀ {p i:Nat} {o:Oper},p<M->O[p]? = some i->ops[i]? = some o->L1[p]? = some i:=fun {p i o} hp h1 _=>by rw[<-oL hp]; exact h1
 have hgd:∀ (p i:Nat) (o:Oper),O[p]? = some i->ops[i]? = some o->o.guard=none:=fun p i o hpi ho=>lD (X0.1 hcg o (Yh (i:=i) (by rw[Yc,XX (hOs p i hpi),Yt]; exact ho)))
 refine zB (f:=f) hcall hb0 horc hF hmx lU hmt hg hd O M (M+PT) pc S x (ZB _ _) (ZB _ _) o3 hO hOs hnd hdep hE (by rw[sL (Ya _),hS0]) (fun p hp=>by rw[sL hp]; exact hSH p hp) hgd (fun p i o hp h1 ho t=>?_) Z (fun p h1 h2 hz=>?_) (fun p i o hp h1 ho e he hze hun=>?_) (fun p i o h1 h2 hpi ho g' W ev hopr hgl hbs=>?_) (fun i o hi ho=>?_) (fun hPe=>?_) hk hp
 ·rcases qa1 p M with h2 | h2
  ·rw[sL o3,sL o3,xL' h2,(gL (hgL h2 h1 ho) ho).2.2.2,fV]
  ·obtain ⟨o',H',ho',hs',_⟩:=tT h2 hp h1
   rw[ho] at ho'; cases ho'
   rw[hs',fV]
 ·obtain ⟨i,hi⟩:=atO p o3
  exact(stepB h1 h2 hz hi).1
 ·obtain ⟨_,e1,e2,_⟩:=gL (hgL hp h1 ho) ho
  rw[sL o3,xL' hp]
  have hsi:(⟨(SL p).fr,(SL p).H⟩:St)=SL p:=rfl
  rcases e1 with e1 | ⟨e1,e3⟩ | ⟨e1,e3⟩
  ·rw[rN e1 (H':=(SL p).H)]; exact e2
  ·rw[<-vG e1 (H:=(SL p).H) (fun b hb=>?_)]
   ·exact e2
   ·obtain ⟨B,hB⟩:=uo (s:=SL p) e1 e2 hb
    rw[hSH p o3] at hB ⊢
    have hbl:=(XS.1 hB).1
    clear hsi
    induction e with
    | zero=>rw[Zf,sL (XP _),hSH M (XP _)]
    | succ e ih=>
     obtain ⟨j,hj⟩:=atO (M+e) o3
     rcases (stepB o3 o3 (fun h=>hze o3) hj).2 b (X5 hbl (lenE e o3 (fun h=>hze o3))) with h4 | h4
     ·exact(h4 i _ e3 hb (hun (M+e) j o3 o3 hj)).elim
     ·rw[show M+(e+1)=M+e+1 from rfl,h4]
      exact ih o3 (fun h=>hze o3) fun q' j' h5 h6 h7=>hun q' j' h5 o3 h7
  ·rw[<-xl e1 e3]; exact e2
 ·obtain ⟨o',H',ho',hs',⟨hic,_,e1,e2⟩ | ⟨hic,hsn,e2⟩⟩:=tT h1 h2 hpi
  ·rw[ho] at ho'; cases ho'
   obtain ⟨c',w',x',H3,g2,k1,k2,k3,k4,k5,k6,k7,k8⟩:=kd hopr e2
   cases k2
   refine .inl (jU k1 ⟨g2,?_,?_,?_,k8,?_,fun e=>(hic (by rw[e,oC'] at hpi; cases hpi; rfl)).elim⟩)
   ·rw[hs',gu]; exact k3
   ·rw[hs',gu]; exact k4
   ·rw[hs',gu]; exact fun b hb hb'=>by first | exact k7 b hb hb' | exact k6 b hb hb'
   ·rw[hs',gu]; first | exact k5 | exact k6
  ·subst hic
   rw[ho] at ho'; cases ho'
   rw[hoc] at ho; cases ho
   obtain rfl:=oC hpi
   obtain ⟨args,w',e1,e3⟩:=post (S pc) _ H' e2 g' W ev hopr hgl hbs
   refine .inr ⟨q,args,w',e1,e3.mono ?_⟩
   rintro e w'' ⟨g2,k1,k2,k3,k4,k6,k5⟩
   rw[hs',gu]
   cases e with
   | returned c'=>
    refine⟨g2,k1,k2,fun b hb hb'=>k4 b (hlo' _ b hb hb') hb',k6,k5,fun _=>⟨by rw[hs',gu]; exact k3,fun b hb hcb'=>?_⟩⟩
    rw[hs',gu]
    cases hfr:cx.fre q with
    | true=>
     refine k4 b ?_ hb
     rw[hloC,hfr]
     exact hb
    | false=>exact(hcall.ct q _ _ _ _ (iW hcb) (hc0.resolve_right (by rw[hfr]; simp)) o3 e2).2 b hcb'
   | panicked _=>exact k5.elim
   | outgrown=>exact k5.elim
 ·rcases hTe with ⟨hTe,_⟩ | ⟨o',y,H2,e0,e1,e2,e3⟩
  ·rw[oT (ZB _ _),show M+PT - M=PT by omega,hTe,YT (XP _)] at hi
   cases hi
  ·rw[oT (ZB _ _),show M+PT - M=PT by omega,e0] at hi
   cases hi
   rw[hoc] at ho e1; cases ho; cases e1
   refine⟨H2,y,e3,fun g' W ev hopr hgl hbs=>?_⟩
   rw[sT (ZB _ _),show M+PT - M=PT by omega] at hopr hgl hbs ⊢
   obtain ⟨args,w',e1,e4⟩:=post (ST PT) _ H2 e2 g' W ev hopr hgl hbs
   refine .inr ⟨q,args,w',e1,e4.mono ?_⟩
   rintro e w'' ⟨g2,k1,k2,k3,k4,k6,k5⟩
   cases e with
   | returned _=>exact k5.elim
   | panicked ch=>
    obtain ⟨c',rfl,hv⟩:=k5
    exact⟨c',g2,rfl,k1,k2,k3,fun b hb hb'=>k4 b (hlo' _ b hb hb') hb',k6,hv⟩
   | outgrown=>exact k5.elim
 ·rcases hTe with ⟨hTe,hkT⟩ | ⟨o',y,H2,e0,_⟩
  ·rw[sT (ZB _ _),show M+PT - M=PT by omega]
   exact iC _ _ _ hkT
  ·have hl:PT=T.length:=by omega
   have e0':T[PT]? = some c:=e0
   rw[hl,YT (XP _)] at e0'
   cases e0'
end
section
open Go.RowKit
variable {H H':aC} {g g':Gh} {w0 w w':World} {cx:Cx} {s:St} {a:Act} {N lo:Nat} {mb:Mb} {H0:aC} {gs:Gh} {ws:World}
theorem Rel.rng (hr:Rel H g w0 w) {b l:Nat} {st:E9} {r0:Loop} (hB:H[b]? = some (.rng st)) (B':aO) (ko:Option Nat) (o':Obj) (hk:g.mu b=some l) (hw:w.heap[l]? = some (.loop r0))
  (hcase:(∃ st',B'=.rng st'/\ko=some l/\o'=.loop (jc (g.lr b) st'))∨(B'=.dead/\ko=none)) :
  Rel (H.set b B') (g.put b ko (g.ga b)) w0 (w.putObj l o')/\Ext H g w (H.set b B') (g.put b ko (g.ga b)) (w.putObj l o'):=by
 have hlt:b<H.length:=(XS.1 hB).1
 have hll:l<w.heap.size:=(hr.dom b l hk).2.2
 have hoth:∀ j,j≠l->(w.putObj l o').heap[j]? = w.heap[j]?:=fun j hj=>Y2 hj
 have hsz:(w.putObj l o').heap.size=w.heap.size:=r8
 have hkol:∀ k,ko=some k->k=l:=fun k hk'=>by
  rcases hcase with ⟨_,_,h,_⟩ | ⟨_,h⟩<;>rw[h] at hk'<;>cases hk'; rfl
 have he:Ext H g w (H.set b B') (g.put b ko (g.ga b)) (w.putObj l o'):=by
  refine⟨fun k o v hs hc=>?_,fun c C hC=>?_,fun k x h=>(hoth k (fun e=>by subst e; rw[hw] at h; cases h)).trans h,by rw[hsz]; exact XP _,fun k marr cl hs hm=>?_,fun k _ hn=>hoth k (fun e=>hn b (e ▸ hk)),fun c k h=>?_⟩
  rotate_right 1
  ·by_cases e:c=b
   ·subst e; rw[Gh.bJ] at h; exact .inl ⟨c,(hkol k h) ▸ hk⟩
   ·exact .inl ⟨c,by rwa [Gh.aI _ _ _ e] at h⟩
  ·have hne:k≠l:=fun e=>by
    subst e
    obtain ⟨o1,ho,hc1⟩:=cells_of_cell hc
    rw[hw] at ho; cases ho; cases hc1
   refine⟨(Zr (a:=⟨k,o,none⟩) (hoth k hne)).trans hc,hs.1,fun c hck=>?_⟩
   by_cases e:c=b
   ·subst e; rw[Gh.bJ] at hck; exact absurd (hkol k hck) hne
   ·rw[Gh.aI _ _ _ e] at hck
    obtain ⟨es,els,h1,h2⟩:=hs.2 c hck
    exact⟨es,els,by rw[X4 (YS e)]; exact h1,h2⟩
  ·by_cases e:c=b
   ·subst e
    rw[hB] at hC; cases hC
    refine⟨B',by rw[Yf hlt],?_⟩
    rcases hcase with ⟨st',rfl,rfl,_⟩ | ⟨rfl,_⟩
    ·exact⟨by rw[Gh.bJ,hk],rfl⟩
    ·trivial
   ·refine⟨C,by rw[X4 (YS e)]; exact hC,?_⟩
    have hne:∀ k,g.mu c=some k->k≠l:=fun k hk' e2=>e (hr.inj c b k hk' (e2 ▸ hk))
    cases C with
    | box _=>exact Gh.aI _ _ _ e
    | row wr es' els'=>cases wr with
     | true=>exact⟨rfl,rfl,Gh.aI _ _ _ e,fun k arr ty hk' ha=>⟨arr,(hoth k (hne k hk')).trans ha,XP _⟩⟩
     | false=>exact⟨rfl,⟨[],by rw[Gh.eB _ _ _ e]; simp⟩,(hr.blk c _ hC).len,XP _,fun _=>⟨Gh.aI _ _ _ e,fun k arr ty hk' ha=>⟨arr,(hoth k (hne k hk')).trans ha,XP _⟩⟩⟩
    | rng _=>exact⟨Gh.aI _ _ _ e,rfl⟩
    | mp _ _ _=>exact Gh.aI _ _ _ e
    | dead=>trivial
    | hole=>trivial
  ·have hne:k≠l:=fun e=>by subst e; rw[hw] at hm; cases hm
   refine⟨(hoth k hne).trans hm,hs.1,fun c hck=>?_⟩
   by_cases e:c=b
   ·subst e; rw[Gh.bJ] at hck; exact absurd (hkol k hck) hne
   ·rw[Gh.aI _ _ _ e] at hck
    obtain ⟨es,els,h1,h2⟩:=hs.2 c hck
    exact⟨es,els,by rw[X4 (YS e)]; exact h1,h2⟩
 refine⟨⟨hr.below.trans ((Below.refl w0.heap.size w).grown (qa6 w l _) (hr.below.size) (fun k e=>by cases e; exact(hr.dom b l hk).2.1)),fun c k hck=>?_,fun c d k h1 h2=>?_,hr.xW he,hr.wa he,fun c C hC=>?_⟩,he⟩
 ·by_cases e:c=b
  ·subst e
   rw[Gh.bJ] at hck
   rw[hkol k hck]
   exact⟨by simpa using hlt,(hr.dom c l hk).2.1,by rw[hsz]; exact hll⟩
  ·rw[Gh.aI _ _ _ e] at hck
   have:=hr.dom c k hck
   exact⟨by simpa using this.1,this.2.1,by rw[hsz]; exact this.2.2⟩
 ·by_cases e:c=b
  ·by_cases e':d=b
   ·rw[e,e']
   ·subst e
    rw[Gh.bJ] at h1
    rw[Gh.aI _ _ _ e'] at h2
    rw[hkol k h1] at h2
    exact hr.inj _ _ l hk h2
  ·by_cases e':d=b
   ·subst e'
    rw[Gh.bJ] at h2
    rw[Gh.aI _ _ _ e] at h1
    rw[hkol k h2] at h1
    exact hr.inj _ _ l h1 hk
   ·rw[Gh.aI _ _ _ e] at h1
    rw[Gh.aI _ _ _ e'] at h2
    exact hr.inj c d k h1 h2
 ·by_cases e:c=b
  ·subst e
   rw[Yf hlt] at hC; cases hC
   rcases hcase with ⟨st',rfl,rfl,rfl⟩ | ⟨rfl,rfl⟩
   ·exact⟨l,Gh.bJ _ _ _ _,qar hll⟩
   ·exact Gh.bJ _ _ _ _
  ·rw[X4 (YS e)] at hC
   have h:=hr.blk c C hC
   have hne:∀ k,g.mu c=some k->k≠l:=fun k hk' e2=>e (hr.inj c b k hk' (e2 ▸ hk))
   cases C with
   | box cs=>obtain ⟨k,arr,ty,h1,h2,h3⟩:=h; exact⟨k,arr,ty,(Gh.aI _ _ _ e).trans h1,(hoth k (hne k h1)).trans h2,bB.ext he _ _ h3⟩
   | row wr es' els'=>cases wr with
    | true=>
     obtain ⟨ds,h1,h2,h3⟩:=h
     exact⟨ds,bw.ext he _ _ h1,h2,fun hp=>let ⟨k,arr,ty,e1,e2,e3⟩:=h3 hp; ⟨k,arr,ty,(Gh.aI _ _ _ e).trans e1,(hoth k (hne k e1)).trans e2,e3⟩⟩
    | false=>
     obtain ⟨h1,h2⟩:=h
     refine⟨?_,?_⟩
     ·rw[Gh.eB _ _ _ e]; exact bw.ext he _ _ h1
     ·rw[Gh.eB _ _ _ e]; exact h2
   | rng st=>obtain ⟨k,h1,h2⟩:=h; exact⟨k,(Gh.aI _ _ _ e).trans h1,(hoth k (hne k h1)).trans h2⟩
   | mp _ _ _=>obtain ⟨k,arr,cl,h1,h2,h3,h4⟩:=h; exact⟨k,arr,cl,(Gh.aI _ _ _ e).trans h1,(hoth k (hne k h1)).trans h2,h3,bB.ext he _ _ h4⟩
   | dead=>exact(Gh.aI _ _ _ e).trans h
   | hole=>exact(Gh.aI _ _ _ e).trans h
def Gh.AH (g:Gh) (b:Nat) (r:Loop):Gh:={ g with lr:=fun c=>if c=b then r else g.lr c }
theorem Rel.AH (hr:Rel H g w0 w) (r:Loop):Rel H (g.AH H.length r) w0 w/\Ext H g w H (g.AH H.length r) w:=by
 have hlr:∀ {c:Nat} {B:aO},H[c]? = some B->(g.AH H.length r).lr c=g.lr c:=fun {c B} h=>by
  have:=(XS.1 h).1
  simp only[Gh.AH]; rw[XW o3]
 have he:Ext H g w H (g.AH H.length r) w:=by
  refine⟨fun k o v hs hc=>⟨hc,hs⟩,fun b B hB=>⟨B,hB,?_⟩,fun _ _ h=>h,XP _,fun k arr cl hs hm=>⟨hm,hs⟩,fun _ _ _=>rfl,fun b k h=>.inl ⟨b,h⟩⟩
  cases B with
  | box _=>rfl
  | row wr es els=>cases wr with
   | true=>exact⟨rfl,rfl,rfl,fun k arr ty _ ha=>⟨arr,ha,XP _⟩⟩
   | false=>exact⟨rfl,⟨[],by simp[Gh.AH]⟩,(hr.blk b _ hB).len,XP _,fun _=>⟨rfl,fun k arr ty _ ha=>⟨arr,ha,XP _⟩⟩⟩
  | rng _=>exact⟨rfl,hlr hB⟩
  | mp _ _ _=>rfl
  | dead=>trivial
  | hole=>trivial
 refine⟨⟨hr.below,hr.dom,hr.inj,hr.out,hr.own,fun b B hB=>?_⟩,he⟩
 have h:=hr.blk b B hB
 cases B with
 | box cs=>obtain ⟨k,arr,ty,h1,h2,h3⟩:=h; exact⟨k,arr,ty,h1,h2,bB.ext he _ _ h3⟩
 | row wr es els=>cases wr with
  | true=>obtain ⟨ds,h1,h2,h3⟩:=h; exact⟨ds,bw.ext he _ _ h1,h2,h3⟩
  | false=>exact⟨bw.ext he _ _ h.1,h.2⟩
 | rng st=>obtain ⟨k,h1,h2⟩:=h; exact⟨k,h1,by rw[hlr hB]; exact h2⟩
 | mp _ _ _=>obtain ⟨k,arr,cl,h1,h2,h3,h4⟩:=h; exact⟨k,arr,cl,h1,h2,h3,bB.ext he _ _ h4⟩
 | dead=>exact h
 | hole=>exact h
theorem Rel.begin (hr:Rel H g w0 w) (r:Loop) (hr0:jc r .ready=r) :
  Rel (H++[.rng .ready]) ((g.AH H.length r).put H.length (some (w.heap.size+1)) []) w0 ((w.alloc (.deferred (some []))).alloc (.loop r)) ∧
  Ext H g w (H++[.rng .ready]) ((g.AH H.length r).put H.length (some (w.heap.size+1)) []) ((w.alloc (.deferred (some []))).alloc (.loop r)):=by
 have hb1:Below w.heap.size w (w.alloc (.deferred (some []))):=(Below.refl _ w).alloc (XP _) _
 have r1:=hr.eK hb1
 have e1:=Ext.below hr hb1
 obtain ⟨r2,e2⟩:=r1.AH r
 have hs:(w.alloc (.deferred (some []))).heap.size=w.heap.size+1:=r8
 have hb2:Below (w.alloc (.deferred (some []))).heap.size (w.alloc (.deferred (some []))) ((w.alloc (.deferred (some []))).alloc (.loop r)):=(Below.refl _ _).alloc (XP _) _
 obtain ⟨r3,e3⟩:=r2.push hb2 (.rng .ready) (some (w.heap.size+1)) [] (fun k hk=>by cases hk; exact⟨hs.symm,r8⟩) (fun _=>⟨w.heap.size+1,Gh.bJ _ _ _ _,by
  have:=qaD (w.alloc (.deferred (some []))) (.loop r)
  rw[hs] at this
  rw[this]
  have:((g.AH H.length r).put H.length (some (w.heap.size+1)) []).lr H.length=r:=by simp[Gh.put,Gh.AH]
  rw[this,hr0]⟩)
 exact⟨r3,e1.trans (e2.trans e3)⟩
def ER (s:St) (g:Gh) (w:World):E->Exit->Prop
 | .normal,.normal=>True
 | .exit i,.exit j=>i=j
 | .goto i,.goto j=>i=j
 | .ret,.ret=>True
 | .pan x,.panic ch=>∃ c,ch=[{ v:=c,recovered:=false }]/\VR s.H g w x c
 | _,_=>False
def tP (cx:Cx) (lo N:Nat) (Bs:aC->Gh->World->Prop) (F1:St->(E->St->Option R)->Option R) (c:Code):Prop:=
 ∀ (F:Fence) (n:Nat) (mb:Mb) (w0:World) (r:R) (H0:aC) (gs:Gh) (ws:World) (k:E->St->Option R) (Q:Exit->Act->World->Prop) (s:St) (g:Gh) (a:Act) (w:World),gk F->Bs H0 gs ws->Good cx N mb lo H0 gs ws w0 s g a w->F1 s k=some r ->
  (∀ e e' s' g' a' w',Good cx N mb lo H0 gs ws w0 s' g' a' w'->ER s' g' w' e e'->k e s'=some r->Q e' a' w')->c.wpIn F n cx.P Q a w
theorem rq {N:Nat}:∀ {ps:List Nat},wV N ps=true->∀ p∈ps,p<N
 | [],_,p,hp=>by cases hp
 | q :: ps,h,p,hp=>by
  unfold wV at h
  obtain ⟨h1,h2⟩:=Dj h
  rcases YC.1 hp with rfl | hp
  ·simpa [Nat.blt_eq] using h1
  ·exact rq h2 p hp
theorem AR:∀ (ps:List Nat) (as:List A) (cs:List Value) (fr:List (Nat×A)) (ts:Array Value),(∀ t,VR H g w (look fr t) (ts.getD t undef))->bB H g w as cs->as.length=ps.length->(∀ p∈ps,p<ts.size) ->
  (∀ t,VR H g w (look (AQ ps as fr) t) (((ps.zip cs).foldl (fun ts p=>ts.setIfInBounds p.1 p.2) ts).getD t undef))/\((ps.zip cs).foldl (fun ts p=>ts.setIfInBounds p.1 p.2) ts).size=ts.size
 | [],as,cs,fr,ts,h,_,hl,_=>by
  have:as=[]:=Ye hl
  subst this
  exact⟨h,rfl⟩
 | p :: ps,[],cs,fr,ts,h,_,hl,_=>by cases hl
 | p :: ps,x :: as,cs,fr,ts,h,hv,hl,hlt=>by
  rw[bB] at hv
  obtain ⟨d,ds,rfl,h1,h2⟩:=hv
  have hp:=hlt p r8
  have:=AR ps as ds ((p,x) :: fr) (ts.setIfInBounds p d) (fun t=>by
   rw[ez]
   by_cases e:p=t
   ·subst e
    rw[XX rfl,YM,qai hp]
    exact h1
   ·rw[XW e,YM,ZD e,<-YM]
    exact h t) h2 (by simpa using hl) (fun q hq=>by simpa using hlt q (by simp[hq]))
  exact⟨this.1,by simpa using this.2⟩
theorem yb {β:Type} {H:aC} {b:Nat} {x:Option β} {r:β} (h:OS H b x=some r):H[b]? = some (.rng .ready)/\x=some r:=by
 unfold OS at h
 split at h
 ·rename_i e; exact⟨e,h⟩
 ·cases h
theorem oZ {β:Type} {H:aC} {b:Nat} {x:Option β} {r:β} (h:Kt H b x=some r):H[b]? = some (.rng .busy)/\x=some r:=by
 unfold Kt at h
 split at h
 ·rename_i e; exact⟨e,h⟩
 ·cases h
theorem Ext.J0 (he:Ext H g w H' g' w') {b:Nat} {st st':E9} (h:H[b]? = some (.rng st)) (h':H'[b]? = some (.rng st')):g'.mu b=g.mu b/\g'.lr b=g.lr b:=by
 obtain ⟨B',hB',ht⟩:=he.blk b _ h
 rw[h'] at hB'
 cases hB'
 exact ht
theorem yf {Bs:aC->Gh->World->Prop} {F1 F2:St->(E->St->Option R)->Option R} {ps:Array Nat} {asg body:Code} (h1:tP cx lo N Bs F1 asg) (h2:tP cx lo N Bs F2 body) {b lo' l:Nat} {fr:List (Nat×A)} {args:List A} {cargs:List Value} {r:R} {rec0:Loop}
  (hps:wV N ps.toList=true) (hlob:lo<=b) (e1:rec0.params=ps) (e2:rec0.assign=asg) (e3:rec0.body=body) (hsz:rec0.tmps.size=N)
  (h:roundOf F1 F2 lo b ps.toList fr args H lo'=some r) {F:Fence} {n:Nat} (hF:gk F) (hr:Rel H g w0 w) (hbs:Bs H g w) (hgl:∀ (G:Nat) (vs:List Value),cx.glob G=some vs->bM H g w G 0 vs)
  (hfr:∀ t,VR H g w (look fr t) (rec0.tmps.getD t undef)) (hlr:g.lr b=rec0) (hv:bB H g w args cargs) (hmu:g.mu b=some l):YieldAt F n cx.P l cargs.toArray w (gi H g w0 w lo' r):=by
 unfold roundOf at h
 obtain ⟨hc,h⟩:=bu h
 rw[XQ] at hc
 have hlo:lo'<=lo:=by simpa [qap] using hc.2
 have hlen:args.length=ps.toList.length:=by simpa using hc.1
 obtain ⟨hB,h⟩:=yb h
 have hrecAt:∀ {H2:aC} {g2:Gh} {w2:World} {st:E9},Rel H2 g2 w0 w2->Ext H g w H2 g2 w2->H2[b]? = some (.rng st)->g2.mu b=some l/\g2.lr b=rec0/\w2.heap[l]? = some (.loop (jc rec0 st)):=fun {H2 g2 w2 st} hr2 he2 hB2=>by
  obtain ⟨m1,m2⟩:=he2.J0 hB hB2
  obtain ⟨k,k1,k2⟩:=hr2.blk b _ hB2
  rw[m1,hmu] at k1; cases k1
  rw[m2,hlr] at k2
  exact⟨m1.trans hmu,m2.trans hlr,k2⟩
 obtain ⟨_,_,hw⟩:=hrecAt hr (Ext.refl hr) hB
 have hcl:=hv.length
 have hy:=run_yield (P:=cx.P) (args:=cargs.toArray) hw (by show cargs.toArray.size=rec0.params.size; rw[e1]; simp at hlen ⊢; omega)
 refine⟨_,_,_,_,hy,roundIn_of_wpIn (hF.2.1 _) ?_⟩
 show rec0.assign.wpIn _ _ _ _ _ _
 rw[e2]
 have hfold:(((jc rec0 .ready).params.zip cargs.toArray).foldl (fun tmps (t,a)=>tmps.setIfInBounds t a) (jc rec0 .ready).tmps)=(ps.toList.zip cargs).foldl (fun ts p=>ts.setIfInBounds p.1 p.2) rec0.tmps:=by
  show ((rec0.params.zip cargs.toArray).foldl _ rec0.tmps)=_
  rw[e1,<-ZY,Array.toList_zip]
 have hp:=AR ps.toList args cargs fr rec0.tmps hfr hv hlen (fun p hp=>by rw[hsz]; exact rq hps p hp)
 refine h1 (F.inRound l) n ⟨w.heap.size,[],false⟩ w0 r H g w _ _ ⟨AQ ps.toList args fr,H⟩ g _ w hF hbs ⟨⟨hr,fun t=>by
  show VR H g w _ (Array.getD (((jc rec0 .ready).params.zip cargs.toArray).foldl (fun tmps (t,a)=>tmps.setIfInBounds t a) (jc rec0 .ready).tmps) t undef)
  rw[hfold]; exact hp.1 t,hgl⟩,Ext.refl hr,XP _,fun _ _ _=>rfl,by
  show Array.size (((jc rec0 .ready).params.zip cargs.toArray).foldl (fun tmps (t,a)=>tmps.setIfInBounds t a) (jc rec0 .ready).tmps)=N
  rw[hfold,hp.2,hsz],ix.start _ _ _ _,XP _,rfl⟩ h ?_
 intro e e' s2 g2 a2 w2 hg2 he h
 cases e with
 | exit i=>cases h
 | goto i=>cases h
 | ret=>cases h
 | pan x=>cases h
 | normal=>
  cases e' with
  | normal=>
   obtain ⟨hB2,h⟩:=yb h
   obtain ⟨m2,l2,hw2⟩:=hrecAt hg2.sr.rel hg2.ext hB2
   have hbr:=run_beginRound (P:=cx.P) hw2 rfl
   obtain ⟨q1,q2⟩:=hg2.sr.rel.rng hB2 (.rng .busy) (some l) (.loop (jc rec0 .busy)) m2 hw2 (.inl ⟨.busy,rfl,rfl,by rw[l2]⟩)
   refine⟨_,hbr,?_⟩
   have hg3:=hg2.step (dst:=none) (x:=.any) (c:=undef) q1 q2 r8 (me s2.H _ hlob) rfl H7 (fun d hd=>by cases hd)
   show rec0.body.wpIn _ _ _ _ _ _
   rw[e3]
   refine h2 (F.inRound l) n ⟨w.heap.size,[],false⟩ w0 r H g w _ _ ⟨s2.fr,s2.H.set b (.rng .busy)⟩ _ a2 _ hF hbs hg3 h ?_
   intro e e' s3 g3 a3 w3 hg he h
   have fin:∀ (st:E9) (jump:Option Code) (v:Bool),s3.H[b]? = some (.rng .busy)->jump.isNone=v->jc rec0 st={ jc rec0 .busy with state:=if jump.isNone then .ready else .done,pending:=jump }->r=(.ret (.v (.bool v)),s3.H.set b (.rng st)) ->
     ∃ x W,(Instr.endRound l jump).run cx.P w3=.ok x W/\gi H g w0 w lo' r (.returned x) W:=fun st jump v hB3 hjv hst hrr=>by
    obtain ⟨m3,l3,hw3⟩:=hrecAt hg.sr.rel hg.ext hB3
    have her:=run_endRound (P:=cx.P) jump hw3
    obtain ⟨p1,p2⟩:=hg.sr.rel.rng hB3 (.rng st) (some l) (.loop (jc rec0 st)) m3 hw3 (.inl ⟨st,rfl,rfl,by rw[l3]⟩)
    subst hrr
    rw[<-hst] at her
    refine⟨_,_,her,_,p1,hg.ext.trans p2,by simpa using hg.len,fun c hc hc'=>?_,hg.st,?_⟩
    ·show (s3.H.set b (.rng st))[c]? = _
     rw[X4 o3]
     exact hg.low c o3 hc'
    ·show VR _ _ _ (.v (.bool v)) (.bool jump.isNone)
     rw[VR,hjv]
   cases e with
   | normal=>cases e'<;>first
     | (obtain ⟨hB3,h⟩:=oZ h; exact fin .ready none true hB3 rfl rfl (by cases h; rfl))
     | exact he.elim
   | exit i=>cases e'<;>first
     | (obtain rfl:i=_:=he; obtain ⟨hB3,h⟩:=oZ h; exact fin (.done (.exit i)) (some (.exit i)) false hB3 rfl rfl (by cases h; rfl))
     | exact he.elim
   | goto i=>cases e'<;>first
     | (obtain rfl:i=_:=he; obtain ⟨hB3,h⟩:=oZ h; exact fin (.done (.goto i)) (some (.goto i)) false hB3 rfl rfl (by cases h; rfl))
     | exact he.elim
   | ret=>cases e'<;>first
     | (obtain ⟨hB3,h⟩:=oZ h; exact fin (.done .ret) (some .ret) false hB3 rfl rfl (by cases h; rfl))
     | exact he.elim
   | pan x=>cases h
  | _=>exact he.elim
end
section
open Go.RowKit
variable {F:Fence} {n:Nat} {P:Program}
theorem nc {fn:Func} {tmps:Array Value} {R:Ending->World->Prop} {B:Nat} {ds:List Deferred}:∀ (ms:List Deferred) (u:FrameMode) (W:World),u≠.run->Marks B W ms ->
  (∀ W',cp B W W'->(∀ (k:Nat) (o:Loop),W.heap[k]? = some (.loop o)->W'.heap[k]? = some (.loop o))->LeavesInM F n P fn tmps R ds u W')->LeavesInM F n P fn tmps R (ms++ds) u W:=by
 intro ms u
 induction ms with
 | nil=>intro W _ _ h; exact h W (cp.refl _ _) (fun _ _ h=>h)
 | cons d ms ih=>
  rintro W hu ⟨rs,e,h2,h3⟩ h
  match rs,e,h2,h3 with
  | r :: rs,e,h2,h3=>
   cases e
   obtain ⟨hB,hr⟩:=h3 r r8
   refine⟨hu,.inl ⟨r,_,rfl,run_takeDeferred hr,ih _ hu ⟨rs,rfl,(qa4.1 h2).2,fun q hq=>⟨(h3 q (by simp[hq])).1,?_⟩⟩ fun W' hc hl=>?_⟩⟩
   ·have hne:q≠r:=fun e=>(qa4.1 h2).1 (e ▸ hq)
    exact(Y2 hne).trans (h3 q (by simp[hq])).2
   ·exact h W' ((cp.putObj _ hB hr rfl).trans hc) (fun k o hk=>hl k o ((Y2 (fun e=>by subst e; rw[hr] at hk; cases hk)).trans hk))
theorem Oper.zI {o:Oper} {a:Act} {w:World} {K K':Act->World->Prop} {Q Q':Exit->Act->World->Prop} (hK:∀ a w,K a w->K' a w) (hQ:∀ e a w,e≠.normal->Q e a w->Q' e a w) (h:o.wpIn F n P a w K Q):o.wpIn F n P a w K' Q':=by
 unfold Oper.wpIn at *
 refine⟨h.1,?_⟩
 have hh:=h.2
 have lo:LetsOut Q->LetsOut Q':=fun ⟨a,w,h⟩=>⟨a,w,hQ _ _ _ r8 h⟩
 generalize (o.semAt F.round a.eval).run P w=r at *
 cases r with
 | ok x w'=>
  cases x<;>simp only[Oper.uponIn] at hh ⊢<;>first
   | exact hK _ _ hh
   | exact⟨hh.1,CallsIn.mono hh.2 (fun e w'' he=>by cases e<;>first | exact hK _ _ he | exact hQ _ _ _ r8 he | exact lo he)⟩
   | exact⟨hh.1,RowsIn.mono hh.2 (fun _ _ he=>hK _ _ he)⟩
   | exact⟨hh.1,RoundIn.mono hh.2 (fun e w'' he=>by cases e<;>first | exact hK _ _ he | exact hQ _ _ _ r8 he | exact lo he)⟩
   | exact hh.elim
 | halt x w'=>cases x<;>simp only[Oper.uponIn] at hh ⊢<;>first | exact hQ _ _ _ r8 hh | exact hh.elim
theorem mo {ops:Array Oper} {Q Q':Exit->Act->World->Prop} {os':List Oper} (hQ:∀ e a w,e≠.normal->Q e a w->Q' e a w) (hn:∀ a w,Q .normal a w->wpListIn F n P ops Q' os' a w):∀ (os:List Oper) (a:Act) (w:World),wpListIn F n P ops Q os a w->wpListIn F n P ops Q' (os++os') a w
 | [],a,w,h=>hn a w h
 | o :: os,a,w,h=>by
  rw[Yz]
  unfold wpListIn at h ⊢
  split
  ·rename_i hw; rw[XX hw] at h; exact Oper.zI (mo hQ hn os) hQ h
  ·rename_i hw; rw[XW hw] at h; exact⟨h.1,mo hQ hn os _ _ h.2⟩
theorem ng {o:Oper} {d:Nat} (h:mh o=some d):o.dst=some d/\o.guard=none/\∀ (ev:Operand->Value) (w:World),(execOp ev o).run P w=.ok .recover w:=by
 unfold mh at h
 split at h
 ·rename_i c ho
  split at h
  ·rename_i hcal hargs
   cases hg:tH o with
   | false=>rw[hg] at h; cases h
   | true=>
    rw[hg] at h
    refine⟨h,by unfold tH at hg; split at hg<;>simp_all,fun ev w=>?_⟩
    unfold execOp
    rw[ho]
    simp[resolve,hcal,invoke,builtin]
  ·cases h
 ·cases h
theorem ql {Q:Exit->Act->List Frame->World->Prop} {a:Act} {cs cs':List Frame} {w:World} {id d:Nat} {ops:Array Oper} {o:Oper} {os:List Oper} {v:Value} (hl:ops.toList=o :: os) (hd:mh o=some d) (hFa:∀ f,F.fn f) (hro:F.round=none)
  (hrec:recoverD cs=some (v,cs')∨(recoverD cs=none/\cs'=cs/\v=.nilIface)) (h:wpListIn F n P ops (fun e a' w'=>Q e a' cs' w') os (a.put (some d) v) w):(Code.region id ops false).wpSIn F n P Q a cs w:=by
 obtain ⟨hdst,hgd,hrun⟩:=ng (P:=P) hd
 have ho:ops[0]? = some o:=by rw[<-Yt,hl]; rfl
 have hlen:cs'.length=cs.length:=by
  rcases hrec with h1 | ⟨_,rfl,_⟩
  ·exact recoverD_length h1
  ·rfl
 intro b k hb hr hFb hroom
 have hw:Region.wanted o (yielded ops a.tmps)=true:=by simp[Region.wanted,hgd]
 have hsz:List.range ops.size=0 :: List.range' 1 os.length:=by
  rw[<-ZW,hl,X8,List.range_eq_range',List.range'_succ]
 have h':wpOpsIn F n P ops (fun e a' w'=>Q e a' cs' w') (List.range' 1 os.length) (a.put (some d) v) w:=by
  rw[wpOpsIn_eq_wpListIn os 1 (fun j=>by rw[<-Yt,hl,qaX 1 j,qaq])]
  exact h
 obtain ⟨e,a',w',q,harr⟩:=wp_opsIn _ _ _ h' b k cs' (hr.trans hro.symm) hFb (hlen ▸ hroom)
 have i0:(lone (b.atR a (.code (.region id ops false) :: k)) cs w).fenced P F:=qa8 hFb hroom rfl
 have i1:(lone (b.atR a (.inRegion ops (0 :: List.range' 1 os.length) :: k)) cs w).fenced P F:=qbB hFb hroom ho (fun f _=>hFa f)
 refine⟨e,a',cs',w',hlen,q,.of_steps (.head i0 (hsz ▸ stepR_region) (.one i1 (qaG ?_))) harr⟩
 have hg:=stepGR_op (P:=P) (b:=b) (k:=k) (cs:=cs) (w:=w) (rest:=List.range' 1 os.length) ho hw
 rw[hr,Z4] at hg
 have hfin:∀ v,(b.atR a (.inRegion ops (0 :: List.range' 1 os.length) :: k)).finish v=b.atR (a.put o.dst v) (.inRegion ops (List.range' 1 os.length) :: k):=by
  intro v; rw[qa2,ho]; rfl
 have hk:(b.atR a (.inRegion ops (0 :: List.range' 1 os.length) :: k)).kind=.deferred:=hb
 have htr:=qbt hk cs
 rw[hg,<-hdst,<-hfin]
 simp only[Frame.atR,hr] at htr ⊢
 rcases hrec with h1 | ⟨h1,rfl,rfl⟩
 ·simp[stepG.apply,hrun,htr,h1]
 ·simp[stepG.apply,hrun,htr,h1]
theorem lE {ops:Array Oper} {i d j:Nat} {o:Oper} (ho:ops[i]? = some o):(kf ops i d)[j]? = if j=i then some { o with op:=.move (.tmp d) } else ops[j]?:=by
 unfold kf
 rw[ho]
 simp only
 have hi:=(XU.1 ho).1
 by_cases e:j=i
 ·subst e; rw[XX rfl]; simp[hi]
 ·rw[XW e,ZD (YS e)]
theorem sC {ops:Array Oper} {i d:Nat}:(kf ops i d).size=ops.size:=by
 unfold kf; split<;>simp
theorem xM {ops:Array Oper} {i d:Nat} {o:Oper} (ho:ops[i]? = some o) (t:Nat):Region.linearise .any (kf ops i d) t=Region.linearise .any ops t:=by
 have key:∀ (fuel t:Nat) (listed:Array Bool) (acc:List Nat),Region.linearise.go .any (kf ops i d) fuel t listed acc=Region.linearise.go .any ops fuel t listed acc:=by
  intro fuel
  induction fuel with
  | zero=>intro t listed acc; rfl
  | succ fuel ih=>
   intro t listed acc
   unfold Region.linearise.go
   simp only[sC,ih]
   have e:∀ j,((kf ops i d)[j]?).map (fun (o:Oper)=>o.after.all fun e=>!Region.binds .any e || listed.getD e.on false)=(ops[j]?).map (fun (o:Oper)=>o.after.all fun e=>!Region.binds .any e || listed.getD e.on false):=fun j=>by
    rw[lE ho]
    split
    ·rename_i h; subst h; rw[ho]; rfl
    ·rfl
   simp only[e]
 unfold Region.linearise
 rw[sC,key]
theorem DB {ops:Array Oper}:∀ (fuel t:Nat) (listed:Array Bool) (L1:List Nat) (j:Nat) (L2:List Nat),Region.linearise.go .any ops fuel t listed []=L1++j :: L2->∀ (o:Oper) (e:Edge),ops[j]? = some o->e∈o.after->Region.binds .any e=true->listed.getD e.on false=true∨e.on∈L1
 | 0,t,listed,L1,j,L2,h,o,e,ho,he,hb=>by
  simp[Region.linearise.go] at h
 | fuel+1,t,listed,L1,j,L2,h,o,e,ho,he,hb=>by
  simp only[Region.linearise.go] at h
  change (match (Region.ready .any ops listed)[t % (Region.ready .any ops listed).length]? with
   | some i=>Region.linearise.go .any ops fuel (t / (Region.ready .any ops listed).length) (listed.setIfInBounds i true) [i]
   | none=>[].reverse)=_ at h
  split at h
  ·rename_i i hi
   rw[qae,ZM,Zn] at h
   have hrd:=(ZZ.1 (Yh hi))
   cases L1 with
   | nil=>
    simp only[YR,YJ] at h
    obtain ⟨rfl,_⟩:=h
    obtain ⟨_,o',ho',hall⟩:=hrd
    rw[ho] at ho'; cases ho'
    exact .inl (hall e he hb)
   | cons x L1=>
    simp only[Yz,YJ] at h
    obtain ⟨rfl,h⟩:=h
    rcases DB fuel _ _ L1 j L2 h o e ho he hb with h1 | h1
    ·by_cases hx:e.on=i
     ·exact .inr (by rw[hx]; exact ZN ..)
     ·rw[ZR false (YS hx)] at h1; exact .inl h1
    ·exact .inr (Zt _ h1)
  ·simp at h
theorem DC {ops:Array Oper} {i0:Nat} {o0:Oper} (ho:ops[i0]? = some o0) (hn:∀ e∈o0.after,Region.binds .any e=true->False):∀ (fuel t:Nat) (listed:Array Bool),listed.size=ops.size->A2 ops listed<=fuel->listed.getD i0 true=false->i0∈Region.linearise.go .any ops fuel t listed []
 | 0,t,listed,hs,hu,hl=>by
  exfalso
  have hi:=(XU.1 ho).1
  have hmem:i0∈(List.range ops.size).filter (fun i=>!listed.getD i true):=qay.2 ⟨Yj.2 hi,by rw[hl]; rfl⟩
  have:=ZL hmem
  unfold A2 at hu; omega
 | fuel+1,t,listed,hs,hu,hl=>by
  have hrd:i0∈Region.ready .any ops listed:=ZZ.2 ⟨hl,o0,ho,fun e he hb=>(hn e he hb).elim⟩
  have hlen:=ZL hrd
  simp only[Region.linearise.go]
  change i0∈(match (Region.ready .any ops listed)[t % (Region.ready .any ops listed).length]? with
   | some i=>Region.linearise.go .any ops fuel (t / (Region.ready .any ops listed).length) (listed.setIfInBounds i true) [i]
   | none=>[].reverse)
  have hlt:t % (Region.ready .any ops listed).length<(Region.ready .any ops listed).length:=qac _ hlen
  rw[XN hlt]
  simp only
  rw[qae,ZM,Zn]
  generalize hi:(Region.ready .any ops listed)[t % (Region.ready .any ops listed).length]=i
  have him:i∈Region.ready .any ops listed:=by rw[<-hi]; exact Ys _
  obtain ⟨hun,o,hoi,_⟩:=ZZ.1 him
  have his:i<ops.size:=(XU.1 hoi).1
  by_cases e:i=i0
  ·rw[e]; exact ZN ..
  ·refine Zt _ (DC ho hn fuel _ _ (by simpa using hs) ?_ (by rw[ZR true e]; exact hl))
   have:=filter_lt (fun k=>!listed.getD k true) (fun k=>!(listed.setIfInBounds i true).getD k true) (List.range ops.size) (fun x hx hq=>by
    by_cases e:i=x
    ·subst e; rw[hun]; rfl
    ·rw[ZR true e] at hq; exact hq) ⟨i,Yj.2 his,by rw[hun]; rfl,by simp[hs,his]⟩
   unfold A2 at hu ⊢
   omega
theorem DD {ops:Array Oper} {i0:Nat}:∀ (fuel t:Nat) (listed:Array Bool),listed.getD i0 true=true->i0 ∉ Region.linearise.go .any ops fuel t listed []
 | 0,t,listed,h,hm=>by simp[Region.linearise.go] at hm
 | fuel+1,t,listed,h,hm=>by
  simp only[Region.linearise.go] at hm
  change i0∈(match (Region.ready .any ops listed)[t % (Region.ready .any ops listed).length]? with
   | some i=>Region.linearise.go .any ops fuel (t / (Region.ready .any ops listed).length) (listed.setIfInBounds i true) [i]
   | none=>[].reverse) at hm
  split at hm
  ·rename_i i hi
   rw[qae,ZM,Zn] at hm
   obtain ⟨hun,_⟩:=ZZ.1 (Yh hi)
   have hne:i≠i0:=fun e=>by rw[e,h] at hun; cases hun
   rcases YC.1 hm with hm | hm
   ·exact hne hm.symm
   ·exact DD fuel _ _ (by rw[ZR true hne]; exact h) hm
  ·simp at hm
theorem Ay {ops:Array Oper} {i0:Nat}:∀ (fuel t:Nat) (listed:Array Bool) (L1 L2:List Nat),listed.size=ops.size->Region.linearise.go .any ops fuel t listed []=L1++i0 :: L2->i0 ∉ L2
 | 0,t,listed,L1,L2,_,h=>by simp[Region.linearise.go] at h
 | fuel+1,t,listed,L1,L2,hs,h=>by
  simp only[Region.linearise.go] at h
  change (match (Region.ready .any ops listed)[t % (Region.ready .any ops listed).length]? with
   | some i=>Region.linearise.go .any ops fuel (t / (Region.ready .any ops listed).length) (listed.setIfInBounds i true) [i]
   | none=>[].reverse)=_ at h
  split at h
  ·rename_i i hi
   rw[qae,ZM,Zn] at h
   cases L1 with
   | nil=>
    simp only[YR,YJ] at h
    obtain ⟨rfl,h⟩:=h
    rw[<-h]
    obtain ⟨_,o,ho,_⟩:=ZZ.1 (Yh hi)
    have:=(XU.1 ho).1
    exact DD fuel _ _ (by simp[hs,this])
   | cons x L1=>
    simp only[Yz,YJ] at h
    exact Ay fuel _ _ L1 L2 (by simpa using hs) h.2
  ·simp at h
theorem Az {ops:Array Oper}:∀ (fuel t:Nat) (listed:Array Bool) (j:Nat),j∈Region.linearise.go .any ops fuel t listed []->∃ o,ops[j]? = some o
 | 0,t,listed,j,h=>by simp[Region.linearise.go] at h
 | fuel+1,t,listed,j,h=>by
  simp only[Region.linearise.go] at h
  change j∈(match (Region.ready .any ops listed)[t % (Region.ready .any ops listed).length]? with
   | some i=>Region.linearise.go .any ops fuel (t / (Region.ready .any ops listed).length) (listed.setIfInBounds i true) [i]
   | none=>[].reverse) at h
  split at h
  ·rename_i i hi
   rw[qae,ZM,Zn] at h
   obtain ⟨_,o,ho,_⟩:=ZZ.1 (Yh hi)
   rcases YC.1 h with h | h
   ·exact⟨o,by rw[h]; exact ho⟩
   ·exact Az fuel _ _ j h
  ·simp at h
theorem tN {ops:Array Oper} {i d:Nat} {o:Oper} (ho:ops[i]? = some o) (tm:Array Value):yielded (kf ops i d) tm=yielded ops tm:=by
 funext j
 have e:((kf ops i d)[j]?).bind (·.dst)=(ops[j]?).bind (·.dst):=by
  rw[lE ho]
  by_cases h:j=i
  ·subst h; rw[XX rfl,ho]; rfl
  ·rw[XW h]
 unfold yielded
 rw[e]
theorem iQ {ops:Array Oper} {Q:Exit->Act->World->Prop} {i d:Nat} {o:Oper} (ho:ops[i]? = some o):∀ (L:List Nat) (a:Act) (w:World),i ∉ L->wpOpsIn F n P (kf ops i d) Q L a w->wpOpsIn F n P ops Q L a w
 | [],a,w,_,h=>h
 | j :: L,a,w,hn,h=>by
  have hj:j≠i:=fun e=>hn (by rw[e]; exact ZN ..)
  have hL:i ∉ L:=fun e=>hn (Zt _ e)
  unfold wpOpsIn at h ⊢
  rw[lE ho,XW hj,tN ho] at h
  cases hoj:ops[j]? with
  | none=>rw[hoj] at h; exact iQ ho L a w hL h
  | some oj=>
   rw[hoj] at h
   simp only at h ⊢
   split
   ·rename_i hw; rw[XX hw] at h; exact Oper.wpIn_mono (fun a w h=>iQ ho L a w hL h) h
   ·rename_i hw; rw[XW hw] at h; exact⟨h.1,iQ ho L _ _ hL h.2⟩
theorem DM {o:Oper} {d:Nat} (h:jy d o=true):o.guard=none/\(∃ e,o.dst=some e/\e≠d)/\∀ (a:Act) (v:Value),execOp (a.put (some d) v).eval o=execOp a.eval o:=by
 unfold jy at h
 simp only[XQ] at h
 obtain ⟨⟨h1,h2⟩,h3⟩:=h
 refine⟨lD h1,?_,fun a v=>?_⟩
 ·cases hd:o.dst with
  | none=>rw[hd] at h3; cases h3
  | some e=>rw[hd] at h3; exact⟨e,rfl,fun e2=>by subst e2; simp at h3⟩
 ·split at h2
  ·rename_i t x ho
   have hx:x≠d:=fun e=>by subst e; simp at h2
   unfold execOp
   rw[ho]
   simp only[Act.eval_put (a:=a) (dst:=some d) (v:=v) (x:=.tmp x) (fun e he=>by cases he; intro h; cases h; exact hx rfl)]
  ·cases h2
theorem DL {o:Oper} {d:Nat} (h:jy d o=true) (ev:Operand->Value) (w:World):(∃ y w',(execOp ev o).run P w=.ok (.value y) w')∨(∃ x w',(execOp ev o).run P w=.halt x w'):=by
 unfold jy at h
 simp only[XQ] at h
 obtain ⟨⟨h1,h2⟩,h3⟩:=h
 split at h2
 ·rename_i t x ho
  unfold execOp
  rw[ho]
  simp only
  cases hr:(Instr.loadAt t (ev (.tmp x))).run P w with
  | ok y w'=>exact .inl ⟨y,w',by simp[hr]⟩
  | halt y w'=>exact .inr ⟨y,w',by simp[hr]⟩
 ·cases h2
theorem AU {Q:Exit->Act->List Frame->World->Prop} {ops:Array Oper} {i0 d:Nat} {o0:Oper} {v:Value} {cs cs':List Frame} (ho:ops[i0]? = some o0) (hd:mh o0=some d) (hFa:∀ f,F.fn f) (hro:F.round=none) (hrec:recoverD cs=some (v,cs')∨(recoverD cs=none/\cs'=cs/\v=.nilIface)) {L2:List Nat} (hL2:i0 ∉ L2):∀ (L1:List Nat) (a:Act) (w:World),(∀ j∈L1,∃ o,ops[j]? = some o/\jy d o=true)->d<a.tmps.size ->
  wpOpsIn F n P (kf ops i0 d) (fun e a' w'=>match e with | .panic _=>False | e=>Q e a' cs' w') (L1++i0 :: L2) (a.put (some d) v) w->∀ (b:Frame) (k:List Item),b.kind=.deferred->b.roundOf=none->F.fn b.fn->F.room (cs.length+1+n) ->
  ∃ e a' cs2 w',cs2.length=cs.length/\Q e a' cs2 w'/\ArrivesIn (Machine.fenced P F) P (lone (b.atR a (.inRegion ops (L1++i0 :: L2) :: k)) cs w) b k cs2 e a' w'
 | [],a,w,hld,hds,h,b,k,hb,hr,hFb,hroom=>by
  obtain ⟨hdst,hgd,hrun⟩:=ng (P:=P) hd
  have hlen:cs'.length=cs.length:=by
   rcases hrec with h1 | ⟨_,rfl,_⟩
   ·exact recoverD_length h1
   ·rfl
  rw[YR] at h ⊢
  unfold wpOpsIn at h
  rw[lE ho,XX rfl] at h
  simp only at h
  rw[XX (by simp[Region.wanted,hgd])] at h
  replace h:=h.2
  rw[hro,Z4] at h
  have hev:(execOp (a.put (some d) v).eval { o0 with op:=.move (.tmp d) }).run P w=.ok (.value v) w:=by
   have:(a.put (some d) v).eval (.tmp d)=v:=fq hds
   simp[execOp,this]
  rw[hev,Oper.uponIn_value] at h
  have hpp:(a.put (some d) v).put o0.dst v=a.put (some d) v:=by
   rw[hdst]
   unfold Act.put
   simp
  rw[hpp] at h
  have h':=iQ ho L2 _ w hL2 h
  obtain ⟨e,a',w',q,harr⟩:=wp_opsIn _ _ _ h' b k cs' (hr.trans hro.symm) hFb (hlen ▸ hroom)
  have hw:Region.wanted o0 (yielded ops a.tmps)=true:=by simp[Region.wanted,hgd]
  have i1:(lone (b.atR a (.inRegion ops (i0 :: L2) :: k)) cs w).fenced P F:=qbB hFb hroom ho (fun f _=>hFa f)
  have q':Q e a' cs' w':=by cases e<;>first | exact q | exact q.elim
  refine⟨e,a',cs',w',hlen,q',.of_steps (.one i1 (qaG ?_)) harr⟩
  have hg:=stepGR_op (P:=P) (b:=b) (k:=k) (cs:=cs) (w:=w) (rest:=L2) ho hw
  rw[hr,Z4] at hg
  have hfin:∀ v,(b.atR a (.inRegion ops (i0 :: L2) :: k)).finish v=b.atR (a.put o0.dst v) (.inRegion ops L2 :: k):=by
   intro v; rw[qa2,ho]; rfl
  have hk:(b.atR a (.inRegion ops (i0 :: L2) :: k)).kind=.deferred:=hb
  have htr:=qbt hk cs
  rw[hg,<-hdst,<-hfin]
  simp only[Frame.atR,hr] at htr ⊢
  rcases hrec with h1 | ⟨h1,rfl,rfl⟩
  ·simp[stepG.apply,hrun,htr,h1]
  ·simp[stepG.apply,hrun,htr,h1]
 | j :: L1,a,w,hld,hds,h,b,k,hb,hr,hFb,hroom=>by
  obtain ⟨oj,hoj,hlo⟩:=hld j (ZN ..)
  obtain ⟨hgd,⟨e0,hde,hne⟩,hsame⟩:=DM hlo
  have hji:j≠i0:=fun e=>by
   subst e
   rw[ho] at hoj; cases hoj
   unfold mh at hd
   unfold jy at hlo
   split at hd
   ·rename_i c hc; rw[hc] at hlo; simp at hlo
   ·cases hd
  rw[Yz] at h ⊢
  unfold wpOpsIn at h
  rw[lE ho,XW hji,hoj] at h
  simp only at h
  rw[XX (by simp[Region.wanted,hgd])] at h
  replace h:=h.2
  rw[hro,Z4,hsame] at h
  have hw:Region.wanted oj (yielded ops a.tmps)=true:=by simp[Region.wanted,hgd]
  rcases DL (P:=P) hlo a.eval w with ⟨y,w1,hrun⟩ | ⟨x,w1,hrun⟩
  ·rw[hrun,Oper.uponIn_value,hde,Act.put_comm a v y (fun e he=>by cases he; intro h; cases h; exact hne rfl),<-hde] at h
   obtain ⟨e,a',cs2,w2,hl2,q,harr⟩:=AU ho hd hFa hro hrec hL2 L1 (a.put oj.dst y) w1 (fun j hj=>hld j (Zt _ hj)) (by rw[Act.pE]; exact hds) h b k hb hr hFb hroom
   have i1:(lone (b.atR a (.inRegion ops (j :: (L1++i0 :: L2)) :: k)) cs w).fenced P F:=qbB hFb hroom hoj (fun f _=>hFa f)
   refine⟨e,a',cs2,w2,hl2,q,.of_steps (.one i1 (qaG ?_)) harr⟩
   have hg:=stepGR_op (P:=P) (b:=b) (k:=k) (cs:=cs) (w:=w) (rest:=L1++i0 :: L2) hoj hw
   rw[hr,Z4] at hg
   have hfin:∀ v,(b.atR a (.inRegion ops (j :: (L1++i0 :: L2)) :: k)).finish v=b.atR (a.put oj.dst v) (.inRegion ops (L1++i0 :: L2) :: k):=by
    intro v; rw[qa2,hoj]; rfl
   rw[hg,<-hfin]
   simp[stepG.apply,hrun]
  ·rw[hrun] at h
   cases x<;>exact h.elim
theorem pM {Q:Exit->Act->List Frame->World->Prop} {a:Act} {cs cs':List Frame} {w:World} {id i0 d:Nat} {ops:Array Oper} {o0:Oper} {v:Value} (hm:P.follows .mixedOrders=true) (ho:ops[i0]? = some o0) (hd:mh o0=some d) (hna:o0.after=#[]) (hok:IC ops i0 d=true) (hFa:∀ f,F.fn f) (hro:F.round=none) (hds:d<a.tmps.size)
  (hrec:recoverD cs=some (v,cs')∨(recoverD cs=none/\cs'=cs/\v=.nilIface)) (h:LW F n P (kf ops i0 d) (fun e a' w'=>match e with | .panic _=>False | e=>Q e a' cs' w') (a.put (some d) v) w):(Code.region id ops true).wpSIn F n P Q a cs w:=by
 intro b k hb hr hFb hroom
 have h:=h (w.tape w.drawn (.order b.fn id))
 have hs:∀ (ops:Array Oper) t,Region.schedule (P.follows .mixedOrders) ops t=Region.linearise.go .any ops ops.size t (Array.replicate ops.size false) []:=fun ops t=>by
  simp only[Region.schedule,hm,qbx,ZS]; rfl
 have hsz:(Array.replicate ops.size false).size=ops.size:=r8
 have hrep:∀ i,(Array.replicate ops.size false).getD i false=false:=fun i=>by
  by_cases hi:i<ops.size<;>simp[hi]
 have hi0:=(XU.1 ho).1
 have i0l:(lone (b.atR a (.code (.region id ops true) :: k)) cs w).fenced P F:=qa8 hFb hroom rfl
 have hL:=hs ops (w.tape w.drawn (.order b.fn id))
 have hL':Region.schedule (P.follows .mixedOrders) (kf ops i0 d) (w.tape w.drawn (.order b.fn id))=Region.schedule (P.follows .mixedOrders) ops (w.tape w.drawn (.order b.fn id)):=by
  have:=xM (d:=d) ho (w.tape w.drawn (.order b.fn id))
  simp only[Region.schedule,hm,qbx,ZS]
  exact this
 rw[hL'] at h
 have hmem:i0∈Region.schedule (P.follows .mixedOrders) ops (w.tape w.drawn (.order b.fn id)):=by
  rw[hL]
  refine DC ho (fun e he _=>by rw[hna] at he; simp at he) _ _ _ hsz ?_ (by simp[hi0])
  unfold A2
  exact Yb (qax _ _) r8
 obtain ⟨L1,L2,hLe,hn1⟩:=List.eq_append_cons_of_mem hmem
 have hn2:i0 ∉ L2:=Ay _ _ _ L1 L2 hsz (hL ▸ hLe)
 have hgo:Region.linearise.go .any ops ops.size (w.tape w.drawn (.order b.fn id)) (Array.replicate ops.size false) []=L1++i0 :: L2:=hL ▸ hLe
 have hload:∀ (p:Nat) (j:Nat),L1[p]? = some j->∃ o,ops[j]? = some o/\jy d o=true:=by
  intro p
  induction p using Nat.strongRecOn with
  | _ p ih=>
   intro j hp
   have hjm:j∈L1:=Yh hp
   obtain ⟨o,hoj⟩:=Az _ _ _ j (hgo ▸ List.mem_append_left _ hjm)
   have hjs:=(XU.1 hoj).1
   have hck:=X0.1 hok j (Yj.2 hjs)
   rw[hoj] at hck
   simp only[YP] at hck
   rcases hck with h1 | h1 | h1
   ·exact absurd (X3 h1 ▸ hjm) hn1
   ·exact⟨o,hoj,h1⟩
   ·exfalso
    obtain ⟨q,hq1,hq2⟩:=Array.any_eq_true.1 h1
    rw[XQ,YQ] at hq2
    obtain ⟨hp1,hpe⟩:=XS.1 hp
    have hsplit:L1++i0 :: L2=L1.take p++j :: (L1.drop (p+1)++i0 :: L2):=by
     rw[<-Yz,<-hpe,<-X1 hp1,<-Yx,Zb]
    rcases DB _ _ _ (L1.take p) j _ (hgo.trans hsplit) o o.after[q] hoj (Array.getElem_mem _) hq2.1 with h2 | h2
    ·rw[hrep] at h2; cases h2
    ·obtain ⟨x,hx,hxe⟩:=YI h2
     rw[List.getElem_take] at hxe
     have hxp:x<p:=by rw[YG] at hx; omega
     obtain ⟨o',ho',hl'⟩:=ih x hxp o.after[q].on (by rw[<-hxe]; exact XN _)
     unfold xH at hq2
     rw[ho'] at hq2
     simp only at hq2
     rw[hl'] at hq2
     exact absurd hq2.2 r8
 rw[hLe] at h
 obtain ⟨e,a',cs2,w2,hl,q,harr⟩:=AU ho hd hFa hro hrec hn2 L1 a _ (fun j hj=>by
  obtain ⟨p,hp,hpe⟩:=YI hj
  exact hload p j (by rw[<-hpe]; exact XN hp)) hds h b k hb hr hFb hroom
 refine⟨e,a',cs2,w2,hl,q,.of_steps (.one i0l ?_) harr⟩
 rw[<-hLe]
 exact stepR_region_draw
end
section
open Go.RowKit
variable {H H':aC} {g g':Gh} {w0 w w':World} {cx:Cx} {s:St} {a:Act} {F:Fence} {n:Nat} {N lo:Nat} {mb:Mb} {H0:aC} {gs:Gh} {ws:World}
theorem lA (fr:List (Nat×A)) (keep:List Nat) (t:Nat):look (keep.map fun t=>(t,look fr t)) t=look fr t∨look (keep.map fun t=>(t,look fr t)) t=.any:=by
 induction keep with
 | nil=>exact .inr rfl
 | cons u ks ih=>
  rw[YW,ez]
  split
  ·rename_i e; rw[e]; exact .inl rfl
  ·exact ih
theorem vW (fr:List (Nat×A)) (keep:List Nat) (t:Nat) (ht:look (keep.map fun t=>(t,look fr t)) t≠.any):t∈keep:=by
 induction keep with
 | nil=>exact absurd rfl ht
 | cons u ks ih=>
  rw[YW,ez] at ht
  split at ht
  ·rename_i e; subst e; simp
  ·exact Zt _ (ih ht)
theorem Good.dJ (hg:Good cx N mb lo H0 gs ws w0 s g a w) {keep:List Nat}:Good cx N mb lo H0 gs ws w0 (dJ keep s) g a w:=
 ⟨⟨hg.sr.rel,fun t=>by
  show VR s.H g w (look (keep.map fun t=>(t,look s.fr t)) t) _
  rcases lA s.fr keep t with h | h
  ·rw[h]; exact hg.sr.fr t
  ·rw[h,VR]; trivial,hg.sr.gl⟩,hg.ext,hg.len,hg.low,hg.siz,hg.dfr,hg.mbw,hg.st⟩
theorem Good.D7 (hg:Good cx N mb lo H0 gs ws w0 s g a w) {keep:List Nat} {L:Nat} (hL:H0.length<=L) (hLs:L<=s.H.length) {k:St->Option R} {r:R} (h:xO keep L s k=some r):∃ s' g',k s'=some r/\Good cx N mb lo H0 gs ws w0 s' g' a w/\s'.H.length=L:=by
 unfold xO at h
 obtain ⟨H',h1,h⟩:=bE h
 obtain ⟨h2,h⟩:=bu h
 have lA:=lA s.fr keep
 have vW:=vW s.fr keep
 unfold trim at h1
 rw[bG] at h1
 split at h1
 ·rename_i hl
  have hl:s.H.length=L:=by simpa using hl
  cases h1
  refine⟨_,g,h,⟨⟨hg.sr.rel,fun t=>?_,hg.sr.gl⟩,hg.ext,hg.len,hg.low,hg.siz,hg.dfr,hg.mbw,hg.st⟩,hl⟩
  rcases lA t with h | h
  ·rw[h]; exact hg.sr.fr t
  ·rw[h,VR]; trivial
 ·rename_i hl
  obtain ⟨hall,h1⟩:=bu h1
  cases h1
  have hl:¬ s.H.length=L:=by simpa using hl
  have hk:keep.all (fun t=>A.under L (look s.fr t))=true:=by
   have hb:Nat.beq s.H.length L=false:=by
    cases hb:Nat.beq s.H.length L with
    | true=>exact absurd (X3 hb) hl
    | false=>rfl
   rw[hb] at h2
   exact na _ _ _ h2
  have hu:∀ (b:Nat) B,b<L->s.H[b]? = some B->B.under L=true:=fun b B hb hB=>by
   refine X0.1 hall B (Yh (i:=b) ?_)
   rw[Yc,XX hb]; exact hB
  obtain ⟨r1,ag⟩:=hg.sr.rel.cut hLs hu
  refine⟨_,g.cut L,h,⟨⟨r1,fun t=>?_,fun G vs hG=>(hg.sr.gl G vs hG).to ag⟩,hg.ext.cut hL,y6,fun b hb hb'=>by rw[Yc,XX o3]; exact hg.low b hb hb',hg.siz,hg.dfr,hg.mbw,hg.st⟩,y6⟩
  rcases lA t with h | h
  ·rw[h]
   by_cases hany:look s.fr t=.any
   ·rw[hany,VR]; trivial
   ·have htk:=vW t (by rw[h]; exact hany)
    exact VR.to ag _ _ (X0.1 hk t htk) (hg.sr.fr t)
  ·rw[h,VR]; trivial
theorem rX (lo:Nat):∀ (ps:List (Nat×Nat×Nat)) {s:St} {g:Gh},Good cx N mb lo H0 gs ws w0 s g a w->∃ g',Good cx N mb lo H0 gs ws w0 (eo lo (zg ps) s) g' a w/\(eo lo (zg ps) s).H.length=s.H.length
 | [],s,g,h=>⟨g,h,rfl⟩
 | p :: ps,s,g,h=>by
  unfold zg
  split
  ·rename_i he
   obtain ⟨g',h1,_,h2⟩:=h.nY p
   obtain ⟨g'',h3,h4⟩:=rX lo ps h1
   exact⟨g'',h3,h4.trans (h2 he)⟩
  ·exact rX lo ps h
theorem Good.norm (hg:Good cx N mb lo H0 gs ws w0 s g a w) {keep:List Nat} {acts:List (Nat×Nat×Nat)} {n L:Nat} (hL:H0.length<=n) (hnL:n<=L) (hr:yg acts≠none->n+1<=L) (hLs:L<=s.H.length) {k:St->Option R} {r:R} (h:D6 lo keep acts L s k=some r):∃ s' g',k s'=some r/\Good cx N mb lo H0 gs ws w0 s' g' a w/\s'.H.length=L:=by
 obtain ⟨g',h1,h2⟩:=rX lo acts hg
 unfold D6 at h
 split at h
 ·exact h1.D7 o3 o3 h
 ·rename_i p hp
  have hr:n+1<=L:=hr (by rw[hp]; exact Option.some_ne_none p)
  unfold Iz at h
  rw[bG] at h
  split at h
  ·obtain ⟨s2,g2,h3,h4,h5⟩:=h1.D7 (L:=L - 1) o3 o3 h
   obtain ⟨h6,h3⟩:=bu h3
   obtain ⟨g3,h7,_,_⟩:=h4.nY p
   exact⟨_,g3,h3,h7.dJ,X3 h6⟩
  ·exact h1.D7 o3 o3 h
theorem qa {p:Prop} {a b:Code} (h:p∨(ju a&&ju b)=true):(p∨ju a=true)/\(p∨ju b=true):=by
 rcases h with h | h
 ·exact⟨.inl h,.inl h⟩
 ·rw[XQ] at h; exact⟨.inr h.1,.inr h.2⟩
def qO (cx:Cx) (rg:bo->bo):Prop:=∀ (Bs:aC->Gh->World->Prop) (base:bo),oQ cx Bs base->eh cx Bs (rg base)
theorem Bq {P:Program} {x:A} {v:Value} {gf:Nat} {cap:List A} (h:Jn P x=some (gf,cap)) (hv:VR H g w x v):cK P gf=true/\∃ es:Array Value,v=.func (.func gf) #[] es/\bB H g w cap es.toList:=by
 unfold Jn at h
 split at h
 ·obtain ⟨h1,h⟩:=bu h
  cases h
  rw[VR] at hv
  obtain ⟨ds,es,e1,e2,e3⟩:=hv
  rw[bB] at e2
  have:ds=#[]:=by apply ZF; simpa using e2
  subst this
  exact⟨h1,es,e1,e3⟩
 ·cases h
theorem pa {P:Program} {k:Nat} (hk:cK P k=true) (args:Array Value) (w:World):(callFunc k args).run P w=.ok (.enter k args) w:=by
 unfold cK at hk
 cases hf:P.funcs[k]? with
 | none=>rw[hf] at hk; cases hk
 | some fn=>
  rw[hf] at hk
  simp only[XQ,YQ] at hk
  have h1:¬ fn.body=none:=by intro hb; rw[hb] at hk; simp at hk
  have h2:¬ fn.name = "runtime.NumGoroutine" := by simpa using hk.2
  simp[callFunc,program,Sem.run,hf,h1,h2]
theorem gQ {P:Program} {b:Frame} {a:Act} {k:List Item} {cs:List Frame} {w:World} {c:Code}:step P (lone (b.atR a (.code (.scope c) :: k)) cs w)=.next (lone (b.atR a (.code c :: .inScope c :: k)) cs w):=
 qaG (by simp[stepG,stepG.exec,Frame.atR])
theorem tL {P:Program} {b:Frame} {a:Act} {k:List Item} {cs:List Frame} {w:World} {c:Code}:step P (lone (b.atR a (.inScope c :: k)) cs w)=.next (lone (b.atR a k) cs w):=
 qaG (by simp[stepG,stepG.exec,Frame.atR])
theorem zJ {F:Fence} {n:Nat} {P:Program} {a:Act} {w:World} {Q:Exit->Act->World->Prop} {c:Code} (h:c.wpIn F n P (fun e a w=>match e with | .goto _=>False | e=>Q e a w) a w):(Code.scope c).wpIn F n P Q a w:=by
 intro b k cs hro hb hr
 have h0:(lone (b.atR a (.code (.scope c) :: k)) cs w).fenced P F:=qa8 hb hr rfl
 obtain ⟨e,a₁,w₁,hq,harr⟩:=h b (.inScope c :: k) cs hro hb hr
 cases e with
 | normal=>exact⟨.normal,a₁,w₁,hq,.head h0 gQ (StepsIn.trans harr (.one (qa8 hb hr rfl) tL))⟩
 | exit id'=>
  have hx:exitTo id' (.inScope c :: k)=exitTo id' k:=by simp[exitTo]
  exact⟨.exit id',a₁,w₁,hq,fun k' hk=>.head h0 gQ (harr.1 k' (by rw[hx]; exact hk)),
   fun hr' hk=>let ⟨k₁,h1,h2⟩:=harr.2 hr' (by rw[hx]; exact hk); ⟨k₁,h1,.head h0 gQ h2⟩⟩
 | goto l=>exact hq.elim
 | ret=>exact⟨_,a₁,w₁,hq,.of_steps (.one h0 gQ) harr⟩
 | panic ch=>exact⟨_,a₁,w₁,hq,.of_steps (.one h0 gQ) harr⟩
 | outgrown=>exact⟨_,a₁,w₁,hq,.of_steps (.one h0 gQ) harr⟩
theorem po {Bs:aC->Gh->World->Prop} {call:bo} (hcall:eh cx Bs call) (hb0:Bs H0 gs ws) (horc:jK cx) {F:Fence} {n:Nat} (hF:gk F) (hmx:cx.P.follows .mixedOrders=true) {f:Nat} {ops:Array Oper} {k:E->St->Option R} {r:R} {Q:Exit->Act->World->Prop}
  (hg:Good cx N mb lo H0 gs ws w0 s g a w) (h:vD cx call f lo N ops s k=some r)
  (hk:∀ s' g' a' w',Good cx N mb lo H0 gs ws w0 s' g' a' w'->k .normal s'=some r->Q .normal a' w')
  (hp:∀ x s' g' a' w' c,Good cx N mb lo H0 gs ws w0 s' g' a' w'->VR s'.H g' w' x c->k (.pan x) s'=some r->Q (.panic [{ v:=c,recovered:=false }]) a' w'):LW F n cx.P ops Q a w:=by
 unfold vD at h
 obtain ⟨hd,h⟩:=bu h
 have hd':∀ o∈ops.toList,∀ d,o.dst=some d->d<N:=fun o ho d hod=>by
  have:=X0.1 hd o ho
  rw[hod] at this; simpa using this
 cases hci:I8 cx ops with
 | some c=>
  rw[hci] at h
  exact(xj (f:=f) hcall hb0 horc hF hmx hg hd' h hk hp)
 | none=>
 rw[hci] at h
 replace h:=bu h
 obtain ⟨lU,h⟩:=h
 replace h:=bE h
 obtain ⟨m,hm,h⟩:=h
 have hmt:ft ops m=true:=by
  unfold qh at hm
  exact List.find?_some hm
 rw[bG] at h
 split at h
 ·have htk:∀ j o,(ops.toList.take m)[j]? = some o->ops[0+j]? = some o:=fun j o ho=>by
   rw[Yc] at ho
   split at ho
   ·rw[YB]; rw[Yt] at ho; exact ho
   ·cases ho
  have hm2:m<=ops.size:=by
   simp only[ft,XQ,XV] at hmt
   exact hmt.1.1
  have htl:(ops.toList.take m).length=m:=by rw[YG]; simp; omega
  rw[bG] at h
  split at h
  ·rename_i hch
   exact(nS (f:=f) (m:=m) hcall hb0 horc hF hmx lU hmt (fun i j h1 h2 h3 h4 _ _=>yP hch h1 h2 h3 h4) KD.none hg hd' (fun s h=>iC _ _ _ h) h hk hp)
  obtain ⟨hch,h⟩:=bu h
  obtain ⟨fl,H1,h,hfl,_,hno⟩:=nZ (ops:=ops) (m:=m) (ops.toList.take m) 0 s.H _ htk o3 h
  have hnf:∀ {i},i<m->cU i fl=none->sn cx f ops i=false:=fun {i} hi hn=>hno i hn (Ya _) o3
  exact(nS (f:=f) (m:=m) hcall hb0 horc hF hmx lU hmt (fun i j h1 h2 h3 h4 h5 h6=>w7 hch h1 h2 h3 h4 (hnf o3 h5) (hnf h1 h6)) hfl hg hd' (fun s h=>iC _ _ _ h) h hk hp)
 exact(vB (f:=f) (m:=m) hcall hb0 horc hF hmx lU hmt hg hd' (n7 (fun s h=>iC _ _ _ h) (p6 _ _ _ h)) hk hp)
theorem dD {Bs:aC->Gh->World->Prop} {call:bo} {rg:bo->bo} (hcall:eh cx Bs call) (hrg:qO cx rg) (horc:jK cx) (hmx:cx.P.follows .mixedOrders=true) {nf f:Nat}:∀ (c:Code) (F:Fence) (n:Nat) (mb:Mb) (w0:World) (r:R) (H0:aC) (gs:Gh) (ws:World) (k:E->St->Option R) (Q:Exit->Act->World->Prop) (s:St) (g:Gh) (a:Act) (w:World),gk F->((F.round=none/\mb.free=true)∨ju c=true)->Bs H0 gs ws->Good cx N mb lo H0 gs ws w0 s g a w->oM cx call rg nf f lo N c s k=some r ->
  (∀ e e' s' g' a' w',Good cx N mb lo H0 gs ws w0 s' g' a' w'->ER s' g' w' e e'->k e s'=some r->Q e' a' w')->c.wpIn F n cx.P Q a w
 | .skip,F,n,mb,w0,r,H0,gs,ws,k,Q,s,g,a,w,hF,hro,hb0,hg,h,hk=>wpIn_skip (hk .normal .normal _ _ _ _ hg trivial h)
 | .label l,F,n,mb,w0,r,H0,gs,ws,k,Q,s,g,a,w,hF,hro,hb0,hg,h,hk=>wpIn_label (hk .normal .normal _ _ _ _ hg trivial h)
 | .region id ops draw,F,n,mb,w0,r,H0,gs,ws,k,Q,s,g,a,w,hF,hro,hb0,hg,h,hk=>by
  rw[oM] at h
  obtain ⟨s,g1,hg,h⟩:=Good.Ih _ hg h
  replace h:=bu h
  obtain ⟨hd,h⟩:=h
  have hd':∀ o∈ops.toList,∀ d,o.dst=some d->d<N:=fun o ho d hod=>by
   have:=X0.1 hd o ho
   rw[hod] at this; simpa using this
  cases draw with
  | false=>
   exact wpIn_region_list (fJ (f:=f) (ops:=ops) hcall hb0 horc hF (fun s' g' a' w' hg' h'=>hk .normal .normal _ _ _ _ hg' trivial h') (fun x s' g' a' w' c hg' hv h'=>hk (.pan x) (.panic _) _ _ _ _ hg' ⟨c,rfl,hv⟩ h') _ s g1 a w hd' hg (iC _ _ _ h))
  | true=>
   simp only[XR] at h
   refine(po (f:=f) hcall hb0 horc hF hmx hg (k:=k) ?_ (fun s' g' a' w' hg' h'=>hk .normal .normal _ _ _ _ hg' trivial h') (fun x s' g' a' w' c hg' hv h'=>hk (.pan x) (.panic _) _ _ _ _ hg' ⟨c,rfl,hv⟩ h')).wpIn
   unfold vD
   rw[hd]
   exact h
 | .seq x y,F,n,mb,w0,r,H0,gs,ws,k,Q,s,g,a,w,hF,hro,hb0,hg,h,hk=>by
  rw[oM] at h
  cases hj:cx.join f (vS x) with
  | cons j js=>
   rw[hj] at h
   obtain ⟨r0,h0,h⟩:=bE (show ((oM cx call rg nf f lo N x s (Ig (j :: js))).bind fun r=>MM r fun l H=>G3 (j :: js) l fun fr=>oM cx call rg nf f lo N y ⟨fr,H⟩ k)=some r from h)
   refine qbD (dD hcall hrg horc hmx x F n mb w0 r0 H0 gs ws _ _ s g a w hF (qa hro).1 hb0 hg h0 fun e e' s' g' a' w' hg' he h'=>?_)
   cases e with
   | normal=>
    have hr:(Out.ret (.tup ((j :: js).map (look s'.fr))),s'.H)=r0:=Option.some.inj h'
    subst hr
    have h2:G3 (j :: js) ((j :: js).map (look s'.fr)) (fun fr=>oM cx call rg nf f lo N y ⟨fr,s'.H⟩ k)=some r:=h
    rw[A1] at h2
    cases e'<;>first
     | exact dD hcall hrg horc hmx y F n mb w0 r H0 gs ws k Q (dJ (j :: js) s') g' a' w' hF (qa hro).2 hb0 hg'.dJ h2 hk
     | exact he.elim
   | _=>cases h'
  | nil=>
  rw[hj] at h
  replace h:oM cx call rg nf f lo N x s (fun e s'=>match e with | .normal=>oM cx call rg nf f lo N y s' k | e=>k e s')=some r:=h
  refine qbD (dD hcall hrg horc hmx x F n mb w0 r H0 gs ws _ _ s g a w hF (qa hro).1 hb0 hg h fun e e' s' g' a' w' hg' he h'=>?_)
  cases e with
  | normal=>cases e'<;>first
    | exact dD hcall hrg horc hmx y F n mb w0 r H0 gs ws k Q s' g' a' w' hF (qa hro).2 hb0 hg' h' hk
    | exact he.elim
  | exit i=>cases e'<;>first
    | exact hk _ _ _ _ _ _ hg' he h'
    | exact he.elim
  | goto i=>cases e'<;>first
    | exact hk _ _ _ _ _ _ hg' he h'
    | exact he.elim
  | ret=>cases e'<;>first
    | exact hk _ _ _ _ _ _ hg' he h'
    | exact he.elim
  | pan x=>cases e'<;>first
    | exact hk _ _ _ _ _ _ hg' he h'
    | exact he.elim
 | .cond c x y,F,n,mb,w0,r,H0,gs,ws,k,Q,s,g,a,w,hF,hro,hb0,hg,h,hk=>by
  rw[oM] at h
  obtain ⟨b,hv,h⟩:=Bd h (oG (x:=c) (fun t _=>hg.sr.fr t) hg.sr.gl)
  refine wpIn_cond hv ?_
  cases b
  ·exact dD hcall hrg horc hmx y F n mb w0 r H0 gs ws k Q s g a w hF (qa hro).2 hb0 hg h hk
  ·exact dD hcall hrg horc hmx x F n mb w0 r H0 gs ws k Q s g a w hF (qa hro).1 hb0 hg h hk
 | .block id c,F,n,mb,w0,r,H0,gs,ws,k,Q,s,g,a,w,hF,hro,hb0,hg,h,hk=>by
  rw[oM] at h
  refine wpIn_block (dD hcall hrg horc hmx c F n mb w0 r H0 gs ws _ _ s g a w hF hro hb0 hg h fun e e' s' g' a' w' hg' he h'=>?_)
  cases e with
  | exit i=>cases e' with
   | exit j=>
    obtain rfl:i=j:=he
    simp only[Exit.inBlock]
    simp only[bG] at h'
    split at h'
    ·rename_i hij
     rw[XX (by simpa using hij)]
     exact hk .normal .normal _ _ _ _ hg' trivial h'
    ·rename_i hij
     rw[XW (by simpa using hij)]
     exact hk (.exit i) (.exit i) _ _ _ _ hg' rfl h'
   | _=>exact he.elim
  | normal=>cases e'<;>first
    | exact hk _ .normal _ _ _ _ hg' he h'
    | exact he.elim
  | goto i=>cases e'<;>first
    | exact hk _ (.goto _) _ _ _ _ hg' he h'
    | exact he.elim
  | ret=>cases e'<;>first
    | exact hk _ .ret _ _ _ _ hg' he h'
    | exact he.elim
  | pan x=>cases e'<;>first
    | exact hk _ (.panic _) _ _ _ _ hg' he h'
    | exact he.elim
 | .scope c,F,n,mb,w0,r,H0,gs,ws,k,Q,s,g,a,w,hF,hro,hb0,hg,h,hk=>by
  rw[oM] at h
  have hro':(F.round=none/\mb.free=true)∨ju c=true:=by
   rcases hro with h1 | h1
   ·exact .inl h1
   ·cases h1
  refine zJ (dD hcall hrg horc hmx c F n mb w0 r H0 gs ws _ _ s g a w hF hro' hb0 hg h fun e e' s' g' a' w' hg' he h'=>?_)
  cases e with
  | exit i=>cases e'<;>first
    | exact hk _ (.exit _) _ _ _ _ hg' he h'
    | exact he.elim
  | normal=>cases e'<;>first
    | exact hk _ .normal _ _ _ _ hg' he h'
    | exact he.elim
  | goto i=>cases h'
  | ret=>cases e'<;>first
    | exact hk _ .ret _ _ _ _ hg' he h'
    | exact he.elim
  | pan x=>cases e'<;>first
    | exact hk _ (.panic _) _ _ _ _ hg' he h'
    | exact he.elim
 | .loop c,F,n,mb,w0,r,H0,gs,ws,k,Q,s,g,a,w,hF,hro,hb0,hg,h,hk=>by
  rw[oM] at h
  unfold EI at h
  have hrst:=rp lo (cx.acts f (cf c)) (dJ (cx.keep f (cf c)) s)
  obtain ⟨g0,hg0,hl0⟩:=hg.dJ (keep:=cx.keep f (cf c)) |>.acts (cx.acts f (cf c))
  have rounds:∀ (m:Nat) (s':St) (g':Gh) (a':Act) (w':World),Good cx N mb lo H0 gs ws w0 s' g' a' w'->(eo lo (cx.acts f (cf c)) (dJ (cx.keep f (cf c)) s)).H.length<=s'.H.length->iter lo (cx.keep f (cf c)) (cx.acts f (cf c)) (eo lo (cx.acts f (cf c)) (dJ (cx.keep f (cf c)) s)).H.length (fun s k=>oM cx call rg nf f lo N c s k) (fun i s=>k (.exit i) s) (fun l s=>k (.goto l) s) (fun s=>k .ret s) (fun a s=>k (.pan a) s) m s'=some r->Code.roundsIn F n cx.P c Q m a' w':=by
   intro m
   induction m with
   | zero=>intro s' g' a' w' _ _ h; cases h
   | succ m ih=>
    intro s1 g1 a' w' hg1 hl h
    rw[iter] at h
    rw[roundsIn_succ]
    refine dD hcall hrg horc hmx c F n mb w0 r s1.H g1 w' _ _ s1 g1 a' w' hF hro (hcall.up _ _ _ _ _ _ hb0 hg1.ext) ⟨hg1.sr,Ext.refl hg1.sr.rel,XP _,fun _ _ _=>rfl,hg1.siz,hg1.dfr,hg1.mbw,rfl⟩ h fun e e' s2 g2 a2 w2 hg2 he h2=>?_
    have hg3:Good cx N mb lo H0 gs ws w0 s2 g2 a2 w2:=⟨hg2.sr,hg1.ext.trans hg2.ext,Yb hg1.len hg2.len,fun b hb hb'=>(hg2.low b hb (X5 hb' hg1.len)).trans (hg1.low b hb hb'),hg2.siz,hg2.dfr,hg2.mbw,hg2.st.trans hg1.st⟩
    have hlen2:(eo lo (cx.acts f (cf c)) (dJ (cx.keep f (cf c)) s)).H.length<=s2.H.length:=by have:=hg2.len; omega
    have hg4:Good cx N mb lo H0 gs ws w0 (dJ (cx.keep f (cf c)) s2) g2 a2 w2:=hg3.dJ
    cases e with
    | normal=>cases e'<;>first
      | (obtain ⟨s3,g3,h3,hg5,hl5⟩:=hg3.norm hg.len hl0 hrst hlen2 h2
         exact ih s3 g3 a2 w2 hg5 o3 h3)
      | exact he.elim
    | exit i=>cases e'<;>first
      | exact hk (.exit i) (.exit _) _ _ _ _ hg4 he h2
      | exact he.elim
    | goto i=>cases e'<;>first
      | exact hk (.goto i) (.goto _) _ _ _ _ hg4 he h2
      | exact he.elim
    | ret=>cases e'<;>first
      | exact hk .ret .ret _ _ _ _ hg4 he h2
      | exact he.elim
    | pan x=>cases e'<;>first
      | exact hk (.pan x) (.panic _) _ _ _ _ hg4 he h2
      | exact he.elim
  exact wpIn_loop_rounds nf (rounds nf (dJ (cx.keep f (cf c)) (eo lo (cx.acts f (cf c)) (dJ (cx.keep f (cf c)) s))) g0 a w hg0.dJ (XP _) h)
 | .exit id,F,n,mb,w0,r,H0,gs,ws,k,Q,s,g,a,w,hF,hro,hb0,hg,h,hk=>wpIn_exit (hk (.exit id) (.exit id) _ _ _ _ hg rfl h)
 | .goto l,F,n,mb,w0,r,H0,gs,ws,k,Q,s,g,a,w,hF,hro,hb0,hg,h,hk=>wpIn_goto (hk (.goto l) (.goto l) _ _ _ _ hg rfl h)
 | .ret,F,n,mb,w0,r,H0,gs,ws,k,Q,s,g,a,w,hF,hro,hb0,hg,h,hk=>wpIn_ret (hk .ret .ret _ _ _ _ hg trivial h)
 | .rangeFunc gop ps asg body,F,n,mb,w0,r,H0,gs,ws,k,Q,s,g,a,w,hF,hro,hb0,hg,h,hk=>by
  rw[oM] at h
  unfold nj at h
  obtain ⟨g,hg,_⟩:=hg.acts (cx.acts f (zD body))
  generalize eo lo (cx.acts f (zD body)) s=s at h hg
  obtain ⟨⟨gf,cap⟩,hfn,h⟩:=bE h
  obtain ⟨lU,h⟩:=bu h
  obtain ⟨⟨out,H2⟩,hcl,h⟩:=bE h
  simp only[XQ] at lU
  obtain ⟨⟨⟨c2,c3⟩,c4⟩,c1⟩:=lU
  have hlo:lo<=s.H.length:=by simpa [qap] using c1
  obtain ⟨hro,hfree⟩:F.round=none/\mb.free=true:=hro.elim id (fun h=>by cases h)
  obtain ⟨hcb,es,hgv,hcv⟩:=Bq hfn (oG (x:=gop) (fun t _=>hg.sr.fr t) hg.sr.gl)
  refine wpIn_rangeFunc ?_
  intro fn hfnF
  rw[hro]
  obtain ⟨rec0,hrec⟩:∃ rec0:Loop,rec0={ state:=.ready,pending:=none,fn:=fn,tmps:=a.tmps,params:=ps,assign:=asg,body:=body,defers:=w.heap.size }:=⟨_,rfl⟩
  have hrr:jc rec0 .ready=rec0:=by rw[hrec]; rfl
  obtain ⟨W1,hW1⟩:∃ W1,(w.alloc (.deferred (some []))).alloc (.loop rec0)=W1:=⟨_,rfl⟩
  obtain ⟨hr1,he1⟩:=hg.sr.rel.begin rec0 hrr
  rw[hW1] at hr1 he1
  obtain ⟨g1,hg1⟩:∃ g1,(g.AH s.H.length rec0).put s.H.length (some (w.heap.size+1)) []=g1:=⟨_,rfl⟩
  have hmu1:g1.mu s.H.length=some (w.heap.size+1):=by rw[<-hg1]; exact Gh.bJ _ _ _ _
  have hlr1:g1.lr s.H.length=rec0:=by rw[<-hg1]; simp[Gh.put,Gh.AH]
  have hst1:g1.S=g.S:=by rw[<-hg1]; rfl
  rw[hg1] at hr1 he1
  have hB1:(s.H++[aO.rng .ready])[s.H.length]? = some (.rng .ready):=r8
  have hsz1:W1.heap.size=w.heap.size+2:=by rw[<-hW1]; simp
  have hD1:W1.heap[w.heap.size]? = some (.deferred (some [])):=by
   rw[<-hW1]; exact(Below.heap_alloc _ _ _ r8).trans (qaD w _)
  have hfr1:∀ t,VR s.H g w (look (dJ (cx.keep f (zD body)) s).fr t) (a.tmps.getD t undef):=fun t=>(hg.dJ (keep:=cx.keep f (zD body))).sr.fr t
  have hy:oQ cx (fun H g w=>Bs H g w/\Ext (s.H++[.rng .ready]) g1 W1 H g w) (Kf cx.P.funcs.size call s.H.length (roundOf (fun s k=>oM cx call rg nf f lo N asg s k) (fun s k=>oM cx call rg nf f lo N body s k) lo s.H.length ps.toList (dJ (cx.keep f (zD body)) s).fr)):=by
   refine⟨fun H g w H' g' w' hb he=>⟨hcall.up _ _ _ _ _ _ hb.1 he,hb.2.trans he⟩,fun b args H lo' r' hy F' n' l g' w0' w' cargs hF' hb hr' hgl' hv' hmu'=>?_⟩
   unfold Kf at hy
   rw[bG] at hy
   split at hy
   ·rename_i hbb
    have hbb:b=s.H.length:=by have:=X3 hbb; omega
    subst hbb
    have hB':∃ st,H[s.H.length]? = some (.rng st):=by
     obtain ⟨B',hB',ht⟩:=hb.2.blk _ _ hB1
     cases B' with
     | rng st=>exact⟨st,hB'⟩
     | dead=>have h1:=hr'.blk _ _ hB'; rw[show g'.mu s.H.length=none from h1] at hmu'; cases hmu'
     | box _=>exact ht.elim
     | mp _ _ _=>exact ht.elim
     | hole=>exact ht.elim
     | row wr _ _=>cases wr<;>exact ht.elim
    obtain ⟨st',hB'⟩:=hB'
    obtain ⟨m1,m2⟩:=hb.2.J0 hB1 hB'
    have hex:=he1.trans hb.2
    exact yf (rec0:=rec0) (Bs:=Bs)
     (fun F n mb w0 r H0 gs ws k Q s g a w hF hb0 hg h hk=>dD hcall hrg horc hmx asg F n mb w0 r H0 gs ws k Q s g a w hF (.inr c3) hb0 hg h hk)
     (fun F n mb w0 r H0 gs ws k Q s g a w hF hb0 hg h hk=>dD hcall hrg horc hmx body F n mb w0 r H0 gs ws k Q s g a w hF (.inr c4) hb0 hg h hk)
     c2 hlo (by rw[hrec]) (by rw[hrec]) (by rw[hrec]) (by rw[hrec]; exact hg.siz) hy hF' hr' hb.1 hgl' (fun t=>by rw[hrec]; exact VR.ext hex _ _ (hfr1 t)) (m2.trans hlr1) hv' hmu'
   ·exact hcall.yl b args H lo' r' hy F' n' l g' w0' w' cargs hF' hb.1 hr' hgl' hv' hmu'
  have hv1:bB (s.H++[.rng .ready]) g1 W1 (.yld s.H.length :: cap) (.func (.yield (w.heap.size+1)) #[] #[] :: es.toList):=by
   rw[bB]
   refine⟨_,_,rfl,?_,bB.ext he1 _ _ hcv⟩
   rw[VR,hB1]
   exact⟨_,hmu1,rfl⟩
  have hgl1:∀ (G:Nat) (vs:List Value),cx.glob G=some vs->bM (s.H++[.rng .ready]) g1 W1 G 0 vs:=fun G vs hG=>(hg.sr.gl G vs hG).ext he1
  have hci:=(hrg _ _ hy).fn gf _ _ lo (out,H2) (iW hcb) hcl F (n - 1) g1 w0 W1 _ hF hro ⟨hcall.up _ _ _ _ _ _ hb0 (hg.ext.trans he1),Ext.refl hr1⟩ hr1 hgl1 hv1
  refine⟨w.heap.size+1,[{ target:=.collected w.heap.size,args:=#[] }],W1,{ target:=.fn (.func gf) es,args:=#[.func (.yield (w.heap.size+1)) #[] #[]] },W1,gf,
   #[.func (.yield (w.heap.size + 1)) #[] #[]] ++ es, W1, ?_, ?_, ?_, ?_, fun h => (by rw [hF.1] at h; cases h), ?_⟩
  ·rw[<-hW1,hrec]; exact run_enterLoop_outer _ _ _ _ _
  ·simp only[resolve,hgv]
   simp[go_sem]
  ·intro f' _; exact hF.2.1 f'
  ·simp[invoke,pa hcb]
  ·have ea:(Value.func (.yield (w.heap.size+1)) #[] #[] :: es.toList).toArray=#[.func (.yield (w.heap.size+1)) #[] #[]]++es:=by apply ZF; simp
   rw[<-ea]
   refine hci.mono ?_
   rintro e W2 ⟨g2,e1,e2,e3,e4,e6,e5⟩
   cases out with
   | pan x=>cases h
   | ret x=>
    cases e with
    | panicked _=>exact e5.elim
    | outgrown=>exact e5.elim
    | returned c=>
     have fin:∀ (st:E9) (e:E),st≠.busy->H2[s.H.length]? = some (.rng st)->k e ⟨s.fr,H2.set s.H.length .dead⟩=some r ->
       ∃ W3,(Instr.endLoop (w.heap.size+1)).run cx.P W2=.ok (jc rec0 st).pending W3/\∃ g3,Good cx N mb lo H0 gs ws w0 ⟨s.fr,H2.set s.H.length .dead⟩ g3 { a with defers:={ target:=.collected w.heap.size,args:=#[] } :: a.defers } W3:=fun st e hnb hB2 h=>by
      obtain ⟨m1,m2⟩:=e2.J0 hB1 hB2
      obtain ⟨l2,hl2,hw2⟩:=e1.blk _ _ hB2
      rw[m1,hmu1] at hl2; cases hl2
      rw[m2,hlr1] at hw2
      have hel:=run_endLoop (P:=cx.P) hw2 (by cases st<;>first | (intro h; cases h; done) | exact absurd rfl hnb)
      obtain ⟨p1,p2⟩:=e1.rng hB2 .dead none (.loop { jc rec0 st with state:=.exhausted }) (m1.trans hmu1) hw2 (.inr ⟨rfl,rfl⟩)
      have hex:=he1.trans (e2.trans p2)
      have hlen:s.H.length<=H2.length:=by have:(s.H++[aO.rng .ready]).length<=H2.length:=e3; simp at this; omega
      refine⟨_,hel,_,⟨p1,fun t=>VR.ext hex _ _ (hg.sr.fr t),fun G vs hG=>(hg.sr.gl G vs hG).ext hex⟩,hg.ext.trans hex,by simp; exact Yb hg.len hlen,fun c hc hc'=>?_,hg.siz,?_,Yb hg.mbw hex.size,?_⟩
      ·have hcs:c<s.H.length:=X5 hc' hg.len
       show (H2.set s.H.length .dead)[c]? = _
       rw[X4 o3,e4 c hc r9,X6 hcs]
       exact hg.low c hc hc'
      ·obtain ⟨ms,q1,q2,q3⟩:=hg.dfr
       refine⟨_ :: ms,by show _ :: a.defers=_; rw[q1]; rfl,Marks.cons (q2.mc hex.kept) hg.mbw ((e2.trans p2).kept _ _ hD1) (fun r hr=>?_),fun h=>by rw[hfree] at h; cases h⟩
       have:=q2.lt hr
       omega
      ·show g2.S=gs.S
       rw[e6,hst1]; exact hg.st
     replace h:zE s.H.length H2 (fun e H=>k e ⟨s.fr,H⟩)=some r:=h
     unfold zE Eu at h
     split at h
     ·rename_i hB2
      obtain ⟨W3,hel,g3,hg3⟩:=fin .ready .normal r8 hB2 h
      exact⟨none,W3,hel,hk .normal .normal _ _ _ _ hg3 trivial h⟩
     ·rename_i i hB2
      obtain ⟨W3,hel,g3,hg3⟩:=fin (.done (.exit i)) (.exit i) r8 hB2 h
      exact⟨some (.exit i),W3,hel,wpIn_exit (hk (.exit i) (.exit i) _ _ _ _ hg3 rfl h)⟩
     ·rename_i i hB2
      obtain ⟨W3,hel,g3,hg3⟩:=fin (.done (.goto i)) (.goto i) r8 hB2 h
      exact⟨some (.goto i),W3,hel,wpIn_goto (hk (.goto i) (.goto i) _ _ _ _ hg3 rfl h)⟩
     ·rename_i hB2
      obtain ⟨W3,hel,g3,hg3⟩:=fin (.done .ret) .ret r8 hB2 h
      exact⟨some .ret,W3,hel,wpIn_ret (hk .ret .ret _ _ _ _ hg3 trivial h)⟩
     ·cases h
 | .refuse _,F,n,mb,w0,r,H0,gs,ws,k,Q,s,g,a,w,hF,hro,hb0,hg,h,hk=>by cases h
theorem zk (args:List A) (t:Nat):look (frame args) t=(args[t]?).getD .any:=by
 have gen:∀ (args:List A) (i t:Nat),look ((args.zipIdx i).map fun p=>(p.2,p.1)) t=if i<=t then (args[t - i]?).getD .any else .any:=by
  intro args
  induction args with
  | nil=>intro i t; simp[look]
  | cons x r ih=>
   intro i t
   rw[List.zipIdx_cons,YW,ez,ih]
   by_cases e:i=t
   ·subst e; simp
   ·rw[XW e]
    by_cases hlt:i<t
    ·rw[XX o3,XX o3]
     rw[show t - i=(t - (i+1))+1 by omega,qaq]
    ·rw[XW o3,XW o3]
 have:=gen args 0 t
 simpa [frame] using this
theorem tG {P:Program} {t:TypeId} {c d:Value} (h:(Instr.loadAt t c).run P w=.ok d w):(do loadVar t (<-asAddr c):Sem Value).run P w=.ok d w:=by
 unfold Instr.loadAt at h
 cases c with
 | pointer p=>cases p with
  | some p=>simpa [Instr.sureAddr,asAddr] using h
  | none=>simp[Instr.sureAddr,stuck,Sem.run,Result.andThen] at h
 | _=>simp[Instr.sureAddr,stuck,Sem.run,Result.andThen] at h
def Jx (tmps:Array Value):ResultVar->Sem Value
 | .tmp t=>pure (tmps.getD t undef)
 | .cell a t=>do loadVar t (<-asAddr (tmps.getD a undef))
theorem pq (hs:SR cx s g w0 a w) {r:ResultVar} {x:A} (h:rL cx s r=some x):∃ c,(Jx a.tmps r).run cx.P w=.ok c w/\VR s.H g w x c:=by
 cases r with
 | tmp t=>cases h; exact⟨_,rfl,hs.fr t⟩
 | cell b t=>
  obtain ⟨d,h1,h2⟩:=qo hs.rel h (hs.fr b)
  exact⟨d,tG h1,h2⟩
theorem pr (hs:SR cx s g w0 a w):∀ {rs:List ResultVar} {xs:List A},n8 cx s rs=some xs->∃ cs:List Value,(rs.mapM (Jx a.tmps)).run cx.P w=.ok cs w/\bB s.H g w xs cs/\cs.length=rs.length
 | [],xs,h=>by simp only[n8,YE] at h; subst h; exact⟨[],r8,u3,rfl⟩
 | r :: rs,xs,h=>by
  rw[n8] at h
  obtain ⟨y,hy,h⟩:=bE h
  obtain ⟨ys,hys,h⟩:=bE h
  cases h
  obtain ⟨c,h1,h2⟩:=pq hs hy
  obtain ⟨cs,h3,h4,h5⟩:=pr hs hys
  refine⟨c :: cs,?_,by rw[bB]; exact⟨c,cs,rfl,h2,h4⟩,by simp[h5]⟩
  rw[List.mapM_cons,Yv,h1]
  simp only[Ym,Yv,h3,ZU]
theorem zC (fn:Func) (tmps:Array Value):results fn tmps=(do let vs <-fn.results.mapM (Jx tmps); pure (if h:vs.size=1 then vs[0] else .tuple vs)):=by
 unfold results
 congr 1
theorem xi (hs:SR cx s g w0 a w) {fn:Func} {x:A} (h:As cx fn s=some x):∃ c,(results fn a.tmps).run cx.P w=.ok c w/\VR s.H g w x c:=by
 rw[zC,Array.mapM_eq_mapM_toList]
 unfold As at h
 split at h
 ·rename_i r hr
  obtain ⟨c,h1,h2⟩:=pq hs h
  refine⟨c,?_,h2⟩
  rw[hr]
  simp[h1]
 ·rename_i hne
  obtain ⟨xs,hxs,h⟩:=bE h
  cases h
  obtain ⟨cs,h1,h2,h3⟩:=pr hs hxs
  refine⟨.tuple cs.toArray,?_,by rw[VR]; exact⟨_,rfl,by simpa using h2⟩⟩
  have hn1:cs.length≠1:=fun h1'=>by
   obtain ⟨r,hr⟩:=List.length_eq_one_iff.1 (show fn.results.toList.length=1 by omega)
   exact hne r hr
  simp[h1,hn1]
theorem ry {k m:Nat} (h:k<m):Nat.ble m k=false:=by
 cases hb:Nat.ble m k with
 | false=>rfl
 | true=>rw[qap] at hb; omega
theorem Good.calm (hg:Good cx N mb lo H0 gs ws w0 s g a w) {B:Nat} (hB:ws.heap.size<=B) (hb:w0.heap.size<=B) (hc:cp B w w') (hl:∀ (k:Nat) (o:Loop),w.heap[k]? = some (.loop o)->w'.heap[k]? = some (.loop o)) (fr:Bool):Good cx N ⟨0,a.defers,fr⟩ lo H0 gs ws w0 s g a w':=
 have h0:=hg.sr.rel.w5 hc
 ⟨⟨hg.sr.rel.calm hb hc hl,fun t=>VR.fc h0 _ _ (hg.sr.fr t),fun G vs hG=>(hg.sr.gl G vs hG).fc h0⟩,hg.ext.calm hg.sr.rel hB hc,hg.len,hg.low,hg.siz,ix.start _ _ _ _,Ya _,hg.st⟩
theorem wY {fn:Func} {f:Nat} {r:R} (hg:Good cx N mb lo H0 gs ws w0 s g a w) (h:(nj (eo lo (cx.acts f 3000000) s) fun s=>lY cx fn s)=some r):∃ v,(results fn a.tmps).run cx.P w=.ok v w/\gi H0 gs w0 ws lo r (.returned v) w:=by
 obtain ⟨g1,hg',_⟩:=Good.acts (cx.acts f 3000000) hg
 replace h:lY cx fn (eo lo (cx.acts f 3000000) s)=some r:=h
 generalize eo lo (cx.acts f 3000000) s=s' at hg' h
 obtain ⟨x,hx,hrx⟩:=bE ((Bn cx fn s').symm.trans h)
 cases hrx
 obtain ⟨v,h1,h2⟩:=xi hg'.sr hx
 exact⟨v,h1,g1,hg'.sr.rel,hg'.ext,hg'.len,hg'.low,hg'.st,h2⟩
theorem rU {args:List A} {cargs:List Value} {m:Nat} (hv:bB H g w args cargs):∀ t,VR H g w (look (frame args) t) ((cargs.toArray++Array.replicate m undef).getD t undef):=fun t=>by
 rw[zk,YM]
 cases ha:args[t]? with
 | none=>rw[Option.getD_none,VR]; trivial
 | some x=>
  obtain ⟨d,hd,hvd⟩:=hv.get ha
  rw[Zg (by simpa using (XS.1 hd).1)]
  simp[hd]
  exact hvd
theorem yc:∀ {l:List Oper} {b i d:Nat},recAt b l=some (i,d)->b<=i
 | [],b,i,d,h=>by cases h
 | o :: os,b,i,d,h=>by
  unfold recAt at h
  split at h
  ·cases h; exact XP _
  ·have:=yc h; omega
theorem sJ:∀ {l:List Oper} {b i d:Nat},recAt b l=some (i,d)->∃ o,l[i - b]? = some o/\mh o=some d
 | [],b,i,d,h=>by cases h
 | o :: os,b,i,d,h=>by
  unfold recAt at h
  split at h
  ·rename_i d' hd
   cases h
   exact⟨o,by rw[Nat.sub_self]; rfl,hd⟩
  ·obtain ⟨o',h1,h2⟩:=sJ h
   have hb:b+1<=i:=yc h
   refine⟨o',?_,h2⟩
   rw[show i - b=i - (b+1)+1 by omega]
   exact h1
theorem xh {Bs:aC->Gh->World->Prop} {call:bo} {rg:bo->bo} (hcall:eh cx Bs call) (hrg:qO cx rg) (horc:jK cx) (hmx:cx.P.follows .mixedOrders=true) {nf q lo:Nat} {cap:List A} {v:A} {H:aC} {k:aC->Option R} {r:R} (h:xg cx call rg nf lo q cap v H k=some r) {F:Fence} {n:Nat} {g:Gh} {w0 w:World} {ccap:List Value} {u:FrameMode} {cv:Value}
  (hF:gk F) (hro:F.round=none) (hbs:Bs H g w) (hr:Rel H g w0 w) (hgl:∀ (G:Nat) (vs:List Value),cx.glob G=some vs->bM H g w G 0 vs) (hv:bB H g w cap ccap) (hcv:VR H g w v cv) (hu:u=.panicking [{ v:=cv,recovered:=false }]∨(u=.returning/\cv=.nilIface)) :
  CallsDIn F n cx.P q ccap.toArray u w fun e u' w'=>(∃ x,e=.returned x)/\settle u'=.returning/\∃ H' g',Rel H' g' w0 w'/\Ext H g w H' g' w'/\H.length<=H'.length/\(∀ b,b<lo->b<H.length->H'[b]? = H[b]?)/\g'.S=g.S/\k H'=some r:=by
 unfold xg at h
 obtain ⟨fn,hfn,h⟩:=bE h
 obtain ⟨c,hc,h⟩:=bE h
 split at h
 ·rename_i id ops rest
  split at h
  ·rename_i o os hops
   obtain ⟨d,hd,h⟩:=bE h
   obtain ⟨hchk,h⟩:=bu h
   simp only[Uc,XQ,XV] at hchk
   obtain ⟨⟨⟨hle,hdo⟩,hnr⟩,hre⟩:=hchk
   have hres:fn.results=#[]:=by
    have:fn.results.toList=[]:=by simpa using hre
    apply ZF; simpa using this
   have hl:=hv.length
   have hdst:o.dst=some d:=(ng (P:=cx.P) hd).1
   have hd':∀ o∈ops.toList,∀ d,o.dst=some d->d<fn.ntmps:=fun o ho d hod=>by
    have:=X0.1 hdo o ho
    rw[hod] at this; simpa using this
   refine callsDIn_of_wpSIn hfn hc (hF.2.1 q) fun c₀ cs hu0=>?_
   obtain ⟨u',hset,hrec⟩:∃ u',settle u'=.returning/\(recoverD (c₀ :: cs)=some (cv,{ c₀ with mode:=u' } :: cs)∨(recoverD (c₀ :: cs)=none/\({ c₀ with mode:=u' } :: cs:List Frame)=c₀ :: cs/\cv=.nilIface)):=by
    rcases hu with hu | ⟨hu,hcn⟩
    ·refine⟨.panicking [{ v:=cv,recovered:=true }],rfl,.inl ?_⟩
     have e:=hu0.trans hu
     simp only[recoverD,e]
    ·refine⟨.returning,rfl,.inr ⟨?_,?_,hcn⟩⟩
     ·have e:=hu0.trans hu
      simp only[recoverD,e]
     ·have:({ c₀ with mode:=.returning }:Frame)=c₀:=by rw[<-hu,<-hu0]
      rw[this]
   refine wpSIn_seq (ql hops hd (fun f=>hF.2.1 f) hro hrec ?_)
   have hsz:(ccap.toArray++Array.replicate (fn.ntmps - ccap.toArray.size) undef).size=fn.ntmps:=r9
   have hdl:d<fn.ntmps:=hd' o (by rw[hops]; simp) d hdst
   have hg0:Good cx fn.ntmps ⟨0,[],false⟩ lo H g w w0 ⟨(d,v) :: frame cap,H⟩ g (({ tmps:=ccap.toArray++Array.replicate (fn.ntmps - ccap.toArray.size) undef,defers:=[] }:Act).put (some d) cv) w:=by
    refine⟨⟨hr,fun t=>?_,hgl⟩,Ext.refl hr,XP _,fun _ _ _=>rfl,by rw[Act.pE]; exact hsz,ix.start _ _ _ _,Ya _,rfl⟩
    show VR H g w (look ((d,v) :: frame cap) t) (slot _ t)
    rw[ez]
    split
    ·rename_i e; subst e; rw[fq (by rw[hsz]; exact hdl)]; exact hcv
    ·rename_i e; rw[dK (fun e2=>e (by cases e2; rfl))]; exact rU hv t
   refine fJ (f:=q) (ops:=ops) hcall hbs horc hF (fun s' g' a' w' hg' h'=>?_) (fun x s' g' a' w' c hg' hvx h'=>by cases h') os _ g _ w (fun o' ho'=>hd' o' (by rw[hops]; simp[ho'])) hg0 h
   refine wpSIn_of_wpIn hro ?_
   refine dD hcall hrg horc hmx rest F n ⟨0,[],false⟩ w0 r H g w _ _ s' g' a' w' hF (.inr hnr) hbs hg' h' fun e e' s2 g2 a2 w2 hg2 he h2=>?_
   have hdf:a2.defers=[]:=by
    obtain ⟨ms,q1,_,q3⟩:=hg2.dfr
    rw[q1,q3 rfl]; rfl
   have fin:∀ x:Value,k s2.H=some r->(∃ y:Value,Ending.returned x=.returned y)/\settle u'=.returning/\∃ H' g',Rel H' g' w0 w2/\Ext H g w H' g' w2/\H.length<=H'.length/\(∀ b,b<lo->b<H.length->H'[b]? = H[b]?)/\g'.S=g.S/\k H'=some r:=fun x hk=>⟨⟨x,rfl⟩,hset,s2.H,g2,hg2.sr.rel,hg2.ext,hg2.len,hg2.low,hg2.st,hk⟩
   have hrs:(results fn a2.tmps).run cx.P w2=.ok (.tuple #[]) w2:=by simp[results,hres]
   cases e with
   | normal=>cases e'<;>first
     | exact⟨hdf,u',rfl,_,hrs,fin _ h2⟩
     | exact he.elim
   | ret=>cases e'<;>first
     | exact⟨hdf,u',rfl,_,hrs,fin _ h2⟩
     | exact he.elim
   | pan x=>cases h2
   | exit i=>cases h2
   | goto i=>cases h2
  ·cases h
 ·rename_i id ops
  obtain ⟨⟨i0,d⟩,hra,h⟩:=bE h
  obtain ⟨hchk,h⟩:=bu h
  simp only[Ue,XQ,XV] at hchk
  obtain ⟨⟨⟨⟨hle,hdl⟩,hok⟩,hna0⟩,hre⟩:=hchk
  obtain ⟨o0,ho0,hd⟩:=sJ hra
  rw[Nat.sub_zero,Yt] at ho0
  have hna:o0.after=#[]:=by
   rw[ho0] at hna0
   have:o0.after.toList=[]:=by simpa using hna0
   apply ZF; simpa using this
  have hres:fn.results=#[]:=by
   have:fn.results.toList=[]:=by simpa using hre
   apply ZF; simpa using this
  have hl:=hv.length
  have hsz:(ccap.toArray++Array.replicate (fn.ntmps - ccap.toArray.size) undef).size=fn.ntmps:=r9
  refine callsDIn_of_wpSIn hfn hc (hF.2.1 q) fun c₀ cs hu0=>?_
  obtain ⟨u',hset,hrec⟩:∃ u',settle u'=.returning/\(recoverD (c₀ :: cs)=some (cv,{ c₀ with mode:=u' } :: cs)∨(recoverD (c₀ :: cs)=none/\({ c₀ with mode:=u' } :: cs:List Frame)=c₀ :: cs/\cv=.nilIface)):=by
   rcases hu with hu | ⟨hu,hcn⟩
   ·refine⟨.panicking [{ v:=cv,recovered:=true }],rfl,.inl ?_⟩
    have e:=hu0.trans hu
    simp only[recoverD,e]
   ·refine⟨.returning,rfl,.inr ⟨?_,?_,hcn⟩⟩
    ·have e:=hu0.trans hu
     simp only[recoverD,e]
    ·have:({ c₀ with mode:=.returning }:Frame)=c₀:=by rw[<-hu,<-hu0]
     rw[this]
  refine pM hmx ho0 hd hna hok (fun f=>hF.2.1 f) hro (by rw[hsz]; exact hdl) hrec ?_
  have hg0:Good cx fn.ntmps ⟨0,[],false⟩ lo H g w w0 ⟨(d,v) :: frame cap,H⟩ g (({ tmps:=ccap.toArray++Array.replicate (fn.ntmps - ccap.toArray.size) undef,defers:=[] }:Act).put (some d) cv) w:=by
   refine⟨⟨hr,fun t=>?_,hgl⟩,Ext.refl hr,XP _,fun _ _ _=>rfl,by rw[Act.pE]; exact hsz,ix.start _ _ _ _,Ya _,rfl⟩
   show VR H g w (look ((d,v) :: frame cap) t) (slot _ t)
   rw[ez]
   split
   ·rename_i e; subst e; rw[fq (by rw[hsz]; exact hdl)]; exact hcv
   ·rename_i e; rw[dK (fun e2=>e (by cases e2; rfl))]; exact rU hv t
  refine po hcall hbs horc hF hmx hg0 h (fun s2 g2 a2 w2 hg2 h2=>?_) (fun x s' g' a' w' c hg' hvx h'=>by cases h')
  have hdf:a2.defers=[]:=by
   obtain ⟨ms,q1,_,q3⟩:=hg2.dfr
   rw[q1,q3 rfl]; rfl
  have fin:∀ x:Value,k s2.H=some r->(∃ y:Value,Ending.returned x=.returned y)/\settle u'=.returning/\∃ H' g',Rel H' g' w0 w2/\Ext H g w H' g' w2/\H.length<=H'.length/\(∀ b,b<lo->b<H.length->H'[b]? = H[b]?)/\g'.S=g.S/\k H'=some r:=fun x hk=>⟨⟨x,rfl⟩,hset,s2.H,g2,hg2.sr.rel,hg2.ext,hg2.len,hg2.low,hg2.st,hk⟩
  have hrs:(results fn a2.tmps).run cx.P w2=.ok (.tuple #[]) w2:=by simp[results,hres]
  exact⟨hdf,u',rfl,_,hrs,fin _ h2⟩
 ·cases h
theorem sv:∀ {os init:List Oper} {o:Oper},xI os=some (init,o)->os=init++[o]
 | [],_,_,h=>by cases h
 | [x],_,_,h=>by
  simp only[xI,YE,qaP] at h
  rw[<-h.1,<-h.2]; rfl
 | x :: y :: os,init,o,h=>by
  unfold xI at h
  simp only[Yu] at h
  obtain ⟨⟨i,o'⟩,h1,h2⟩:=h
  cases h2
  rw[sv h1]; rfl
theorem yQ {o:Oper} {q:Nat} {cap:List A} (h:Dn cx s o=some (q,cap)) (hs:SR cx s g w0 a w):o.guard=none/\o.dst=none/\cK cx.P q=true/\∃ es:Array Value,bB s.H g w cap es.toList/\(execOp a.eval o).run cx.P w=.ok (.defer { target:=.fn (.func q) es,args:=#[] }) w:=by
 unfold Dn at h
 split at h
 ·rename_i c ho
  split at h
  ·rename_i gop hcal hargs
   split at h
   ·rename_i q' cap' hop
    obtain ⟨hc,h⟩:=bu h
    cases h
    simp only[T9,XQ] at hc
    have hvr:=oG (cx:=cx) (x:=gop) (fun t _=>hs.fr t) hs.gl
    rw[hop,VR] at hvr
    obtain ⟨ds,es,e1,e2,e3⟩:=hvr
    rw[bB] at e2
    have hds:ds=#[]:=by apply ZF; simpa using e2
    subst hds
    have hca:c.args=#[]:=by apply ZF; simpa using hargs
    refine⟨lD hc.1.2,by simpa using hc.2,hc.1.1,es,e3,?_⟩
    unfold execOp
    rw[ho]
    simp[resolve,hcal,e1,Deferred.ofValue,hca]
   ·cases h
  ·cases h
 ·cases h
theorem Rel.insert (hr:Rel H g w0 w) {b es:Nat} {els:List (List A)} (hB:H[b]? = some (.row true es els)) {w':World} (hbl:Below 0 w w') (hsame:∀ j,j<w.heap.size->w'.heap[j]? = w.heap[j]?∨(g.mu b=some j/\∃ arr ty fr,w.heap[j]? = some (.cells arr ty fr))) :
  Rel (H.set b .dead) (g.put b none []) w0 w'/\Ext H g w (H.set b .dead) (g.put b none []) w'/\∀ k o,(g.mu b=some k∨w.heap.size<=k)->eF (H.set b .dead) (g.put b none []) k o:=by
 have hlt:b<H.length:=(XS.1 hB).1
 have hget:(H.set b .dead)[b]? = some .dead:=Yf hlt
 have hot:∀ c,c≠b->(H.set b .dead)[c]? = H[c]?:=fun c hc=>X4 (YS hc)
 have hno:∀ k,g.mu b=some k->∀ o,¬ eF H g k o:=fun k hk o hs=>by
  obtain ⟨es',els',h1,_⟩:=hs.2 b hk
  rw[hB] at h1; cases h1
 have hmu:∀ c k,(g.put b none []).mu c=some k->c≠b/\g.mu c=some k:=fun c k h=>by
  by_cases e:c=b
  ·subst e; rw[Gh.bJ] at h; cases h
  ·exact⟨e,by rwa [Gh.aI _ _ _ e] at h⟩
 have hob:∀ c k,c≠b->g.mu c=some k->w'.heap[k]? = w.heap[k]?:=fun c k hc hk=>by
  rcases hsame k (hr.dom c k hk).2.2 with h | ⟨h,_⟩
  ·exact h
  ·exact absurd (hr.inj c b k hk h) hc
 have hst:∀ k o,eF H g k o->eF (H.set b .dead) (g.put b none []) k o:=fun k o hs=>⟨hs.1,fun c hc=>by
  obtain ⟨h1,h2⟩:=hmu c k hc
  obtain ⟨es',els',h3,h4⟩:=hs.2 c h2
  exact⟨es',els',(hot c h1).trans h3,h4⟩⟩
 have he:Ext H g w (H.set b .dead) (g.put b none []) w':=by
  refine⟨fun k o v hs hc=>⟨?_,hst k o hs⟩,fun c C hC=>?_,fun k x h=>?_,hbl.size,fun k arr cl hs hm=>⟨?_,hst k 0 hs⟩,fun k hk hn=>?_,fun c k h=>.inl ⟨c,(hmu c k h).2⟩⟩
  ·rcases hsame k (Zu w _ hc) with h | ⟨h,_⟩
   ·unfold World.cell? at hc ⊢
    simp only at hc ⊢
    rw[h]; exact hc
   ·exact absurd hs (hno k h o)
  ·by_cases e:c=b
   ·subst e
    rw[hB] at hC; cases hC
    exact⟨.dead,hget,trivial⟩
   ·refine⟨C,(hot c e).trans hC,?_⟩
    cases C with
    | box _=>exact Gh.aI _ _ _ e
    | row wr es' els'=>cases wr with
     | true=>exact⟨rfl,rfl,Gh.aI _ _ _ e,fun k arr ty hk ha=>⟨arr,(hob c k e hk).trans ha,XP _⟩⟩
     | false=>exact⟨rfl,⟨[],by rw[Gh.eB _ _ _ e]; simp⟩,(hr.blk c _ hC).len,XP _,fun _=>⟨Gh.aI _ _ _ e,fun k arr ty hk ha=>⟨arr,(hob c k e hk).trans ha,XP _⟩⟩⟩
    | rng _=>exact⟨Gh.aI _ _ _ e,rfl⟩
    | mp _ _ _=>exact Gh.aI _ _ _ e
    | dead=>trivial
    | hole=>trivial
  ·rcases hsame k (XU.1 h).1 with h1 | ⟨_,arr,ty,fr,h1⟩
   ·exact h1.trans h
   ·rw[h1] at h; cases h
  ·rcases hsame k (XU.1 hm).1 with h1 | ⟨h1,_⟩
   ·exact h1.trans hm
   ·exact absurd hs (hno k h1 0)
  ·rcases hsame k hk with h1 | ⟨h1,_⟩
   ·exact h1
   ·exact absurd h1 (hn b)
 have hbl0:Below w0.heap.size w w':=⟨hbl.os,hbl.tape,hbl.output,hbl.size,fun k hk=>by
  rcases hsame k (X5 hk hr.below.size) with h1 | ⟨h1,_⟩
  ·exact h1
  ·exact absurd (hr.dom b k h1).2.1 o3⟩
 refine⟨⟨hr.below.trans hbl0,fun c k hck=>?_,fun c d k h1 h2=>hr.inj c d k (hmu c k h1).2 (hmu d k h2).2,hr.xW he,hr.wa he,fun c C hC=>?_⟩,he,fun k o hk=>⟨?_,fun c hc=>?_⟩⟩
 ·have:=hr.dom c k (hmu c k hck).2
  have hs:=hbl.size
  exact⟨by simpa using this.1,this.2.1,o3⟩
 ·by_cases e:c=b
  ·subst e
   rw[hget] at hC; cases hC
   exact Gh.bJ _ _ _ _
  ·rw[hot c e] at hC
   have h:=hr.blk c C hC
   cases C with
   | box cs=>obtain ⟨k,arr,ty,h1,h2,h3⟩:=h; exact⟨k,arr,ty,(Gh.aI _ _ _ e).trans h1,(hob c k e h1).trans h2,bB.ext he _ _ h3⟩
   | row wr es' els'=>cases wr with
    | true=>
     obtain ⟨ds,h1,h2,h3⟩:=h
     exact⟨ds,bw.ext he _ _ h1,h2,fun hp=>let ⟨k,arr,ty,e1,e2,e3⟩:=h3 hp; ⟨k,arr,ty,(Gh.aI _ _ _ e).trans e1,(hob c k e e1).trans e2,e3⟩⟩
    | false=>
     obtain ⟨h1,h2⟩:=h
     refine⟨?_,?_⟩
     ·rw[Gh.eB _ _ _ e]; exact bw.ext he _ _ h1
     ·rw[Gh.eB _ _ _ e]; exact h2
   | rng st=>obtain ⟨k,h1,h2⟩:=h; exact⟨k,(Gh.aI _ _ _ e).trans h1,(hob c k e h1).trans h2⟩
   | mp _ _ _=>obtain ⟨k,arr,cl,h1,h2,h3,h4⟩:=h; exact⟨k,arr,cl,(Gh.aI _ _ _ e).trans h1,(hob c k e h1).trans h2,h3,bB.ext he _ _ h4⟩
   | dead=>exact(Gh.aI _ _ _ e).trans h
   | hole=>exact(Gh.aI _ _ _ e).trans h
 ·rcases hk with h | h
  ·exact hr.own b k o h
  ·exact hr.out k o h
 ·obtain ⟨h1,h2⟩:=hmu c k hc
  rcases hk with h | h
  ·exact absurd (hr.inj c b k h2 h) h1
  ·exact absurd (hr.dom c k h2).2.2 o3
theorem BM {es:Nat} {ds:List (List Value)} (hl:∀ d∈ds,d.length=es) {m:Nat} (hm:m<=ds.length):(ds.take m).flatten=ds.flatten.take (m*es)/\(ds.drop m).flatten=ds.flatten.drop (m*es):=by
 have e:ds.flatten=(ds.take m).flatten++(ds.drop m).flatten:=XF
 have hn:=fY hl hm
 constructor
 ·rw[e,<-hn,List.take_left']
  rfl
 ·rw[e,<-hn,List.drop_left']
  rfl
theorem tF (hr:Rel H g w0 w) {es f lo:Nat} {P:Program} (hs:q7 P f es) {args:List A} {r:R} (h:qT es args H lo=some r) {F:Fence} {d:Nat} (hF:gk F) {cargs:List Value} (hv:bB H g w args cargs):CallsIn F d P f cargs.toArray w (gi H g w0 w lo r):=by
 unfold qT at h
 split at h
 rotate_left 1
 ·cases h
 rename_i b n cl i v cl2
 split at h
 rotate_left 1
 ·cases h
 rename_i es' els hB
 obtain ⟨hc,h⟩:=bu h
 cases h
 simp only[XQ,YQ,XV] at hc
 obtain ⟨⟨⟨⟨⟨⟨⟨⟨⟨he1,he0⟩,hn⟩,hlo⟩,hi0⟩,hin⟩,hbig⟩,hvl⟩,hvc⟩,hec⟩:=hc
 have he1:=X3 he1
 subst he1
 have he0:es'≠0:=fun e=>by subst e; cases he0
 have hn:=X3 hn
 have hvl:=X3 hvl
 obtain ⟨m,rfl⟩:∃ m:Nat,i=(m:Int):=⟨i.toNat,o3⟩
 rw[Y9]
 have hmn:m<=n:=o3
 rw[bB] at hv
 obtain ⟨c1,ds1,rfl,hv1,hv⟩:=hv
 rw[bB] at hv
 obtain ⟨c2,ds2,rfl,hv2,hv⟩:=hv
 rw[bB] at hv
 obtain ⟨c3,ds3,rfl,hv3,hv⟩:=hv
 rw[bB] at hv
 subst hv
 rw[VR,hB] at hv1
 obtain ⟨_,a,cap,rfl,hnc,hclip,ha,hroom⟩:=hv1
 rw[VR] at hv2
 subst hv2
 rw[VR] at hv3
 obtain ⟨a3,cap3,dv,es3,rfl,_,_,hdl3,ha3,hdv⟩:=hv3
 rw[bw] at hdv
 obtain ⟨d,dr,rfl,hd1,hd2⟩:=hdv
 rw[bw] at hd2
 subst hd2
 obtain ⟨kv,ov,rfl,hcv⟩:=ha3 r8
 simp only[YX,List.flatten_nil,YN] at hcv
 have hdl:d.length=es':=hd1.length.trans hvl
 obtain ⟨ds,hds,hdsl,harr⟩:=hr.blk b _ hB
 have hlen:ds.length=n:=hds.length.trans hn.symm
 have hfl:ds.flatten.length=n*es':=by rw[b7 hdsl,hlen]
 have hdone:∀ x∈d,x.oneCell'=true:=by
  have h1:bw H g w [v] [d]:=by rw[bw]; exact⟨d,[],rfl,hd1,by rw[bw]⟩
  have:=h1.one (fun cs hcs a ha=>by
   simp only[List.mem_singleton] at hcs
   subst hcs
   exact X0.1 hvc a ha)
  simpa using this
 have hdsone:=hds.one (fun cs hcs a ha=>X0.1 (X0.1 hec cs hcs) a ha)
 have hkv:∀ k,g.mu b=some k->kv≠k:=fun k hk e=>by
  subst e
  obtain ⟨_,hs0⟩:=hcv 0 d[0] (XN o3)
  obtain ⟨e1,e2,h1,_⟩:=hs0.2 b hk
  rw[hB] at h1; cases h1
 have hmem:0<cap->∃ k arr ty,g.mu b=some k/\a=some ⟨k,0,none⟩/\w.heap[k]? = some (.cells arr ty (0,0))/\cap*es'<=arr.size/\∀ (j:Nat) (v:Value),ds.flatten[j]? = some v->arr[j]? = some v:=fun hp=>by
  by_cases h0:n=0
  ·have hnil:ds.flatten=[]:=qa3.1 (by rw[hfl,h0,qaY])
   have hcl:cl=false:=by
    cases cl with
    | false=>rfl
    | true=>exact absurd (hclip rfl) o3
   obtain ⟨k,arr,ty,h1,h2,h3,h4⟩:=hroom hcl rfl hn o3
   exact⟨k,arr,ty,h1,h2,h3,h4,fun j v hj=>by rw[hnil] at hj; simp at hj⟩
  ·obtain ⟨k,arr,ty,h1,h2,h3⟩:=harr o3
   obtain ⟨k',h4,h5⟩:=ha o3
   rw[h1] at h4; cases h4
   rw[qaY] at h5
   refine⟨k,arr,ty,h1,h5,h2,?_,h3⟩
   by_cases hlt:n<cap
   ·have hcl:cl=false:=by
     cases cl with
     | false=>rfl
     | true=>exact absurd (hclip rfl) o3
    obtain ⟨k',arr',ty',g1,g2,g3,g4⟩:=hroom hcl rfl hn hlt
    rw[h1] at g1; cases g1
    rw[h2] at g3; cases g3
    exact g4
   ·have hce:cap=n:=by omega
    rw[hce,<-hfl]
    have hp2:0<ds.flatten.length:=by rw[hfl]; exact Nat.mul_pos o3 o3
    have:=h3 (ds.flatten.length - 1) _ (XN o3)
    have:=(XU.1 this).1
    omega
 refine fS hF ((hs w a n cap m kv ov cap3 ds.flatten d hmn hnc o3 hfl hdl hdsone hdone (fun j x hj=>(hcv j x hj).1) fun hp=>?_).mono ?_)
 ·obtain ⟨k,arr,ty,h1,h2,h3,h4,h5⟩:=hmem hp
  exact⟨k,arr,ty,h2,hkv k h1,h3,h4,h5⟩
 ·rintro e w' ⟨k',cap',rfl,hc',hbl,hsame,hk',hcells⟩
  obtain ⟨r1,r2,r3⟩:=hr.insert hB hbl (fun j hj=>by
   rcases hsame j hj with h | ⟨hp,h⟩
   ·exact .inl h
   ·obtain ⟨k,arr,ty,h1,h2,h3,_⟩:=hmem hp
    rw[h] at h2; cases h2
    exact .inr ⟨h1,arr,ty,(0,0),h3⟩)
  have hst:∀ o,eF (H.set b .dead) (g.put b none []) k' o:=fun o=>r3 k' o (by
   rcases hk' with ⟨hp,h⟩ | h
   ·obtain ⟨k,arr,ty,h1,h2,_⟩:=hmem hp
    rw[h] at h2; cases h2
    exact .inl h1
   ·exact .inr h)
  refine⟨_,r1,r2,r8,me _ _ hlo,rfl,?_⟩
  show VR _ _ w' (.imm (els.take m++v :: els.drop m) false) (.slice (some ⟨k',0,none⟩) (n+1) cap')
  have hel:(els.take m++v :: els.drop m).length=n+1:=by
   rw[X9,X8,YG,Zd]; omega
  obtain ⟨f1,f2⟩:=BM hdsl (m:=m) o3
  rw[VR]
  refine⟨_,_,ds.take m++d :: ds.drop m,es',by rw[hel],by rw[hel]; exact hc',fun h=>(by cases h),fun x hx=>?_,fun _=>⟨k',0,rfl,fun j x hj=>?_⟩,?_⟩
  ·rcases Y4.1 hx with hx | hx
   ·exact hdsl x (Yk hx)
   ·rcases YC.1 hx with rfl | hx
    ·exact hdl
    ·exact hdsl x (Yo hx)
  ·rw[YB]
   refine⟨hcells j x ?_,hst j⟩
   rw[Zy,YX,f1,f2,<-Yx] at hj
   exact hj
  ·refine(bw.ext r2 _ _ (hds.take m)).append ?_
   rw[bw]
   exact⟨d,_,rfl,bB.ext r2 _ _ hd1,bw.ext r2 _ _ (hds.drop m)⟩
theorem nQ {Bs:aC->Gh->World->Prop} {call:bo} {rg:bo->bo} (hcall:eh cx Bs call) (hrg:qO cx rg) (horc:jK cx) (hmx:cx.P.follows .mixedOrders=true) {n f lo:Nat} {args:List A} {H:aC} {r:R} (h:aF cx call rg n f args H lo=some r) {F:Fence} {d:Nat} {g:Gh} {w0 w:World} {cargs:List Value} (hF:gk F) (hro:F.round=none) (hbs:Bs H g w) (hr:Rel H g w0 w)
  (hgl:∀ (G:Nat) (vs:List Value),cx.glob G=some vs->bM H g w G 0 vs) (hv:bB H g w args cargs):CallsIn F d cx.P f cargs.toArray w (gi H g w0 w lo r):=by
 rw[aF] at h
 obtain ⟨fn,hfn,h⟩:=bE h
 cases hins:Nat.beq (cx.ins f) 0 with
 | false=>rw[hins] at h; exact tF hr (cx.insOK f hins) h hF hv
 | true=>
 rw[hins] at h
 replace h:(fn.body.bind fun c=>bif decide (args.length<=fn.ntmps) then bif sb c then qR cx call rg n f lo fn c args H else Dt cx call rg n f lo fn c args H else none)=some r:=h
 obtain ⟨c,hc,h⟩:=bE h
 obtain ⟨hle,h⟩:=bu h
 have hle:=XY hle
 have hl:=hv.length
 refine callsIn_of_wp_marks hfn hc (hF.2.1 f) ?_ hro
 have hsz:(cargs.toArray++Array.replicate (fn.ntmps - cargs.toArray.size) undef).size=fn.ntmps:=r9
 have hfr:=rU (m:=fn.ntmps - cargs.toArray.size) hv
 have hbase:w0.heap.size<=w.heap.size:=hr.below.size
 have hg0:∀ b,Good cx fn.ntmps ⟨w.heap.size,[],b⟩ lo H g w w0 ⟨frame args,H⟩ g { tmps:=cargs.toArray++Array.replicate (fn.ntmps - cargs.toArray.size) undef,defers:=[] } w:=fun b=>⟨⟨hr,hfr,hgl⟩,Ext.refl hr,XP _,fun _ _ _=>rfl,hsz,ix.start _ _ _ _,XP _,rfl⟩
 cases hdf:sb c with
 | false=>
  rw[hdf] at h
  refine dD (cx:=cx) (N:=fn.ntmps) (lo:=lo) (nf:=n) (f:=f) hcall hrg horc hmx c F d ⟨w.heap.size,[],true⟩ w0 r H g w _ _ ⟨frame args,H⟩ g _ w hF (.inl ⟨hro,rfl⟩) hbs (hg0 true) h fun e e' s' g' a' w' hg' he h'=>?_
  obtain ⟨ms,q1,q2,_⟩:=hg'.dfr
  have hret:(nj (eo lo (cx.acts f 3000000) s') fun s=>lY cx fn s)=some r->LeavesInM F d cx.P fn a'.tmps (gi H g w0 w lo r) a'.defers .returning w':=fun h'=>by
   rw[q1]
   refine nc ms .returning w' r8 q2 fun W' hcm hlm=>?_
   obtain ⟨v,h1,h2⟩:=wY (hg'.calm (XP _) hbase hcm hlm true) h'
   exact⟨v,h1,h2⟩
  cases e with
  | normal=>cases e'<;>first
    | exact hret h'
    | exact he.elim
  | ret=>cases e'<;>first
    | exact hret h'
    | exact he.elim
  | pan x=>cases e'<;>first
    | (obtain ⟨c',rfl,hvr⟩:=he
       cases h'
       show LeavesInM F d cx.P fn a'.tmps _ a'.defers (.panicking _) w'
       rw[q1]
       refine nc ms _ w' r8 q2 fun W' hcm hlm=>?_
       have hg2:=hg'.calm (XP _) hbase hcm hlm true
       exact⟨g',hg2.sr.rel,hg2.ext,hg2.len,hg2.low,hg2.st,c',rfl,VR.fc (hg'.sr.rel.w5 hcm) _ _ hvr⟩)
    | exact he.elim
  | exit i=>cases h'
  | goto i=>cases h'
 | true=>
  rw[hdf] at h
  replace h:qR cx call rg n f lo fn c args H=some r:=h
  unfold qR at h
  split at h
  ·rename_i c0 id ops rest _
   obtain ⟨hchk,h⟩:=bu h
   rw[Ua,XQ] at hchk
   have hd':∀ o∈ops.toList,∀ d,o.dst=some d->d<fn.ntmps:=fun o ho d hod=>by
    have:=X0.1 hchk.1 o ho
    rw[hod] at this; simpa using this
   have hem:∀ {s':St} {g':Gh} {a':Act} {w':World},Good cx fn.ntmps ⟨w.heap.size,[],false⟩ lo H g w w0 s' g' a' w'->a'.defers=[]:=fun hg'=>by
    obtain ⟨ms,q1,_,q3⟩:=hg'.dfr
    rw[q1,q3 rfl]; rfl
   refine qbD (dD hcall hrg horc hmx c0 F d ⟨w.heap.size,[],false⟩ w0 r H g w _ _ ⟨frame args,H⟩ g _ w hF (.inr hchk.2) hbs (hg0 false) h fun e e' s1 g1 a1 w1 hg1 he h=>?_)
   cases e with
   | normal=>
    cases e' with
    | normal=>
     obtain ⟨⟨init,dop⟩,hla,h⟩:=bE h
     have hsp:=sv hla
     refine qbD (wpIn_region_list ?_)
     rw[hsp]
     refine mo (Q:=fun e a w2=>e=.normal/\wpListIn F d cx.P ops _ [dop] a w2) (fun e a w2 he h=>absurd h.1 he) (fun a w2 h=>h.2) init a1 w1 ?_
     refine fJ (f:=f) (ops:=ops) hcall hbs horc hF (fun s2 g2 a2 w2 hg2 h=>⟨rfl,?_⟩) (fun x s' g' a' w' c hg' hvx h=>by cases h) init s1 g1 a1 w1 (fun o ho=>hd' o (by rw[hsp]; simp[ho])) hg1 h
     obtain ⟨⟨q,cap⟩,hcl,h⟩:=bE h
     obtain ⟨k1,k2,hcb,es,hes,hrun⟩:=yQ (o:=dop) hcl hg2.sr
     unfold wpListIn
     rw[XX (by simp[Region.wanted,k1])]
     refine⟨fun f _=>hF.2.1 f,?_⟩
     rw[hro,Z4,hrun,Oper.uponIn_defer,k2,hem hg2]
     obtain ⟨dd,hdd⟩:∃ dd:Deferred,dd={ target:=.fn (.func q) es,args:=#[] }:=⟨_,rfl⟩
     rw[<-hdd]
     refine dD hcall hrg horc hmx rest F d ⟨w.heap.size,[dd],true⟩ w0 r s2.H g2 w2 _ _ s2 g2 { a2 with defers:=[dd] } w2 hF (.inl ⟨hro,rfl⟩) (hcall.up _ _ _ _ _ _ hbs hg2.ext) ⟨⟨hg2.sr.rel,hg2.sr.fr,hg2.sr.gl⟩,Ext.refl hg2.sr.rel,XP _,fun _ _ _=>rfl,hg2.siz,ix.start _ _ _ _,hg2.mbw,rfl⟩ h fun e e' s3 g3 a3 w3 hg30 he h=>?_
     have hg3:Good cx fn.ntmps ⟨w.heap.size,[dd],true⟩ lo H g w w0 s3 g3 a3 w3:=⟨hg30.sr,hg2.ext.trans hg30.ext,Yb hg2.len hg30.len,fun b hb hb'=>(hg30.low b hb (X5 hb' hg2.len)).trans (hg2.low b hb hb'),hg30.siz,hg30.dfr,hg30.mbw,hg30.st.trans hg2.st⟩
     obtain ⟨ms,q1,q2,_⟩:=hg3.dfr
     replace q1:a3.defers=ms++[dd]:=q1
     have key:∀ (u:FrameMode) (x:A) (cv:Value),(u=.panicking [{ v:=cv,recovered:=false }]∨(u=.returning/\cv=.nilIface))->VR s3.H g3 w3 x cv->xg cx call rg n lo q cap x s3.H (fun H=>nj (eo lo (cx.acts f 3000000) ⟨s3.fr,H⟩) fun s=>lY cx fn s)=some r->LeavesInM F d cx.P fn a3.tmps (gi H g w0 w lo r) a3.defers u w3:=fun u x cv hu hx h=>by
      rw[q1]
      have hrunu:u≠.run:=by rcases hu with rfl | ⟨rfl,_⟩<;>simp
      refine nc ms u w3 hrunu q2 fun W' hcm hlm=>?_
      have hg4:=hg3.calm (XP _) hbase hcm hlm true
      have h0:=hg3.sr.rel.w5 hcm
      refine⟨hrunu,.inr ⟨fun hs=>(by rw[hF.1] at hs; cases hs),.func q,es,q,es,by rw[hdd],?_,fun f _=>hF.2.1 f,?_⟩⟩
      ·rw[hdd]
       have:=pa hcb (#[]++es) W'
       simpa [invoke] using this
      ·have hcap:bB s3.H g3 W' cap es.toList:=bB.fc h0 _ _ (bB.ext hg30.ext _ _ hes)
       have hrc:CallsDIn F.plain (d - 1) cx.P q es.toList.toArray u W' _:=xh (F:=F.plain) (n:=d - 1) hcall hrg horc hmx h hF rfl (hcall.up _ _ _ _ _ _ hbs hg4.ext) hg4.sr.rel hg4.sr.gl hcap (VR.fc h0 _ _ hx) hu
       rw[show es.toList.toArray=es by simp] at hrc
       have hrc':CallsDIn F (d - 1) cx.P q es u W' _:=hrc
       refine hrc'.mono ?_
       rintro e u' w4 ⟨⟨v,rfl⟩,hset,H',g',j1,j2,j3,j4,j5,hk⟩
       show LeavesInM F d cx.P fn a3.tmps _ [] (settle u') w4
       rw[hset]
       have hx2:=hg4.ext.trans j2
       obtain ⟨v',l1,l2⟩:=wY (a:=a3) (mb:=⟨0,a3.defers,true⟩) (s:=⟨s3.fr,H'⟩) ⟨⟨j1,fun t=>VR.ext j2 _ _ (hg4.sr.fr t),fun G vs hG=>(hg4.sr.gl G vs hG).ext j2⟩,hx2,Yb hg4.len j3,fun b hb hb'=>(j4 b hb (X5 hb' hg4.len)).trans (hg4.low b hb hb'),hg4.siz,ix.start _ _ _ _,Ya _,j5.trans hg4.st⟩ hk
       exact⟨v',l1,l2⟩
     have hni:VR s3.H g3 w3 (.v .nilIface) .nilIface:=s6
     cases e with
     | normal=>cases e' with
      | normal=>exact key .returning (.v .nilIface) .nilIface (.inr ⟨rfl,rfl⟩) hni h
      | _=>exact he.elim
     | ret=>cases e' with
      | ret=>exact key .returning (.v .nilIface) .nilIface (.inr ⟨rfl,rfl⟩) hni h
      | _=>exact he.elim
     | pan x=>cases e' with
      | panic ch=>
       obtain ⟨c',rfl,hvr⟩:=he
       exact key _ x c' (.inl rfl) hvr h
      | _=>exact he.elim
     | exit i=>cases h
     | goto i=>cases h
    | _=>exact he.elim
   | _=>cases h
  ·cases h
theorem wW {p:aO->Bool} {H:aC} {m:Nat} (h:(H.take m).all p=true) (b:Nat) (B:aO) (hb:b<m) (hB:H[b]? = some B):p B=true:=
 X0.1 h B (Yh (i:=b) (by rw[Yc,XX hb]; exact hB))
theorem pf {m:Nat} {f:aC->Option R} {args:List A} {H:aC} {r:R} (h:nx m f args H=some r):bq m args=true/\(H.take m).all (aO.under m)=true/\∃ o H1,f (H.take m)=some (o,H1)/\m<=H1.length/\(H1.take m).all (aO.under m)=true/\lG m o=true/\r=(o,H1.take m++H.drop m):=by
 unfold nx at h
 obtain ⟨h1,h⟩:=bu h
 obtain ⟨⟨o,H1⟩,h2,h⟩:=bE h
 obtain ⟨h3,h⟩:=bu h
 rw[XQ] at h1
 simp only[XQ] at h3
 cases h
 exact⟨h1.1,h1.2,o,H1,h2,Yp h3.1.1,h3.1.2,h3.2,rfl⟩
theorem Dk {k:Nat} {H:aC}:cutAt cx k H<=H.length:=by
 unfold cutAt
 cases hb:Nat.ble (cx.cut k) H.length with
 | true=>exact Yp hb
 | false=>exact XP _
theorem nR (horc:jK cx) (hmx:cx.P.follows .mixedOrders=true):∀ n,qO cx (bF cx n)
 | 0=>fun Bs base hy=>⟨⟨hy.up,fun b args H lo r h=>hy.yl b args H lo r (by
   rw[bF,bG,XX (by rw[qap]; omega)] at h; exact h)⟩,(fun k args H lo r hk h=>by rw[bF,ry hk] at h; cases h),fun k args H lo r hk _ _ h=>by rw[bF,ry hk] at h; cases h⟩
 | n+1=>fun Bs base hy=>by
  refine⟨⟨hy.up,fun b args H lo r h=>hy.yl b args H lo r (by
   rw[bF,bG,XX (by rw[qap]; omega)] at h; exact h)⟩,?_,fun k args H lo r hk h0 hm h=>?_⟩
  rotate_left 1
  ·rw[bF,ry hk] at h
   replace h:(bif fT cx k H then nx (cutAt cx k H) (fun H=>aF cx (bF cx n EY) (bF cx n) n k args H lo) args H else bif gp cx k H then mT cx k args H else aF cx (bF cx n base) (bF cx n) n k args H lo)=some r:=h
   have hc:fT cx k H=true:=by
    unfold fT
    have:Nat.beq (cx.cut k) 0=false:=by
     cases hb:Nat.beq (cx.cut k) 0 with
     | false=>rfl
     | true=>exact absurd (X3 hb) h0
    rw[this,YU hm]; rfl
   have hcm:cutAt cx k H=cx.cut k:=by unfold cutAt; rw[YU hm]; rfl
   simp only[hc,XR,hcm] at h
   obtain ⟨_,_,o,H1,_,hm1,_,_,rfl⟩:=pf h
   refine⟨XI,fun b hb=>?_⟩
   rw[Yr y6,YG,Y0,Zm hm1]
   congr 1; omega
  intro f args H lo r hkc h F d g w0 w cargs hF hro hbs hr hgl hv
  have hrg:=nR horc hmx n
  have hcall:=hrg Bs base hy
  rw[bF,ry hkc] at h
  replace h:(bif fT cx f H then nx (cutAt cx f H) (fun H=>aF cx (bF cx n EY) (bF cx n) n f args H lo) args H else bif gp cx f H then mT cx f args H else aF cx (bF cx n base) (bF cx n) n f args H lo)=some r:=h
  cases hc:fT cx f H with
  | false=>
   rw[hc] at h
   cases hd:gp cx f H with
   | false=>rw[hd] at h; exact nQ hcall hrg horc hmx h hF hro hbs hr hgl hv
   | true=>
    rw[hd] at h
    replace h:mT cx f args H=some r:=h
    unfold mT at h
    obtain ⟨y,hy,h⟩:=bE h
    obtain ⟨hv1,h⟩:=bu h
    cases h
    have hdp:cx.deep f=true:=by
     unfold gp at hd
     cases hq:cx.deep f with
     | true=>rfl
     | false=>rw[hq] at hd; cases hd
    have hcallok:=horc f _ y (.inr (.inr hdp)) hy g.S w cargs hr.out (fun G vs hG j v hj=>let ⟨e1,e2⟩:=hgl G vs hG j v hj; ⟨e1,e2.1,fun b hb=>by cases hb⟩) (uO hr 6 _ _ hv)
    refine(fS hF hcallok).mono ?_
    rintro e w' ⟨c',rfl,hb,hvr⟩
    refine⟨g,hr.eK hb,Ext.below hr hb,XP _,fun _ _ _=>rfl,rfl,?_⟩
    cases y with
    | v x=>rw[VR] at hvr; show VR H g w' (.v x) c'; rw[VR]; exact hvr
    | _=>cases hv1
  | true=>
   simp only[hc,XR] at h
   obtain ⟨hu1,hu2,o,H1,h9,hm1,hu3,hu4,rfl⟩:=pf h
   have hm:=Dk (cx:=cx) (k:=f) (H:=H)
   obtain ⟨hr',ag⟩:=hr.qJ hm (wW hu2)
   have hno:oQ cx (fun _ _ _=>True) EY:=⟨fun _ _ _ _ _ _ _ _=>trivial,fun _ _ _ _ _ h=>by cases h⟩
   refine(nQ (hrg _ _ hno) hrg horc hmx h9 hF hro trivial hr' (fun G vs hG=>(hgl G vs hG).to ag) (bB.to ag _ _ hu1 hv)).mono ?_
   rintro e w' ⟨g1,k1,k2,k3,k4,k6,k5⟩
   obtain ⟨g2,e1,e2,e3,ag2⟩:=hr.join hm k1 k2 hm1 k6 (wW hu3)
   refine⟨g2,e1,e2,XI,fun b hb hb'=>?_,e3,?_⟩
   ·by_cases hbm:b<cutAt cx f H
    ·rw[X6 y6,Yc,XX hbm,k4 b hb y6,Yc,XX hbm]
    ·rw[Yr y6,YG,Y0,Zm hm1]
     congr 1; omega
   ·cases o with
    | ret x=>cases e with
     | returned c=>exact VR.to ag2 _ _ hu4 k5
     | panicked _=>exact k5
     | outgrown=>exact k5
    | pan x=>cases e with
     | panicked ch=>obtain ⟨c,rfl,hv⟩:=k5; exact⟨c,rfl,VR.to ag2 _ _ hu4 hv⟩
     | returned _=>exact k5
     | outgrown=>exact k5
theorem Bm {n k:Nat} {args:List A} {H:aC} {lo:Nat} {r:R} (h:dZ cx n k args H lo=some r):k<cx.P.funcs.size:=by
 refine Y1 fun hle=>?_
 have hb:Nat.ble cx.P.funcs.size k=true:=by rw[qap]; exact hle
 unfold dZ at h
 cases n with
 | zero=>rw[bF,hb] at h; cases h
 | succ n=>rw[bF,hb] at h; cases h
theorem o8 (horc:jK cx) (hmx:cx.P.follows .mixedOrders=true) {n k:Nat} {args:List A} {x:A} {H':aC} (h:dZ cx n k args [] 0=some (.ret x,H')):eQ cx.P cx.glob k args (aS H' x):=by
 intro S w cargs hS hgl hv
 have hr:Rel [] (G0 S) w w:=⟨Below.refl _ _,fun b k h=>(by cases h),fun b c k h=>(by cases h),hS,fun b k o h=>(by cases h),fun b B h=>(by simp at h)⟩
 have hno:oQ cx (fun _ _ _=>True) EY:=⟨fun _ _ _ _ _ _ _ _=>trivial,fun _ _ _ _ _ h=>by cases h⟩
 have hkc:=Bm h
 have hc:=(nR horc hmx n _ _ hno).fn k args [] 0 _ hkc h Fence.wide 0 (G0 S) w w cargs zH rfl trivial hr hgl hv
 refine(callsIn_wide.1 hc).mono ?_
 rintro e w' ⟨g',e1,e2,_,_,e5,e6⟩
 cases e with
 | returned c=>
  refine⟨c,rfl,e1.below,?_⟩
  exact VR.fc (H:=[]) (g:=G0 g'.S) ⟨fun k o v hs hc=>⟨hc,by have:=hs.1; rw[show (G0 g'.S).S=g'.S from rfl,e5] at this; exact this,fun b hb=>(by cases hb)⟩,fun b B hB=>(by simp at hB),fun k arr cl hs hm=>⟨hm,by have:=hs.1; rw[show (G0 g'.S).S=g'.S from rfl,e5] at this; exact this,fun b hb=>(by cases hb)⟩⟩ _ _ (EG e1 x c e6)
 | panicked _=>exact e6.elim
 | outgrown=>exact e6.elim
end
section
open Go.RowKit
def Quiet (w w':World):Prop:=∃ m,w'=w.drewN m
theorem Quiet.refl (w:World):Quiet w w:=⟨0,rfl⟩
theorem Quiet.trans {a b c:World} (h:Quiet a b) (k:Quiet b c):Quiet a c:=by
 obtain ⟨m,rfl⟩:=h
 obtain ⟨n,rfl⟩:=k
 exact⟨m+n,by rw[World.drewN_drewN]⟩
theorem Quiet.drewN {a b:World} (h:Quiet a b) (n:Nat):Quiet a (b.drewN n):=h.trans ⟨n,rfl⟩
theorem Quiet.drew {a b:World} (h:Quiet a b):Quiet a b.drew:=h.trans ⟨1,rfl⟩
theorem Quiet.cell {w w':World} (h:Quiet w w') (a:Addr):w'.cell? a=w.cell? a:=by obtain ⟨m,rfl⟩:=h; rfl
theorem Quiet.below {w w':World} (h:Quiet w w') (B:Nat):Below B w w':=by obtain ⟨m,rfl⟩:=h; exact below_drewN (Below.refl _ _) m
theorem Quiet.size {w w':World} (h:Quiet w w'):w'.heap.size=w.heap.size:=by obtain ⟨m,rfl⟩:=h; rfl
end
section
open Go.RowKit Go.ChangeShapes Go.WideShapes Go.ChangeAt Go.Deep
theorem nU {H:Type} {enc:TypeId×Value->H} {P:Program} (hl:laidOutB P=true) {W W':World} (hb:Below W.heap.size W W') :
  ∀ (ts:List TypeId) (vs:List Value) (ds:List (DataW H)) (ps:List MemPlace),ts.all (fun t=>P.readableRec t&&decide (t<P.types.size))=true ->
   DataW.TrodAll enc P W 0 (fun _=>true) true ts vs ds ps->DataW.TrodAll enc P W' 0 (fun b=>decide (b<W.heap.size)) true ts vs ds ps
 | [],[],[],ps,_,h=>h
 | t :: ts,v :: vs,d :: ds,ps,hr,h=>by
  obtain ⟨p,q,h1,h2,rfl⟩:=h
  simp only[ZO,XQ,XV] at hr
  have lt:∀ x∈p,x.block<W.heap.size:=by obtain ⟨m,hm⟩:=h1; exact DataW.trod_lt m _ _ _ hm
  exact⟨p,q,Below.trod hl hr.1.1 hr.1.2 h1 hb lt,nU hl hb ts vs ds q hr.2 h2,rfl⟩
 | [],_ :: _,_,_,_,h=>h.elim
 | [],[],_ :: _,_,_,h=>h.elim
 | _ :: _,[],_,_,_,h=>h.elim
 | _ :: _,_ :: _,[],_,_,h=>h.elim
theorem nm {H:Type} {enc:TypeId×Value->H} {P:Program} {W:World} {base:Nat} {sp:Nat->Bool} {held:Bool} :
  ∀ (ts:List TypeId) (vs:List Value) (ds:List (DataW H)) (ps:List MemPlace),DataW.TrodAll enc P W base sp held ts vs ds ps->vs.length=ts.length/\ds.length=ts.length
 | [],[],[],_,_=>⟨rfl,rfl⟩
 | t :: ts,v :: vs,d :: ds,ps,h=>by
  obtain ⟨p,q,_,h2,_⟩:=h
  have:=nm ts vs ds q h2
  simp[this.1,this.2]
 | [],_ :: _,_,_,h=>h.elim
 | [],[],_ :: _,_,h=>h.elim
 | _ :: _,[],_,_,h=>h.elim
 | _ :: _,_ :: _,[],_,h=>h.elim
theorem qD {H:Type} {enc:TypeId×Value->H} {P:Program} {W:World} {base:Nat} {sp:Nat->Bool} {held:Bool} :
  ∀ (ts:List TypeId) (vs:List Value) (ds:List (DataW H)) (ps:List MemPlace),DataW.TrodAll enc P W base sp held ts vs ds ps ->
   ∀ (j:Nat) (t:TypeId) (v:Value),ts[j]? = some t->vs[j]? = some v->∃ d p,DataW.Trod enc P W base sp held t v d p
 | t :: ts,v :: vs,d :: ds,ps,h,j,t',v',hj,hv=>by
  obtain ⟨p,q,h1,h2,_⟩:=h
  cases j with
  | zero=>cases hj; cases hv; exact⟨d,p,h1⟩
  | succ j=>exact qD ts vs ds q h2 j t' v' hj hv
 | [],[],[],_,_,_,_,_,hj,_=>by simp at hj
 | [],_ :: _,_,_,h,_,_,_,_,_=>h.elim
 | [],[],_ :: _,_,h,_,_,_,_,_=>h.elim
 | _ :: _,[],_,_,h,_,_,_,_,_=>h.elim
 | _ :: _,_ :: _,[],_,h,_,_,_,_,_=>h.elim
def qZ {H:Type} (enc:TypeId×Value->H) (P:Program) (W:World) (base:Nat) (ts:Array TypeId) (args:Array Value):Prop:=
 args.size=ts.size/\∀ (j:Nat) t v,ts[j]? = some t->args[j]? = some v->Value.okWide P W .any base t v/\∃ d p,DataW.Trod enc P W 0 (fun _=>true) true t v d p
theorem vV {H:Type} {enc:TypeId×Value->H} {P:Program} {f:Nat} {fn:Func} {s:ChangeSpec} {tb:TypeId} (hv:s.vars=[]) (hres:fn.resultTypes=#[tb]) (htb:P.underlying tb=some .bool)
  (hl:laidOutB P=true) (hread:fn.params.toList.all (fun t=>P.readableRec t&&decide (t<P.types.size))=true)
  (hs:∀ ds:List (DataW H),ds.length=fn.params.size->s.fn H ds={ results:=[.lit (.bool true)],args:=ds })
  (W:World) (base:Nat) (args:Array Value) (ds gs:List (DataW H)) (before:List MemPlace)
  (hval:∀ (j:Nat) t v,fn.params[j]? = some t->args[j]? = some v->Value.okWide P W .any base t v)
  (hW:DataW.Whole enc P fn.params.toList s.vars false W args.toList ds gs before)
  (walk:qZ enc P W base fn.params args->Calls P f args W fun e W'=>e=.returned (.bool true)/\Below W.heap.size W W') :
  Calls P f args W fun e W'=>∃ v,e=.returned v/\s.post enc P fn false true false false W args v W':=by
 have hW':=hW
 obtain ⟨p,q,hA,hV,rfl,hfz,hnd⟩:=hW
 rw[hv] at hV
 obtain ⟨rfl,rfl⟩:=trodVars_none hV
 have hlen:=nm _ _ _ _ hA
 refine(walk ⟨by simpa using hlen.1,fun j t v hj hv=>⟨hval j t v hj hv,?_⟩⟩).mono fun e W' ⟨he,bel⟩=>?_
 ·exact qD _ _ _ _ hA j t v (by simpa using hj) (by simpa using hv)
 ·subst he
  have e1:s.fn H (ds++[])={ results:=[.lit (.bool true)],args:=ds }:=by rw[YN]; exact hs ds (by simpa using hlen.2)
  refine⟨_,rfl,ds,[],_,[],p,[],hW',?_,?_,?_,bel.frame _,fun h=>by cases h⟩
  ·rw[e1,hres]
   exact trodAll_mk1 (shut_bool htb _)
  ·rw[e1]
   exact nU hl bel _ _ _ _ hread hA
  ·rw[e1,hv]; exact rfl
theorem Bx {H:Type} {enc:TypeId×Value->H} {P:Program} {W:World} {base:Nat} {ts:Array TypeId} {args:Array Value} (h:qZ enc P W base ts args) (j:Nat) {t:TypeId} {v:Value} (hj:ts[j]? = some t) (hv:args[j]? = some v) (ht:P.underlying t=some (.int .i64)) :
  ∃ n:Int,v=.int .i64 n/\-9223372036854775808<=n/\n<=9223372036854775807:=by
 obtain ⟨ok,d,p,htr⟩:=h.2 j t v hj hv
 obtain ⟨n,rfl,rfl,rfl,hw⟩:=open_int ht ok htr
 exact⟨n,rfl,(qbk hw).1,(qbk hw).2⟩
end
section
theorem oH {α β:Type} (P:Program) (f:α->Sem β):∀ (m:Sem α),cJ P (m >>= f)=(cJ P m).bind fun a=>cJ P (f a)
 | .pure a=>rfl
 | .program k=>oH P f (k P)
 | .mark _ k=>oH P f k
 | .load .. | .store .. | .new .. | .shape .. | .freeze .. | .frozen .. | .getObj .. | .setObj .. | .choose .. | .sys .. | .halt _=>rfl
theorem qc (P:Program) (t:TypeId):cJ P (underlying t)=P.underlying t:=by
 unfold underlying
 show cJ P (match P.underlying t with | some d=>pure d | none=>stuck "no such type")=_
 cases P.underlying t<;>rfl
@[simp] theorem Le {β:Type} (b:Bool) (x y:Option β):cC (.v (.bool b)) x y=bif b then x else y:=rfl
@[simp] theorem LR {β:Type} (b:Bool) (x y:Option β):pA (.v (.bool b)) true x y=bif b then x else y:=rfl
@[simp] theorem Kw {β:Type} (b:Bool) (x y:Option β):pA (.v (.bool b)) false x y=bif b then y else x:=by cases b<;>rfl
@[simp] theorem Kx {β:Type} (w:Bool) (x y:Option β):pA (.v undef) w x y=y:=by cases w<;>rfl
@[simp] theorem Mx (k:IntKind) (n:Int):(Value.int k n).oneCell'=true:=rfl
@[simp] theorem KA (b:Bool):(Value.bool b).oneCell'=true:=rfl
@[simp] theorem IA (s:ByteArray):(Value.string s).oneCell'=true:=rfl
section
variable (P:Program) (t s d:TypeId) (i j:Bool) (k:IntKind) (a b:Int) (p q:Bool) (H:aC) (lo:Nat)
@[simp] theorem bc:jX P .eql t i j (.v (.int k a)) (.v (.int k b))=some (.v (.bool (a==b))):=by cases k<;>rfl
@[simp] theorem aG:jX P .neq t i j (.v (.int k a)) (.v (.int k b))=some (.v (.bool (a != b))):=by cases k<;>rfl
@[simp] theorem aY:jX P .lss t i j (.v (.int k a)) (.v (.int k b))=some (.v (.bool (decide (a<b)))):=by cases k<;>rfl
@[simp] theorem en:jX P .leq t i j (.v (.int k a)) (.v (.int k b))=some (.v (.bool (decide (a<=b)))):=by cases k<;>rfl
@[simp] theorem da:jX P .gtr t i j (.v (.int k a)) (.v (.int k b))=some (.v (.bool (decide (b<a)))):=by cases k<;>rfl
@[simp] theorem c9:jX P .geq t i j (.v (.int k a)) (.v (.int k b))=some (.v (.bool (decide (b<=a)))):=by cases k<;>rfl
@[simp] theorem aJ:jX P .add t i j (.v (.int k a)) (.v (.int k b))=some (.v (.int k (k.wrap (a+b)))):=by cases k<;>rfl
@[simp] theorem dy:jX P .sub t i j (.v (.int k a)) (.v (.int k b))=some (.v (.int k (k.wrap (a - b)))):=by cases k<;>rfl
@[simp] theorem oS:jX P .mul t i j (.v (.int k a)) (.v (.int k b))=some (.v (.int k (k.wrap (a*b)))):=by cases k<;>rfl
def jf (a b:ByteArray):Bool:=a.toList==b.toList
theorem jL (x y:ByteArray):jX P .eql t i j (.v (.string x)) (.v (.string y))=some (.v (.bool (jf x y))):=rfl
theorem yA (x y:ByteArray):jX P .neq t i j (.v (.string x)) (.v (.string y))=some (.v (.bool (!jf x y))):=rfl
theorem rf (hb:b≠0):jX P .rem t i j (.v (.int k a)) (.v (.int k b))=some (.v (.int k (a.tmod b))):=by
 have h:cJ P (do eqGuard .rem t (rep i) (rep j) (.int k a) (.int k b); binOp .rem t (.int k a) (.int k b))=some (.int k (a.tmod b)):=by
  show cJ P (binOp .rem t (.int k a) (.int k b))=_
  simp only[binOp,ne_eq,Z9,Z7,Op.intDiv,XW hb]; rfl
 show (cJ P _).map xP=_
 rw[h]; rfl
theorem re (hb:b≠0):jX P .quo t i j (.v (.int k a)) (.v (.int k b))=some (.v (.int k (k.wrap (a.tdiv b)))):=by
 have h:cJ P (do eqGuard .quo t (rep i) (rep j) (.int k a) (.int k b); binOp .quo t (.int k a) (.int k b))=some (.int k (k.wrap (a.tdiv b))):=by
  show cJ P (binOp .quo t (.int k a) (.int k b))=_
  simp only[binOp,ne_eq,Z9,Z7,Op.intDiv,XW hb]; rfl
 show (cJ P _).map xP=_
 rw[h]; rfl
@[simp] theorem OB:jj P .not (.v (.bool p))=some (.v (.bool (!p))):=rfl
@[simp] theorem OA:jj P .neg (.v (.int k a))=some (.v (.int k (k.wrap (0 - a)))):=rfl
@[simp] theorem Fa (l:List A) (n:Nat):mO (.tup l) n=l[n]?:=rfl
@[simp] theorem S0 (x:Value):snap H (.v x)=.v x:=rfl
@[simp] theorem OW (L:Nat) (x:Value):A.under L (.v x)=true:=rfl
@[simp] theorem Se (L:Nat) (x:Value) (H':aC):JY L (.ret (.v x),H')=some (.v x):=rfl
@[simp] theorem MA (x:A) (f g:A->Option R):dL (.ret x) f g=f x:=rfl
@[simp] theorem Mz (x:A) (f g:A->Option R):dL (.pan x) f g=g x:=rfl
@[simp] theorem Ks {α β:Type} (x y:α) (f:α->Option β):(bif p then some x else some y).bind f=f (bif p then x else y):=by cases p<;>rfl
@[simp] theorem Qw (x y:Value):(bif p then A.v x else A.v y)=A.v (bif p then x else y):=by cases p<;>rfl
@[simp] theorem Ku (x y:Bool):(bif p then Value.bool x else Value.bool y)=Value.bool (bif p then x else y):=by cases p<;>rfl
@[simp] theorem Lk (x y:Int):(bif p then Value.int k x else Value.int k y)=Value.int k (bif p then x else y):=by cases p<;>rfl
theorem aQ {l:IntKind} (hs:P.underlying s=some (.int l)) (hd:P.underlying d=some (.int k)):bt P s d (.v (.int l a)) H=some (.v (.int k (k.wrap a))):=by
 simp only[bt,hs,hd]
 have h:cJ P (convert s d (.int l a))=some (.int k (k.wrap a)):=by
  unfold convert
  simp only[oH,qc,hs,hd,XM]
  rfl
 show (cJ P _).map xP=_
 rw[h]; rfl
end
end
end Go.Proofs.YtebkhfhcipnfgaaGreat
