/-
 What the interpreter's steps are on plain data: equations for simp.
-/
import Derived.Test.YtebkhfhcipnfgaaEvHole
import Derived.LoopNIn
import Derived.RecoverIn
import Derived.Deep.QuietTactic
import Derived.BigQuiet
import Derived.WalkSmall
import Derived.Below
import Derived.ProofKit
import Derived.OpenShut
import Derived.ChangeOld
import Derived.Carry
namespace Go.Proofs.Ytebkhfhcipnfgaa
set_option linter.unusedSimpArgs false
set_option linter.unusedVariables false
set_option linter.defProp false
def S0:=@Bool.not_true
def S9:=@Nat.le_of_ble_eq_true
def Tv:=@Nat.not_lt_zero
def TI:=@Nat.ble_eq_true_of_le
def TQ:=@Bool.eq_iff_iff
def T1:=@Int.toNat_natCast
def Uj:=@List.length_drop
def Un:=@List.mem_cons_of_mem
def Uv:=@Nat.le_add_right
def UG:=@List.reverse_singleton
def UH:=@List.mem_cons_self
def UZ:=@Oper.semAt_none
def U3:=@Bool.eq_false_iff
def U4:=@not_true_eq_false
def U8:=@linearise_go_acc
def Vh:=@Option.some.inj
def Vm:=@Nat.ble_eq
def VC:=@step_lone_go
def VT:=@Option.isNone_iff_eq_none
def VU:=@List.pairwise_iff_getElem
def V1:=@Nat.lt_or_ge
def V2:=@Frame.finish_atR
def V3:=@List.length_eq_zero_iff
def V8:=@fenced_calm
def Wh:=@Array.mem_of_getElem?
def Wr:=@List.map_congr_left
def Ws:=@tryRecover_deferred
def Wy:=@fenced_oper
def WA:=@wpIn_seq
section
open Go.RowKit
section
variable {F:Fence} {n:Nat} {P:Program} {ops:Array Oper} {Q:Exit->Act->World->Prop}
def D4 (F:Fence) (n:Nat) (P:Program) (o:Oper) (ev:Operand->Value) (w:World) (R:Value->World->Prop) (Rp:List PanicEntry->World->Prop):Prop:=
 xF F n P o ev w R∨∃ f args w',(execOp ev o).run P w=.ok (.enter f args) w'/\CallsIn F (n - 1) P f args w' fun
   | .returned v,w''=>R v w''
   | .panicked ch,w''=>Rp ch w''
   | _,_=>False
theorem sM (hWF:qK F) {i:Nat} {o:Oper} (ho:ops[i]? = some o) (hp:lG o=true) {a:Act} {w:World} {K:Act->World->Prop} {R:Value->World->Prop}
  (h:if Region.wanted o (yielded ops a.tmps)=true then D4 F n P o a.eval w R (fun ch w'=>Q (.panic ch) a w') else R undef w) (hK:∀ v w',R v w'->K (a.put o.dst v) w'):wpOpIn F n P ops Q i K a w:=by
 by_cases hw:Region.wanted o (yielded ops a.tmps)=true
 ·rw[SH hw] at h
  rcases h with h | ⟨f,args,w',h1,h2⟩
  ·exact jZ hWF ho hp (by rw[SH hw]; exact h) hK
  ·unfold wpOpIn
   simp only[ho]
   rw[SH hw]
   refine⟨fun f _=>hWF.2 f,?_⟩
   rw[Wm _ _ _ (fun c hc=>by unfold lG at hp; rw[hc] at hp; cases hp),h1]
   have hd:F.depth.isSome=true->1<=n:=fun hs=>by rw[hWF.1] at hs; cases hs
   simp only[Oper.uponIn]
   exact⟨hd,h2.mono fun e w'' he=>by cases e<;>first | exact hK _ _ he | exact he | exact he.elim⟩
 ·exact jZ hWF ho hp (by rw[SI hw] at h ⊢; exact h) hK
theorem sn {a0:Act} {w0:World} (hWF:qK F) (hm:P.follows .mixedOrders=true) (N m:Nat) (hN:a0.tmps.size=N) (lj:te ops N=true) (chkt:eV ops m=true)
  (I:(Nat->Prop)->Act->World->Prop) (h0:∀ D,(∀ i,¬ D i)->I D a0 w0.drew)
  (hstep:∀ (D D':Nat->Prop) i o,i<m->ops[i]? = some o->(∀ j,D j->j<m)->¬ D i->(∀ j,ff ops i j=true->D j)->(∀ j k,D j->ff ops j k=true->D k)->(∀ j,D' j↔j=i∨D j)->∀ (a:Act) (w:World),I D a w->a.tmps.size=N->a.defers=a0.defers ->
   if Region.wanted o (yielded ops a.tmps)=true then D4 F n P o a.eval w (fun v w'=>I D' (a.put o.dst v) w') (fun ch w'=>Q (.panic ch) a w') else I D' (a.put o.dst undef) w)
  (hend:∀ (D:Nat->Prop) (a:Act) (w:World),(∀ i,i<m->D i)->(∀ j,D j->j<m)->I D a w->a.defers=a0.defers->a.tmps.size=N->wpListIn F n P ops Q (ops.toList.drop m) a w) :
  LW F n P ops Q a0 w0:=by
 have chk1:∀ i o,ops[i]? = some o->lG o=true/\(∀ e∈o.after,Region.binds .any e=true->e.on<i):=by
  intro i o ho
  have hi:i<ops.size:=(SE.1 ho).1
  have h:=SJ.1 lj i (S6.2 hi)
  simp only[ho,Sz] at h
  obtain ⟨⟨⟨⟨⟨h1,h2⟩,h3⟩,h4⟩,h5⟩,h6⟩:=h
  refine⟨h1,fun e he hb=>?_⟩
  have:=UN.1 h3 e he
  rw[hb] at this; simpa using this
 have hm2:m<=ops.size:=by
  simp only[eV,Sz,SG] at chkt
  exact chkt.1.1
 have main:∀ (fuel:Nat) (listed:Array Bool) (a:Act) (w:World),Ak ops listed<=fuel->listed.size=ops.size->I (fun i=>dZ ops listed i) a w->a.defers=a0.defers->a.tmps.size=N ->
   (∀ i o,ops[i]? = some o->dZ ops listed i->∀ e∈o.after,Region.binds .any e=true->dZ ops listed e.on)->(∀ i,m<=i->¬ dZ ops listed i)->wpAnyIn F n P .any ops Q fuel listed a w:=by
  have getD_eq:∀ (listed:Array Bool) (i:Nat),i<listed.size->listed.getD i true=listed.getD i false:=fun listed i hi=>by simp[hi]
  intro fuel
  induction fuel with
  | zero=>
   intro listed a w hu hls hI hdf hsz hcl hnt
   have all:∀ i,i<ops.size->dZ ops listed i:=fun i hi=>by
    cases hc:listed.getD i false with
    | true=>exact hc
    | false=>
     have hmem:i∈(List.range ops.size).filter (fun i=>!listed.getD i true):=Vv.2 ⟨S6.2 hi,by rw[getD_eq _ _ o3,hc]; rfl⟩
     have:=UE hmem
     unfold Ak at hu; omega
   have hmm:m=ops.size:=Vw hm2 (Uu fun h=>hnt m (Sy _) (all m h))
   exact pj chkt 0 ops.size o3 hm2 0 listed a w (Sy _) hls (fun i hi=>⟨fun _=>hi,fun _=>all i hi⟩)
    (by rw[<-hmm]; exact hend _ a w (fun i hi=>all i o3) (fun j hj=>TV fun hle=>hnt j hle hj) hI hdf hsz)
  | succ fuel ih=>
   intro listed a w hu hls hI hdf hsz hcl hnt
   by_cases hall:∀ i,i<m->dZ ops listed i
   ·refine pj chkt (ops.size - m) m o3 (Sy _) (fuel+1) listed a w ?_ hls (fun i hi=>⟨fun h=>TV fun hle=>hnt i hle h,fun h=>hall i h⟩)
     (hend _ a w hall (fun j hj=>TV fun hle=>hnt j hle hj) hI hdf hsz)
    refine SZ ?_ hu
    unfold Ak
    have:((List.range ops.size).filter fun i=>decide (m<=i)).length=ops.size - m:=by
     rw[<-T2]
     have:∀ s,(List.range s).countP (fun i=>decide (m<=i))=s - m:=by
      intro s
      induction s with
      | zero=>simp
      | succ s ih=>rw[List.range_succ,List.countP_append,ih]; simp[List.countP_cons]; split<;>omega
     exact this _
    rw[<-this]
    rw[<-T2,<-T2]
    refine Wd fun i hi h=>?_
    have hi:=S6.1 hi
    have hn:=hnt i (by simpa using h)
    unfold dZ at hn
    rw[getD_eq _ _ o3]
    simpa using hn
   ·simp only[Wj] at hall
    obtain ⟨i0,hi0,hni0⟩:=hall
    refine⟨fun hrd=>?_,fun i hi=>?_⟩
    ·exfalso
     have:∀ i,i<m->dZ ops listed i:=by
      intro i
      induction i using Nat.strongRecOn with
      | _ i ih2=>
       intro hi
       cases hc:listed.getD i false with
       | true=>exact hc
       | false=>
        have:i∈Region.ready .any ops listed:=by
         refine UW.2 ⟨by rw[getD_eq _ _ o3]; exact hc,_,Tl o3,fun e he hb=>?_⟩
         have hlt:=(chk1 i _ (Tl o3)).2 e he hb
         exact ih2 e.on hlt o3
        rw[hrd] at this; cases this
     exact hni0 (this i0 hi0)
    obtain ⟨hun,o,ho,hall⟩:=UW.1 hi
    have his:i<ops.size:=(SE.1 ho).1
    have him:i<m:=TV fun hle=>by
     simp only[eV,Sz] at chkt
     have h1:=SJ.1 chkt.1.2 i (S6.2 his)
     simp only[TK,SG] at h1
     have h2:=SJ.1 (h1.resolve_left o3) i0 (S6.2 hi0)
     exact hni0 (kE hcl i i0 ⟨o,ho,hall⟩ h2)
    obtain ⟨c1,c3⟩:=chk1 i o ho
    have hnot:¬ dZ ops listed i:=by unfold dZ; rw[<-getD_eq _ _ o3,hun]; simp
    have come_set:∀ k,dZ ops (listed.setIfInBounds i true) k↔k=i∨dZ ops listed k:=fun k=>by
     unfold dZ
     by_cases e:k=i
     ·subst e; simp[hls,his]
     ·rw[UL false (TF e)]; simp[e]
    have hlt:∀ j,dZ ops listed j->j<m:=fun j hj=>TV fun hle=>hnt j hle hj
    refine sM hWF ho c1 (R:=fun v w'=>I (fun k=>dZ ops (listed.setIfInBounds i true) k) (a.put o.dst v) w') (hstep _ _ i o him ho hlt hnot (fun j hb=>kE hcl i j ⟨o,ho,hall⟩ hb) (fun j k hj hb=>?_) come_set a w hI hsz hdf) ?_
    ·cases hoj:ops[j]? with
     | none=>exact absurd (Array.getElem?_eq_none_iff.1 hoj) (by have:=hlt j hj; omega)
     | some oj=>exact kE hcl j k ⟨oj,hoj,hcl j oj hoj hj⟩ hb
    ·intro v w' hI'
     refine ih _ _ _ ?_ (by simpa using hls) hI' ?_ ?_ ?_ ?_
     ·have:=filter_lt (fun k=>!listed.getD k true) (fun k=>!(listed.setIfInBounds i true).getD k true) (List.range ops.size) (fun x hx hq=>by
       by_cases e:i=x
       ·subst e; rw[hun]; rfl
       ·rw[UL true e] at hq; exact hq) ⟨i,S6.2 his,by rw[hun]; rfl,by simp[hls,his]⟩
      unfold Ak at *; omega
     ·cases hd:o.dst<;>simp[Act.put,hdf]
     ·cases hd:o.dst<;>simp[Act.put,hsz]
     ·intro k ok hok hk e he hb
      rw[come_set]
      rcases (come_set k).1 hk with rfl | hk
      ·rw[ho] at hok; cases hok
       exact .inr (hall e he hb)
      ·exact .inr (hcl k ok hok hk e he hb)
     ·intro k hk hc
      rcases (come_set k).1 hc with rfl | hc
      ·omega
      ·exact hnt k hk hc
 have h00:∀ i,¬ dZ ops (Array.replicate ops.size false) i:=fun i hc=>by
  unfold dZ at hc
  by_cases h:i<ops.size<;>simp[Array.getD,h] at hc
 refine Bg hm (main _ _ _ _ ?_ r8 (h0 _ h00) rfl hN ?_ ?_)
 ·unfold Ak
  exact SZ (Vu _ _) r8
 ·intro i o _ hc; exact absurd hc (h00 i)
 ·intro i _ hc; exact h00 i hc
end
variable {H H':ar} {g g':Gh} {w0 w w':World} {cx:Cx} {s:St} {a:Act} {F:Fence} {n:Nat} {N lo:Nat} {mb:Mb} {H0:ar} {gs:Gh} {ws:World} {Bs:ar->Gh->World->Prop} {f:Nat} {ops:Array Oper}
theorem rr {call:aU} {o:Oper} {fr:List (Nat×A)} {H H':ar} (hk:bC o=0):gC cx call f o ⟨fr,H⟩=gC cx call f o ⟨fr,H'⟩:=by
 have ho:∀ x,bM cx ⟨fr,H⟩ x=bM cx ⟨fr,H'⟩ x:=fun x=>by cases x<;>rfl
 have hof:bM cx ⟨fr,H⟩=bM cx ⟨fr,H'⟩:=funext ho
 unfold bC at hk
 unfold gC bw
 split at hk
 all_goals first
  | (rename_i h; simp only[h,ho,hof]; done)
  | (rename_i h; simp only[h,ho,hof]; rfl)
  | (cases hk; done)
  | (split at hk<;>cases hk; done)
theorem AL {H H':ar} {a:A} (h:rz a=true):cY H a=cY H' a:=by
 unfold rz at h
 unfold cY
 split
 ·cases h
 ·rename_i cs
  congr 1
  refine Wr fun c hc=>?_
  have:=SJ.1 h c hc
  unfold Gl at this
  unfold AK
  split
  ·cases this
  ·rfl
  ·rfl
 ·rfl
theorem rB:∀ {l:List A},oX l=true->∀ a∈l,rz a=true
 | [],_,a,ha=>by cases ha
 | x :: l,h,a,ha=>by
  unfold oX at h
  cases hx:rz x with
  | false=>rw[hx] at h; cases h
  | true=>
   rw[hx] at h
   rcases Ti.1 ha with rfl | ha
   ·exact hx
   ·exact rB h a ha
theorem wM {call:aU} {o:Oper} {fr:List (Nat×A)} {H H':ar} (hk:bC o=2) (hf:oX (partsOf cx ⟨fr,H⟩ o.op)=true):gC cx call f o ⟨fr,H⟩=gC cx call f o ⟨fr,H'⟩:=by
 have ho:∀ x,bM cx ⟨fr,H⟩ x=bM cx ⟨fr,H'⟩ x:=fun x=>by cases x<;>rfl
 unfold bC at hk
 split at hk<;>first | (cases hk; done) | (split at hk<;>cases hk; done) | skip
 rename_i t len parts h
 have hf:=rB hf
 unfold partsOf at hf
 rw[h] at hf
 simp only[] at hf
 unfold gC bw
 simp only[h]
 have:(parts.toList.map fun p=>(p.1,cY H (bM cx ⟨fr,H⟩ p.2)))=parts.toList.map fun p=>(p.1,cY H' (bM cx ⟨fr,H'⟩ p.2)):=by
  refine Wr fun p hp=>?_
  rw[<-ho,AL (hf _ (VV.2 ⟨p,hp,rfl⟩))]
 rw[this]
theorem nc {H H':ar} {x:A} (hb:∀ b,blk? x=some b->H'[b]? = H[b]?):fY H x=fY H' x:=by
 unfold fY
 cases x with
 | ptr b o=>simp only[]; rw[hb b rfl]
 | ep b i o=>simp only[]; rw[hb b rfl]
 | sl b o n c=>simp only[]; rw[hb b rfl]
 | mr b=>simp only[]; rw[hb b rfl]
 | _=>rfl
theorem vg {call:aU} {o:Oper} {fr:List (Nat×A)} {H H':ar} (hk:bC o=1) (hb:∀ b,blk? (addrOf cx ⟨fr,H⟩ o.op)=some b->H'[b]? = H[b]?):gC cx call f o ⟨fr,H⟩=gC cx call f o ⟨fr,H'⟩:=by
 have ho:∀ x,bM cx ⟨fr,H⟩ x=bM cx ⟨fr,H'⟩ x:=fun x=>by cases x<;>rfl
 have hof:bM cx ⟨fr,H⟩=bM cx ⟨fr,H'⟩:=funext ho
 unfold bC at hk
 split at hk<;>first | (cases hk; done) | skip
 ·rename_i t x h
  unfold addrOf at hb
  rw[h] at hb
  simp only[] at hb
  unfold gC bw
  simp only[h]
  have:ml cx.P t (bM cx ⟨fr,H⟩ x) H=ml cx.P t (bM cx ⟨fr,H'⟩ x) H':=by
   rw[<-ho]
   unfold ml
   cases hx:bM cx ⟨fr,H⟩ x with
   | ptr b o=>simp only[]; rw[hb b (by rw[hx]; rfl)]
   | ep b i o=>simp only[]; rw[hb b (by rw[hx]; rfl)]
   | _=>rfl
  rw[this]
 ·rename_i t x i h
  unfold addrOf at hb
  rw[h] at hb
  simp only[] at hb
  unfold gC bw
  simp only[h]
  have:fo cx.P t (bM cx ⟨fr,H⟩ x) i H=fo cx.P t (bM cx ⟨fr,H'⟩ x) i H':=by
   rw[<-ho]
   unfold fo
   rw[nc hb]
  rw[this]
 ·rename_i t x i h
  unfold addrOf at hb
  rw[h] at hb
  simp only[] at hb
  unfold gC bw
  simp only[h]
  have:cQ cx.P t (bM cx ⟨fr,H⟩ x) (bM cx ⟨fr,H⟩ i) H=cQ cx.P t (bM cx ⟨fr,H'⟩ x) (bM cx ⟨fr,H'⟩ i) H':=by
   rw[<-ho,<-ho]
   unfold cQ
   rw[nc hb]
   cases hx:bM cx ⟨fr,H⟩ x with
   | ptr b o=>rfl
   | ep b i o=>simp only[]; rw[hb b (by rw[hx]; rfl)]
   | sl b o n c=>simp only[]; rw[hb b (by rw[hx]; rfl)]
   | _=>rfl
  rw[this]
 ·rename_i t x lo hi mx h
  unfold addrOf at hb
  rw[h] at hb
  simp only[] at hb
  unfold gC bw
  simp only[h]
  have:∀ a b c,eb cx.P t (bM cx ⟨fr,H⟩ x) a b c H=eb cx.P t (bM cx ⟨fr,H'⟩ x) a b c H':=fun a b c=>by
   rw[<-ho]
   generalize hx:bM cx ⟨fr,H⟩ x=y at hb ⊢
   unfold eb
   split
   ·rfl
   ·rfl
   ·rename_i hb'
    rw[hb _ rfl]
   ·rfl
   ·rename_i hb'
    rw[hb _ rfl]
   ·rfl
  simp only[this]
  simp only[hof]
 ·rename_i x h
  unfold addrOf at hb
  rw[h] at hb
  simp only[] at hb
  unfold gC bw
  simp only[h]
  have:Au (bM cx ⟨fr,H⟩ x) H=Au (bM cx ⟨fr,H'⟩ x) H':=by
   rw[<-ho]
   have hr:=nc hb
   unfold Au
   cases hx:bM cx ⟨fr,H⟩ x with
   | ptr b o=>rw[hx] at hr; simp only[pO,hr]
   | ep b i o=>rw[hx] at hr; simp only[pO,hr]
   | fn q _ _=>cases q<;>rfl
   | _=>rfl
  rw[this]
 ·rename_i t1 t2 x h
  unfold addrOf at hb
  rw[h] at hb
  simp only[] at hb
  unfold gC bw
  simp only[h]
  have:aW cx.P t1 t2 (bM cx ⟨fr,H⟩ x) H=aW cx.P t1 t2 (bM cx ⟨fr,H'⟩ x) H':=by
   rw[<-ho]
   have he:wD H (bM cx ⟨fr,H⟩ x)=wD H' (bM cx ⟨fr,H⟩ x):=by
    unfold wD els?
    cases hx:bM cx ⟨fr,H⟩ x with
    | sl b o n c=>simp only[]; rw[hb b (by rw[hx]; rfl)]
    | v y=>rfl
    | _=>rfl
   generalize bM cx ⟨fr,H⟩ x=z at he
   unfold aW
   split
   ·rw[he]
   ·rfl
   ·rfl
  rw[this]
 ·rename_i t x q c h
  unfold addrOf at hb
  rw[h] at hb
  simp only[] at hb
  unfold gC bw
  simp only[h]
  have:kZ cx.P t (bM cx ⟨fr,H⟩ x) (bM cx ⟨fr,H⟩ q) c H=kZ cx.P t (bM cx ⟨fr,H'⟩ x) (bM cx ⟨fr,H'⟩ q) c H':=by
   rw[<-ho,<-ho]
   unfold kZ
   cases hx:bM cx ⟨fr,H⟩ x with
   | mr b=>simp only[]; rw[hb b (by rw[hx]; rfl)]
   | _=>rfl
  rw[this]
 ·rename_i c h
  split at hk<;>first | (cases hk; done) | skip
  rename_i hc
  unfold addrOf at hb
  rw[h] at hb
  simp only[] at hb
  unfold gC bw
  simp only[h,hc]
  have hi:g9 (.call c)=false:=by unfold g9; simp only[hc]
  rw[hi,SA,SA]
  unfold oQ
  simp only[hc]
  cases hx:c.args.toList with
  | nil=>rfl
  | cons y l=>
   rw[hx] at hb
   simp only[] at hb
   cases l with
   | nil=>
    cases c.argTypes.toList with
    | nil=>rfl
    | cons t ts=>cases ts with
     | nil=>
      simp only[]
      have:qP cx.P t (bM cx ⟨fr,H⟩ y) H=qP cx.P t (bM cx ⟨fr,H'⟩ y) H':=by
       rw[<-ho]
       unfold qP
       rw[nc hb]
      rw[this]
     | cons _ _=>rfl
   | cons _ _=>rfl
theorem iI {H:ar} {x:A} {b:Nat} (h:fY H x=true) (hb:blk? x=some b):∃ B,H[b]? = some B:=by
 unfold fY at h
 cases x with
 | ptr b' o=>cases hb; cases hq:H[b]? with
  | none=>simp only[hq] at h; cases h
  | some B=>exact⟨B,rfl⟩
 | ep b' i o=>cases hb; cases hq:H[b]? with
  | none=>simp only[hq] at h; cases h
  | some B=>exact⟨B,rfl⟩
 | sl b' o n c=>cases hb; cases hq:H[b]? with
  | none=>simp only[hq] at h; cases h
  | some B=>exact⟨B,rfl⟩
 | mr b'=>cases hb; cases hq:H[b]? with
  | none=>simp only[hq] at h; cases h
  | some B=>exact⟨B,rfl⟩
 | _=>cases hb
theorem tN {call:aU} {o:Oper} {s:St} {x:A} {b:Nat} (hk:bC o=1) (h1:gC cx call f o s=some x) (hb:blk? (addrOf cx s o.op)=some b):∃ B,s.H[b]? = some B:=by
 unfold bC at hk
 unfold addrOf at hb
 split at hk<;>first | (cases hk; done) | skip
 ·rename_i t y hx
  rw[hx] at hb
  simp only[] at hb
  unfold gC bw at h1
  simp only[hx] at h1
  obtain ⟨_,h1,_⟩:=bn h1
  unfold ml at h1
  obtain ⟨_,_,h1⟩:=bn h1
  obtain ⟨_,h1⟩:=dN h1
  generalize bM cx s y=z at hb h1
  cases z with
  | ptr b2 o2=>cases hb; cases hq:s.H[b]? with
   | none=>simp only[hq] at h1; cases h1
   | some B=>exact⟨B,rfl⟩
  | ep b2 i2 o2=>cases hb; cases hq:s.H[b]? with
   | none=>simp only[hq] at h1; cases h1
   | some B=>exact⟨B,rfl⟩
  | sl b2 o2 n2 c2=>cases h1
  | mr _=>cases h1
  | _=>cases hb
 ·rename_i t y q hx
  rw[hx] at hb
  simp only[] at hb
  unfold gC bw at h1
  simp only[hx] at h1
  obtain ⟨_,h1,_⟩:=bn h1
  unfold fo at h1
  exact iI (bc h1).1 hb
 ·rename_i t y q hx
  rw[hx] at hb
  simp only[] at hb
  unfold gC bw at h1
  simp only[hx] at h1
  obtain ⟨_,h1,_⟩:=bn h1
  unfold cQ at h1
  obtain ⟨_,_,h1⟩:=bn h1
  exact iI (bc h1).1 hb
 ·rename_i t y q1 q2 q3 hx
  rw[hx] at hb
  simp only[] at hb
  unfold gC bw at h1
  simp only[hx] at h1
  obtain ⟨_,h1,_⟩:=bn h1
  obtain ⟨_,h1⟩:=bc h1
  generalize bM cx s y=z at hb h1
  unfold eb at h1
  split at h1
  ·cases hb
  ·cases hb
  ·cases hb
   obtain ⟨_,_,h1⟩:=bn h1
   obtain ⟨_,_,h1⟩:=bn h1
   obtain ⟨_,_,h1⟩:=bn h1
   obtain ⟨hc,_⟩:=bc h1
   rw[Sz] at hc
   have hc:=hc.2
   cases hq:s.H[b]? with
   | none=>rw[hq] at hc; cases hc
   | some B=>exact⟨B,rfl⟩
  ·cases hb
  ·cases hb
   obtain ⟨_,_,h1⟩:=bn h1
   obtain ⟨_,_,h1⟩:=bn h1
   obtain ⟨_,_,h1⟩:=bn h1
   obtain ⟨hc,_⟩:=bc h1
   rw[Sz] at hc
   have hc:=hc.2
   cases hq:s.H[b]? with
   | none=>rw[hq] at hc; cases hc
   | some B=>exact⟨B,rfl⟩
  ·cases h1
 ·rename_i y hx
  rw[hx] at hb
  simp only[] at hb
  unfold gC bw at h1
  simp only[hx] at h1
  obtain ⟨_,h1,_⟩:=bn h1
  unfold Au at h1
  obtain ⟨hn,_⟩:=bc h1
  generalize bM cx s y=z at hb hn
  cases z with
  | ptr b2 o2=>exact iI (x:=.ptr b2 o2) hn hb
  | ep b2 i2 o2=>exact iI (x:=.ep b2 i2 o2) hn hb
  | sl b2 o2 n2 c2=>cases hn
  | mr _=>cases hn
  | _=>cases hb
 ·rename_i t1 t2 y hx
  rw[hx] at hb
  simp only[] at hb
  unfold gC bw at h1
  simp only[hx] at h1
  obtain ⟨_,h1,_⟩:=bn h1
  generalize bM cx s y=z at hb h1
  cases z with
  | sl b2 o2 n2 c2=>
   cases hb
   cases hq:s.H[b]? with
   | some B=>exact⟨B,rfl⟩
   | none=>
    unfold aW at h1
    split at h1
    ·rename_i heq
     split at h1
     ·obtain ⟨_,h1,_⟩:=bn h1
      simp only[wD,els?,hq] at h1
      cases h1
     ·cases h1
    ·rename_i heq
     cases heq
    ·obtain ⟨_,h1,_⟩:=bn h1
     cases h1
  | ptr _ _=>
   unfold aW at h1
   split at h1
   ·split at h1
    ·obtain ⟨_,h1,_⟩:=bn h1
     cases h1
    ·cases h1
   ·rename_i heq
    cases heq
   ·obtain ⟨_,h1,_⟩:=bn h1
    cases h1
  | ep _ _ _=>
   unfold aW at h1
   split at h1
   ·split at h1
    ·obtain ⟨_,h1,_⟩:=bn h1
     cases h1
    ·cases h1
   ·rename_i heq
    cases heq
   ·obtain ⟨_,h1,_⟩:=bn h1
    cases h1
  | mr _=>
   unfold aW at h1
   split at h1
   ·split at h1
    ·obtain ⟨_,h1,_⟩:=bn h1
     cases h1
    ·cases h1
   ·rename_i heq
    cases heq
   ·obtain ⟨_,h1,_⟩:=bn h1
    cases h1
  | _=>cases hb
 ·rename_i t y q c hx
  rw[hx] at hb
  simp only[] at hb
  unfold gC bw at h1
  simp only[hx] at h1
  obtain ⟨_,h1,_⟩:=bn h1
  generalize bM cx s y=z at hb h1
  unfold kZ at h1
  obtain ⟨_,_,h1⟩:=bn h1
  obtain ⟨_,_,h1⟩:=bn h1
  cases z with
  | mr b2=>cases hb; cases hq:s.H[b]? with
   | none=>simp only[hq] at h1; cases h1
   | some B=>exact⟨B,rfl⟩
  | ptr _ _=>cases h1
  | ep _ _ _=>cases h1
  | sl _ _ _ _=>cases h1
  | _=>cases hb
 ·rename_i c hx
  split at hk<;>first | (cases hk; done) | skip
  rename_i hc
  rw[hx] at hb
  simp only[] at hb
  unfold gC bw at h1
  simp only[hx,hc] at h1
  have hi:g9 (.call c)=false:=by unfold g9; simp only[hc]
  rw[hi,SA] at h1
  unfold oQ at h1
  simp only[hc] at h1
  cases hargs:c.args.toList with
  | nil=>rw[hargs] at hb; cases hb
  | cons y l=>
   rw[hargs] at hb h1
   simp only[] at hb h1
   split at h1<;>first | (cases h1; done) | skip
   all_goals first
    | (rename_i hh _ _; injection hh with hh; cases hh; done)
    | (rename_i hh _; injection hh with hh; cases hh; done)
    | skip
   rename_i x' t' _ hl _
   cases hl
   obtain ⟨_,h1,_⟩:=bn h1
   unfold qP at h1
   exact iI (bc h1).1 hb
theorem rq {call:aU} {o:Oper} {fr:List (Nat×A)} {H H':ar} (hk:bC o=2∨(bC o=4/\ug cx o=true)) (h:∀ b,fe H b=fe H' b):gC cx call f o ⟨fr,H⟩=gC cx call f o ⟨fr,H'⟩:=by
 have ho:∀ x,bM cx ⟨fr,H⟩ x=bM cx ⟨fr,H'⟩ x:=fun x=>by cases x<;>rfl
 have hof:bM cx ⟨fr,H⟩=bM cx ⟨fr,H'⟩:=funext ho
 rcases hk with hk | ⟨_,hk⟩
 ·unfold bC at hk
  split at hk<;>first | (cases hk; done) | (rename_i c _; split at hk<;>cases hk; done) | skip
  rename_i t len parts ho
  unfold gC bw
  simp only[ho,hof,tU h]
 ·unfold ug at hk
  split at hk
  ·rename_i c hc
   split at hk
   ·rename_i q hq
    rw[Sz] at hk
    have hi:g9 o.op=true:=by unfold g9; rw[hc]; simp only[hq]
    unfold gC
    simp only[hc] at hi ⊢
    rw[hi,SC,SC]
    unfold iB er
    simp only[hq]
    have hfv:∀ K,bM cx ⟨fr,K⟩ (.func q)=.fn (.func q) [] []:=fun _=>rfl
    rw[hfv,hfv]
    unfold qn
    simp only[hk.1,hk.2,SC,hof,pT h]
   ·cases hk
  ·cases hk
theorem Co {call:aU} {o:Oper} {s:St} {H H':ar} (hk:EF cx s o=true) (h:∀ b,fe H b=fe H' b):gC cx call f o ⟨s.fr,H⟩=gC cx call f o ⟨s.fr,H'⟩:=by
 have ho:∀ x,bM cx ⟨s.fr,H⟩ x=bM cx ⟨s.fr,H'⟩ x:=fun x=>by cases x<;>rfl
 have ho2:∀ x,bM cx ⟨s.fr,H'⟩ x=bM cx s x:=fun x=>by cases x<;>rfl
 have hof:bM cx ⟨s.fr,H⟩=bM cx ⟨s.fr,H'⟩:=funext ho
 have hof2:bM cx ⟨s.fr,H'⟩=bM cx s:=funext ho2
 unfold EF at hk
 split at hk
 ·rename_i c hc
  have hi:g9 (.call c)=true:=by
   cases hi:g9 (.call c) with
   | true=>rfl
   | false=>rw[hi] at hk; cases hk
  rw[hi,SC] at hk
  have e1:iB cx ⟨s.fr,H⟩ (.call c)=iB cx s (.call c):=by unfold iB; rw[hof,hof2]
  have e2:iB cx ⟨s.fr,H'⟩ (.call c)=iB cx s (.call c):=by unfold iB; rw[hof2]
  have e3:er cx ⟨s.fr,H⟩ (.call c)=er cx ⟨s.fr,H'⟩ (.call c):=by unfold er; rw[hof]
  unfold gC
  simp only[hc]
  rw[hi,SC,SC,e1,e2,e3]
  split at hk
  ·rename_i q first cap hfv
   rw[Sz] at hk
   rw[hfv]
   unfold qn
   simp only[hk.1,hk.2,SC,pT h]
  ·cases hk
 ·cases hk
theorem AB {o:Oper} {x:A} {H':ar} (he:yf o=true) (h:bw cx f lo o s (fun a H=>some (a,H))=some (x,H')):∀ b,fe H' b=fe s.H b:=by
 have new:∀ B,(∀ es els,B≠aD.row false es els)->∀ b,fe (s.H++[B]) b=fe s.H b:=fun B hB b=>by
  unfold fe
  by_cases hb:b<s.H.length
  ·rw[SP hb]
  ·rw[S3 o3,TM (by omega:s.H.length<=b)]
   cases hx:[B][b - s.H.length]? with
   | none=>rfl
   | some C=>
    have:C=B:=by
     have:=S1 hx
     simpa using this
    subst this
    cases C with
    | row wr es els=>cases wr with
     | true=>rfl
     | false=>exact absurd rfl (hB es els)
    | _=>rfl
 have setb:∀ c B B0,s.H[c]? = some B0->(∀ es els,B0≠aD.row false es els)->(∀ es els,B≠aD.row false es els)->∀ b,fe (s.H.set c B) b=fe s.H b:=fun c B B0 h0 h1 h2 b=>by
  by_cases hb:b=c
  ·subst hb
   rw[uj (SY (SB.1 h0).1) h2,uj h0 h1]
  ·unfold fe
   rw[SO (TF hb)]
 have nb:∀ cs es els,aD.box cs≠aD.row false es els:=fun _ _ _ h=>by cases h
 have nt:∀ es els es' els',aD.row true es els≠aD.row false es' els':=fun _ _ _ _ h=>by cases h
 have row:∀ {t cs y K},rowOf cx.P t cs s.H=some (y,K)->∃ es els,K=s.H++[.row true es els]:=fun {t cs y K} h=>by
  unfold rowOf at h
  split at h
  ·obtain ⟨es,_,h⟩:=bn h
   obtain ⟨_,h⟩:=dN h
   cases h
   exact⟨_,_,rfl⟩
  ·cases h
 unfold yf at he
 split at he
 ·rename_i t ad v ho
  unfold bw at h
  simp only[ho] at h
  obtain ⟨K,h1,h⟩:=bn h
  cases h
  unfold iL at h1
  obtain ⟨nn,_,h1⟩:=bn h1
  obtain ⟨xs,_,h1⟩:=bn h1
  obtain ⟨_,h1⟩:=dN h1
  split at h1
  ·split at h1
   ·rename_i hb
    obtain ⟨_,h1⟩:=bc h1
    cases h1
    exact setb _ _ _ hb (nb _) (nb _)
   ·cases h1
  ·split at h1
   ·rename_i hb
    split at h1
    ·rw[bp] at h1
     split at h1
     ·cases h1
      exact setb _ _ _ hb (nt _ _) (nt _ _)
     ·obtain ⟨_,h1⟩:=bc h1
      cases h1
      exact setb _ _ _ hb (nt _ _) (nt _ _)
    ·cases h1
   ·cases h1
  ·cases h1
 ·rename_i t ho
  unfold bw at h
  simp only[ho] at h
  obtain ⟨⟨y,K⟩,h1,h⟩:=bn h
  cases h
  unfold nM at h1
  rw[bp] at h1
  split at h1
  ·unfold jF at h1
   obtain ⟨cs,_,h1⟩:=bn h1
   obtain ⟨es,els,rfl⟩:=row h1
   exact new _ (nt _ _)
  ·unfold kY at h1
   obtain ⟨cs,_,h1⟩:=Te.1 h1
   cases h1
   exact new _ (nb _)
 ·rename_i t v ho
  unfold bw at h
  simp only[ho] at h
  obtain ⟨⟨y,K⟩,h1,h⟩:=bn h
  cases h
  unfold ye at h1
  rw[bp] at h1
  split at h1
  ·unfold tC at h1
   obtain ⟨cs,_,h1⟩:=bn h1
   obtain ⟨es,els,rfl⟩:=row h1
   exact new _ (nt _ _)
  ·unfold xW at h1
   obtain ⟨cs,_,h1⟩:=Te.1 h1
   cases h1
   exact new _ (nb _)
 ·rename_i t a b ho
  have hab:a=b:=SM he
  subst hab
  unfold bw at h
  simp only[ho] at h
  obtain ⟨⟨y,K⟩,h1,h⟩:=bn h
  cases h
  unfold rT at h1
  rw[bp] at h1
  split at h1
  ·unfold gG at h1
   obtain ⟨_,_,h1⟩:=bn h1
   obtain ⟨_,_,h1⟩:=bn h1
   obtain ⟨_,_,h1⟩:=bn h1
   obtain ⟨_,_,h1⟩:=bn h1
   obtain ⟨_,_,h1⟩:=bn h1
   obtain ⟨_,_,h1⟩:=bn h1
   obtain ⟨_,h1⟩:=dN h1
   cases h1
   exact fun _=>rfl
  ·unfold dV at h1
   obtain ⟨_,_,h1⟩:=bn h1
   obtain ⟨_,_,h1⟩:=bn h1
   obtain ⟨_,_,h1⟩:=bn h1
   obtain ⟨_,_,h1⟩:=bn h1
   obtain ⟨n,hn,h1⟩:=bn h1
   obtain ⟨c,hc,h1⟩:=bn h1
   rw[hn] at hc
   cases hc
   obtain ⟨_,h1⟩:=dN h1
   rw[show (n==n)=true from r8,SC] at h1
   cases h1
   exact new _ (nt _ _)
 ·rename_i c ho
  unfold bw at h
  simp only[ho] at h
  split at he
  ·rename_i hca
   unfold oQ at h
   simp only[hca] at h
   split at h
   all_goals first | (rename_i hh _ _; cases hh; done) | (rename_i hh _ _; injection hh with hh; cases hh; done) | skip
   ·rename_i x y t t2 _ hargs _
    obtain ⟨⟨z,K⟩,h1,h⟩:=bn h
    cases h
    unfold p0 at h1
    obtain ⟨_,_,h1⟩:=bn h1
    obtain ⟨_,_,h1⟩:=bn h1
    obtain ⟨_,_,h1⟩:=bn h1
    obtain ⟨_,h1⟩:=dN h1
    split at h1
    ·split at h1
     ·rename_i hb
      obtain ⟨_,h1⟩:=bc h1
      cases h1
      exact setb _ _ _ hb (nt _ _) (nt _ _)
     ·cases h1
    ·cases h1
   all_goals first | (cases h; done) | (rename_i hh _; injection hh with hh; cases hh; done)
  ·cases he
 ·cases he
theorem pG {o:Oper} {x:A} {H':ar} (he:dp o=true) (h:bw cx f lo o s (fun a H=>some (a,H))=some (x,H')):s.H.length<=H'.length/\∀ b,b<s.H.length->(∀ c,blk? (cU cx s o.op)=some c->b≠c)->H'[b]? = s.H[b]?:=by
 have new:∀ B,s.H.length<=(s.H++[B]).length/\∀ b,b<s.H.length->(∀ c,blk? (cU cx s o.op)=some c->b≠c)->(s.H++[B])[b]? = s.H[b]?:=fun B=>⟨r8,fun b hb _=>SP hb⟩
 have setb:∀ c B,blk? (cU cx s o.op)=some c->s.H.length<=(s.H.set c B).length/\∀ b,b<s.H.length->(∀ c,blk? (cU cx s o.op)=some c->b≠c)->(s.H.set c B)[b]? = s.H[b]?:=fun c B hc=>⟨r8,fun b _ hb=>SO (TF (hb c hc))⟩
 have row:∀ {t cs y K},rowOf cx.P t cs s.H=some (y,K)->∃ B,K=s.H++[B]:=fun {t cs y K} h=>by
  unfold rowOf at h
  split at h
  ·obtain ⟨es,_,h⟩:=bn h
   obtain ⟨_,h⟩:=dN h
   cases h
   exact⟨_,rfl⟩
  ·cases h
 unfold dp at he
 split at he
 ·rename_i t ad v ho
  unfold bw at h
  simp only[ho] at h
  obtain ⟨K,h1,h⟩:=bn h
  cases h
  unfold iL at h1
  obtain ⟨nn,_,h1⟩:=bn h1
  obtain ⟨xs,_,h1⟩:=bn h1
  obtain ⟨_,h1⟩:=dN h1
  have ht:cU cx s o.op=bM cx s ad:=by unfold cU; rw[ho]
  cases hx:bM cx s ad with
  | ptr b oo=>
   simp only[hx] at h1
   split at h1
   ·obtain ⟨_,h1⟩:=bc h1
    cases h1
    exact setb b _ (by rw[ht,hx]; rfl)
   ·cases h1
  | ep b i oo=>
   simp only[hx] at h1
   split at h1
   ·split at h1
    ·rw[bp] at h1
     split at h1
     ·cases h1
      exact setb b _ (by rw[ht,hx]; rfl)
     ·obtain ⟨_,h1⟩:=bc h1
      cases h1
      exact setb b _ (by rw[ht,hx]; rfl)
    ·cases h1
   ·cases h1
  | _=>simp only[hx] at h1; cases h1
 ·rename_i t ho
  unfold bw at h
  simp only[ho] at h
  obtain ⟨⟨y,K⟩,h1,h⟩:=bn h
  cases h
  unfold nM at h1
  rw[bp] at h1
  split at h1
  ·unfold jF at h1
   obtain ⟨cs,_,h1⟩:=bn h1
   obtain ⟨B,rfl⟩:=row h1
   exact new B
  ·unfold kY at h1
   obtain ⟨cs,_,h1⟩:=Te.1 h1
   cases h1
   exact new _
 ·rename_i t v ho
  unfold bw at h
  simp only[ho] at h
  obtain ⟨⟨y,K⟩,h1,h⟩:=bn h
  cases h
  unfold ye at h1
  rw[bp] at h1
  split at h1
  ·unfold tC at h1
   obtain ⟨cs,_,h1⟩:=bn h1
   obtain ⟨B,rfl⟩:=row h1
   exact new B
  ·unfold xW at h1
   obtain ⟨cs,_,h1⟩:=Te.1 h1
   cases h1
   exact new _
 ·rename_i t l c ho
  unfold bw at h
  simp only[ho] at h
  obtain ⟨⟨y,K⟩,h1,h⟩:=bn h
  cases h
  unfold rT at h1
  rw[bp] at h1
  split at h1
  ·unfold gG at h1
   obtain ⟨_,_,h1⟩:=bn h1
   obtain ⟨_,_,h1⟩:=bn h1
   obtain ⟨_,_,h1⟩:=bn h1
   obtain ⟨_,_,h1⟩:=bn h1
   obtain ⟨_,_,h1⟩:=bn h1
   obtain ⟨_,_,h1⟩:=bn h1
   obtain ⟨_,h1⟩:=dN h1
   cases h1
   exact⟨Sy _,fun _ _ _=>rfl⟩
  unfold dV at h1
  obtain ⟨_,_,h1⟩:=bn h1
  obtain ⟨_,_,h1⟩:=bn h1
  obtain ⟨_,_,h1⟩:=bn h1
  obtain ⟨_,_,h1⟩:=bn h1
  obtain ⟨_,_,h1⟩:=bn h1
  obtain ⟨_,_,h1⟩:=bn h1
  obtain ⟨_,h1⟩:=dN h1
  rw[bp] at h1
  split at h1
  ·cases h1; exact new _
  ·obtain ⟨_,h1⟩:=bc h1
   cases h1; exact new _
 ·rename_i c ho
  have ht:∀ x r,c.args.toList=x :: r->cU cx s o.op=bM cx s x:=fun x r hc=>by unfold cU; rw[ho]; simp only[hc]
  unfold bw at h
  simp only[ho] at h
  split at he
  ·rename_i hca
   unfold oQ at h
   simp only[hca] at h
   split at h
   all_goals first | (rename_i hh _ _; cases hh; done) | (rename_i hh _ _; injection hh with hh; cases hh; done) | skip
   ·rename_i x y t t2 _ hargs _
    obtain ⟨⟨z,K⟩,h1,h⟩:=bn h
    cases h
    have ht:=ht x [y] hargs
    unfold bG at h1
    obtain ⟨_,_,h1⟩:=bn h1
    obtain ⟨_,_,h1⟩:=bn h1
    obtain ⟨_,_,h1⟩:=bn h1
    obtain ⟨_,_,h1⟩:=bn h1
    obtain ⟨_,_,h1⟩:=bn h1
    obtain ⟨_,h1⟩:=dN h1
    cases hx:bM cx s x with
    | imm xs cl=>
     simp only[hx] at h1
     cases cl with
     | false=>cases h1
     | true=>
      simp only[] at h1
      obtain ⟨_,h1⟩:=dN h1
      rw[bp] at h1
      split at h1
      ·cases h1; exact new _
      ·obtain ⟨_,h1⟩:=bc h1
       cases h1; exact new _
    | sl b oo nn cl=>
     simp only[hx] at h1
     split at h1
     ·obtain ⟨_,h1⟩:=dN h1
      rw[bp] at h1
      split at h1
      ·cases h1; exact new _
      ·obtain ⟨_,h1⟩:=bc h1
       cases h1
       exact setb b _ (by rw[ht,hx]; rfl)
     ·cases h1
    | _=>simp only[hx] at h1; cases h1
   all_goals first | (cases h; done) | (rename_i hh _; injection hh with hh; cases hh; done)
  ·rename_i hca
   unfold oQ at h
   simp only[hca] at h
   split at h
   all_goals first | (rename_i hh _ _; cases hh; done) | (rename_i hh _ _; injection hh with hh; cases hh; done) | skip
   ·rename_i x y t t2 _ hargs _
    obtain ⟨⟨z,K⟩,h1,h⟩:=bn h
    cases h
    have ht:=ht x [y] hargs
    unfold p0 at h1
    obtain ⟨_,_,h1⟩:=bn h1
    obtain ⟨_,_,h1⟩:=bn h1
    obtain ⟨_,_,h1⟩:=bn h1
    obtain ⟨_,h1⟩:=dN h1
    cases hx:bM cx s x with
    | sl b oo nn cl=>
     simp only[hx] at h1
     split at h1
     ·obtain ⟨_,h1⟩:=bc h1
      cases h1
      exact setb b _ (by rw[ht,hx]; rfl)
     ·cases h1
    | _=>simp only[hx] at h1; cases h1
   all_goals first | (cases h; done) | (rename_i hh _; injection hh with hh; cases hh; done)
  ·cases he
 ·cases he
def Alike (s s':St):Prop:=s'.H=s.H/\∀ t,look s'.fr t=look s.fr t
theorem Alike.refl (s:St):Alike s s:=⟨rfl,fun _=>rfl⟩
theorem Alike.trans {a b c:St} (h1:Alike a b) (h2:Alike b c):Alike a c:=⟨h2.1.trans h1.1,fun t=>(h2.2 t).trans (h1.2 t)⟩
theorem fJ (s:St) (d:Option Nat) (x:A) (t:Nat):look (s.put d x).fr t=if d=some t then x else look s.fr t:=by
 cases d with
 | none=>simp[St.put]
 | some d=>
  show look ((d,x) :: s.fr) t=_
  rw[dI]
  by_cases e:d=t
  ·subst e; simp
  ·rw[SI e,SI (by simpa using e)]
theorem fW (s:St) (d:Option Nat) (x:A):(s.put d x).H=s.H:=by cases d<;>rfl
theorem Alike.lit {s:St} {t:Nat} {x:A} (h:look s.fr t=x):Alike s (s.put (some t) x):=⟨rfl,fun t'=>by
 rw[fJ]
 split
 ·rename_i e
  cases e
  exact h.symm
 ·rfl⟩
def ky (cx:Cx) (call:aU) (f lo:Nat) (ops:Array Oper) (m:Nat) (fl:List (Nat×A)) (i:Nat) (o:Oper) (s s':St) (x:A):Prop:=
 (cC i fl=some x/\Alike (s.put o.dst x) s') ∨
 (cC i fl=none/\dp o=true/\∃ H',bw cx f lo o s (fun a H=>some (a,H))=some (x,H')/\Alike (({ s with H:=H' }:St).put o.dst x) s') ∨
 (cC i fl=none/\dp o=false/\gC cx call f o s=some x/\Alike (s.put o.dst x) s'/\((jd fl ops m i=true/\((n6 cx o=true∨wP ops i fl=true)∨EF cx s o=true))∨bC o=0∨bC o=1∨((bC o=2∨(bC o=4/\ug cx o=true))/\Ge ops m i=true)∨(bC o=2/\oX (partsOf cx s o.op)=true)))
def I7 (cx:Cx) (call:aU) (f:Nat) (ops:Array Oper) (fl:List (Nat×A)) (i:Nat) (o:Oper) (s s':St) (x:A):Prop:=
 ∃ t w,bK ops o=some (t,w)/\cC i fl=none/\dp o=false/\bC o=0/\Alike (s.put o.dst x) s'/\((∃ b,look s.fr t=.v (.bool b)/\if b==w then gC cx call f o s=some x else x=.v undef)∨((∃ y,look s.fr t=.v (.tuple y))/\x=.v undef))
def I8 (cx:Cx) (call:aU) (f lo:Nat) (ops:Array Oper) (m:Nat) (fl:List (Nat×A)) (i:Nat) (o:Oper) (s s':St) (x:A):Prop:=
 ∃ t w b,bK ops o=some (t,w)/\cC i fl=none/\look s.fr t=.v (.bool b)/\((b==w)=true/\ky cx call f lo ops m fl i o s s' x∨(b==w)=false/\x=.v undef/\Alike (s.put o.dst x) s')
def lO (cx:Cx) (call:aU) (f lo:Nat) (ops:Array Oper) (m:Nat) (fl:List (Nat×A)) (i:Nat) (o:Oper) (s s':St) (x:A):Prop:=
 (o.guard=none/\ky cx call f lo ops m fl i o s s' x)∨I7 cx call f ops fl i o s s' x∨I8 cx call f lo ops m fl i o s s' x
theorem ky.alike {call:aU} {o:Oper} {m:Nat} {fl:List (Nat×A)} {i:Nat} {s s' s2:St} {x:A} (h:ky cx call f lo ops m fl i o s s' x) (h2:Alike s' s2):ky cx call f lo ops m fl i o s s2 x:=by
 rcases h with ⟨a,b⟩ | ⟨a,b,H',c,d⟩ | ⟨a,b,c,d,e⟩
 ·exact .inl ⟨a,b.trans h2⟩
 ·exact .inr (.inl ⟨a,b,H',c,d.trans h2⟩)
 ·exact .inr (.inr ⟨a,b,c,d.trans h2,e⟩)
theorem lO.alike {call:aU} {o:Oper} {m:Nat} {fl:List (Nat×A)} {i:Nat} {s s' s2:St} {x:A} (h:lO cx call f lo ops m fl i o s s' x) (h2:Alike s' s2):lO cx call f lo ops m fl i o s s2 x:=by
 rcases h with ⟨a,b⟩ | ⟨t,w,a,b,c,d,e,g⟩ | ⟨t,w,b,a1,a2,a3,a4⟩
 ·exact .inl ⟨a,b.alike h2⟩
 ·exact .inr (.inl ⟨t,w,a,b,c,d,e.trans h2,g⟩)
 ·refine .inr (.inr ⟨t,w,b,a1,a2,a3,?_⟩)
  rcases a4 with ⟨c,d⟩ | ⟨c,d,e⟩
  ·exact .inl ⟨c,d.alike h2⟩
  ·exact .inr ⟨c,d,e.trans h2⟩
theorem ky.look {call:aU} {o:Oper} {m:Nat} {fl:List (Nat×A)} {i:Nat} {s s':St} {x:A} (h:ky cx call f lo ops m fl i o s s' x) (t:Nat):look s'.fr t=if o.dst=some t then x else look s.fr t:=by
 rcases h with ⟨_,b⟩ | ⟨_,_,H',_,d⟩ | ⟨_,_,_,d,_⟩
 ·rw[b.2,fJ]
 ·rw[d.2,fJ]
 ·rw[d.2,fJ]
theorem lO.look {call:aU} {o:Oper} {m:Nat} {fl:List (Nat×A)} {i:Nat} {s s':St} {x:A} (h:lO cx call f lo ops m fl i o s s' x) (t:Nat):look s'.fr t=if o.dst=some t then x else look s.fr t:=by
 rcases h with ⟨_,b⟩ | ⟨_,_,_,_,_,_,e,_⟩ | ⟨_,_,_,_,_,_,a4⟩
 ·exact b.look t
 ·rw[e.2,fJ]
 ·rcases a4 with ⟨_,d⟩ | ⟨_,_,e⟩
  ·exact d.look t
  ·rw[e.2,fJ]
theorem ky.heap {call:aU} {o:Oper} {m:Nat} {fl:List (Nat×A)} {i:Nat} {s s':St} {x:A} (h:ky cx call f lo ops m fl i o s s' x):(dp o=false∨(cC i fl).isSome=true->s'.H=s.H)/\s.H.length<=s'.H.length/\∀ b,b<s.H.length->(dp o=true->cC i fl=none->∀ c,blk? (cU cx s o.op)=some c->b≠c)->s'.H[b]? = s.H[b]?:=by
 rcases h with ⟨_,e⟩ | ⟨hn,he,H',h1,e⟩ | ⟨_,he,_,e,_⟩
 ·rw[e.1,fW]
  exact⟨fun _=>rfl,Sy _,fun _ _ _=>rfl⟩
 ·obtain ⟨t1,t2⟩:=pG he h1
  rw[e.1,fW]
  exact⟨fun h'=>(by rw[he,hn] at h'; rcases h' with h' | h'<;>cases h'),t1,fun b hb hc=>t2 b hb (hc he hn)⟩
 ·rw[e.1,fW]
  exact⟨fun _=>rfl,Sy _,fun _ _ _=>rfl⟩
theorem lO.heap {call:aU} {o:Oper} {m:Nat} {fl:List (Nat×A)} {i:Nat} {s s':St} {x:A} (h:lO cx call f lo ops m fl i o s s' x):(dp o=false∨(cC i fl).isSome=true->s'.H=s.H)/\s.H.length<=s'.H.length/\∀ b,b<s.H.length->(dp o=true->cC i fl=none->∀ c,blk? (cU cx s o.op)=some c->b≠c)->s'.H[b]? = s.H[b]?:=by
 rcases h with ⟨_,b⟩ | ⟨_,_,_,_,_,_,e,_⟩ | ⟨_,_,_,_,_,_,a4⟩
 ·exact b.heap
 ·rw[e.1,fW]
  exact⟨fun _=>rfl,Sy _,fun _ _ _=>rfl⟩
 ·rcases a4 with ⟨_,d⟩ | ⟨_,_,e⟩
  ·exact d.heap
  ·rw[e.1,fW]
   exact⟨fun _=>rfl,Sy _,fun _ _ _=>rfl⟩
def fk (ops:Array Oper) (i j:Nat):Prop:=(ff ops i j || ff ops j i)=false
theorem gN {i:Nat} {e:A}:∀ {l:List (Nat×A)},jP ops i e l=true->∀ p∈l,fk ops i p.1->apart p.2 e=true
 | [],_,p,hp,_=>by cases hp
 | q :: l,h,p,hp,hu=>by
  unfold jP at h
  cases hb:(ff ops i q.1 || ff ops q.1 i) with
  | true=>
   rw[hb] at h
   rcases Ti.1 hp with rfl | hp
   ·unfold fk at hu; rw[hb] at hu; cases hu
   ·exact gN h p hp hu
  | false=>
   rw[hb] at h
   cases ha:apart q.2 e with
   | false=>rw[ha] at h; cases h
   | true=>
    rw[ha] at h
    rcases Ti.1 hp with rfl | hp
    ·exact ha
    ·exact gN h p hp hu
theorem ia {i:Nat} {a:A}:∀ {l:List (Nat×A)},kD ops i a l=true->∀ p∈l,fk ops i p.1->apart a p.2=true
 | [],_,p,hp,_=>by cases hp
 | q :: l,h,p,hp,hu=>by
  unfold kD at h
  cases hb:(ff ops i q.1 || ff ops q.1 i) with
  | true=>
   rw[hb] at h
   rcases Ti.1 hp with rfl | hp
   ·unfold fk at hu; rw[hb] at hu; cases hu
   ·exact ia h p hp hu
  | false=>
   rw[hb] at h
   cases ha:apart a q.2 with
   | false=>rw[ha] at h; cases h
   | true=>
    rw[ha] at h
    rcases Ti.1 hp with rfl | hp
    ·exact ha
    ·exact ia h p hp hu
theorem beq_spec {a b:Nat} (h:Nat.beq a b=true):a=b:=SM h
def Tr (cx:Cx) (call:aU) (f lo:Nat) (ops:Array Oper) (m:Nat) (fl:List (Nat×A)) (k:St->Option R) (r:R) (os:List Oper) (i:Nat) (effs seen:List (Nat×A)) (s:St):Prop:=
  ∃ (σ:Nat->St) (xs:Nat->A),Alike s (σ 0)/\k (σ os.length)=some r/\∀ (j:Nat) o,os[j]? = some o->lO cx call f lo ops m fl (i+j) o (σ j) (σ (j+1)) (xs j) ∧
   (cC (i+j) fl=none->dp o=true->(∀ p∈seen,fk ops (i+j) p.1->apart p.2 (cU cx (σ j) o.op)=true)/\∀ (j':Nat) o',j'<j->os[j']? = some o'->dp o'=false->bC o'=1->jd fl ops m (i+j')=false->fk ops (i+j) (i+j')->apart (addrOf cx (σ j') o'.op) (cU cx (σ j) o.op)=true) ∧
   (dp o=false->bC o=1->jd fl ops m (i+j)=false->(∀ p∈effs,fk ops (i+j) p.1->apart (addrOf cx (σ j) o.op) p.2=true)/\∀ (j':Nat) o',j'<j->os[j']? = some o'->cC (i+j') fl=none->dp o'=true->fk ops (i+j) (i+j')->apart (addrOf cx (σ j) o.op) (cU cx (σ j') o'.op)=true)
theorem p8 {call:aU} {m:Nat} {fl:List (Nat×A)} {k:St->Option R} {r:R} (hfe:∀ i o a,cC i fl=some a->ops[i]? = some o->dp o=true) (hV:∀ {o:Oper} {s:St} (k:A->Option R),ru cx call f o s k=(gC cx call f o s).bind k):∀ (os:List Oper) (i:Nat) (effs seen:List (Nat×A)) (s:St),(∀ j o,os[j]? = some o->ops[i+j]? = some o)->ft cx call f lo ops m fl i os effs seen s k=some r->Tr cx call f lo ops m fl k r os i effs seen s
 | [],i,effs,seen,s,_,h=>⟨fun _=>s,fun _=>.any,Alike.refl _,h,fun j o ho=>by simp at ho⟩
 | o :: os,i,effs,seen,s,hos,h=>by
  have hos':∀ j o,os[j]? = some o->ops[i+1+j]? = some o:=fun j o' ho'=>by
   have:=hos (j+1) o' (by simpa using ho')
   rwa [show i+1+j=i+(j+1) by omega]
  have hoi:ops[i]? = some o:=by simpa using hos 0 o r8
  have finG:∀ (s1 s':St) (x:A) (effs' seen':List (Nat×A)),Alike s s1->lO cx call f lo ops m fl i o s1 s' x->(∀ p∈effs,p∈effs')->(∀ p∈seen,p∈seen')->(cC i fl=none->dp o=true->(i,cU cx s1 o.op)∈effs'/\∀ p∈seen,fk ops i p.1->apart p.2 (cU cx s1 o.op)=true) ->
    (dp o=false->bC o=1->jd fl ops m i=false->(i,addrOf cx s1 o.op)∈seen'/\∀ p∈effs,fk ops i p.1->apart (addrOf cx s1 o.op) p.2=true)->ft cx call f lo ops m fl (i+1) os effs' seen' s' k=some r->Tr cx call f lo ops m fl k r (o :: os) i effs seen s:=by
   intro s1 s' x effs' seen' hal hst he1 hs1 hce hcp h
   obtain ⟨σ,xs,g0,g1,g2⟩:=p8 hfe hV os (i+1) effs' seen' s' hos' h
   refine⟨fun j=>match j with | 0=>s1 | j+1=>σ j,fun j=>match j with | 0=>x | j+1=>xs j,hal,g1,fun j o1 ho1=>?_⟩
   cases j with
   | zero=>
    simp at ho1
    subst ho1
    refine⟨hst.alike g0,fun hn he=>⟨(hce hn he).2,fun j' o' hj'=>o3⟩,fun he hk ho=>⟨(hcp he hk ho).2,fun j' o' hj'=>o3⟩⟩
   | succ j=>
    obtain ⟨q2,q3,q4⟩:=g2 j o1 (by simpa using ho1)
    have e:i+1+j=i+(j+1):=o3
    rw[e] at q2 q3 q4
    refine⟨q2,fun hn he=>⟨fun p hp=>(q3 hn he).1 p (hs1 p hp),fun j' o' hj' ho' he' hk' hod hu=>?_⟩,fun he hk hod=>⟨fun p hp=>(q4 he hk hod).1 p (he1 p hp),fun j' o' hj' ho' hn' he' hu=>?_⟩⟩
    ·cases j' with
     | zero=>
      simp at ho'
      subst ho'
      exact(q3 hn he).1 _ (hcp he' hk' hod).1 hu
     | succ j'=>
      refine(q3 hn he).2 j' o' o3 (by simpa using ho') he' hk' ?_ ?_
      ·rw[show i+1+j'=i+(j'+1) by omega]; exact hod
      ·rw[show i+1+j'=i+(j'+1) by omega]; exact hu
    ·cases j' with
     | zero=>
      simp at ho'
      subst ho'
      exact(q4 he hk hod).1 _ (hce hn' he').1 hu
     | succ j'=>
      refine(q4 he hk hod).2 j' o' o3 (by simpa using ho') ?_ he' ?_
      ·rw[show i+1+j'=i+(j'+1) by omega]; exact hn'
      ·rw[show i+1+j'=i+(j'+1) by omega]; exact hu
  have doB:∀ (s1:St),Alike s s1->(∀ s' x,ky cx call f lo ops m fl i o s1 s' x->lO cx call f lo ops m fl i o s1 s' x)->rm cx call f lo ops m fl i o effs seen s1 (fun effs seen s=>ft cx call f lo ops m fl (i+1) os effs seen s k)=some r->Tr cx call f lo ops m fl k r (o :: os) i effs seen s:=by
   intro s1 hal hA h
   have fin:∀ (s':St) (x:A) (effs' seen':List (Nat×A)),ky cx call f lo ops m fl i o s1 s' x->(∀ p∈effs,p∈effs')->(∀ p∈seen,p∈seen')->(cC i fl=none->dp o=true->(i,cU cx s1 o.op)∈effs'/\∀ p∈seen,fk ops i p.1->apart p.2 (cU cx s1 o.op)=true) ->
     (dp o=false->bC o=1->jd fl ops m i=false->(i,addrOf cx s1 o.op)∈seen'/\∀ p∈effs,fk ops i p.1->apart (addrOf cx s1 o.op) p.2=true)->ft cx call f lo ops m fl (i+1) os effs' seen' s' k=some r->Tr cx call f lo ops m fl k r (o :: os) i effs seen s:=fun s' x effs' seen' hst=>finG s1 s' x effs' seen' hal (hA _ _ hst)
   unfold rm at h
   cases hfl:cC i fl with
   | some a=>
    simp only[hfl] at h
    have he:=hfe i o a hfl hoi
    exact fin _ a effs seen (.inl ⟨hfl,Alike.refl _⟩) (fun p hp=>hp) (fun p hp=>hp) (fun h'=>(by rw[hfl] at h'; cases h')) (fun h'=>(by rw[he] at h'; cases h')) h
   | none=>
   simp only[hfl] at h
   rw[bp] at h
   split at h
   ·rename_i he
    obtain ⟨hsn,h⟩:=bc h
    rw[g7] at h
    obtain ⟨⟨x,H'⟩,h1,h⟩:=bn h
    exact fin _ x _ seen (.inr (.inl ⟨hfl,he,H',h1,Alike.refl _⟩)) (fun p hp=>by simp[hp]) (fun p hp=>hp) (fun _ _=>⟨r8,gN hsn⟩) (fun h'=>(by rw[he] at h'; cases h')) h
   ·rename_i he
    have he:dp o=false:=by simpa using he
    rw[bp] at h
    split at h
    ·rename_i hod
     simp only[Sz,TK] at hod
     rw[hV] at h
     obtain ⟨x,h1,h⟩:=bn h
     exact fin _ x effs seen (.inr (.inr ⟨hfl,he,h1,Alike.refl _,.inl hod⟩)) (fun p hp=>hp) (fun p hp=>hp) (fun _ h'=>(by rw[he] at h'; cases h')) (fun _ _ h'=>(by rw[hod.1] at h'; cases h')) h
    ·rename_i hod
     rw[bp] at h
     split at h
     ·rename_i hk
      rw[hV] at h
      obtain ⟨x,h1,h⟩:=bn h
      have hk:=beq_spec hk
      exact fin _ x effs seen (.inr (.inr ⟨hfl,he,h1,Alike.refl _,.inr (.inl hk)⟩)) (fun p hp=>hp) (fun p hp=>hp) (fun _ h'=>(by rw[he] at h'; cases h')) (fun _ h' _=>(by rw[hk] at h'; cases h')) h
     ·rw[bp] at h
      split at h
      ·rename_i hk
       have hk:=beq_spec hk
       obtain ⟨hap,h⟩:=bc h
       rw[hV] at h
       obtain ⟨x,h1,h⟩:=bn h
       exact fin _ x effs _ (.inr (.inr ⟨hfl,he,h1,Alike.refl _,.inr (.inr (.inl hk))⟩)) (fun p hp=>hp) (fun p hp=>by simp[hp]) (fun _ h'=>(by rw[he] at h'; cases h')) (fun _ _ _=>⟨r8,ia hap⟩) h
      ·rename_i hk1
       rw[bp] at h
       split at h
       ·rename_i hk
        simp only[Sz,TK] at hk
        have hk2:bC o=2∨(bC o=4/\ug cx o=true):=hk.1.imp beq_spec (fun h=>⟨beq_spec h.1,h.2⟩)
        rw[hV] at h
        obtain ⟨x,h1,h⟩:=bn h
        exact fin _ x effs seen (.inr (.inr ⟨hfl,he,h1,Alike.refl _,.inr (.inr (.inr (.inl ⟨hk2,hk.2⟩)))⟩)) (fun p hp=>hp) (fun p hp=>hp) (fun _ h'=>(by rw[he] at h'; cases h')) (fun _ h' _=>(by rcases hk2 with hk2 | hk2<;>(first | rw[hk2] at h' | rw[hk2.1] at h')<;>cases h')) h
       obtain ⟨hk,h⟩:=bc h
       have hk:=beq_spec hk
       obtain ⟨hfl2,h⟩:=bc h
       rw[hV] at h
       obtain ⟨x,h1,h⟩:=bn h
       exact fin _ x effs seen (.inr (.inr ⟨hfl,he,h1,Alike.refl _,.inr (.inr (.inr (.inr ⟨hk,hfl2⟩)))⟩)) (fun p hp=>hp) (fun p hp=>hp) (fun _ h'=>(by rw[he] at h'; cases h')) (fun _ h' _=>(by rw[hk] at h'; cases h')) h
  have doS:∀ (s1:St),Alike s s1->(∀ s',Alike (s1.put o.dst (.v undef)) s'->lO cx call f lo ops m fl i o s1 s' (.v undef))->va cx ops m fl i o effs seen s1 (fun effs seen s=>ft cx call f lo ops m fl (i+1) os effs seen s k)=some r->Tr cx call f lo ops m fl k r (o :: os) i effs seen s:=by
   intro s1 hal hA h
   have fin:=fun effs' seen'=>finG s1 (s1.put o.dst (.v undef)) (.v undef) effs' seen' hal (hA _ (Alike.refl _))
   unfold va at h
   rw[bp] at h
   split at h
   ·rename_i he
    obtain ⟨hsn,h⟩:=bc h
    exact fin _ seen (fun p hp=>by simp[hp]) (fun p hp=>hp) (fun _ _=>⟨r8,gN hsn⟩) (fun h'=>(by rw[he] at h'; cases h')) h
   ·rename_i he
    have he:dp o=false:=by simpa using he
    rw[bp] at h
    split at h
    ·rename_i hk
     rw[bp] at h
     split at h
     ·rename_i hod
      exact fin effs seen (fun p hp=>hp) (fun p hp=>hp) (fun _ h'=>(by rw[he] at h'; cases h')) (fun _ _ h'=>(by rw[hod] at h'; cases h')) h
     ·obtain ⟨hap,h⟩:=bc h
      exact fin effs _ (fun p hp=>hp) (fun p hp=>by simp[hp]) (fun _ h'=>(by rw[he] at h'; cases h')) (fun _ _ _=>⟨r8,ia hap⟩) h
    ·rename_i hk
     exact fin effs seen (fun p hp=>hp) (fun p hp=>hp) (fun _ h'=>(by rw[he] at h'; cases h')) (fun _ h' _=>(by rw[h'] at hk; exact absurd rfl hk)) h
  unfold ft at h
  cases hgd:o.guard with
  | some _=>
   simp only[hgd] at h
   cases hgs:bK ops o with
   | none=>rw[hgs] at h; cases h
   | some tw=>
    obtain ⟨t,w⟩:=tw
    simp only[hgs] at h
    rw[bp] at h
    split at h
    ·rename_i hc
     simp only[Sz,Tn,VT] at hc
     obtain ⟨⟨hk,he⟩,hn⟩:=hc
     have hk:=beq_spec hk
     obtain ⟨x,h0,h⟩:=bn h
     refine finG s _ x effs seen (Alike.refl _) (.inr (.inl ⟨t,w,hgs,hn,he,hk,Alike.refl _,?_⟩)) (fun p hp=>hp) (fun p hp=>hp) (fun _ h'=>(by rw[he] at h'; cases h')) (fun _ h' _=>(by rw[hk] at h'; cases h')) h
     rcases mG h0 with ⟨b,hb,h0⟩ | ⟨y,hb,h0⟩
     ·refine .inl ⟨b,hb,?_⟩
      split at h0
      ·rename_i hbw; rw[SH hbw]; exact h0
      ·rename_i hbw; rw[SI hbw]; cases h0; rfl
     ·cases h0; exact .inr ⟨⟨y,hb⟩,rfl⟩
    ·obtain ⟨hn,h⟩:=bc h
     simp only[VT] at hn
     obtain ⟨b,hb,h⟩:=oE h
     have hl:look (s.put (some t) (.v (.bool b))).fr t=.v (.bool b):=by rw[fJ,SH rfl]
     cases b with
     | true=>
      simp only[Vd] at h
      cases w with
      | true=>exact doB _ (Alike.lit hb) (fun s' x hE=>.inr (.inr ⟨t,true,true,hgs,hn,hl,.inl ⟨rfl,hE⟩⟩)) h
      | false=>exact doS _ (Alike.lit hb) (fun s' hE=>.inr (.inr ⟨t,false,true,hgs,hn,hl,.inr ⟨rfl,rfl,hE⟩⟩)) h
     | false=>
      simp only[S5,Vk] at h
      cases w with
      | true=>exact doS _ (Alike.lit hb) (fun s' hE=>.inr (.inr ⟨t,true,false,hgs,hn,hl,.inr ⟨rfl,rfl,hE⟩⟩)) h
      | false=>exact doB _ (Alike.lit hb) (fun s' x hE=>.inr (.inr ⟨t,false,false,hgs,hn,hl,.inl ⟨rfl,hE⟩⟩)) h
  | none=>
   simp only[hgd] at h
   exact doB s (Alike.refl _) (fun s' x hE=>.inl ⟨hgd,hE⟩) h
theorem vC {fl:List (Nat×A)} {m i e:Nat} (h:jd fl ops m i=true) (he:e<m) (hf:cW ops e=true) (hn:cC e fl=none):e=i∨ff ops i e=true∨ff ops e i=true:=by
 have:=SJ.1 h e (S6.2 he)
 simp only[TK,Tn,Tw] at this
 rcases this with (((h | h) | h) | h) | h
 ·rw[hf] at h; cases h
 ·rw[hn] at h; cases h
 ·exact .inl h
 ·exact .inr (.inl h)
 ·exact .inr (.inr h)
theorem yi {m i j:Nat} (h:uS ops m=true) (hj:j<m) (hij:i<j) (h1:cW ops i=true) (h2:cW ops j=true):ff ops j i=true:=by
 have:=SJ.1 (SJ.1 h i (S6.2 o3)) j (S6.2 hj)
 simpa [h1,h2,hij] using this
theorem wA {m i j:Nat} (h:ra cx f ops m=true) (hj:j<m) (hij:i<j) (h1:cW ops i=true) (h2:cW ops j=true) (h3:rO cx f ops i=false) (h4:rO cx f ops j=false):ff ops j i=true:=by
 have:=SJ.1 (SJ.1 h i (S6.2 o3)) j (S6.2 hj)
 simpa [h1,h2,h3,h4,hij] using this
theorem ry {i:Nat}:∀ {fl:List (Nat×A)},wP ops i fl=true->∀ j a,cC j fl=some a->ff ops i j=true
 | [],_,j,a,h=>by cases h
 | p :: l,h,j,a,hj=>by
  unfold wP at h
  cases hb:ff ops i p.1 with
  | false=>rw[hb] at h; cases h
  | true=>
   rw[hb] at h
   unfold cC at hj
   cases he:Nat.beq p.1 j with
   | true=>rw[<-SM he]; exact hb
   | false=>rw[he] at hj; exact ry h j a hj
structure IJ (cx:Cx) (ops:Array Oper) (m:Nat) (H H1:ar) (fl:List (Nat×A)):Prop where
 at_:∀ i a,cC i fl=some a->i<m/\∃ o t b cs,ops[i]? = some o/\o.op=.alloc t/\a=.ptr b 0/\H.length<=b/\H1[b]? = some (.box cs)/\gB cx.P t=some cs
 inj:∀ i j b,cC i fl=some (.ptr b 0)->cC j fl=some (.ptr b 0)->i=j
 all:∀ b,H.length<=b->b<H1.length->∃ i,cC i fl=some (.ptr b 0)
 len:H.length<=H1.length
 low:∀ b,b<H.length->H1[b]? = H[b]?
theorem IJ.none {m:Nat} {H:ar}:IJ cx ops m H H []:=⟨fun i a h=>(by cases h),fun i j b h=>(by cases h),fun b h1 h2=>o3,Sy _,fun _ _=>rfl⟩
theorem nL {β:Type} {m:Nat} {r:β}:∀ (os:List Oper) (i:Nat) (H:ar) (k:List (Nat×A)->ar->Option β),(∀ j o,os[j]? = some o->ops[i+j]? = some o)->i+os.length<=m->ahead cx f i os H k=some r ->
  ∃ fl H1,k fl H1=some r/\IJ cx ops m H H1 fl/\(∀ j a,cC j fl=some a->i<=j)/\(∀ j,cC j fl=none->i<=j->j<i+os.length->rO cx f ops j=false)
 | [],i,H,k,_,_,h=>⟨[],H,h,.none,fun j a h=>(by cases h),fun j _ h1 h2=>(by simp at h2; omega)⟩
 | o :: os,i,H,k,hos,hm,h=>by
  have hos':∀ j o,os[j]? = some o->ops[i+1+j]? = some o:=fun j o' ho'=>by
   have:=hos (j+1) o' (by simpa using ho')
   rwa [show i+1+j=i+(j+1) by omega]
  have hoi:ops[i]? = some o:=by simpa using hos 0 o r8
  simp only[SW] at hm
  unfold ahead at h
  cases hft:vh cx f o with
  | none=>
   simp only[hft] at h
   obtain ⟨fl,H1,h1,h2,h3,h4⟩:=nL (m:=m) os (i+1) H k hos' o3 h
   refine⟨fl,H1,h1,h2,fun j a hj=>by have:=h3 j a hj; omega,fun j hj h5 h6=>?_⟩
   by_cases e:j=i
   ·subst e; unfold rO; rw[hoi]; simp[hft]
   ·exact h4 j hj o3 (by simp at h6; omega)
  | some t=>
   simp only[hft] at h
   obtain ⟨⟨y,H2⟩,ha,h⟩:=bn h
   unfold kY at ha
   obtain ⟨cs,hz,ha⟩:=Te.1 ha
   cases ha
   obtain ⟨fl,H1,h1,h2,h3,h4⟩:=nL (m:=m) os (i+1) _ _ hos' o3 h
   have hop:o.op=.alloc t:=by
    unfold vh at hft
    split at hft
    ·rename_i t' ho
     obtain ⟨_,e⟩:=dN hft
     cases e; exact ho
    ·cases hft
   have hl2:=h2.len
   simp only[SX,SW,Vg] at hl2
   have hnew:H1[H.length]? = some (.box cs):=by rw[h2.low _ r8]; exact dG _ _
   have hof:∀ j,cC j ((i,A.ptr H.length 0) :: fl)=if i=j then some (.ptr H.length 0) else cC j fl:=fun j=>by
    show (bif Nat.beq i j then some (A.ptr H.length 0) else cC j fl)=_
    by_cases e:i=j
    ·subst e; simp
    ·rw[SI e,show Nat.beq i j=false from by cases hh:Nat.beq i j with | false=>rfl | true=>exact absurd (SM hh) e]; rfl
   have hni:cC i fl=none:=by
    cases hh:cC i fl with
    | none=>rfl
    | some a=>have:=h3 i a hh; omega
   refine⟨(i,.ptr H.length 0) :: fl,H1,h1,⟨fun j a hj=>?_,fun j j' b hj hj'=>?_,fun b hb1 hb2=>?_,o3,fun b hb=>?_⟩,fun j a hj=>?_,fun j hj h5 h6=>?_⟩
   ·rw[hof] at hj
    split at hj
    ·rename_i e; subst e; cases hj
     exact⟨o3,o,t,_,cs,hoi,hop,rfl,Sy _,hnew,hz⟩
    ·obtain ⟨q1,o',t',b,cs',q2,q3,q4,q5,q6⟩:=h2.at_ j a hj
     simp only[SX,SW,Vg] at q5
     exact⟨q1,o',t',b,cs',q2,q3,q4,o3,q6⟩
   ·rw[hof] at hj hj'
    have out:∀ j b,cC j fl=some (.ptr b 0)->b≠H.length:=fun j b hj e=>by
     obtain ⟨_,_,_,b',_,_,_,q4,q5,_⟩:=h2.at_ j _ hj
     cases q4
     simp only[SX,SW,Vg] at q5
     omega
    split at hj<;>split at hj'
    ·omega
    ·cases hj; exact absurd rfl (out _ _ hj')
    ·cases hj'; exact absurd rfl (out _ _ hj)
    ·exact h2.inj j j' b hj hj'
   ·by_cases e:b=H.length
    ·subst e; exact⟨i,by rw[hof,SH rfl]⟩
    ·obtain ⟨j,hj⟩:=h2.all b r9 hb2
     refine⟨j,?_⟩
     rw[hof,SI (fun e=>by subst e; rw[hni] at hj; cases hj)]
     exact hj
   ·rw[h2.low b r9,SP hb]
   ·rw[hof] at hj
    split at hj
    ·omega
    ·have:=h3 j a hj; omega
   ·rw[hof] at hj
    split at hj
    ·cases hj
    ·exact h4 j hj o3 (by simp at h6; omega)
open Classical in
theorem nC {call:aU} {fl:List (Nat×A)} {H1:ar} (hcall:dz cx Bs call) (hb0:Bs H0 gs ws) (horc:jr cx) (hF:fP F) (hmx:cx.P.follows .mixedOrders=true) {m:Nat} {k:E->St->Option R} {r:R} {Q:Exit->Act->World->Prop} (lj:te ops N=true) (chkt:eV ops m=true) (hch:∀ i j,j<m->i<j->cW ops i=true->cW ops j=true->cC i fl=none->cC j fl=none->ff ops j i=true) (hfl:IJ cx ops m s.H H1 fl)
  (hg:Good cx N mb lo H0 gs ws w0 s g a w) (hd:∀ o∈ops.toList,∀ d,o.dst=some d->d<N)
  {kk:St->Option R} (hkk:∀ s,kk s=some r->fp cx call f lo ops (ops.toList.drop m) s k=some r) (h:ft cx call f lo ops m fl 0 (ops.toList.take m) [] [] ⟨s.fr,H1⟩ kk=some r)
  (hk:∀ s' g' a' w',Good cx N mb lo H0 gs ws w0 s' g' a' w'->k .normal s'=some r->Q .normal a' w')
  (hp:∀ x s' g' a' w' c,Good cx N mb lo H0 gs ws w0 s' g' a' w'->VR s'.H g' w' x c->k (.pan x) s'=some r->Q (.panic [{ v:=c,recovered:=false }]) a' w'):LW F n cx.P ops Q a w:=by
 have hfe:∀ i o a,cC i fl=some a->ops[i]? = some o->dp o=true:=fun i o a h1 h2=>by
  obtain ⟨_,o',t,_,_,q1,q2,_⟩:=hfl.at_ i a h1
  rw[h2] at q1; cases q1
  unfold dp; rw[q2]
 obtain ⟨σ,xs,hσ0,hz,htr⟩:=p8 hfe (fun k=>qy k) _ _ _ _ _ (fun j o ho=>by
  rw[SS] at ho
  split at ho
  ·rw[Th]; rw[Tc] at ho; exact ho
  ·cases ho) h
 have hσH:(σ 0).H=H1:=hσ0.1
 have hσf:∀ t,look (σ 0).fr t=look s.fr t:=hσ0.2
 have hm2:m<=ops.size:=by
  simp only[eV,Sz,SG] at chkt
  exact chkt.1.1
 have hlen:(ops.toList.take m).length=m:=by rw[Tz]; simp; omega
 rw[hlen] at hz
 replace hz:=hkk _ hz
 have hget:∀ {i o},i<m->ops[i]? = some o->(ops.toList.take m)[i]? = some o:=fun {i o} him ho=>by
  rw[SS,SH him,Tc]; exact ho
 have hop:∀ i,i<m->∃ o,ops[i]? = some o:=fun i hi=>⟨_,Tl o3⟩
 have hdst:∀ {i o},ops[i]? = some o->bV ops i=o.dst:=fun {i o} ho=>by unfold bV; rw[ho]; rfl
 have heff:∀ {i o},ops[i]? = some o->cW ops i=dp o:=fun {i o} ho=>by unfold cW; rw[ho]
 have hlt:∀ {i j},ff ops i j=true->j<i:=fun {i j} hb=>mS lj (fF i j hb)
 have hsel:∀ j,j<m->∀ o,ops[j]? = some o->lO cx call f lo ops m fl j o (σ j) (σ (j+1)) (xs j):=fun j hj o ho=>by
  have:=(htr j o (hget hj ho)).1
  rwa [Th] at this
 have fstep:∀ j,j<m->∀ o,ops[j]? = some o->∀ t,look (σ (j+1)).fr t=if o.dst=some t then xs j else look (σ j).fr t:=fun j hj o ho t=>(hsel j hj o ho).look t
 have fkeep:∀ t i j,i<=j->j<=m->(∀ q,i<=q->q<j->bV ops q≠some t)->look (σ j).fr t=look (σ i).fr t:=by
  intro t i j hij
  induction j with
  | zero=>
   intro _ _; obtain rfl:i=0:=o3
   rfl
  | succ j ih=>
   intro hjm hq
   by_cases e:i=j+1
   ·subst e; rfl
   ·obtain ⟨o,ho⟩:=hop j o3
    rw[fstep j o3 o ho,SI (by rw[<-hdst ho]; exact hq j o3 o3)]
    exact ih o3 o3 (fun q h1 h2=>hq q h1 o3)
 have hstep:∀ j,j<m->∀ o,ops[j]? = some o->(cW ops j=false∨(cC j fl).isSome=true->(σ (j+1)).H=(σ j).H)/\(σ j).H.length<=(σ (j+1)).H.length/\∀ b,b<(σ j).H.length->(cW ops j=true->cC j fl=none->∀ c,blk? (cU cx (σ j) o.op)=some c->b≠c)->(σ (j+1)).H[b]? = (σ j).H[b]?:=fun j hj o ho=>by
  have h:=(hsel j hj o ho).heap
  rw[heff ho]
  exact h
 have hlenm:∀ i j,i<=j->j<=m->(σ i).H.length<=(σ j).H.length:=by
  intro i j hij
  induction j with
  | zero=>
   intro _; obtain rfl:i=0:=o3
   exact Sy _
  | succ j ih=>
   intro hjm
   by_cases e:i=j+1
   ·subst e; exact Sy _
   ·obtain ⟨o,ho⟩:=hop j o3
    exact SZ (ih o3 o3) (hstep j o3 o ho).2.1
 have hsame:∀ i j,i<=j->j<=m->(∀ q,i<=q->q<j->cW ops q=false∨(cC q fl).isSome=true)->(σ j).H=(σ i).H:=by
  intro i j hij
  induction j with
  | zero=>
   intro _ _; obtain rfl:i=0:=o3
   rfl
  | succ j ih=>
   intro hjm hq
   by_cases e:i=j+1
   ·subst e; rfl
   ·obtain ⟨o,ho⟩:=hop j o3
    rw[(hstep j o3 o ho).1 (hq j o3 o3)]
    exact ih o3 o3 (fun q h1 h2=>hq q h1 o3)
 have hblk:∀ i j,i<=j->j<=m->∀ b,b<(σ i).H.length->(∀ q o,i<=q->q<j->ops[q]? = some o->cW ops q=true->cC q fl=none->∀ c,blk? (cU cx (σ q) o.op)=some c->b≠c)->(σ j).H[b]? = (σ i).H[b]?:=by
  intro i j hij
  induction j with
  | zero=>
   intro _ b _ _; obtain rfl:i=0:=o3
   rfl
  | succ j ih=>
   intro hjm b hb hq
   by_cases e:i=j+1
   ·subst e; rfl
   ·obtain ⟨o,ho⟩:=hop j o3
    rw[(hstep j o3 o ho).2.2 b (SQ hb (hlenm i j o3 o3)) (fun he hn=>hq j o o3 o3 ho he hn)]
    exact ih o3 o3 b hb (fun q o h1 h2=>hq q o h1 o3)
 have hnf:∀ {q},cW ops q=true->¬ (cC q fl=none)->(cC q fl).isSome=true:=fun _ h=>by cases hh:cC _ fl with | none=>exact absurd hh h | some _=>rfl
 let zm:(Nat->Prop)->Nat->Bool:=fun D b=>decide (∃ i,cC i fl=some (.ptr b 0)/\¬ D i)
 have zmT:∀ (D:Nat->Prop) (b:Nat),zm D b=true↔∃ i,cC i fl=some (.ptr b 0)/\¬ D i:=fun D b=>by simp only[zm,SG]
 have zmF:∀ (D:Nat->Prop) (b:Nat),zm D b=false↔∀ i,cC i fl=some (.ptr b 0)->D i:=fun D b=>by
  rw[U3,ne_eq,zmT,not_exists]
  exact forall_congr' fun i=>⟨fun h1 h2=>Classical.byContradiction fun h3=>h1 ⟨h2,h3⟩,fun h1 h2=>h2.2 (h1 h2.1)⟩
 have zmlow:∀ (D:Nat->Prop) (b:Nat),b<s.H.length->zm D b=false:=fun D b hb=>(zmF D b).2 fun i hi=>by
  obtain ⟨_,_,_,b',_,_,_,q,q2,_⟩:=hfl.at_ i _ hi
  cases q; omega
 have zmhi:∀ (D:Nat->Prop) (b:Nat),H1.length<=b->zm D b=false:=fun D b hb=>(zmF D b).2 fun i hi=>by
  obtain ⟨_,_,_,b',_,_,_,q,_,q2,_⟩:=hfl.at_ i _ hi
  cases q
  have:=(SB.1 q2).1
  omega
 have hlen1:∀ j,j<=m->H1.length<=(σ j).H.length:=fun j hj=>by
  have:=hlenm 0 j o3 hj
  rw[hσH] at this; exact this
 refine sn (F:=F) ⟨hF.1,hF.2.1⟩ hmx N m hg.siz lj chkt (fun D a' W=>∃ (p:Nat) (g':Gh),p<=m/\(∀ i,i<m->cW ops i=true->cC i fl=none->(D i↔i<p))/\(∀ i b,cC i fl=some (.ptr b 0)->¬ D i->(σ p).H[b]? = H1[b]?)/\Rel (bF (zm D) (σ p).H) g' w0 W/\Ext s.H g w (bF (zm D) (σ p).H) g' W/\(∀ b,b<lo->b<s.H.length->(σ p).H[b]? = s.H[b]?)/\g'.S=g.S ∧
   (∀ t i,i<m->bV ops i=some t->D i->VR (bF (zm D) (σ p).H) g' W (xs i) (slot a' t))/\(∀ t,(∀ i,i<m->bV ops i=some t->¬ D i)->VR (bF (zm D) (σ p).H) g' W (look s.fr t) (slot a' t))) ?_ ?_ ?_
 ·intro D hD
  have hr:=hg.sr.rel
  obtain ⟨g',r1,r2,r3⟩:=Rel.CC (H1.length - s.H.length) (hr.dY (Below.refl _ _).drew)
  have r2:=(Ext.below hr (Below.refl _ _).drew).trans r2
  have hH0:bF (zm D) (σ 0).H=s.H++List.replicate (H1.length - s.H.length) .hole:=by
   rw[hσH]
   refine TY fun b=>?_
   by_cases hb:b<s.H.length
   ·rw[ez (zmlow D b hb),SP hb]; exact hfl.low b hb
   ·by_cases hb1:b<H1.length
    ·obtain ⟨i,hi⟩:=hfl.all b o3 hb1
     rw[rV ((zmT D b).2 ⟨i,hi,hD i⟩) (Sx hb1),S3 o3,Up,SH o3]
    ·have hl1:=hfl.len
     rw[TM (by rw[cN]; exact Uu hb1),TM r9]
  refine⟨0,g',Tk _,fun i _ _ _=>⟨fun h=>absurd h (hD i),fun h=>o3⟩,fun i b _ _=>by rw[hσH],by rw[hH0]; exact r1,by rw[hH0]; exact r2,fun b _ hb=>by rw[hσH]; exact hfl.low b hb,r3,fun t i _ _ h=>absurd h (hD i),fun t _=>?_⟩
  rw[hH0]
  exact VR.ext r2 _ _ (hg.sr.fr t)
 ·rintro D D' i o him ho hDm hDi hbef hcl hD' a' W ⟨p,g',hpm,hpe,hpb,hrW,heW,hlow,hgS,hv1,hv2⟩ hsz _
  obtain ⟨c4,c5⟩:=lI lj ho
  obtain ⟨_,htA,htB⟩:=htr i o (hget him ho)
  rw[Th] at htA htB
  have hDlt:∀ {q},cW ops q=true->cC q fl=none->D q->q<p:=fun he hn h=>(hpe _ (hDm _ h) he hn).1 h
  have hlook:∀ t∈o.looksAt ops,VR (bF (zm D) (σ p).H) g' W (look (σ i).fr t) (a'.tmps.getD t undef):=fun t ht=>by
   by_cases hj:∃ j,bV ops j=some t/\ff ops i j=true
   ·obtain ⟨j,hjt,hjb⟩:=hj
    have hji:=hlt hjb
    have hv:=hv1 t j o3 hjt (hbef j hjb)
    obtain ⟨oj,hoj⟩:=hop j o3
    have e1:look (σ (j+1)).fr t=xs j:=by rw[fstep j o3 oj hoj,SH (by rw[<-hdst hoj]; exact hjt)]
    rw[fkeep t (j+1) i o3 o3 (fun q h1 h2 hq=>by
     obtain ⟨oq,hoq⟩:=hop q o3
     obtain ⟨c4',_⟩:=lI lj hoq
     exact c4' j t o3 (by rw[<-hdst hoq]; exact hq) hjt),e1]
    exact hv
   ·have hno:∀ j,bV ops j=some t->ff ops i j=false:=fun j hjt=>by
     cases hb:ff ops i j with
     | false=>rfl
     | true=>exact absurd ⟨j,hjt,hb⟩ hj
    have hs:=hv2 t (fun j hjm hjt hDj=>by
     rcases c5 j t hjt ht with rfl | h | h
     ·exact hDi hDj
     ·rw[hno j hjt] at h; cases h
     ·exact hDi (hcl j i hDj h))
    rw[fkeep t 0 i o3 o3 (fun q h1 h2 hq=>by
     rcases c5 q t hq ht with h | h | h
     ·omega
     ·rw[hno q hq] at h; cases h
     ·have:=hlt h; omega),hσf]
    exact hs
  have hopr:sO cx ⟨(σ i).fr,bF (zm D) (σ p).H⟩ g' w0 o.op a'.eval W:=⟨hrW,fun y hy=>od (fun t ht=>by
    refine hlook t ?_
    subst ht
    unfold Oper.looksAt
    exact TP.2 (.inl (VL.2 ⟨.tmp t,hy,rfl⟩))) (fun G vs hG=>(hg.sr.gl G vs hG).ext heW),fun _=>rfl⟩
  have zsame:cC i fl=none->zm D'=zm D:=fun hn=>funext fun b=>by
   have:(zm D' b=true)↔(zm D b=true):=by
    rw[zmT,zmT]
    constructor
    ·rintro ⟨j,h1,h2⟩; exact⟨j,h1,fun h=>h2 ((hD' j).2 (.inr h))⟩
    ·rintro ⟨j,h1,h2⟩
     refine⟨j,h1,fun h=>?_⟩
     rcases (hD' j).1 h with rfl | h
     ·rw[hn] at h1; cases h1
     ·exact h2 h
   exact TQ.2 this
  have fin:∀ (p':Nat) (g2:Gh) (W':World) (v:Value),p'<=m->(∀ j,j<m->cW ops j=true->cC j fl=none->(D' j↔j<p'))->(∀ j b,cC j fl=some (.ptr b 0)->¬ D' j->(σ p').H[b]? = H1[b]?)->Rel (bF (zm D') (σ p').H) g2 w0 W'->Ext (bF (zm D) (σ p).H) g' W (bF (zm D') (σ p').H) g2 W'->(∀ b,b<lo->b<s.H.length->(σ p').H[b]? = s.H[b]?)->g2.S=g.S->(∀ d,o.dst=some d->VR (bF (zm D') (σ p').H) g2 W' (xs i) v) ->
    ∃ (p:Nat) (g':Gh),p<=m/\(∀ i,i<m->cW ops i=true->cC i fl=none->(D' i↔i<p))/\(∀ i b,cC i fl=some (.ptr b 0)->¬ D' i->(σ p).H[b]? = H1[b]?)/\Rel (bF (zm D') (σ p).H) g' w0 W'/\Ext s.H g w (bF (zm D') (σ p).H) g' W'/\(∀ b,b<lo->b<s.H.length->(σ p).H[b]? = s.H[b]?)/\g'.S=g.S ∧
     (∀ t j,j<m->bV ops j=some t->D' j->VR (bF (zm D') (σ p).H) g' W' (xs j) (slot (a'.put o.dst v) t))/\(∀ t,(∀ j,j<m->bV ops j=some t->¬ D' j)->VR (bF (zm D') (σ p).H) g' W' (look s.fr t) (slot (a'.put o.dst v) t)):=by
   intro p' g2 W' v h1 h2 h2b h3 h4 h5 h6 h7
   refine⟨p',g2,h1,h2,h2b,h3,heW.trans h4,h5,h6,fun t j hjm hjt hDj=>?_,fun t ht=>?_⟩
   ·rcases (hD' j).1 hDj with rfl | hDj
    ·have hdt:o.dst=some t:=by rw[<-hdst ho]; exact hjt
     rw[hdt,eS (by rw[hsz]; exact hd o (by rw[<-Array.mem_def]; exact Wh ho) t hdt)]
     exact h7 t hdt
    ·have hne:j≠i:=fun e=>hDi (e ▸ hDj)
     rw[di (fun hdt=>c4 j t (TF hne) hdt hjt)]
     exact VR.ext h4 _ _ (hv1 t j hjm hjt hDj)
   ·rw[di (fun hdt=>ht i him (by rw[hdst ho]; exact hdt) ((hD' i).2 (.inl rfl)))]
    exact VR.ext h4 _ _ (hv2 t (fun j hjm hjt hDj=>ht j hjm hjt ((hD' j).2 (.inr hDj))))
  have rowM:∀ b,fe (bF (zm D) (σ p).H) b=fe (σ p).H b:=fun b=>by
   cases hzb:zm D b with
   | false=>unfold fe; rw[ez hzb]
   | true=>
    obtain ⟨j,hj,hDj⟩:=(zmT D b).1 hzb
    obtain ⟨_,_,_,b',cs',_,_,q3,_,q5,_⟩:=hfl.at_ j _ hj
    cases q3
    have hB:=(hpb j b hj hDj).trans q5
    unfold fe
    rw[rV hzb hB,hB]
  have hwant:(Region.wanted o (yielded ops a'.tmps)=false/\cC i fl=none/\(dp o=false∨(σ (i+1)).H=(σ i).H)/\xs i=.v undef)∨(Region.wanted o (yielded ops a'.tmps)=true/\ky cx call f lo ops m fl i o (σ i) (σ (i+1)) (xs i)):=by
   have htl:∀ {t want},bK ops o=some (t,want)->t∈o.looksAt ops:=fun {t want} hgs=>by
    rw[ja] at hgs
    unfold Oper.looksAt
    split at hgs
    ·rename_i j want' hgd
     cases hdj:(ops[j]?).bind (·.dst) with
     | none=>rw[hdj] at hgs; cases hgs
     | some t'=>
      rw[hdj] at hgs
      cases hgs
      refine TP.2 (.inr ?_)
      rw[hgd]
      simp[hdj]
    ·cases hgs
   rcases hsel i him o ho with ⟨hgd,hse⟩ | ⟨t,want,hgs,hni,he,hk,hs1,hor⟩ | ⟨t,want,b,hgs,hni,hlb,hor⟩
   ·exact .inr ⟨by simp[Region.wanted,hgd],hse⟩
   ·have hv:=hlook t (htl hgs)
    rcases hor with ⟨b,hlb,hcond⟩ | ⟨⟨y,hlb⟩,hcond⟩
    ·rw[hlb,VR] at hv
     rw[jA hgs hv]
     split at hcond
     ·rename_i hbw
      exact .inr ⟨hbw,.inr (.inr ⟨hni,he,hcond,hs1,.inr (.inl hk)⟩)⟩
     ·rename_i hbw
      exact .inl ⟨by simpa using hbw,hni,.inl he,hcond⟩
    ·rw[hlb,VR] at hv
     rw[lz hgs hv]
     exact .inl ⟨rfl,hni,.inl he,hcond⟩
   ·have hv:=hlook t (htl hgs)
    rw[hlb,VR] at hv
    rw[jA hgs hv]
    rcases hor with ⟨hbw,hE⟩ | ⟨hbw,hx,hal⟩
    ·exact .inr ⟨hbw,hE⟩
    ·exact .inl ⟨hbw,hni,.inr (by rw[hal.1,fW]),hx⟩
  rcases hwant with ⟨hw,hni,he,hxu⟩ | ⟨hw,hse⟩
  ·rw[SI (by rw[hw]; simp)]
   cases hee:dp o with
   | false=>
    refine fin p g' W undef hpm (fun j hjm hje hjn=>⟨fun h'=>?_,fun h'=>(hD' j).2 (.inr ((hpe j hjm hje hjn).2 h'))⟩) (fun j b hj hnj=>hpb j b hj (fun h=>hnj ((hD' j).2 (.inr h)))) (by rw[zsame hni]; exact hrW) (by rw[zsame hni]; exact Ext.refl hrW) hlow hgS (fun d _=>by rw[hxu,VR])
    rcases (hD' j).1 h' with rfl | h'
    ·rw[heff ho,hee] at hje; cases hje
    ·exact hDlt hje hjn h'
   | true=>
    have hei:cW ops i=true:=by rw[heff ho]; exact hee
    have hpi:p<=i:=Uu fun hlt'=>hDi ((hpe i him hei hni).2 hlt')
    have hHp:(σ i).H=(σ p).H:=hsame p i hpi o3 (fun q h2 h3=>by
     cases hq:cW ops q with
     | false=>exact .inl rfl
     | true=>
      by_cases hnq:cC q fl=none
      ·have:=hDlt hq hnq (hbef q (hch q i him h3 hq hei hnq hni)); omega
      ·exact .inr (hnf hq hnq))
    have hH2:(σ (i+1)).H=(σ p).H:=by
     rcases he with he | he
     ·rw[hee] at he; cases he
     ·rw[he,hHp]
    refine fin (i+1) g' W undef o3 (fun j hjm hje hjn=>⟨fun h'=>?_,fun h'=>?_⟩) (fun j b hj hnj=>by rw[hH2]; exact hpb j b hj (fun h=>hnj ((hD' j).2 (.inr h)))) (by rw[hH2,zsame hni]; exact hrW) (by rw[hH2,zsame hni]; exact Ext.refl hrW) (fun b hb hb'=>by rw[hH2]; exact hlow b hb hb') hgS (fun d _=>by rw[hxu,VR])
    ·rcases (hD' j).1 h' with rfl | h'
     ·omega
     ·have:=hDlt hje hjn h'; omega
    ·refine(hD' j).2 ?_
     by_cases e:j=i
     ·exact .inl e
     ·exact .inr (hbef j (hch j i him o3 hje hei hjn hni))
  rw[SH hw]
  refine .inl ?_
  rcases hse with ⟨hfi,hs1⟩ | ⟨hni,he,H',h1,hs1⟩ | ⟨hni,he,h1,hs1,hkind⟩
  ·
   obtain ⟨_,o',t,b,cs,q1,q2,q3,q4,q5,q6⟩:=hfl.at_ i _ hfi
   rw[ho] at q1; cases q1
   have hxi:xs i=.ptr b 0:=q3
   have hfb:cC i fl=some (.ptr b 0):=by rw[<-hxi]; exact hfi
   have hHb:(σ p).H[b]? = some (.box cs):=(hpb i b hfb hDi).trans q5
   have hhole:(bF (zm D) (σ p).H)[b]? = some .hole:=rV ((zmT D b).2 ⟨i,hfb,hDi⟩) hHb
   have hmk:bF (zm D') (σ p).H=(bF (zm D) (σ p).H).set b (.box cs):=yL hHb ((zmF D' b).2 fun j hj=>(hD' j).2 (.inl (hfl.inj j i b hj hfb))) fun c hc=>by
    have:(zm D' c=true)↔(zm D c=true):=by
     rw[zmT,zmT]
     constructor
     ·rintro ⟨j,h1,h2⟩; exact⟨j,h1,fun h=>h2 ((hD' j).2 (.inr h))⟩
     ·rintro ⟨j,h1,h2⟩
      refine⟨j,h1,fun h=>?_⟩
      rcases (hD' j).1 h with rfl | h
      ·rw[hfb] at h1; cases h1; exact hc rfl
      ·exact h2 h
    exact TQ.2 this
   obtain ⟨d,W',g2,r1,r2,r3,r4,r5⟩:=yd (P:=cx.P) hrW hhole q6
   have r1':(execOp a'.eval o).run cx.P W=.ok (.value d) W':=by
    unfold execOp
    simp only[q2]
    exact hY r1
   refine jC (.inl r1') ?_
   refine fin p g2 W' d hpm (fun j hjm hje hjn=>⟨fun h'=>?_,fun h'=>(hD' j).2 (.inr ((hpe j hjm hje hjn).2 h'))⟩) (fun j b' hj hnj=>hpb j b' hj (fun h=>hnj ((hD' j).2 (.inr h)))) (by rw[hmk]; exact r2) (by rw[hmk]; exact r3) hlow (r5.trans hgS) (fun _ _=>by rw[hmk,hxi]; exact r4)
   rcases (hD' j).1 h' with rfl | h'
   ·rw[hfb] at hjn; cases hjn
   ·exact hDlt hje hjn h'
  ·
   have hei:cW ops i=true:=by rw[heff ho]; exact he
   have hpi:p<=i:=Uu fun hlt'=>hDi ((hpe i him hei hni).2 hlt')
   have hHp:(σ i).H=(σ p).H:=hsame p i hpi o3 (fun q h2 h3=>by
    cases hq:cW ops q with
    | false=>exact .inl rfl
    | true=>
     by_cases hnq:cC q fl=none
     ·have:=hDlt hq hnq (hbef q (hch q i him h3 hq hei hnq hni)); omega
     ·exact .inr (hnf hq hnq))
   have hst:(⟨(σ i).fr,(σ p).H⟩:St)=σ i:=by rw[<-hHp]
   have hzl:zm D (σ p).H.length=false:=zmhi D _ (hlen1 p hpm)
   have hbl:∀ y∈o.op.operands.toList,∀ b,blk? (bM cx ⟨(σ i).fr,(σ p).H⟩ y)=some b->zm D b=false:=fun y hy b hb=>zr (hopr.one y hy) (by rw[<-hb]; cases y<;>rfl)
   have h1m:bw cx f lo o ⟨(σ i).fr,bF (zm D) (σ p).H⟩ (fun a H=>some (a,H))=some (xs i,bF (zm D) H'):=by
    rw[Cj he hzl rowM hbl,hst,h1]; rfl
   obtain ⟨c,w',x,H2,g2,e1,e2,e3,e4,e5,e6,e7,e8⟩:=jJ hopr h1m
   cases e2
   refine jC e1 ?_
   have hH1:(σ (i+1)).H=H':=by rw[hs1.1,fW]
   have hz':=zsame hni
   have htch:=pG he h1
   refine fin (i+1) g2 w' c o3 (fun j hjm hje hjn=>⟨fun h'=>?_,fun h'=>?_⟩) (fun j b hj hnj=>?_) (by rw[hH1,hz']; exact e3) (by rw[hH1,hz']; exact e4) (fun b hb hb'=>?_) (e8.trans hgS) (fun d _=>by rw[hH1,hz']; first | exact e5 | exact e6 | exact e7)
   ·rcases (hD' j).1 h' with rfl | h'
    ·omega
    ·have:=hDlt hje hjn h'; omega
   ·refine(hD' j).2 ?_
    by_cases e:j=i
    ·exact .inl e
    ·exact .inr (hbef j (hch j i him o3 hje hei hjn hni))
   ·have hDj:¬ D j:=fun h=>hnj ((hD' j).2 (.inr h))
    obtain ⟨_,_,_,b',cs',_,_,q3,q4,q5,_⟩:=hfl.at_ j _ hj
    cases q3
    have hbH:b<(σ i).H.length:=SQ (SB.1 q5).1 (hlen1 i o3)
    rw[hH1,htch.2 b hbH (fun c hc e=>?_),hHp]
    ·exact hpb j b hj hDj
    ·subst e
     have hzb:zm D b=true:=(zmT D b).2 ⟨j,hj,hDj⟩
     have hza:zm D b=false:=by
      obtain ⟨y,hy,hty⟩:∃ y∈o.op.operands.toList,cU cx (σ i) o.op=bM cx (σ i) y:=by
       have hcs:blk? (cU cx (σ i) o.op)=some b:=hc
       unfold cU at hcs ⊢
       split at hcs
       ·rename_i t ad v hx; exact⟨ad,by rw[hx]; simp[Op.operands],rfl⟩
       ·rename_i c' hx
        split at hcs
        ·rename_i y l hl
         refine⟨y,?_,rfl⟩
         rw[hx]
         have:y∈c'.args.toList:=by rw[hl]; simp
         simp[Op.operands,Call.operands]
         exact .inr (by simpa using this)
        ·cases hcs
       ·cases hcs
      refine hbl y hy b ?_
      rw[hst,<-hty]; exact hc
     rw[hzb] at hza; cases hza
   ·have hb2:b<(σ i).H.length:=SQ hb' (by have:=hlenm 0 i o3 o3; rw[hσH] at this; exact SZ hfl.len this)
    have h3:=(by first | exact e7 b hb (by rw[cN,<-hHp]; exact hb2) | exact e6 b hb (by rw[cN,<-hHp]; exact hb2):(bF (zm D) H')[b]? = (bF (zm D) (σ p).H)[b]?)
    rw[ez (zmlow D b hb'),ez (zmlow D b hb')] at h3
    rw[hH1,h3]
    exact hlow b hb hb'
  ·
   have hun:∀ q,q<m->cW ops q=true->cC q fl=none->((i<q/\q<p)∨(p<=q/\q<i))->fk ops i q:=fun q hqm hqe hqn hq=>by
    unfold fk
    rw[TE]
    constructor
    ·cases hb:ff ops i q with
     | false=>rfl
     | true=>
      have h2:=hDlt hqe hqn (hbef q hb)
      have h3:=hlt hb
      omega
    ·cases hb:ff ops q i with
     | false=>rfl
     | true=>
      have h2:=hlt hb
      have h3:D q:=(hpe q hqm hqe hqn).2 o3
      exact absurd (hcl q i h3 hb) hDi
   have hvo:∀ {y:Operand},y∈o.op.operands.toList->∀ {b:Nat},blk? (bM cx (σ i) y)=some b->zm D b=false/\∃ B,(σ p).H[b]? = some B:=fun {y} hy {b} hb=>by
    have hvr:=hopr.one y hy
    rw[show bM cx ⟨(σ i).fr,bF (zm D) (σ p).H⟩ y=bM cx (σ i) y from by cases y<;>rfl] at hvr
    have hz:=zr hvr hb
    obtain ⟨B,hB,_⟩:=tz hvr hb
    rw[ez hz] at hB
    exact⟨hz,B,hB⟩
   have haddr:bC o=1->∀ {b:Nat},blk? (addrOf cx (σ i) o.op)=some b->∃ y∈o.op.operands.toList,addrOf cx (σ i) o.op=bM cx (σ i) y:=fun h2 {b} hbs=>by
    unfold bC at h2
    split at h2<;>first | (cases h2; done) | skip
    ·rename_i t x hx; exact⟨x,by rw[hx]; simp[Op.operands],by unfold addrOf; rw[hx]⟩
    ·rename_i t x q hx; exact⟨x,by rw[hx]; simp[Op.operands],by unfold addrOf; rw[hx]⟩
    ·rename_i t x q hx; exact⟨x,by rw[hx]; simp[Op.operands],by unfold addrOf; rw[hx]⟩
    ·rename_i t x q1 q2 q3 hx; exact⟨x,by rw[hx]; simp[Op.operands],by unfold addrOf; rw[hx]⟩
    ·rename_i x hx; exact⟨x,by rw[hx]; simp[Op.operands],by unfold addrOf; rw[hx]⟩
    ·rename_i t1 t2 x hx; exact⟨x,by rw[hx]; simp[Op.operands],by unfold addrOf; rw[hx]⟩
    ·rename_i t x q c hx; exact⟨x,by rw[hx]; simp[Op.operands],by unfold addrOf; rw[hx]⟩
    ·rename_i c hx
     unfold addrOf at hbs ⊢
     rw[hx] at hbs ⊢
     simp only[] at hbs ⊢
     cases hargs:c.args.toList with
     | nil=>rw[hargs] at hbs; cases hbs
     | cons y l=>
      refine⟨y,?_,rfl⟩
      have:y∈c.args.toList:=by rw[hargs]; simp
      simp[Op.operands,Call.operands]
      exact .inr (by simpa using this)
   have hev:gC cx call f o ⟨(σ i).fr,(σ p).H⟩=some (xs i):=by
    have hsi:(⟨(σ i).fr,(σ i).H⟩:St)=σ i:=rfl
    rw[<-hsi] at h1
    have allSame:(∀ q,q<m->cW ops q=true->cC q fl=none->((i<q/\q<p)∨(p<=q/\q<i))->False)->(σ p).H=(σ i).H:=fun hno=>by
     rcases VZ i p with hip | hip
     ·exact hsame i p hip hpm (fun q h2 h3=>by
       cases hq:cW ops q with
       | false=>exact .inl rfl
       | true=>
        by_cases hnq:cC q fl=none
        ·by_cases e:q=i
         ·subst e; rw[heff ho,he] at hq; cases hq
         ·exact(hno q o3 hq hnq (.inl ⟨o3,h3⟩)).elim
        ·exact .inr (hnf hq hnq))
     ·exact(hsame p i hip o3 (fun q h2 h3=>by
       cases hq:cW ops q with
       | false=>exact .inl rfl
       | true=>
        by_cases hnq:cC q fl=none
        ·exact(hno q o3 hq hnq (.inr ⟨h2,h3⟩)).elim
        ·exact .inr (hnf hq hnq))).symm
    cases hord:jd fl ops m i with
    | true=>
     rw[allSame (fun q hqm hqe hqn hq=>by
      have hu:=hun q hqm hqe hqn hq
      unfold fk at hu
      rw[TE] at hu
      rcases vC hord hqm hqe hqn with h2 | h2 | h2
      ·omega
      ·rw[hu.1] at h2; cases h2
      ·rw[hu.2] at h2; cases h2)]
     exact h1
    | false=>
     rcases hkind with h2 | h2 | h2 | ⟨h2,h3⟩ | ⟨h2,h3⟩
     ·rw[hord] at h2; cases h2.1
     ·rw[rr h2 (H':=(σ i).H)]; exact h1
     ·rw[<-vg h2 (H:=(σ i).H) (fun b hb=>?_)]
      ·exact h1
      ·have hbV:∃ B,(σ p).H[b]? = some B:=by
        obtain ⟨y,hy,hay⟩:=haddr h2 hb
        exact(hvo hy (by rw[<-hay]; exact hb)).2
       obtain ⟨B,hB⟩:=hbV
       have hbp:b<(σ p).H.length:=(SB.1 hB).1
       have hap:∀ {e:A} {c:Nat},apart (addrOf cx (σ i) o.op) e=true->blk? e=some c->b≠c:=fun {e c} h4 h5 h6=>by
        have hb':blk? (addrOf cx (σ i) o.op)=some b:=hb
        unfold apart at h4
        simp only[hb',h5,h6,Vz] at h4
        cases h4
       rcases VZ i p with hip | hip
       ·
        have hbi:b<(σ i).H.length∨(σ i).H.length<=b:=V1 _ _
        rcases hbi with hbi | hbi
        ·exact hblk i p hip hpm b hbi (fun q oq h4 h5 hoq hqe hqn c hc=>by
          by_cases e:q=i
          ·subst e; rw[heff ho,he] at hqe; cases hqe
          ·have hu:=hun q o3 hqe hqn (.inl ⟨o3,h5⟩)
           have hqA:=(htr q oq (hget o3 hoq)).2.1 (by rw[Th]; exact hqn) (by rw[<-heff hoq]; exact hqe)
           simp only[Th] at hqA
           exact hap (hqA.2 i o o3 (hget him ho) he h2 hord (by unfold fk at hu ⊢; rw[Bool.or_comm]; exact hu)) hc)
        ·exfalso
         obtain ⟨B',hB'⟩:=tN (s:=σ i) h2 h1 hb
         have:=(SB.1 hB').1
         omega
       ·exact(hblk p i hip o3 b hbp (fun q oq h4 h5 hoq hqe hqn c hc=>by
         have hu:=hun q o3 hqe hqn (.inr ⟨h4,h5⟩)
         exact hap ((htB he h2 hord).2 q oq h5 (hget o3 hoq) (by rw[Th]; exact hqn) (by rw[<-heff hoq]; exact hqe) (by rw[Th]; exact hu)) hc)).symm
     ·have hrow:∀ i j,i<=j->j<=m->(∀ q,i<=q->q<j->cW ops q=true->cC q fl=none->uQ ops q=true)->∀ b,fe (σ j).H b=fe (σ i).H b:=by
       intro i j hij
       induction j with
       | zero=>
        intro _ _ b; obtain rfl:i=0:=o3
        rfl
       | succ j ih=>
        intro hjm hq b
        by_cases e:i=j+1
        ·subst e; rfl
        ·obtain ⟨oj,hoj⟩:=hop j o3
         have hprev:=ih o3 o3 (fun q h1 h2=>hq q h1 o3) b
         have stE:ky cx call f lo ops m fl j oj (σ j) (σ (j+1)) (xs j)->fe (σ (j+1)).H b=fe (σ i).H b:=fun hE=>by
          rcases hE with ⟨_,ej⟩ | ⟨hnj,hej,H',hj1,ej⟩ | ⟨_,_,_,ej,_⟩
          ·rw[ej.1,fW]
           exact hprev
          ·have hc:=hq j o3 o3 (by rw[heff hoj]; exact hej) hnj
           unfold uQ at hc
           rw[hoj] at hc
           rw[ej.1,fW]
           exact(AB hc hj1 b).trans hprev
          ·rw[ej.1,fW]
           exact hprev
         rcases hsel j o3 oj hoj with ⟨_,hE⟩ | ⟨_,_,_,_,_,_,ej,_⟩ | ⟨_,_,_,_,_,_,a4⟩
         ·exact stE hE
         ·rw[ej.1,fW]
          exact hprev
         ·rcases a4 with ⟨_,hE⟩ | ⟨_,_,ej⟩
          ·exact stE hE
          ·rw[ej.1,fW]
           exact hprev
      have hcalm:∀ q,q<m->cW ops q=true->cC q fl=none->((i<q/\q<p)∨(p<=q/\q<i))->uQ ops q=true:=fun q hqm hqe hqn hq=>by
       have hu:=hun q hqm hqe hqn hq
       unfold fk at hu
       rw[TE] at hu
       have:=SJ.1 h3 q (S6.2 hqm)
       simp only[hqe,hu.1,hu.2,TK,Tn,Tw,S5,or_false,false_or,reduceCtorEq,S0] at this
       rcases this with h | h
       ·exact h
       ·omega
      rw[rq h2 (H':=(σ i).H) (fun b=>?_)]
      ·exact h1
      ·rcases VZ i p with hip | hip
       ·exact hrow i p hip hpm (fun q h4 h5 hqe hqn=>by
         by_cases e:q=i
         ·subst e; rw[heff ho,he] at hqe; cases hqe
         ·exact hcalm q o3 hqe hqn (.inl ⟨o3,h5⟩)) b
       ·exact(hrow p i hip o3 (fun q h4 h5 hqe hqn=>hcalm q o3 hqe hqn (.inr ⟨h4,h5⟩)) b).symm
     ·rw[<-wM h2 (H:=(σ i).H) h3]; exact h1
   have hevm:gC cx call f o ⟨(σ i).fr,bF (zm D) (σ p).H⟩=some (xs i):=by
    have loc:n6 cx o=true->gC cx call f o ⟨(σ i).fr,bF (zm D) (σ p).H⟩=gC cx call f o ⟨(σ i).fr,(σ p).H⟩:=fun hl=>by
     unfold n6 at hl
     simp only[TK,Sz] at hl
     rcases hl with ((hl | hl) | hl) | ⟨hl,hq⟩
     ·exact rr (beq_spec hl)
     ·refine(vg (beq_spec hl) fun b hb=>?_).symm
      have hb':blk? (addrOf cx (σ i) o.op)=some b:=hb
      obtain ⟨y,hy,hay⟩:=haddr (beq_spec hl) hb'
      exact ez (hvo hy (by rw[<-hay]; exact hb')).1
     ·exact rq (.inl (beq_spec hl)) rowM
     ·exact rq (.inr ⟨beq_spec hl,hq⟩) rowM
    have lk:∀ k,bC o=k->(k=0∨k=1∨k=2)->n6 cx o=true:=fun k hk h=>by
     unfold n6
     rcases h with rfl | rfl | rfl<;>rw[hk]<;>rfl
    rcases hkind with ⟨_,(h2 | h2) | h2⟩ | h2 | h2 | ⟨h2 | ⟨h2,h3⟩,_⟩ | ⟨h2,_⟩
    ·rw[loc h2]; exact hev
    ·rw[rU fun b=>(zmF D b).2 fun j hj=>hbef j (ry h2 j _ hj)]; exact hev
    ·rw[Co (H':=(σ p).H) h2 rowM]; exact hev
    ·rw[loc (lk 0 h2 (.inl rfl))]; exact hev
    ·rw[loc (lk 1 h2 (.inr (.inl rfl)))]; exact hev
    ·rw[loc (lk 2 h2 (.inr (.inr rfl)))]; exact hev
    ·rw[loc (by unfold n6; rw[h2,h3]; rfl)]; exact hev
    ·rw[loc (lk 2 h2 (.inr (.inr rfl)))]; exact hev
   have hpo:=mB hcall horc hevm
   refine(hpo F n g' w0 W a'.eval hF hopr (fun G vs hG=>(hg.sr.gl G vs hG).ext heW) (hcall.up _ _ _ _ _ _ hb0 (hg.ext.trans heW))).mono ?_
   rintro v w' ⟨k1,k2,k3⟩
   refine fin p g' w' v hpm (fun j hjm hje hjn=>⟨fun h'=>?_,fun h'=>(hD' j).2 (.inr ((hpe j hjm hje hjn).2 h'))⟩) (fun j b hj hnj=>hpb j b hj (fun h=>hnj ((hD' j).2 (.inr h)))) (by rw[zsame hni]; exact k2) (by rw[zsame hni]; exact k3) hlow hgS (fun d _=>by rw[zsame hni]; exact k1)
   rcases (hD' j).1 h' with rfl | h'
   ·rw[heff ho,he] at hje; cases hje
   ·exact hDlt hje hjn h'
 ·rintro D a' W hall hDm ⟨p,g',hpm,hpe,hpb,hrW,heW,hlow,hgS,hv1,hv2⟩ hdf hsz
  have hmn:bF (zm D) (σ p).H=(σ p).H:=rU fun b=>(zmF D b).2 fun j hj=>hall j (hfl.at_ j _ hj).1
  rw[hmn] at hrW heW hv1 hv2
  have hHm:(σ m).H=(σ p).H:=hsame p m hpm (Sy _) (fun q h2 h3=>by
   cases hq:cW ops q with
   | false=>exact .inl rfl
   | true=>
    by_cases hnq:cC q fl=none
    ·have:=(hpe q h3 hq hnq).1 (hall q h3); omega
    ·exact .inr (hnf hq hnq))
  refine fq (f:=f) (ops:=ops) hcall hb0 horc hF hk hp _ (σ m) g' a' W (fun o ho=>hd o (S4 ho)) ⟨⟨by rw[hHm]; exact hrW,fun t=>?_,fun G vs hG=>by rw[hHm]; exact(hg.sr.gl G vs hG).ext heW⟩,by rw[hHm]; exact hg.ext.trans heW,?_,fun b hb hb'=>?_,hsz,(by rw[hdf]; exact hg.dfr.lC heW.kept),SZ hg.mbw heW.size,hgS.trans hg.st⟩ hz
  ·rw[hHm]
   by_cases ht:∃ i,i<m/\bV ops i=some t
   ·obtain ⟨i,him,hit⟩:=ht
    obtain ⟨oi,hoi⟩:=hop i him
    have e1:look (σ (i+1)).fr t=xs i:=by rw[fstep i him oi hoi,SH (by rw[<-hdst hoi]; exact hit)]
    rw[fkeep t (i+1) m o3 (Sy _) (fun q h1 h2 hq=>by
     obtain ⟨oq,hoq⟩:=hop q h2
     obtain ⟨c4',_⟩:=lI lj hoq
     exact c4' i t o3 (by rw[<-hdst hoq]; exact hq) hit),e1]
    exact hv1 t i him hit (hall i him)
   ·rw[fkeep t 0 m o3 (Sy _) (fun q h1 h2 hq=>ht ⟨q,h2,hq⟩),hσf]
    exact hv2 t (fun i him hit=>absurd ⟨i,him,hit⟩ ht)
  ·have:=hlenm 0 m o3 (Sy _)
   rw[hσH] at this
   exact SZ hg.len (SZ hfl.len this)
  ·rw[hHm,hlow b hb (SQ hb' hg.len)]
   exact hg.low b hb hb'
end
section
open Go.RowKit
variable {H H':ar} {g g':Gh} {w0 w w':World} {cx:Cx} {s:St} {a:Act} {N lo:Nat} {mb:Mb} {H0:ar} {gs:Gh} {ws:World}
theorem Eo (hr:Rel H g w0 w) {x:A} {c:Value} (h:VR H g w x c):VR H g w (En H x) c:=by
 unfold En
 split
 ·exact VR.back (fun _ _ h=>h) (ph hr _ c h)
 ·rw[VR] at h ⊢
  obtain ⟨a,cap,ds,es,h1,h2,_,h4,h5,h6⟩:=h
  exact⟨a,cap,ds,es,h1,h2,fun h=>(by cases h),h4,h5,h6⟩
 ·exact h
theorem wU (hr:Rel H g w0 w):∀ {cs:List A} {ds:List Value},bl H g w cs ds->bl H g w (cs.map (En H)) ds
 | [],_,h=>h
 | a :: as,_,h=>by
  rw[bl] at h
  obtain ⟨d,ds',rfl,h1,h2⟩:=h
  rw[TS,bl]
  exact⟨d,ds',rfl,Eo hr h1,wU hr h2⟩
theorem Cs (hr:Rel H g w0 w) {x:A} {c:Value} (h:VR H g w x c):VR H g w (Gm H x) c:=by
 unfold Gm
 split
 ·exact VR.back (fun _ _ h=>h) (ph hr _ c h)
 ·rw[VR] at h ⊢
  obtain ⟨a,cap,ds,es,h1,h2,_,h4,h5,h6⟩:=h
  exact⟨a,cap,ds,es,h1,h2,fun h=>(by cases h),h4,h5,h6⟩
 ·rw[VR] at h ⊢
  obtain ⟨ds,h1,h2⟩:=h
  exact⟨ds,h1,wU hr h2⟩
 ·exact h
theorem vI (hr:Rel H g w0 w) (es:Nat) {x:A} {c:Value} (h:VR H g w x c):∃ g',Rel (eO es H x).2 g' w0 w/\Ext H g w (eO es H x).2 g' w/\VR (eO es H x).2 g' w (eO es H x).1 c/\H.length<=(eO es H x).2.length/\(∀ b,b<H.length->(eO es H x).2[b]? = H[b]?)/\g'.S=g.S:=by
 unfold eO
 split
 ·rename_i els
  rw[bp]
  split
  ·rename_i hal
   rw[VR] at h
   obtain ⟨a,cap,ds,es',e1,e2,e3,e4,e5,e6⟩:=h
   have hc:cap=els.length:=e3 rfl
   have hds:∀ d∈ds,d.length=es:=fun d hd=>by
    obtain ⟨i,hi,rfl⟩:=Tu hd
    have hl:=e6.length
    obtain ⟨q1,q2⟩:=b9.1 e6
    have:=q2 i els[i] ds[i] (Sx o3) (Sx hi)
    rw[this.length]
    exact SM (SJ.1 hal _ (Tb o3))
   obtain ⟨h1,h2⟩:=hr.push (Below.refl _ w) (.row false es els) none ds (fun k hk=>by cases hk) (fun he=>⟨by rw[Gh.fM]; exact bf.ext he _ _ e6,by rw[Gh.fM]; exact hds⟩)
   refine⟨_,h1,h2,?_,r8,fun b hb=>SP hb,rfl⟩
   rw[VR,dG]
   refine⟨r8,a,cap,e1,e2,fun h=>(by cases h),fun hp=>?_,fun _ _ _ h=>o3⟩
   obtain ⟨k,off,g1,g2⟩:=e5 hp
   refine⟨k,off,g1,?_⟩
   rw[Gh.fM,Tq,Tj (by rw[e6.length]; exact Sy _)]
   exact g2.ext h2
  ·exact⟨g,hr,Ext.refl hr,h,Sy _,fun _ _=>rfl,rfl⟩
 ·exact⟨g,hr,Ext.refl hr,h,Sy _,fun _ _=>rfl,rfl⟩
theorem DC (hr:Rel H g w0 w) (es:Nat) {x:A} {c:Value} (h:VR H g w x c):∃ g',Rel (fZ es H x).2 g' w0 w/\Ext H g w (fZ es H x).2 g' w/\VR (fZ es H x).2 g' w (fZ es H x).1 c/\H.length<=(fZ es H x).2.length/\(∀ b,b<H.length->(fZ es H x).2[b]? = H[b]?)/\g'.S=g.S:=by
 unfold fZ
 split
 ·rw[VR] at h
  obtain ⟨a,cap,ds,es',e1,e2,e3,e4,e5,e6⟩:=h
  obtain ⟨h1,h2⟩:=hr.push (Below.refl _ w) (.row true es []) none [] (fun k hk=>by cases hk) (fun he=>⟨[],by rw[bf],fun d hd=>(by cases hd),fun hp=>(by simp at hp)⟩)
  refine⟨_,h1,h2,?_,r8,fun b hb=>SP hb,rfl⟩
  rw[VR,dG]
  exact⟨r8,a,cap,e1,o3,fun h=>(by cases h),fun hp=>o3,fun _ _ _ h=>(by have:=e3 rfl; simp at this; omega)⟩
 ·exact⟨g,hr,Ext.refl hr,h,Sy _,fun _ _=>rfl,rfl⟩
theorem zy (hr:Rel H g w0 w) {x:A} {c:Value} (h:VR H g w x c):∃ g',Rel (H++[.dead]) g' w0 w/\Ext H g w (H++[.dead]) g' w/\VR (H++[.dead]) g' w x c/\H.length<=(H++[aD.dead]).length/\(∀ b,b<H.length->(H++[aD.dead])[b]? = H[b]?)/\g'.S=g.S:=by
 obtain ⟨h1,h2⟩:=hr.push (Below.refl _ w) .dead none [] (fun k hk=>by cases hk) (fun he=>Gh.bq ..)
 exact⟨_,h1,h2,VR.ext h2 _ _ h,r8,fun b hb=>SP hb,rfl⟩
theorem DD (hr:Rel H g w0 w) (es:Nat) {x:A} {c:Value} (h:VR H g w x c):∃ g',Rel (kU es H x).2 g' w0 w/\Ext H g w (kU es H x).2 g' w/\VR (kU es H x).2 g' w (kU es H x).1 c/\H.length<=(kU es H x).2.length/\(∀ b,b<H.length->(kU es H x).2[b]? = H[b]?)/\g'.S=g.S:=by
 have h1:=vI hr es h
 unfold kU
 split
 ·rename_i els
  unfold eO at h1
  simp only at h1
  rw[bp] at h1 ⊢
  split
  ·rename_i hal
   rw[SH hal] at h1
   exact h1
  ·exact zy hr h
 ·exact zy hr h
theorem Good.slot (h:Good cx N mb lo H0 gs ws w0 s g a w) {t:Nat} {x:A} (hx:VR s.H g w x (a.tmps.getD t undef)):Good cx N mb lo H0 gs ws w0 ⟨(t,x) :: s.fr,s.H⟩ g a w:=
 ⟨⟨h.sr.rel,fun u=>by
  show VR s.H g w (look ((t,x) :: s.fr) u) _
  rw[dI]; split
  ·rename_i e; rw[<-e]; exact hx
  ·exact h.sr.fr u,h.sr.gl⟩,h.ext,h.len,h.low,h.siz,h.dfr,h.mbw,h.st⟩
theorem Good.heap (h:Good cx N mb lo H0 gs ws w0 s g a w) (hr:Rel H' g' w0 w) (he:Ext s.H g w H' g' w) (hl:s.H.length<=H'.length) (hlo:∀ b,b<lo->b<s.H.length->H'[b]? = s.H[b]?) (hst:g'.S=g.S):Good cx N mb lo H0 gs ws w0 ⟨s.fr,H'⟩ g' a w:=
 ⟨⟨hr,fun t=>VR.ext he _ _ (h.sr.fr t),fun G vs hG=>(h.sr.gl G vs hG).ext he⟩,h.ext.trans he,SZ h.len hl,fun b hb hb'=>(hlo b hb (SQ hb' h.len)).trans (h.low b hb hb'),h.siz,h.dfr.lC he.kept,SZ h.mbw he.size,hst.trans h.st⟩
theorem setRow_self {k:Nat} {arr:Array Value} {ty:TypeId} (ha:w.heap[k]? = some (.cells arr ty (0,0))):w.setRow k arr=w:=by
 have e:(w.heap.modify k fun | .cells _ elem frozen=>.cells arr elem frozen | o=>o)=w.heap:=by
  refine Array.ext r8 fun i h1 h2=>?_
  rw[Wk]
  split
  ·rename_i hik
   subst hik
   have hv:=(SE.1 ha).2
   rw[hv]
  ·rfl
 exact(Ty (fun h=>({ w with heap:=h }:World)) e:_=_)
theorem Rel.box (hr:Rel H g w0 w) {b i:Nat} {cs:List A} (hb:H[b]? = some (.box cs)) {x:A} (hx:∀ k arr ty d,g.mu b=some k->w.heap[k]? = some (.cells arr ty (0,0))->arr[i]? = some d->VR H g w x d):Rel (H.set b (.box (cs.set i x))) g w0 w/\Ext H g w (H.set b (.box (cs.set i x))) g w:=by
 obtain ⟨k,arr,ty,h1,h2,h3⟩:=hr.blk b _ hb
 have key:Ext H g w (H.set b (.box (cs.set i x))) g (w.setRow k arr)->(w.setRow k arr).heap[k]? = some (.cells arr ty (0,0))->kX (H.set b (.box (cs.set i x))) g (w.setRow k arr) b (.box (cs.set i x)):=fun he hk=>by
  refine⟨k,arr,ty,h1,hk,?_⟩
  rw[setRow_self h2] at he ⊢
  refine bl.ext he _ _ (de.2 ⟨by simpa using h3.length,fun j y d hy hd=>?_⟩)
  rw[UB] at hy
  split at hy
  ·rename_i hij
   split at hy
   ·cases hy
    subst hij
    exact hx k arr ty d h1 h2 (by simpa using hd)
   ·cases hy
  ·exact(de.1 h3).2 _ _ d hy hd
 have:=hr.write (arr':=arr) (B':=.box (cs.set i x)) h1 h2 hb (.inl ⟨cs,_,rfl,rfl⟩) key
 rwa [setRow_self h2] at this
def zu (lo:Nat) (p:Nat×Nat×Nat) (s:St):St:=
 match p.2.1 with
 | 0=>match p.2.2 with
  | 0=>⟨(p.1,Gm s.H (look s.fr p.1)) :: s.fr,s.H⟩
  | es+1=>bif Nat.ble 500000 es then (bif Nat.ble 1000000 es then ⟨(p.1,(kU (es - 1000000) s.H (look s.fr p.1)).1) :: s.fr,(kU (es - 1000000) s.H (look s.fr p.1)).2⟩ else ⟨(p.1,(fZ (es - 500000) s.H (look s.fr p.1)).1) :: s.fr,(fZ (es - 500000) s.H (look s.fr p.1)).2⟩) else ⟨(p.1,(eO es s.H (look s.fr p.1)).1) :: s.fr,(eO es s.H (look s.fr p.1)).2⟩
 | off+1=>match look s.fr p.1 with
  | .ptr b o=>match s.H[b]? with
   | some (.box cs)=>match cs[o+off]? with
    | some c=>bif decide (lo<=b) then match p.2.2 with
     | 0=>⟨s.fr,s.H.set b (.box (cs.set (o+off) (Gm s.H c)))⟩
     | es+1=>⟨s.fr,(eO es s.H c).2.set b (.box (cs.set (o+off) (eO es s.H c).1))⟩
     else s
    | none=>s
   | _=>s
  | _=>s
theorem BU (lo:Nat) (p:Nat×Nat×Nat) (s:St):Proofs.Ytebkhfhcipnfgaa.nK lo p s=zu lo p s:=by
 obtain ⟨t,q,m⟩:=p
 cases q with
 | zero=>rfl
 | succ off=>
  simp only[Proofs.Ytebkhfhcipnfgaa.nK,zu,ed]
  cases look s.fr t with
  | ptr b o=>
   simp only[]
   cases s.H[b]? with
   | none=>rfl
   | some B=>cases B with
    | box cs=>
     simp only[]
     cases cs[o+off]? with
     | none=>rfl
     | some c=>
      simp only[]
      cases decide (lo<=b) with
      | false=>rfl
      | true=>cases m<;>rfl
    | _=>rfl
  | _=>rfl
theorem um (es:Nat) (x:A):H.length<=(eO es H x).2.length:=by
 unfold eO
 split
 ·rw[bp]; split<;>simp
 ·exact Sy _
theorem A2 (es:Nat) (x:A):H.length<=(fZ es H x).2.length:=by
 unfold fZ
 split<;>simp
theorem uo (es:Nat) (x:A):(kU es H x).2.length=H.length+1:=by
 unfold kU
 split
 ·rw[bp]; split<;>simp
 ·simp
theorem BS (lo:Nat) (p:Nat×Nat×Nat) (s:St):s.H.length<=(Proofs.Ytebkhfhcipnfgaa.nK lo p s).H.length:=by
 rw[BU]
 unfold zu
 split
 ·split
  ·exact Sy _
  ·rw[bp]
   split
   ·rw[bp]
    split
    ·exact SZ (Nat.le_succ _) (Vj (uo ..).symm)
    ·exact A2 ..
   ·exact um ..
 ·split
  ·split
   ·split
    ·rw[bp]
     split
     ·split
      ·simp
      ·simpa using um ..
     ·exact Sy _
    ·exact Sy _
   ·exact Sy _
  ·exact Sy _
theorem qT (lo:Nat):∀ (ps:List (Nat×Nat×Nat)) (s:St),xw ps≠none->s.H.length+1<=(dB lo ps s).H.length
 | [],s,h=>absurd rfl h
 | [p],s,h=>by
  obtain ⟨t,q,m⟩:=p
  show s.H.length+1<=(Proofs.Ytebkhfhcipnfgaa.nK lo (t,q,m) s).H.length
  cases q with
  | succ q=>exact absurd rfl h
  | zero=>
   unfold xw at h
   simp only at h
   rw[bp] at h
   split at h
   ·rename_i hm
    have hm:1000001<=m:=by simpa [Vm] using hm
    obtain ⟨m,rfl⟩:∃ e,m=e+1:=⟨m - 1,o3⟩
    unfold Proofs.Ytebkhfhcipnfgaa.nK
    simp only
    rw[show Nat.ble 500000 m=true from TI o3,show Nat.ble 1000000 m=true from TI o3]
    simp only[SC]
    rw[uo]
    exact Sy _
   ·exact absurd rfl h
 | p :: q :: ps,s,h=>SZ (Nat.succ_le_succ (BS lo p s)) (qT lo (q :: ps) _ h)
theorem Good.nK (h:Good cx N mb lo H0 gs ws w0 s g a w) (p:Nat×Nat×Nat):∃ g',Good cx N mb lo H0 gs ws w0 (nK lo p s) g' a w/\s.H.length<=(Proofs.Ytebkhfhcipnfgaa.nK lo p s).H.length/\(p.2.2=0->(Proofs.Ytebkhfhcipnfgaa.nK lo p s).H.length=s.H.length):=by
 rw[BU]
 unfold zu
 have same:∃ g',Good cx N mb lo H0 gs ws w0 s g' a w/\s.H.length<=s.H.length/\(p.2.2=0->s.H.length=s.H.length):=⟨g,h,Sy _,fun _=>rfl⟩
 split
 ·split
  ·exact⟨g,h.slot (Cs h.sr.rel (h.sr.fr _)),Sy _,fun _=>rfl⟩
  ·rename_i es he'
   rw[bp]
   split
   ·rw[bp]
    split
    ·obtain ⟨g',h1,h2,h3,h4,h5,h6⟩:=DD h.sr.rel (es - 1000000) (h.sr.fr p.1)
     exact⟨g',(h.heap h1 h2 h4 (fun b _ hb=>h5 b hb) h6).slot h3,h4,fun e=>by rw[he'] at e; cases e⟩
    obtain ⟨g',h1,h2,h3,h4,h5,h6⟩:=DC h.sr.rel (es - 500000) (h.sr.fr p.1)
    exact⟨g',(h.heap h1 h2 h4 (fun b _ hb=>h5 b hb) h6).slot h3,h4,fun e=>by rw[he'] at e; cases e⟩
   obtain ⟨g',h1,h2,h3,h4,h5,h6⟩:=vI h.sr.rel es (h.sr.fr p.1)
   exact⟨g',(h.heap h1 h2 h4 (fun b _ hb=>h5 b hb) h6).slot h3,h4,fun e=>by rw[he'] at e; cases e⟩
 ·rename_i off _
  split
  ·rename_i b o _
   split
   ·rename_i cs hb
    split
    ·rename_i c hc
     rw[bp]
     split
     ·rename_i hlo
      have hlo:lo<=b:=by simpa using hlo
      split
      ·obtain ⟨k,arr,ty,m1,m2,m3⟩:=h.sr.rel.blk b _ hb
       obtain ⟨h1,h2⟩:=h.sr.rel.box hb (i:=o+off) (x:=Gm s.H c) (fun k' arr' ty' d n1 n2 n3=>by
        rw[m1] at n1; cases n1
        rw[m2] at n2; cases n2
        exact Cs h.sr.rel ((de.1 m3).2 _ _ d hc (by simpa using n3)))
       exact⟨g,h.heap h1 h2 r8 (fun b' hb' _=>SO o3) rfl,r8,fun _=>r8⟩
      ·rename_i es he
       obtain ⟨k,arr,ty,m1,m2,m3⟩:=h.sr.rel.blk b _ hb
       have hl:=m3.length
       have hlt:=(SB.1 hc).1
       obtain ⟨d,hd⟩:∃ d,arr.toList[o+off]? = some d:=⟨_,Sx o3⟩
       obtain ⟨g',h1,h2,h3,h4,h5,h6⟩:=vI h.sr.rel es ((de.1 m3).2 _ _ d hc hd)
       have hbl:=(SB.1 hb).1
       have hb':(eO es s.H c).2[b]? = some (.box cs):=(h5 b hbl).trans hb
       have hg2:=h.heap h1 h2 h4 (fun b _ hb=>h5 b hb) h6
       have hmu:g'.mu b=g.mu b:=by
        obtain ⟨B',n1,n2⟩:=h2.blk b _ hb
        rw[hb'] at n1; cases n1
        exact n2
       have key:∀ k arr ty d,g'.mu b=some k->w.heap[k]? = some (.cells arr ty (0,0))->arr[o+off]? = some d->VR (eO es s.H c).2 g' w (eO es s.H c).1 d:=by
        intro k' arr' ty' d' n1 n2 n3
        rw[hmu,m1] at n1; cases n1
        rw[m2] at n2; cases n2
        have e:d'=d:=by
         have:arr.toList[o+off]? = some d':=by simpa using n3
         rw[hd] at this; cases this; rfl
        rw[e]; exact h3
       obtain ⟨k1,k2⟩:=h1.box hb' (i:=o+off) (x:=(eO es s.H c).1) key
       exact⟨g',hg2.heap k1 k2 r8 (fun b' hb' _=>SO o3) rfl,by simpa using h4,fun e=>by rw[he] at e; cases e⟩
     ·exact same
    ·exact same
   ·exact same
  ·exact same
theorem Good.acts:∀ (ps:List (Nat×Nat×Nat)) {s:St} {g:Gh},Good cx N mb lo H0 gs ws w0 s g a w->∃ g',Good cx N mb lo H0 gs ws w0 (dB lo ps s) g' a w/\s.H.length<=(dB lo ps s).H.length
 | [],s,g,h=>⟨g,h,Sy _⟩
 | p :: ps,s,g,h=>by
  obtain ⟨g',h1,h2,_⟩:=h.nK p
  obtain ⟨g'',h3,h4⟩:=Good.acts ps h1
  exact⟨g'',h3,SZ h2 h4⟩
theorem El (hr:Rel H g w0 w) {lo ei:Nat} {x:A} {c:Value} {r:A×ar} (hk:BQ lo ei x H=some r) (h:VR H g w x c):∃ g',Rel r.2 g' w0 w/\Ext H g w r.2 g' w/\VR r.2 g' w r.1 c/\H.length<=r.2.length/\(∀ b,b<lo->b<H.length->r.2[b]? = H[b]?)/\g'.S=g.S:=by
 unfold BQ at hk
 split at hk
 ·rename_i b o n cl
  split at hk
  ·rename_i k els hb
   replace hk:=bc hk
   obtain ⟨h0,hk⟩:=hk
   simp only[Sz,SG] at h0
   obtain ⟨⟨⟨⟨hlo,hk1⟩,hn⟩,hn4⟩,hz⟩:=h0
   have hk1:=SM hk1
   have hn:=SM hn
   subst hk1
   have seed:∀ {G:ar} {gg:Gh},Rel G gg w0 w->Rel (G++[.row false ei []]) (gg.put G.length none []) w0 w/\Ext G gg w (G++[.row false ei []]) (gg.put G.length none []) w:=fun hr=>hr.push (Below.refl _ w) (.row false ei []) none [] (fun k hk=>by cases hk) (fun _=>⟨by rw[Gh.fM,bf],by rw[Gh.fM]; simp⟩)
   obtain ⟨r1,x1⟩:=seed hr
   obtain ⟨r2,x2⟩:=seed r1
   obtain ⟨r3,x3⟩:=seed r2
   obtain ⟨r4,x4⟩:=seed r3
   have hB:H++[.row false ei [],.row false ei [],.row false ei [],.row false ei []]=H++[.row false ei []]++[.row false ei []]++[.row false ei []]++[.row false ei []]:=r8
   have hlt:=(SB.1 hb).1
   rw[hB] at hk
   have x5:=((x1.trans x2).trans (x3.trans x4))
   have hS:((((g.put H.length none []).put (H++[aD.row false ei []]).length none []).put (H++[aD.row false ei []]++[aD.row false ei []]).length none []).put (H++[aD.row false ei []]++[aD.row false ei []]++[aD.row false ei []]).length none []).S=g.S:=rfl
   generalize (((g.put H.length none []).put (H++[aD.row false ei []]).length none []).put (H++[aD.row false ei []]++[aD.row false ei []]).length none []).put (H++[aD.row false ei []]++[aD.row false ei []]++[aD.row false ei []]).length none []=g4 at r4 x4 x5 hS
   have hG:(H++[aD.row false ei []]++[aD.row false ei []]++[aD.row false ei []]++[aD.row false ei []])[b]? = some (.row true 1 els):=by rw[<-hB,SP hlt]; exact hb
   have hrow:∀ j,j<4->(H++[aD.row false ei []]++[aD.row false ei []]++[aD.row false ei []]++[aD.row false ei []])[H.length+j]? = some (.row false ei []):=fun j hj=>by
    rw[<-hB,S3 o3,Nat.add_sub_cancel_left]
    match j,hj with
    | 0,_=>rfl
    | 1,_=>rfl
    | 2,_=>rfl
    | 3,_=>rfl
   have hlen:(H++[aD.row false ei []]++[aD.row false ei []]++[aD.row false ei []]++[aD.row false ei []]).length=H.length+4:=r8
   have hlow:∀ b',b'<lo->b'<H.length->(H++[aD.row false ei []]++[aD.row false ei []]++[aD.row false ei []]++[aD.row false ei []])[b']? = H[b']?:=fun b' _ h'=>by rw[<-hB]; exact SP h'
   generalize H++[aD.row false ei []]++[aD.row false ei []]++[aD.row false ei []]++[aD.row false ei []]=G at hk r4 x4 x5 hG hrow hlen hlow
   have hbl:=r4.blk b _ hG
   cases hk
   obtain ⟨ds,d1,d2,d3⟩:=hbl
   by_cases h0:els.length=0
   ·have he:els=[]:=SV h0
    have hn0:n=0:=o3
    subst he hn0
    have hset:G.set b (.row true 1 (List.take 0 [[A.sl H.length 0 0 false],[A.sl (H.length+1) 0 0 false],[A.sl (H.length+2) 0 0 false],[A.sl (H.length+3) 0 0 false]]))=G:=by
     rw[We]
     obtain ⟨h1,h2⟩:=SB.1 hG
     rw[<-h2]; exact List.set_getElem_self h1
    simp only[hset]
    exact⟨g4,r4,x5,VR.ext x5 _ _ h,o3,hlow,hS⟩
   ·obtain ⟨k,arr,ty,m1,m2,m3⟩:=d3 o3
    have hl:=d1.length
    have key:∀ j,j<ds.length->∃ a,ds[j]? = some [.slice a 0 0]:=fun j hj=>by
     obtain ⟨_,q2⟩:=b9.1 d1
     obtain ⟨e,he⟩:∃ e,els[j]? = some e:=⟨_,Sx o3⟩
     obtain ⟨d,hd⟩:∃ d,ds[j]? = some d:=⟨_,Sx hj⟩
     have hv:=q2 j e d he hd
     have hze:=SJ.1 hz e (S1 he)
     split at hze
     ·rw[bl] at hv
      obtain ⟨d0,ds',rfl,hv,hv'⟩:=hv
      rw[bl] at hv'
      subst hv'
      rw[VR] at hv
      obtain ⟨a,cap,ds1,es1,e1,e2,e3,e4,e5,e6⟩:=hv
      have:=e3 rfl
      subst this
      exact⟨a,by rw[hd,e1]; rfl⟩
     ·cases hze
    have hel:(List.take n [[A.sl H.length 0 0 false],[A.sl (H.length+1) 0 0 false],[A.sl (H.length+2) 0 0 false],[A.sl (H.length+3) 0 0 false]]).length=els.length:=r9
    have wr:=r4.write (arr':=arr) (B':=.row true 1 (List.take n [[A.sl H.length 0 0 false],[A.sl (H.length+1) 0 0 false],[A.sl (H.length+2) 0 0 false],[A.sl (H.length+3) 0 0 false]])) m1 m2 hG (.inr ⟨1,els,_,rfl,rfl,hel,Sy _⟩) (fun he hk=>by
     refine⟨ds,b9.2 ⟨by rw[hel,hl],fun i a d ha hd=>?_⟩,d2,fun _=>⟨k,arr,ty,m1,hk,m3⟩⟩
     have hi4:i<4:=by have:=(SB.1 ha).1; rw[hel] at this; omega
     have hin:i<n:=by have:=(SB.1 ha).1; rw[hel] at this; omega
     rw[SS,SH hin] at ha
     have hja:a=[.sl (H.length+i) 0 0 false]:=by
      match i,hi4,ha with
      | 0,_,ha=>exact(Vh ha).symm
      | 1,_,ha=>exact(Vh ha).symm
      | 2,_,ha=>exact(Vh ha).symm
      | 3,_,ha=>exact(Vh ha).symm
     subst hja
     obtain ⟨ad,hq⟩:=key i o3
     rw[hd] at hq
     cases hq
     rw[bl]
     refine⟨_,_,rfl,?_,u3⟩
     rw[VR,SO o3,hrow i hi4]
     exact⟨r8,ad,0,rfl,Sy _,fun h=>rfl,fun h=>absurd h (by decide),fun _ _ _ h=>absurd h (by decide)⟩)
    rw[setRow_self m2] at wr
    obtain ⟨r6,x6⟩:=wr
    exact⟨g4,r6,x5.trans x6,VR.ext (x5.trans x6) _ _ h,r9,fun b' h1 h2=>by rw[SO o3]; exact hlow b' h1 h2,hS⟩
  ·cases hk
 ·cases hk
theorem Good.CH {k:St->Option R} {r:R}:∀ (ps:List (Nat×Nat×Nat)) {s:St} {g:Gh},Good cx N mb lo H0 gs ws w0 s g a w->qA lo ps s k=some r->∃ s' g',Good cx N mb lo H0 gs ws w0 s' g' a w/\k s'=some r
 | [],s,g,h,hk=>⟨s,g,h,hk⟩
 | p :: ps,s,g,h,hk=>by
  unfold qA at hk
  obtain ⟨q,h1,hk⟩:=bn hk
  obtain ⟨t,o,m⟩:=p
  cases m with
  | zero=>
   obtain ⟨g',e1,e2,e3,e4,e5,e6⟩:=zN h.sr.rel h1 (h.sr.fr t)
   exact Good.CH ps ((h.heap e1 e2 (Vj e4.symm) e5 e6).slot e3) hk
  | succ es=>
   obtain ⟨g',e1,e2,e3,e4,e5,e6⟩:=El h.sr.rel h1 (h.sr.fr t)
   exact Good.CH ps ((h.heap e1 e2 e4 e5 e6).slot e3) hk
variable {call:aU} {f:Nat} {ops:Array Oper} {r:R}
theorem tL {o:Oper} {k k':St->Option R} {pan:A->St->Option R} (hk:∀ s,k s=some r->k' s=some r) (h:rk cx call f lo o s k pan=some r):rk cx call f lo o s k' pan=some r:=by
 have one:∀ {x},bw cx f lo x s (fun a H=>k ({ s with H:=H }.put o.dst a))=some r->bw cx f lo x s (fun a H=>k' ({ s with H:=H }.put o.dst a))=some r:=fun {x} h=>by
  rw[g7] at h ⊢
  obtain ⟨p,h1,h2⟩:=bn h
  rw[h1]
  exact hk _ h2
 unfold rk at h ⊢
 split
 ·rename_i c x y ho
  simp only[ho] at h
  obtain ⟨z,h1,h2⟩:=bn h
  rw[h1]; exact hk _ h2
 ·rename_i x ho
  simp only[ho] at h
  exact h
 ·rename_i t' n' parts ho
  simp only[ho] at h ⊢
  rw[bp] at h ⊢
  split
  ·rename_i hc
   rw[SH hc] at h
   obtain ⟨z,h1,h2⟩:=bn h
   rw[h1]; exact hk _ h2
  ·rename_i hc
   rw[SI hc] at h
   exact one h
 ·rename_i t' n' parts ho
  simp only[ho] at h ⊢
  rw[bp] at h ⊢
  split
  ·rename_i hc
   rw[SH hc] at h
   obtain ⟨z,h1,h2⟩:=bn h
   rw[h1]; exact hk _ h2
  ·rename_i hc
   rw[SI hc] at h
   exact one h
 ·rename_i t' t'' x ho
  simp only[ho] at h ⊢
  rw[bp] at h ⊢
  split
  ·rename_i hc
   rw[SH hc] at h
   obtain ⟨z,h1,h2⟩:=bn h
   rw[h1]; exact hk _ h2
  ·rename_i hc
   rw[SI hc] at h
   exact one h
 ·rename_i c ho
  simp only[ho] at h ⊢
  rw[bp] at h ⊢
  split
  ·rename_i hc
   rw[SH hc] at h
   rw[rh] at h ⊢
   unfold GJ at h ⊢
   split at h
   ·rename_i p hy
    obtain ⟨hrb,h⟩:=bc h
    obtain ⟨x,h3,h4⟩:=bn h
    simp only[hrb,SC,h3,Sw]
    unfold dj at h4 ⊢
    split
    ·rename_i y hy; rw[hy] at h4; exact hk _ h4
    ·rename_i y hy; rw[hy] at h4; exact h4
   obtain ⟨p,h1,h2⟩:=bn h
   simp only[h1,Sw]
   rw[bp] at h2 ⊢
   split
   ·rename_i hi
    rw[SH hi] at h2
    obtain ⟨x,h3,h4⟩:=bn h2
    rw[h3]; exact hk _ h4
   ·rename_i hi
    rw[SI hi] at h2
    obtain ⟨x,h3,h4⟩:=bn h2
    rw[h3,Sw]
    unfold dj at h4 ⊢
    split
    ·rename_i y hy; rw[hy] at h4; exact hk _ h4
    ·rename_i y hy; rw[hy] at h4; exact h4
  ·rename_i hc
   rw[SI hc] at h
   exact one h
 ·rename_i h1 h2 h3 h4 h5 h6
  have:bw cx f lo o s (fun a H=>k ({ s with H:=H }.put o.dst a))=some r:=by
   cases ho:o.op<;>first
    | (simp only[ho] at h; exact h)
    | exact absurd ho (h1 _ _ _)
    | exact absurd ho (h2 _)
    | exact absurd ho (h3 _ _ _)
    | exact absurd ho (h4 _ _ _)
    | exact absurd ho (h5 _ _ _)
    | exact absurd ho (h6 _)
  exact one this
theorem B6 {b x:Bool} (h:(bif b then x else false)=true):b=true/\x=true:=by cases b<;>simp_all
theorem nz:∀ {os:List Oper},oA cx f os=true->∀ o∈os,quiet cx f o=true
 | [],_,o,ho=>by cases ho
 | o :: os,h,o',ho'=>by
  unfold oA at h
  obtain ⟨h1,h2⟩:=B6 h
  rcases Ti.1 ho' with rfl | ho'
  ·exact h1
  ·exact nz h2 o' ho'
theorem g8 {k:E->St->Option R}:∀ (q:Nat) (os:List Oper) (s:St),gk cx call f lo ops q os s k=some r->fp cx call f lo ops os s k=some r
 | 0,_,_,h=>by cases h
 | _+1,[],_,h=>h
 | q+1,o :: os,s,h=>by
  have ih:=fun s=>g8 (k:=k) q os s
  unfold gk at h
  unfold fp
  cases hgd:o.guard with
  | none=>
   simp only[hgd] at h ⊢
   exact tL (fun s=>ih s) h
  | some x=>
   simp only[hgd] at h ⊢
   cases hgs:bK ops o with
   | none=>rw[hgs] at h; cases h
   | some p=>
    obtain ⟨t,w⟩:=p
    simp only[hgs] at h ⊢
    rw[bp] at h
    split at h
    ·rename_i hc
     rw[Sz] at hc
     have hqq:=nz hc.2
     have hro:=(ef (ops:=ops) t w (o :: os) []).2.out.1
     have hE:∀ (o:Oper) (os:List Oper) (s:St),(quiet cx f o=true/\(o.guard≠none∨∃ c a b,o.op=.pick c a b))->fp cx call f lo ops (o :: os) s k=(lY cx call f ops o s).bind fun x=>fp cx call f lo ops os (s.put o.dst x) k:=by
      intro o os s ⟨h1,h2⟩
      rw[fp]
      unfold lY
      cases hgd:o.guard with
      | none=>
       simp only
       rcases h2 with h2 | ⟨c,a,b,hp⟩
       ·exact absurd hgd h2
       ·unfold rk gC
        rw[hp]
      | some x=>
       simp only
       cases hgs:bK ops o with
       | none=>rfl
       | some p=>
        obtain ⟨t,w⟩:=p
        simp only[h1,SC]
     obtain ⟨pre,rest,fr,e1,e2,e3,e4⟩:=rI (E:=fun os s=>fp cx call f lo ops os s k) hE (fun o c a b hp=>⟨by unfold quiet; rw[hp],.inr ⟨c,a,b,hp⟩⟩) (fun o' ho'=>⟨hqq o' ho',.inl (hro o' ho').2⟩) (fun g w h=>by cases h) (fun hlk fin l hl=>by
      obtain ⟨dl,k1,k2,k3⟩:=iy (E:=fun os s=>fp cx call f lo ops os s k) hE (fun o c a b hp=>⟨by unfold quiet; rw[hp],.inr ⟨c,a,b,hp⟩⟩) q (some (t,w)) fin _ [] s l hl (fun o' ho'=>⟨hqq o' ho',.inl (hro o' ho').2⟩) (fun g' w' hg'=>by
       cases hg'; exact⟨hlk,fun o' ho'=>(hro o' ho').1⟩)
      exact⟨dl,k1,by simpa using k2,k3⟩) h
     have:=e4 rest
     rw[<-e1] at this
     have h3:=g8 q rest _ e2
     have h4:fp cx call f lo ops (o :: os) s k=some r:=this.trans h3
     rw[fp,hgd] at h4
     simp only[hgs] at h4
     exact h4
    ·rw[bp] at h ⊢
     split
     ·rename_i hq
      rw[SH hq] at h
      obtain ⟨x,h1,h2⟩:=bn h
      rw[h1]; exact ih _ h2
     ·rename_i hq
      rw[SI hq] at h
      unfold qa at h ⊢
      split
      ·rename_i b hb
       rw[hb] at h
       cases b<;>cases w<;>simp only[SC,SA] at h ⊢<;>first | exact ih _ h | exact tL (fun s=>ih s) h
      ·rename_i y hy; rw[hy] at h; exact ih _ h
      ·rename_i h1 h2
       split at h
       ·rename_i b hb; exact absurd hb (h1 b)
       ·rename_i y hy; exact absurd hy (h2 y)
       ·cases h
theorem nP {k k':St->Option R} (hk:∀ s,k s=some r->k' s=some r):∀ {os:List Oper} {s:St},iT cx call f ops os s k=some r->iT cx call f ops os s k'=some r
 | [],s,h=>hk _ h
 | o :: os,s,h=>by
  unfold iT at h ⊢
  cases hgd:o.guard with
  | none=>
   simp only[hgd] at h ⊢
   obtain ⟨x,h1,h2⟩:=bn h
   rw[h1]; exact nP hk h2
  | some q=>
   simp only[hgd] at h ⊢
   cases hgs:bK ops o with
   | none=>rw[hgs] at h; cases h
   | some p=>
    simp only[hgs] at h ⊢
    obtain ⟨x,h1,h2⟩:=bn h
    rw[h1]; exact nP hk h2
theorem pJ {k:St->Option R}:∀ (q:Nat) (os:List Oper) (s:St),pI cx call f ops q os s k=some r->iT cx call f ops os s k=some r
 | 0,_,_,h=>by cases h
 | _+1,[],_,h=>h
 | q+1,o :: os,s,h=>by
  have ih:=fun s=>pJ (k:=k) q os s
  unfold pI at h
  have hE:∀ (o:Oper) (os:List Oper) (s:St),True->iT cx call f ops (o :: os) s k=(lY cx call f ops o s).bind fun x=>iT cx call f ops os (s.put o.dst x) k:=by
   intro o os s _
   rw[iT]
   unfold lY
   cases hgd:o.guard with
   | none=>rfl
   | some x=>
    simp only
    cases hgs:bK ops o with
    | none=>rfl
    | some p=>rfl
  cases hgd:o.guard with
  | none=>
   simp only[hgd] at h
   unfold iT
   simp only[hgd]
   rw[qy] at h
   obtain ⟨x,h1,h2⟩:=bn h
   rw[h1]; exact ih _ h2
  | some x=>
   simp only[hgd] at h
   cases hgs:bK ops o with
   | none=>rw[hgs] at h; cases h
   | some p=>
    obtain ⟨t,w⟩:=p
    simp only[hgs] at h
    obtain ⟨_,h⟩:=bc h
    have hro:=(ef (ops:=ops) t w (o :: os) []).2.out.1
    obtain ⟨pre,rest,fr,e1,e2,e3,e4⟩:=rI (E:=fun os s=>iT cx call f ops os s k) hE (fun _ _ _ _ _=>trivial) (fun _ _=>trivial) (fun g w h=>by cases h) (fun hlk fin l hl=>by
     obtain ⟨dl,k1,k2,k3⟩:=iy (E:=fun os s=>iT cx call f ops os s k) hE (fun _ _ _ _ _=>trivial) q (some (t,w)) fin _ [] s l hl (fun _ _=>trivial) (fun g' w' hg'=>by
      cases hg'; exact⟨hlk,fun o' ho'=>(hro o' ho').1⟩)
     exact⟨dl,k1,by simpa using k2,k3⟩) h
    have:=e4 rest
    rw[<-e1] at this
    exact this.trans (pJ q rest _ e2)
end
section
open Go.RowKit
variable {H H':ar} {g g':Gh} {w0 w w':World} {cx:Cx} {s:St} {a:Act} {F:Fence} {n:Nat} {N lo:Nat} {mb:Mb} {H0:ar} {gs:Gh} {ws:World} {Bs:ar->Gh->World->Prop} {f:Nat} {ops:Array Oper}
theorem kO {o:Oper} (h:tc o=true):o.guard=none:=by
 unfold tc at h; split at h
 ·assumption
 ·cases h
theorem wG {call:aU} {k:List (Nat×A)->St->Option R} {r:R}:∀ (L:List Nat) (seen:List (Nat×A)) (s:St),Lz cx call f ops L seen s k=some r ->
  ∃ (S:Nat->St) (x:Nat->A) (seen1:List (Nat×A)),S 0=s/\k seen1 (S L.length)=some r/\(∀ p∈seen,p∈seen1) ∧
   ∀ (p i:Nat),L[p]? = some i->∃ o,ops[i]? = some o/\o.guard=none/\(bC o=0∨(bC o=1/\(i,addrOf cx (S p) o.op)∈seen1)∨(bC o=2/\oX (partsOf cx (S p) o.op)=true))/\gC cx call f o (S p)=some (x p)/\S (p+1)=(S p).put o.dst (x p)
 | [],seen,s,h=>⟨fun _=>s,fun _=>.any,seen,rfl,h,fun _ h=>h,fun p i hp=>by simp at hp⟩
 | i :: L,seen,s,h=>by
  unfold Lz at h
  split at h
  ·cases h
  ·rename_i o ho
   obtain ⟨hc,h⟩:=bc h
   obtain ⟨hfl,h⟩:=bc h
   rw[PV,Sz,TK,TK] at hc
   rw[qy] at h
   obtain ⟨x0,h1,h⟩:=bn h
   obtain ⟨S,x,seen1,e1,e2,e3,e4⟩:=wG L _ _ h
   refine⟨fun p=>match p with | 0=>s | p+1=>S p,fun p=>match p with | 0=>x0 | p+1=>x p,seen1,rfl,e2,fun p hp=>e3 p (by
    cases Nat.beq (bC o) 1 with
    | true=>exact Un _ hp
    | false=>exact hp),fun p j hj=>?_⟩
   cases p with
   | zero=>
    simp at hj
    subst hj
    refine⟨o,ho,kO hc.1,?_,h1,e1⟩
    rcases hc.2 with (hk | hk) | hk
    ·exact .inl (beq_spec hk)
    ·exact .inr (.inl ⟨beq_spec hk,e3 _ (by rw[hk]; exact UH ..)⟩)
    ·exact .inr (.inr ⟨beq_spec hk,by rw[hk] at hfl; exact hfl⟩)
   | succ p=>exact e4 p j (by simpa using hj)
def tv (cx:Cx) (call:aU) (f lo:Nat) (ops:Array Oper) (c q:Nat) (seen:List (Nat×A)) (i:Nat) (s:St) (x:A) (s':St):Prop:=
 ∃ o H',ops[i]? = some o/\s'=({ s with H:=H' }:St).put o.dst x ∧
  ((i≠c/\o.guard=none/\((dp o=true/\jP ops i (cU cx s o.op) seen=true)∨vk o.op=false)/\bw cx f lo o s (fun a H=>some (a,H))=some (x,H')) ∨
   (i=c/\uq ops c (Ec cx o) seen=true/\call q (er cx s o.op) s.H (DS cx o lo s.H)=some (.ret x,H')))
theorem wL {call:aU} {c q:Nat} {kp:A->ar->Option R} {k:St->Option R} {r:R} {seen:List (Nat×A)} (hq:∀ o,ops[c]? = some o->∀ (s:St) (lo':Nat) (k:A->ar->Option R) (kp:A->ar->Option R),dn cx call (iB cx s o.op) (er cx s o.op) s.H lo' k kp=(call q (er cx s o.op) s.H lo').bind fun r=>dj r.1 (fun a=>k a r.2) (fun a=>kp a r.2)) :
  ∀ (L:List Nat) (s:St),Ix cx call f lo ops c kp L seen s k=some r ->
  ∃ (S:Nat->St) (x:Nat->A) (P:Nat),S 0=s/\P<=L.length/\(∀ p i,p<P->L[p]? = some i->tv cx call f lo ops c q seen i (S p) (x p) (S (p+1))) ∧
   ((P=L.length/\k (S P)=some r)∨(∃ o y H2,L[P]? = some c/\ops[c]? = some o/\call q (er cx (S P) o.op) (S P).H (DS cx o lo (S P).H)=some (.pan y,H2)/\kp y H2=some r))
 | [],s,h=>⟨fun _=>s,fun _=>.any,0,rfl,Sy _,fun p i hp _=>absurd hp (Tv _),.inl ⟨rfl,h⟩⟩
 | i :: L,s,h=>by
  unfold Ix at h
  split at h
  ·cases h
  rename_i o ho
  have go:∀ (x0:A) (H':ar),tv cx call f lo ops c q seen i s x0 (({ s with H:=H' }:St).put o.dst x0)->Ix cx call f lo ops c kp L seen (({ s with H:=H' }:St).put o.dst x0) k=some r ->
    ∃ (S:Nat->St) (x:Nat->A) (P:Nat),S 0=s/\P<=(i :: L).length/\(∀ p j,p<P->(i :: L)[p]? = some j->tv cx call f lo ops c q seen j (S p) (x p) (S (p+1))) ∧
     ((P=(i :: L).length/\k (S P)=some r)∨(∃ o y H2,(i :: L)[P]? = some c/\ops[c]? = some o/\call q (er cx (S P) o.op) (S P).H (DS cx o lo (S P).H)=some (.pan y,H2)/\kp y H2=some r)):=fun x0 H' hst h=>by
   obtain ⟨S,x,P,e1,e2,e3,e4⟩:=wL hq L _ h
   refine⟨fun p=>match p with | 0=>s | p+1=>S p,fun p=>match p with | 0=>x0 | p+1=>x p,P+1,rfl,Nat.succ_le_succ e2,fun p j hp hj=>?_,?_⟩
   ·cases p with
    | zero=>
     simp at hj
     subst hj
     show tv cx call f lo ops c q seen i s x0 (S 0)
     rw[e1]; exact hst
    | succ p=>exact e3 p j o3 (by simpa using hj)
   ·rcases e4 with ⟨e4,e5⟩ | ⟨o,y,H2,e4,e5⟩
    ·exact .inl ⟨by rw[e4]; rfl,e5⟩
    ·exact .inr ⟨o,y,H2,by simpa using e4,e5⟩
  cases hic:Nat.beq i c with
  | true=>
   rw[hic] at h
   simp only[SC] at h
   obtain rfl:=SM hic
   obtain ⟨hsn,h⟩:=bc h
   rw[hq o ho] at h
   obtain ⟨⟨out,H2⟩,hcl,h⟩:=bn h
   cases out with
   | pan y=>exact⟨fun _=>s,fun _=>.any,0,rfl,Tk _,fun p i hp _=>absurd hp (Tv _),.inr ⟨o,y,H2,rfl,ho,hcl,h⟩⟩
   | ret v=>exact go v H2 ⟨o,H2,ho,rfl,.inr ⟨rfl,hsn,hcl⟩⟩ h
  | false=>
   rw[hic] at h
   simp only[SA] at h
   obtain ⟨hc,h⟩:=bc h
   obtain ⟨hs,h⟩:=bc h
   rw[PX,Sz,Sz,TK,Tn] at hc
   rw[g7] at h
   obtain ⟨⟨x0,H'⟩,h1,h⟩:=bn h
   refine go x0 H' ⟨o,H',ho,rfl,.inl ⟨fun e=>by subst e; simp at hic,kO hc.1.1,?_,h1⟩⟩ h
   rcases hc.1.2 with hk | hk
   ·exact .inl ⟨hk,by rw[hk] at hs; exact hs⟩
   ·exact .inr hk
theorem yQ {call:aU} (hcall:dz cx Bs call) (hb0:Bs H0 gs ws) (horc:jr cx) (hF:fP F) (hmx:cx.P.follows .mixedOrders=true) {k:E->St->Option R} {r:R} {Q:Exit->Act->World->Prop} {m:Nat} (lj:te ops N=true) (chkt:eV ops m=true)
  (hg:Good cx N mb lo H0 gs ws w0 s g a w) (hd:∀ o∈ops.toList,∀ d,o.dst=some d->d<N)
  (O:List Nat) (M P pc:Nat) (S:Nat->St) (x:Nat->A) (hM:M<=P) (hpc:M<=pc) (hP:P<=O.length) (hO:∀ i:Nat,i<m->∃ p:Nat,O[p]? = some i) (hOs:∀ p i:Nat,O[p]? = some i->i<m) (hnd:∀ p q i:Nat,O[p]? = some i->O[q]? = some i->p=q)
  (hdep:∀ p q i j:Nat,O[p]? = some i->O[q]? = some j->ff ops i j=true->q<p) (hE:∀ p q i j:Nat,M<=q->q<p->O[p]? = some i->O[q]? = some j->ff ops i j=true)
  (h0:S 0=s) (hH:∀ p,p<=M->(S p).H=s.H) (hgd:∀ (p i:Nat) (o:Oper),O[p]? = some i->ops[i]? = some o->o.guard=none)
  (hlk:∀ (p i:Nat) (o:Oper),p<P->O[p]? = some i->ops[i]? = some o->∀ t,look (S (p+1)).fr t=if o.dst=some t then x p else look (S p).fr t)
  (Z:Prop) (hlen:∀ p,M<=p->p<P->(pc<=p->Z)->(S p).H.length<=(S (p+1)).H.length)
  (hpure:∀ (p i:Nat) (o:Oper),p<M->O[p]? = some i->ops[i]? = some o->∀ e,M+e<=P->(pc<M+e->Z)->(∀ q j:Nat,M<=q->q<M+e->O[q]? = some j->fk ops i j)->gC cx call f o ⟨(S p).fr,(S (M+e)).H⟩=some (x p))
  (heff:∀ (p i:Nat) (o:Oper),M<=p->p<P->O[p]? = some i->ops[i]? = some o->∀ (g':Gh) (W:World) (ev:Operand->Value),sO cx (S p) g' w0 o.op ev W->(∀ (G:Nat) (vs:List Value),cx.glob G=some vs->bt (S p).H g' W G 0 vs)->Bs (S p).H g' W ->
   D4 F n cx.P o ev W (fun v w'=>∃ g2,Rel (S (p+1)).H g2 w0 w'/\Ext (S p).H g' W (S (p+1)).H g2 w'/\(∀ b,b<lo->b<(S p).H.length->(S (p+1)).H[b]? = (S p).H[b]?)/\g2.S=g'.S/\VR (S (p+1)).H g2 w' (x p) v/\(p=pc->Z)) (fun _ _=>False))
  (hpan:∀ (i:Nat) (o:Oper),O[P]? = some i->ops[i]? = some o->∃ (H2:ar) (y:A),k (.pan y) ⟨[],H2⟩=some r/\∀ (g':Gh) (W:World) (ev:Operand->Value),sO cx (S P) g' w0 o.op ev W->(∀ (G:Nat) (vs:List Value),cx.glob G=some vs->bt (S P).H g' W G 0 vs)->Bs (S P).H g' W ->
   D4 F n cx.P o ev W (fun _ _=>False) (fun ch w'=>∃ c g2,ch=[{ v:=c,recovered:=false }]/\Rel H2 g2 w0 w'/\Ext (S P).H g' W H2 g2 w'/\(S P).H.length<=H2.length/\(∀ b,b<lo->b<(S P).H.length->H2[b]? = (S P).H[b]?)/\g2.S=g'.S/\VR H2 g2 w' y c))
  (hend:P=O.length->fp cx call f lo ops (ops.toList.drop m) (S P) k=some r)
  (hk:∀ s' g' a' w',Good cx N mb lo H0 gs ws w0 s' g' a' w'->k .normal s'=some r->Q .normal a' w')
  (hp:∀ x s' g' a' w' c,Good cx N mb lo H0 gs ws w0 s' g' a' w'->VR s'.H g' w' x c->k (.pan x) s'=some r->Q (.panic [{ v:=c,recovered:=false }]) a' w'):LW F n cx.P ops Q a w:=by
 have hr:=hg.sr.rel
 have hm2:m<=ops.size:=by
  simp only[eV,Sz,SG] at chkt
  exact chkt.1.1
 have hdst:∀ {i o},ops[i]? = some o->bV ops i=o.dst:=fun {i o} ho=>by unfold bV; rw[ho]; rfl
 have hop:∀ {p i:Nat},O[p]? = some i->∃ o,ops[i]? = some o:=fun {p i} h=>⟨_,Tl (SQ (hOs _ _ h) hm2)⟩
 have hdlt:∀ {i t},bV ops i=some t->∃ o,ops[i]? = some o/\o.dst=some t:=fun {i t} h=>by
  unfold bV at h
  cases ho:ops[i]? with
  | none=>rw[ho] at h; cases h
  | some o=>rw[ho] at h; exact⟨o,rfl,h⟩
 have hat:∀ p:Nat,p<O.length->∃ (i:Nat) (o:Oper),O[p]? = some i/\ops[i]? = some o:=fun p h=>by
  have h1:=Sx h
  obtain ⟨o,ho⟩:=hop h1
  exact⟨_,o,h1,ho⟩
 have lookA:∀ t q j:Nat,O[q]? = some j->bV ops j=some t->∀ p,q<p->p<=P->look (S p).fr t=x q:=by
  intro t q j hq hj p
  obtain ⟨oj,hoj,hdj⟩:=hdlt hj
  induction p with
  | zero=>intro h; omega
  | succ p ih=>
   intro h1 h2
   by_cases e:q=p
   ·subst e; rw[hlk q j oj o3 hq hoj,SH hdj]
   ·obtain ⟨i,o,hi,ho⟩:=hat p o3
    obtain ⟨c4,_⟩:=lI lj ho
    rw[hlk p i o o3 hi ho,SI fun hdo=>c4 j t (fun e2=>e (hnd q p j hq (e2 ▸ hi))) hdo hj]
    exact ih o3 o3
 have lookB:∀ t p:Nat,p<=P->(∀ q j:Nat,q<p->O[q]? = some j->bV ops j≠some t)->look (S p).fr t=look s.fr t:=by
  intro t p
  induction p with
  | zero=>intro _ _; rw[h0]
  | succ p ih=>
   intro h1 h2
   obtain ⟨i,o,hi,ho⟩:=hat p o3
   rw[hlk p i o o3 hi ho,SI fun hdo=>h2 p i o3 hi (by rw[hdst ho]; exact hdo)]
   exact ih o3 fun q j hq hj=>h2 q j o3 hj
 have lenM:∀ e,M+e<=P->(pc<M+e->Z)->s.H.length<=(S (M+e)).H.length:=by
  intro e
  induction e with
  | zero=>intro _ _; rw[Ub,hH M (Sy _)]; exact Sy _
  | succ e ih=>intro h hz; exact SZ (ih o3 (fun h=>hz o3)) (hlen (M+e) o3 o3 (fun h=>hz o3))
 refine sn (F:=F) ⟨hF.1,hF.2.1⟩ hmx N m hg.siz lj chkt (fun D a' W=>∃ (e:Nat) (g':Gh),M+e<=P/\(pc<M+e->Z)/\(∀ q j:Nat,M<=q->O[q]? = some j->(D j↔q<M+e))/\Rel (S (M+e)).H g' w0 W/\Ext s.H g w (S (M+e)).H g' W/\(∀ b,b<lo->b<s.H.length->(S (M+e)).H[b]? = s.H[b]?)/\g'.S=g.S ∧
   (∀ q j t:Nat,O[q]? = some j->bV ops j=some t->D j->VR (S (M+e)).H g' W (x q) (slot a' t))/\(∀ t,(∀ j,j<m->bV ops j=some t->¬ D j)->VR (S (M+e)).H g' W (look s.fr t) (slot a' t))) ?_ ?_ ?_
 ·intro D hD
  have hb:=Ext.below hr (Below.refl w.heap.size w).drew
  refine⟨0,g,hM,fun h=>o3,fun q j hq _=>⟨fun h=>absurd h (hD j),fun h=>o3⟩,?_,?_,fun b _ _=>?_,rfl,fun q j t _ _ h=>absurd h (hD j),fun t _=>?_⟩
  ·rw[Ub,hH M (Sy _)]; exact hr.dY (Below.refl _ _).drew
  ·rw[Ub,hH M (Sy _)]; exact hb
  ·rw[Ub,hH M (Sy _)]
  ·rw[Ub,hH M (Sy _)]; exact VR.ext hb _ _ (hg.sr.fr t)
 ·rintro D D' i o him ho hDm hDi hbef hcl hD' a' W ⟨e,g',heP,heZ,hDe,hrW,heW,hlow,hgS,hv1,hv2⟩ hsz hdf
  obtain ⟨p,hpi⟩:=hO i him
  have hpl:p<O.length:=(SB.1 hpi).1
  obtain ⟨c4,c5⟩:=lI lj ho
  rw[SH (by simp[Region.wanted,hgd p i o hpi ho])]
  have hbs:Bs (S (M+e)).H g' W:=hcall.up _ _ _ _ _ _ hb0 (hg.ext.trans heW)
  have hgl:∀ (G:Nat) (vs:List Value),cx.glob G=some vs->bt (S (M+e)).H g' W G 0 vs:=fun G vs hG=>(hg.sr.gl G vs hG).ext heW
  have hlook:p<=P->∀ t∈o.looksAt ops,VR (S (M+e)).H g' W (look (S p).fr t) (a'.tmps.getD t undef):=fun hpP t ht=>by
   by_cases hj:∃ j,bV ops j=some t/\ff ops i j=true
   ·obtain ⟨j,hjt,hjb⟩:=hj
    obtain ⟨oj,hoj,_⟩:=hdlt hjt
    obtain ⟨q,hq⟩:=hO j (Nat.lt_trans (mS lj (fF i j hjb)) him)
    have hqp:=hdep p q i j hpi hq hjb
    rw[lookA t q j hq hjt p hqp hpP]
    exact hv1 q j t hq hjt (hbef j hjb)
   ·have hno:∀ j,bV ops j=some t->ff ops i j=false:=fun j hjt=>by
     cases hb:ff ops i j with
     | false=>rfl
     | true=>exact absurd ⟨j,hjt,hb⟩ hj
    rw[lookB t p hpP fun q j hq hqj hjt=>by
     rcases c5 j t hjt ht with h | h | h
     ·subst h; have:=hnd p q i hpi hqj; omega
     ·rw[hno j hjt] at h; cases h
     ·have:=hdep q p j i hqj hpi h; omega]
    exact hv2 t fun j _ hjt hDj=>by
     rcases c5 j t hjt ht with h | h | h
     ·subst h; exact hDi hDj
     ·rw[hno j hjt] at h; cases h
     ·exact hDi (hcl j i hDj h)
  have hopr:p<=P->sO cx ⟨(S p).fr,(S (M+e)).H⟩ g' w0 o.op a'.eval W:=fun hpP=>⟨hrW,fun y hy=>od (fun t ht=>by
    refine hlook hpP t ?_
    subst ht
    unfold Oper.looksAt
    exact TP.2 (.inl (VL.2 ⟨.tmp t,hy,rfl⟩))) hgl,fun _=>rfl⟩
  have fin:p<P->∀ (e':Nat) (g2:Gh) (W':World) (v:Value),M+e'<=P->(pc<M+e'->Z)->(∀ q j:Nat,M<=q->O[q]? = some j->(D' j↔q<M+e'))->Rel (S (M+e')).H g2 w0 W'->Ext (S (M+e)).H g' W (S (M+e')).H g2 W'->(∀ b,b<lo->b<s.H.length->(S (M+e')).H[b]? = s.H[b]?)->g2.S=g.S->VR (S (M+e')).H g2 W' (x p) v ->
    ∃ (e:Nat) (g':Gh),M+e<=P/\(pc<M+e->Z)/\(∀ q j:Nat,M<=q->O[q]? = some j->(D' j↔q<M+e))/\Rel (S (M+e)).H g' w0 W'/\Ext s.H g w (S (M+e)).H g' W'/\(∀ b,b<lo->b<s.H.length->(S (M+e)).H[b]? = s.H[b]?)/\g'.S=g.S ∧
     (∀ q j t:Nat,O[q]? = some j->bV ops j=some t->D' j->VR (S (M+e)).H g' W' (x q) (slot (a'.put o.dst v) t))/\(∀ t,(∀ j,j<m->bV ops j=some t->¬ D' j)->VR (S (M+e)).H g' W' (look s.fr t) (slot (a'.put o.dst v) t)):=by
   intro hpP e' g2 W' v h1 hz' h2 h3 h4 h5 h6 h7
   refine⟨e',g2,h1,hz',h2,h3,heW.trans h4,h5,h6,fun q j t hq hjt hDj=>?_,fun t ht=>?_⟩
   ·rcases (hD' j).1 hDj with rfl | hDj
    ·have hdt:o.dst=some t:=by rw[<-hdst ho]; exact hjt
     rw[hdt,eS (by rw[hsz]; exact hd o (by rw[<-Array.mem_def]; exact Wh ho) t hdt),hnd q p j hq hpi]
     exact h7
    ·have hne:j≠i:=fun e=>hDi (e ▸ hDj)
     rw[di (fun hdt=>c4 j t (TF hne) hdt hjt)]
     exact VR.ext h4 _ _ (hv1 q j t hq hjt hDj)
   ·rw[di (fun hdt=>ht i him (by rw[hdst ho]; exact hdt) ((hD' i).2 (.inl rfl)))]
    exact VR.ext h4 _ _ (hv2 t (fun j hjm hjt hDj=>ht j hjm hjt ((hD' j).2 (.inr hDj))))
  by_cases hpM:p<M
  ·
   have hun:∀ q j:Nat,M<=q->q<M+e->O[q]? = some j->fk ops i j:=fun q j hq1 hq2 hq=>by
    unfold fk
    rw[TE]
    constructor
    ·cases hb:ff ops i j with
     | false=>rfl
     | true=>have:=hdep p q i j hpi hq hb; omega
    ·cases hb:ff ops j i with
     | false=>rfl
     | true=>exact absurd (hcl j i ((hDe q j hq1 hq).2 hq2) hb) hDi
   have hev:=hpure p i o hpM hpi ho e heP heZ hun
   refine .inl ((mB hcall horc hev F n g' w0 W a'.eval hF (hopr o3) hgl hbs).mono ?_)
   rintro v w' ⟨k1,k2,k3⟩
   refine fin o3 e g' w' v heP heZ (fun q j hq1 hq=>⟨fun h=>?_,fun h=>(hD' j).2 (.inr ((hDe q j hq1 hq).2 h))⟩) k2 k3 hlow hgS k1
   rcases (hD' j).1 h with rfl | h
   ·have:=hnd p q j hpi hq; omega
   ·exact(hDe q j hq1 hq).1 h
  ·
   have hpe:p=M+e:=by
    have h1:¬ p<M+e:=fun h=>hDi ((hDe p i o3 hpi).2 h)
    refine Vw (Uu fun h2=>?_) o3
    obtain ⟨j,oj,hj,_⟩:=hat (M+e) o3
    have:=(hDe (M+e) j o3 hj).1 (hbef j (hE p (M+e) i j o3 h2 hpi hj))
    omega
   subst hpe
   by_cases hpP:M+e<P
   ·refine(heff (M+e) i o o3 hpP hpi ho g' W a'.eval (hopr o3) hgl hbs).elim (fun h=>.inl (h.mono ?_)) fun ⟨f',args,w',h1,h2⟩=>.inr ⟨f',args,w',h1,h2.mono fun e' w'' h=>?_⟩
    ·rintro v w' ⟨g2,k1,k2,k3,k4,k5,k6⟩
     refine fin hpP (e+1) g2 w' v o3 (fun _=>if he0:pc<M+e then heZ he0 else k6 o3) (fun q j hq1 hq=>⟨fun h=>?_,fun h=>?_⟩) k1 k2 (fun b hb hb'=>?_) (k4.trans hgS) k5
     ·rcases (hD' j).1 h with rfl | h
      ·have:=hnd (M+e) q j hpi hq; omega
      ·have:=(hDe q j hq1 hq).1 h; omega
     ·refine(hD' j).2 ?_
      by_cases hq2:q=M+e
      ·subst hq2; rw[hq] at hpi; exact .inl (by cases hpi; rfl)
      ·exact .inr ((hDe q j hq1 hq).2 o3)
     ·rw[show M+(e+1)=M+e+1 from rfl,k3 b hb (SQ hb' (lenM e heP heZ))]; exact hlow b hb hb'
    ·cases e' with
     | returned v=>
      obtain ⟨g2,k1,k2,k3,k4,k5,k6⟩:=h
      refine fin hpP (e+1) g2 w'' v o3 (fun _=>if he0:pc<M+e then heZ he0 else k6 o3) (fun q j hq1 hq=>⟨fun h=>?_,fun h=>?_⟩) k1 k2 (fun b hb hb'=>?_) (k4.trans hgS) k5
      ·rcases (hD' j).1 h with rfl | h
       ·have:=hnd (M+e) q j hpi hq; omega
       ·have:=(hDe q j hq1 hq).1 h; omega
      ·refine(hD' j).2 ?_
       by_cases hq2:q=M+e
       ·subst hq2; rw[hq] at hpi; exact .inl (by cases hpi; rfl)
       ·exact .inr ((hDe q j hq1 hq).2 o3)
      ·rw[show M+(e+1)=M+e+1 from rfl,k3 b hb (SQ hb' (lenM e heP heZ))]; exact hlow b hb hb'
     | panicked ch=>exact h.elim
     | outgrown=>exact h.elim
   ·obtain rfl:P=M+e:=by omega
    obtain ⟨H2,y,hky,hst⟩:=hpan i o hpi ho
    have pan:∀ (ch:List PanicEntry) (w':World),(∃ c g2,ch=[{ v:=c,recovered:=false }]/\Rel H2 g2 w0 w'/\Ext (S (M+e)).H g' W H2 g2 w'/\(S (M+e)).H.length<=H2.length/\(∀ b,b<lo->b<(S (M+e)).H.length->H2[b]? = (S (M+e)).H[b]?)/\g2.S=g'.S/\VR H2 g2 w' y c)->Q (.panic ch) a' w':=by
     rintro ch w' ⟨c,g2,rfl,k1,k2,k3,k4,k5,k6⟩
     have hx:=heW.trans k2
     refine hp y ⟨[],H2⟩ g2 a' w' c ⟨⟨k1,fun t=>by rw[show look [] t=.any from rfl,VR]; trivial,fun G vs hG=>(hg.sr.gl G vs hG).ext hx⟩,hg.ext.trans hx,SZ hg.len (SZ (lenM e heP heZ) k3),fun b hb hb'=>?_,hsz,?_,SZ hg.mbw hx.size,k5.trans (hgS.trans hg.st)⟩ k6 hky
     ·have hb2:b<s.H.length:=SQ hb' hg.len
      show H2[b]? = _
      rw[k4 b hb (SQ hb2 (lenM e heP heZ)),hlow b hb hb2]
      exact hg.low b hb hb'
     ·rw[hdf]; exact hg.dfr.lC hx.kept
    refine(hst g' W a'.eval (hopr (Sy _)) hgl hbs).elim (fun h=>.inl (h.mono fun _ _ h=>h.elim)) fun ⟨f',args,w',h1,h2⟩=>.inr ⟨f',args,w',h1,h2.mono fun e' w'' h=>?_⟩
    cases e' with
    | returned v=>exact h.elim
    | panicked ch=>exact pan ch w'' h
    | outgrown=>exact h.elim
 ·rintro D a' W hall hDm ⟨e,g',heP,heZ,hDe,hrW,heW,hlow,hgS,hv1,hv2⟩ hdf hsz
  have hdone:M+e=O.length:=by
   refine Vw o3 (Uu fun hlt=>?_)
   obtain ⟨j,oj,hj,_⟩:=hat (M+e) hlt
   have:=(hDe (M+e) j o3 hj).1 (hall j (hOs _ _ hj))
   omega
  obtain rfl:P=M+e:=o3
  refine fq (f:=f) (ops:=ops) hcall hb0 horc hF hk hp _ (S (M+e)) g' a' W (fun o ho=>hd o (S4 ho)) ⟨⟨hrW,fun t=>?_,fun G vs hG=>(hg.sr.gl G vs hG).ext heW⟩,hg.ext.trans heW,SZ hg.len (lenM e heP heZ),fun b hb hb'=>?_,hsz,by rw[hdf]; exact hg.dfr.lC heW.kept,SZ hg.mbw heW.size,hgS.trans hg.st⟩ (hend hdone)
  ·by_cases ht:∃ q j:Nat,O[q]? = some j/\bV ops j=some t
   ·obtain ⟨q,j,hq,hjt⟩:=ht
    rw[lookA t q j hq hjt (M+e) (by have:=(SB.1 hq).1; omega) (Sy _)]
    exact hv1 q j t hq hjt (hall j (hOs q j hq))
   ·rw[lookB t (M+e) (Sy _) fun q j _ hq hjt=>ht ⟨q,j,hq,hjt⟩]
    exact hv2 t fun j hj hjt=>absurd (let ⟨q,hq⟩:=hO j hj; ⟨q,j,hq,hjt⟩) ht
  ·have hb2:b<s.H.length:=SQ hb' hg.len
   rw[hlow b hb hb2]; exact hg.low b hb hb'
theorem w8 {o:Oper} (h:vp cx o=true):∃ c q,o.op=.call c/\c.callee=.value (.func q)/\cp cx.P q=true/\cx.isOrc q=false/\(cx.cut q≠0∨cx.fre q=true)/\Ec cx o=cx.cut q/\(∀ lo H,DS cx o lo H=bif cx.fre q then H.length else lo):=by
 unfold vp at h
 split at h
 ·rename_i c ho
  split at h
  ·rename_i q hq
   simp only[Sz,Tn,TK] at h
   refine⟨c,q,ho,hq,h.1.1,h.1.2,h.2.imp (fun h e=>by rw[e] at h; cases h) id,by unfold Ec; rw[ho]; simp only[hq],fun lo H=>by unfold DS; rw[ho]; simp only[hq]⟩
  ·cases h
 ·cases h
theorem p7:∀ {L ps:List Nat},uT ops ps L=true->(∀ k∈ps,∀ i∈L,ff ops i k=true)/\L.Pairwise fun k i=>ff ops i k=true
 | [],ps,_=>⟨fun _ _ _ h=>(by cases h),.nil⟩
 | t :: L,ps,h=>by
  unfold uT at h
  have h1:ps.all (fun p=>ff ops t p)=true:=by cases hh:ps.all (fun p=>ff ops t p)<;>simp_all
  rw[h1] at h
  obtain ⟨h2,h3⟩:=p7 (L:=L) (ps:=t :: ps) h
  refine⟨fun k hk i hi=>?_,.cons (fun i hi=>h2 t r8 i hi) h3⟩
  rcases Ti.1 hi with rfl | hi
  ·exact SJ.1 h1 k hk
  ·exact h2 k (by simp[hk]) i hi
theorem qp (p:Nat->Bool) (n:Nat):((List.range n).filter p).Pairwise (· < ·):=List.Pairwise.filter _ List.pairwise_lt_range
theorem vF {α:Type} {R:α->α->Prop} {L:List α} (h:L.Pairwise R) {p q:Nat} {x y:α} (hp:L[p]? = some x) (hq:L[q]? = some y) (hpq:p<q):R x y:=by
 obtain ⟨h1,rfl⟩:=SB.1 hp
 obtain ⟨h2,rfl⟩:=SB.1 hq
 exact VU.1 h p q h1 h2 hpq
theorem om {c m:Nat}:∀ {l:List (Nat×A)},uq ops c m l=true->∀ p∈l,ff ops c p.1=false->∀ b,blk? p.2=some b->m<=b
 | [],_,p,hp,_,_,_=>by cases hp
 | q :: l,h,p,hp,hb,b,hbl=>by
  unfold uq at h
  cases hq:ff ops c q.1 with
  | true=>
   rw[hq] at h
   rcases Ti.1 hp with rfl | hp
   ·rw[hq] at hb; cases hb
   ·exact om h p hp hb b hbl
  | false=>
   rw[hq] at h
   simp only[SA] at h
   cases hm:gY m q.2 with
   | false=>rw[hm] at h; cases h
   | true=>
    rw[hm] at h
    rcases Ti.1 hp with rfl | hp
    ·unfold gY at hm
     rw[hbl] at hm
     exact S9 hm
    ·exact om h p hp hb b hbl
theorem wK {call:aU} (hcall:dz cx Bs call) (hb0:Bs H0 gs ws) (horc:jr cx) (hF:fP F) (hmx:cx.P.follows .mixedOrders=true) {c:Nat} {k:E->St->Option R} {r:R} {Q:Exit->Act->World->Prop}
  (hg:Good cx N mb lo H0 gs ws w0 s g a w) (hd:∀ o∈ops.toList,∀ d,o.dst=some d->d<N) (h:zF cx call f lo N ops c s k=some r)
  (hk:∀ s' g' a' w',Good cx N mb lo H0 gs ws w0 s' g' a' w'->k .normal s'=some r->Q .normal a' w')
  (hp:∀ x s' g' a' w' c,Good cx N mb lo H0 gs ws w0 s' g' a' w'->VR s'.H g' w' x c->k (.pan x) s'=some r->Q (.panic [{ v:=c,recovered:=false }]) a' w'):LW F n cx.P ops Q a w:=by
 unfold zF at h
 split at h
 ·cases h
 rename_i oc hoc
 obtain ⟨m,hm0,h⟩:=bn h
 have hmt:eV ops m=true:=by
  unfold pV at hm0
  exact List.find?_some hm0
 have hm2:m<=ops.size:=by
  simp only[eV,Sz,SG] at hmt
  exact hmt.1.1
 obtain ⟨hchk,h⟩:=bc h
 simp only[GL,Sz] at hchk
 obtain ⟨⟨⟨⟨⟨hcg,hcut⟩,lj⟩,hch⟩,hcl⟩,hTm⟩:=hchk
 obtain ⟨SL,xL,seen,hS0,h,_,hL⟩:=wG _ _ _ h
 obtain ⟨cc,q,hop,hcal,hcb,hno,hc0,hcm,hloC⟩:=w8 hcut
 let L1:=Ad ops c m
 let T:=pF ops c m
 let M:=L1.length
 have hlt:∀ {i j},ff ops i j=true->j<i:=fun {i j} hb=>mS lj (fF i j hb)
 have memL:∀ {i},i∈L1↔i<m/\i ∉ T:=fun {i}=>by
  simp only[L1,Ad,Vv,S6,SJ,Tn]
  refine and_congr_right fun _=>⟨fun h hi=>?_,fun h j hj=>?_⟩
  ·have:=h i hi; simp at this
  ·cases hb:Nat.beq i j with
   | false=>rfl
   | true=>exact absurd (SM hb ▸ hj) h
 have hTm:∀ i∈T,i<m:=fun i hi=>S9 (SJ.1 hTm i hi)
 have hcl:∀ i∈L1,∀ j∈T,ff ops i j=false:=fun i hi j hj=>by
  have:=SJ.1 (SJ.1 hcl i hi) j hj
  simpa using this
 have hcT:c∈T:=by
  show c∈Km ops c m++c :: _
  simp
 have pwL:L1.Pairwise (· < ·):=qp _ _
 have hch2:=(p7 hch).2
 have pwT:T.Pairwise (· < ·):=hch2.imp fun h=>hlt h
 obtain ⟨pt,hpt,hpt2⟩:=Tu hcT
 have hptc:T[pt]? = some c:=by rw[Sx hpt,hpt2]
 let O:=L1++T
 have oL:∀ {p:Nat},p<M->O[p]? = L1[p]?:=fun {p} hp=>SP hp
 have oT:∀ {p:Nat},M<=p->O[p]? = T[p - M]?:=fun {p} hp=>S3 hp
 have hOl:O.length=M+T.length:=SX
 have kinds:∀ {p i:Nat},O[p]? = some i->(p<M/\L1[p]? = some i/\i<m/\i ∉ T)∨(M<=p/\T[p - M]? = some i/\i∈T):=fun {p i} hp=>by
  rcases V1 p M with h1 | h1
  ·rw[oL h1] at hp
   exact .inl ⟨h1,hp,memL.1 (S1 hp)⟩
  ·rw[oT h1] at hp
   exact .inr ⟨h1,hp,S1 hp⟩
 have hO:∀ i:Nat,i<m->∃ p:Nat,O[p]? = some i:=fun i hi=>by
  have:i∈O:=by
   show i∈L1++T
   rw[TP]
   by_cases e:i∈T
   ·exact .inr e
   ·exact .inl (memL.2 ⟨hi,e⟩)
  obtain ⟨p,hp,he⟩:=Tu this
  exact⟨p,by rw[Sx hp,he]⟩
 have hOs:∀ p i:Nat,O[p]? = some i->i<m:=fun p i hp=>by
  rcases kinds hp with ⟨_,_,h,_⟩ | ⟨_,_,h⟩
  ·exact h
  ·exact hTm i h
 have pos:∀ {L:List Nat} {p q i j:Nat},L.Pairwise (· < ·)->L[p]? = some i->L[q]? = some j->j<i->q<p:=fun {L p q i j} pw hp hq hji=>by
  refine TV fun hle=>?_
  rcases Nat.lt_or_eq_of_le hle with h | h
  ·have:=vF pw hp hq h; omega
  ·subst h; rw[hp] at hq; cases hq; omega
 have inj:∀ {L:List Nat} {p q i:Nat},L.Pairwise (· < ·)->L[p]? = some i->L[q]? = some i->p=q:=fun {L p q i} pw hp hq=>by
  rcases Nat.lt_trichotomy p q with h | h | h
  ·have:=vF pw hp hq h; omega
  ·exact h
  ·have:=vF pw hq hp h; omega
 have hnd:∀ p q i:Nat,O[p]? = some i->O[q]? = some i->p=q:=fun p q i hp hq=>by
  rcases kinds hp with ⟨a1,a2,_,a3⟩ | ⟨a1,a2,a3⟩<;>rcases kinds hq with ⟨b1,b2,_,b3⟩ | ⟨b1,b2,b3⟩
  ·exact inj pwL a2 b2
  ·exact absurd b3 a3
  ·exact absurd a3 b3
  ·have:=inj pwT a2 b2; omega
 have hdep:∀ p q i j:Nat,O[p]? = some i->O[q]? = some j->ff ops i j=true->q<p:=fun p q i j hp hq hb=>by
  have hji:=hlt hb
  rcases kinds hp with ⟨a1,a2,_,a3⟩ | ⟨a1,a2,a3⟩<;>rcases kinds hq with ⟨b1,b2,_,b3⟩ | ⟨b1,b2,b3⟩
  ·exact pos pwL a2 b2 hji
  ·rw[hcl i (S1 a2) j b3] at hb; cases hb
  ·omega
  ·have:=pos pwT a2 b2 hji; omega
 have hE:∀ p q i j:Nat,M<=q->q<p->O[p]? = some i->O[q]? = some j->ff ops i j=true:=fun p q i j hq0 hqp hp hq=>by
  rw[oT o3] at hp; rw[oT hq0] at hq
  exact vF hch2 hq hp o3
 have gL:∀ {p i:Nat} {o:Oper},L1[p]? = some i->ops[i]? = some o->o.guard=none/\(bC o=0∨(bC o=1/\(i,addrOf cx (SL p) o.op)∈seen)∨(bC o=2/\oX (partsOf cx (SL p) o.op)=true))/\gC cx call f o (SL p)=some (xL p)/\SL (p+1)=(SL p).put o.dst (xL p):=fun {p i o} hp ho=>by
  obtain ⟨o',e1,e2⟩:=hL p i hp
  rw[ho] at e1; cases e1
  exact e2
 have hSH:∀ p,p<=M->(SL p).H=s.H:=fun p=>by
  induction p with
  | zero=>intro _; rw[hS0]
  | succ p ih=>
   intro hp
   obtain ⟨i,hi⟩:∃ i,L1[p]? = some i:=⟨_,Sx (by show p<M; omega)⟩
   obtain ⟨o,ho⟩:∃ o,ops[i]? = some o:=⟨_,Tl (SQ (memL.1 (S1 hi)).1 hm2)⟩
   rw[(gL hi ho).2.2.2,fW]; exact ih o3
 obtain ⟨ST,xT,PT,hT0,hPT,hT,hTe⟩:=wL (q:=q) (fun o ho s lo' k kp=>by
  rw[hoc] at ho; cases ho
  have hfv:iB cx s oc.op=.fn (.func q) [] []:=by unfold iB; rw[hop]; simp only[hcal]; rfl
  rw[hfv]
  simp only[dn,hcb,hno,SC,SA,TN,TG]) _ _ h
 have hPT:PT<=T.length:=hPT
 have hT:∀ p i,p<PT->T[p]? = some i->tv cx call f lo ops c q seen i (ST p) (xT p) (ST (p+1)):=hT
 have hT0:ST 0=SL M:=hT0
 let S:Nat->St:=fun p=>if p<=M then SL p else ST (p - M)
 let x:Nat->A:=fun p=>if p<M then xL p else xT (p - M)
 let pc:=M+pt
 have sL:∀ {p},p<=M->S p=SL p:=fun {p} hp=>SH hp
 have sT:∀ {p},M<=p->S p=ST (p - M):=fun {p} hp=>by
  by_cases h:p<=M
  ·obtain rfl:p=M:=by omega
   rw[sL (Sy _),Nat.sub_self,hT0]
  ·exact SI h
 have xL':∀ {p},p<M->x p=xL p:=fun {p} hp=>SH hp
 have xT':∀ {p},M<=p->x p=xT (p - M):=fun {p} hp=>SI o3
 have tT:∀ {p i:Nat},M<=p->p<M+PT->O[p]? = some i->tv cx call f lo ops c q seen i (S p) (x p) (S (p+1)):=fun {p i} hp hp2 h1=>by
  rw[oT hp] at h1
  have:=hT _ i o3 h1
  rw[sT hp,xT' hp,sT (show M<=p+1 by omega),show p+1 - M=p - M+1 by omega]
  exact this
 have oC:∀ {p:Nat},O[p]? = some c->p=pc:=fun {p} hp=>hnd p pc c hp (by rw[oT (Uv _ _),show M+pt - M=pt by omega]; exact hptc)
 have oC':O[pc]? = some c:=by rw[oT (Uv _ _),show M+pt - M=pt by omega]; exact hptc
 let Z:Prop:=(S pc).H.length<=(S (pc+1)).H.length/\∀ b,b<(S pc).H.length->cx.cut q<=b->(S (pc+1)).H[b]? = (S pc).H[b]?
 have stepB:∀ {p i:Nat},M<=p->p<M+PT->(pc<=p->Z)->O[p]? = some i->(S p).H.length<=(S (p+1)).H.length/\∀ b,b<(S p).H.length->(∀ j a,(j,a)∈seen->blk? a=some b->fk ops j i->False)∨(S (p+1)).H[b]? = (S p).H[b]?:=fun {p i} hp hp2 hz h1=>by
  obtain ⟨o,H',ho,hs',⟨hic,_,e1,e2⟩ | ⟨rfl,hsn,e2⟩⟩:=tT hp hp2 h1
  ·rw[hs',fW]
   rcases e1 with ⟨e1,e4⟩ | e1
   ·obtain ⟨t1,t2⟩:=pG e1 e2
    refine⟨t1,fun b hb=>?_⟩
    by_cases hc:∀ c,blk? (cU cx (S p) o.op)=some c->b≠c
    ·exact .inr (t2 b hb hc)
    ·refine .inl fun j y hj hy hun=>hc fun c hcc e5=>?_
     subst e5
     have:=gN e4 (j,y) hj (by unfold fk at hun ⊢; rw[Bool.or_comm]; exact hun)
     unfold apart at this
     simp only[hy,hcc,Vz] at this
     cases this
   ·obtain ⟨y,hy⟩:=rl e2 e1
    cases hy
    exact⟨Sy _,fun b _=>.inr rfl⟩
  ·obtain rfl:=oC h1
   have hz:=hz (Sy _)
   refine⟨hz.1,fun b hbl=>?_⟩
   by_cases hb:cx.cut q<=b
   ·exact .inr (hz.2 b hbl hb)
   ·rw[hoc] at ho; cases ho
    rw[hcm] at hsn
    refine .inl fun j y hj hy hun=>hb (om hsn (j,y) hj ?_ b hy)
    unfold fk at hun
    rw[TE] at hun
    exact hun.2
 have atO:∀ p,p<O.length->∃ i,O[p]? = some i:=fun p hp=>⟨_,Sx hp⟩
 have lenE:∀ e,M+e<=M+PT->(pc<M+e->Z)->s.H.length<=(S (M+e)).H.length:=by
  intro e
  induction e with
  | zero=>intro _ _; rw[Ub,sL (Sy _),hSH M (Sy _)]; exact Sy _
  | succ e ih=>
   intro he hz
   obtain ⟨i,hi⟩:=atO (M+e) o3
   exact SZ (ih o3 fun h=>hz o3) (stepB o3 o3 (fun h=>hz o3) hi).1
 have post:∀ (st:St) (out:Out) (H2:ar),call q (er cx st oc.op) st.H (DS cx oc lo st.H)=some (out,H2)->∀ (g':Gh) (W:World) (ev:Operand->Value),sO cx st g' w0 oc.op ev W->(∀ (G:Nat) (vs:List Value),cx.glob G=some vs->bt st.H g' W G 0 vs)->Bs st.H g' W->∃ args w',(execOp ev oc).run cx.P W=.ok (.enter q args) w'/\CallsIn F (n - 1) cx.P q args w' (fN st.H g' w0 W (DS cx oc lo st.H) (out,H2)):=fun st out H2 hcl2 g' W ev ho hgl hbs=>by
  have hce:callee? cx st oc.op=some (q,er cx st oc.op):=by
   unfold callee? er
   rw[hop]
   simp only[hcal,bM,hcb,SC,TN,TG]
  obtain ⟨_,cargs,hrun,hv⟩:=jH ho hce
  have hci:CallsIn F.plain (n - 1) cx.P q cargs.toArray W _:=hcall.fn q _ st.H (DS cx oc lo st.H) (out,H2) (iw hcb) hcl2 F.plain (n - 1) g' w0 W cargs hF rfl hbs ho.rel hgl hv
  exact⟨_,_,hrun,hci⟩
 have hlo':∀ (st:St) b,b<lo->b<st.H.length->b<DS cx oc lo st.H:=fun st b h1 h2=>by
  rw[hloC]
  cases cx.fre q with
  | true=>exact h2
  | false=>exact h1
 have hgL:∀ {p i:Nat} {o:Oper},p<M->O[p]? = some i->ops[i]? = some o->L1[p]? = some i:=fun {p i o} hp h1 _=>by rw[<-oL hp]; exact h1
 have hgd:∀ (p i:Nat) (o:Oper),O[p]? = some i->ops[i]? = some o->o.guard=none:=fun p i o hpi ho=>kO (SJ.1 hcg o (S1 (i:=i) (by rw[SS,SH (hOs p i hpi),Tc]; exact ho)))
 refine yQ (f:=f) hcall hb0 horc hF hmx lj hmt hg hd O M (M+PT) pc S x (Uv _ _) (Uv _ _) o3 hO hOs hnd hdep hE (by rw[sL (Tk _),hS0]) (fun p hp=>by rw[sL hp]; exact hSH p hp) hgd (fun p i o hp h1 ho t=>?_) Z (fun p h1 h2 hz=>?_) (fun p i o hp h1 ho e he hze hun=>?_) (fun p i o h1 h2 hpi ho g' W ev hopr hgl hbs=>?_) (fun i o hi ho=>?_) (fun hPe=>?_) hk hp
 ·rcases V1 p M with h2 | h2
  ·rw[sL o3,sL o3,xL' h2,(gL (hgL h2 h1 ho) ho).2.2.2,fJ]
  ·obtain ⟨o',H',ho',hs',_⟩:=tT h2 hp h1
   rw[ho] at ho'; cases ho'
   rw[hs',fJ]
 ·obtain ⟨i,hi⟩:=atO p o3
  exact(stepB h1 h2 hz hi).1
 ·obtain ⟨_,e1,e2,_⟩:=gL (hgL hp h1 ho) ho
  rw[sL o3,xL' hp]
  have hsi:(⟨(SL p).fr,(SL p).H⟩:St)=SL p:=rfl
  rcases e1 with e1 | ⟨e1,e3⟩ | ⟨e1,e3⟩
  ·rw[rr e1 (H':=(SL p).H)]; exact e2
  ·rw[<-vg e1 (H:=(SL p).H) (fun b hb=>?_)]
   ·exact e2
   ·obtain ⟨B,hB⟩:=tN (s:=SL p) e1 e2 hb
    rw[hSH p o3] at hB ⊢
    have hbl:=(SB.1 hB).1
    clear hsi
    induction e with
    | zero=>rw[Ub,sL (Sy _),hSH M (Sy _)]
    | succ e ih=>
     obtain ⟨j,hj⟩:=atO (M+e) o3
     rcases (stepB o3 o3 (fun h=>hze o3) hj).2 b (SQ hbl (lenE e o3 (fun h=>hze o3))) with h4 | h4
     ·exact(h4 i _ e3 hb (hun (M+e) j o3 o3 hj)).elim
     ·rw[show M+(e+1)=M+e+1 from rfl,h4]
      exact ih o3 (fun h=>hze o3) fun q' j' h5 h6 h7=>hun q' j' h5 o3 h7
  ·rw[<-wM e1 e3]; exact e2
 ·obtain ⟨o',H',ho',hs',⟨hic,_,e1,e2⟩ | ⟨hic,hsn,e2⟩⟩:=tT h1 h2 hpi
  ·rw[ho] at ho'; cases ho'
   obtain ⟨c',w',x',H3,g2,k1,k2,k3,k4,k5,k6,k7,k8⟩:=jJ hopr e2
   cases k2
   refine .inl (jC k1 ⟨g2,?_,?_,?_,k8,?_,fun e=>(hic (by rw[e,oC'] at hpi; cases hpi; rfl)).elim⟩)
   ·rw[hs',fW]; exact k3
   ·rw[hs',fW]; exact k4
   ·rw[hs',fW]; exact fun b hb hb'=>by first | exact k7 b hb hb' | exact k6 b hb hb'
   ·rw[hs',fW]; first | exact k5 | exact k6
  ·subst hic
   rw[ho] at ho'; cases ho'
   rw[hoc] at ho; cases ho
   obtain rfl:=oC hpi
   obtain ⟨args,w',e1,e3⟩:=post (S pc) _ H' e2 g' W ev hopr hgl hbs
   refine .inr ⟨q,args,w',e1,e3.mono ?_⟩
   rintro e w'' ⟨g2,k1,k2,k3,k4,k6,k5⟩
   rw[hs',fW]
   cases e with
   | returned c'=>
    refine⟨g2,k1,k2,fun b hb hb'=>k4 b (hlo' _ b hb hb') hb',k6,k5,fun _=>⟨by rw[hs',fW]; exact k3,fun b hb hcb'=>?_⟩⟩
    rw[hs',fW]
    cases hfr:cx.fre q with
    | true=>
     refine k4 b ?_ hb
     rw[hloC,hfr]
     exact hb
    | false=>exact(hcall.ct q _ _ _ _ (iw hcb) (hc0.resolve_right (by rw[hfr]; simp)) o3 e2).2 b hcb'
   | panicked _=>exact k5.elim
   | outgrown=>exact k5.elim
 ·rcases hTe with ⟨hTe,_⟩ | ⟨o',y,H2,e0,e1,e2,e3⟩
  ·rw[oT (Uv _ _),show M+PT - M=PT by omega,hTe,TM (Sy _)] at hi
   cases hi
  ·rw[oT (Uv _ _),show M+PT - M=PT by omega,e0] at hi
   cases hi
   rw[hoc] at ho e1; cases ho; cases e1
   refine⟨H2,y,e3,fun g' W ev hopr hgl hbs=>?_⟩
   rw[sT (Uv _ _),show M+PT - M=PT by omega] at hopr hgl hbs ⊢
   obtain ⟨args,w',e1,e4⟩:=post (ST PT) _ H2 e2 g' W ev hopr hgl hbs
   refine .inr ⟨q,args,w',e1,e4.mono ?_⟩
   rintro e w'' ⟨g2,k1,k2,k3,k4,k6,k5⟩
   cases e with
   | returned _=>exact k5.elim
   | panicked ch=>
    obtain ⟨c',rfl,hv⟩:=k5
    exact⟨c',g2,rfl,k1,k2,k3,fun b hb hb'=>k4 b (hlo' _ b hb hb') hb',k6,hv⟩
   | outgrown=>exact k5.elim
 ·rcases hTe with ⟨hTe,hkT⟩ | ⟨o',y,H2,e0,_⟩
  ·rw[sT (Uv _ _),show M+PT - M=PT by omega]
   exact g8 _ _ _ hkT
  ·have hl:PT=T.length:=by omega
   have e0':T[PT]? = some c:=e0
   rw[hl,TM (Sy _)] at e0'
   cases e0'
end
section
open Go.RowKit
variable {H H':ar} {g g':Gh} {w0 w w':World} {cx:Cx} {s:St} {a:Act} {N lo:Nat} {mb:Mb} {H0:ar} {gs:Gh} {ws:World}
theorem Rel.rng (hr:Rel H g w0 w) {b l:Nat} {st:D5} {r0:Loop} (hB:H[b]? = some (.rng st)) (B':aD) (ko:Option Nat) (o':Obj) (hk:g.mu b=some l) (hw:w.heap[l]? = some (.loop r0))
  (hcase:(∃ st',B'=.rng st'/\ko=some l/\o'=.loop (iH (g.lr b) st'))∨(B'=.dead/\ko=none)) :
  Rel (H.set b B') (g.put b ko (g.ga b)) w0 (w.putObj l o')/\Ext H g w (H.set b B') (g.put b ko (g.ga b)) (w.putObj l o'):=by
 have hlt:b<H.length:=(SB.1 hB).1
 have hll:l<w.heap.size:=(hr.dom b l hk).2.2
 have hoth:∀ j,j≠l->(w.putObj l o').heap[j]? = w.heap[j]?:=fun j hj=>TW hj
 have hsz:(w.putObj l o').heap.size=w.heap.size:=r8
 have hkol:∀ k,ko=some k->k=l:=fun k hk'=>by
  rcases hcase with ⟨_,_,h,_⟩ | ⟨_,h⟩<;>rw[h] at hk'<;>cases hk'; rfl
 have he:Ext H g w (H.set b B') (g.put b ko (g.ga b)) (w.putObj l o'):=by
  refine⟨fun k o v hs hc=>?_,fun c C hC=>?_,fun k x h=>(hoth k (fun e=>by subst e; rw[hw] at h; cases h)).trans h,by rw[hsz]; exact Sy _,fun k marr cl hs hm=>?_,fun k _ hn=>hoth k (fun e=>hn b (e ▸ hk)),fun c k h=>?_⟩
  rotate_right 1
  ·by_cases e:c=b
   ·subst e; rw[Gh.bq] at h; exact .inl ⟨c,(hkol k h) ▸ hk⟩
   ·exact .inl ⟨c,by rwa [Gh.ay _ _ _ e] at h⟩
  ·have hne:k≠l:=fun e=>by
    subst e
    obtain ⟨o1,ho,hc1⟩:=cells_of_cell hc
    rw[hw] at ho; cases ho; cases hc1
   refine⟨(Ul (a:=⟨k,o,none⟩) (hoth k hne)).trans hc,hs.1,fun c hck=>?_⟩
   by_cases e:c=b
   ·subst e; rw[Gh.bq] at hck; exact absurd (hkol k hck) hne
   ·rw[Gh.ay _ _ _ e] at hck
    obtain ⟨es,els,h1,h2⟩:=hs.2 c hck
    exact⟨es,els,by rw[SO (TF e)]; exact h1,h2⟩
  ·by_cases e:c=b
   ·subst e
    rw[hB] at hC; cases hC
    refine⟨B',by rw[SY hlt],?_⟩
    rcases hcase with ⟨st',rfl,rfl,_⟩ | ⟨rfl,_⟩
    ·exact⟨by rw[Gh.bq,hk],rfl⟩
    ·trivial
   ·refine⟨C,by rw[SO (TF e)]; exact hC,?_⟩
    have hne:∀ k,g.mu c=some k->k≠l:=fun k hk' e2=>e (hr.inj c b k hk' (e2 ▸ hk))
    cases C with
    | box _=>exact Gh.ay _ _ _ e
    | row wr es' els'=>cases wr with
     | true=>exact⟨rfl,rfl,Gh.ay _ _ _ e,fun k arr ty hk' ha=>⟨arr,(hoth k (hne k hk')).trans ha,Sy _⟩⟩
     | false=>exact⟨rfl,⟨[],by rw[Gh.dK _ _ _ e]; simp⟩,(hr.blk c _ hC).len,Sy _,fun _=>⟨Gh.ay _ _ _ e,fun k arr ty hk' ha=>⟨arr,(hoth k (hne k hk')).trans ha,Sy _⟩⟩⟩
    | rng _=>exact⟨Gh.ay _ _ _ e,rfl⟩
    | mp _ _ _=>exact Gh.ay _ _ _ e
    | dead=>trivial
    | hole=>trivial
  ·have hne:k≠l:=fun e=>by subst e; rw[hw] at hm; cases hm
   refine⟨(hoth k hne).trans hm,hs.1,fun c hck=>?_⟩
   by_cases e:c=b
   ·subst e; rw[Gh.bq] at hck; exact absurd (hkol k hck) hne
   ·rw[Gh.ay _ _ _ e] at hck
    obtain ⟨es,els,h1,h2⟩:=hs.2 c hck
    exact⟨es,els,by rw[SO (TF e)]; exact h1,h2⟩
 refine⟨⟨hr.below.trans ((Below.refl w0.heap.size w).grown (V6 w l _) (hr.below.size) (fun k e=>by cases e; exact(hr.dom b l hk).2.1)),fun c k hck=>?_,fun c d k h1 h2=>?_,hr.xk he,hr.vD he,fun c C hC=>?_⟩,he⟩
 ·by_cases e:c=b
  ·subst e
   rw[Gh.bq] at hck
   rw[hkol k hck]
   exact⟨by simpa using hlt,(hr.dom c l hk).2.1,by rw[hsz]; exact hll⟩
  ·rw[Gh.ay _ _ _ e] at hck
   have:=hr.dom c k hck
   exact⟨by simpa using this.1,this.2.1,by rw[hsz]; exact this.2.2⟩
 ·by_cases e:c=b
  ·by_cases e':d=b
   ·rw[e,e']
   ·subst e
    rw[Gh.bq] at h1
    rw[Gh.ay _ _ _ e'] at h2
    rw[hkol k h1] at h2
    exact hr.inj _ _ l hk h2
  ·by_cases e':d=b
   ·subst e'
    rw[Gh.bq] at h2
    rw[Gh.ay _ _ _ e] at h1
    rw[hkol k h2] at h1
    exact hr.inj _ _ l h1 hk
   ·rw[Gh.ay _ _ _ e] at h1
    rw[Gh.ay _ _ _ e'] at h2
    exact hr.inj c d k h1 h2
 ·by_cases e:c=b
  ·subst e
   rw[SY hlt] at hC; cases hC
   rcases hcase with ⟨st',rfl,rfl,rfl⟩ | ⟨rfl,rfl⟩
   ·exact⟨l,Gh.bq _ _ _ _,Vo hll⟩
   ·exact Gh.bq _ _ _ _
  ·rw[SO (TF e)] at hC
   have h:=hr.blk c C hC
   have hne:∀ k,g.mu c=some k->k≠l:=fun k hk' e2=>e (hr.inj c b k hk' (e2 ▸ hk))
   cases C with
   | box cs=>obtain ⟨k,arr,ty,h1,h2,h3⟩:=h; exact⟨k,arr,ty,(Gh.ay _ _ _ e).trans h1,(hoth k (hne k h1)).trans h2,bl.ext he _ _ h3⟩
   | row wr es' els'=>cases wr with
    | true=>
     obtain ⟨ds,h1,h2,h3⟩:=h
     exact⟨ds,bf.ext he _ _ h1,h2,fun hp=>let ⟨k,arr,ty,e1,e2,e3⟩:=h3 hp; ⟨k,arr,ty,(Gh.ay _ _ _ e).trans e1,(hoth k (hne k e1)).trans e2,e3⟩⟩
    | false=>
     obtain ⟨h1,h2⟩:=h
     refine⟨?_,?_⟩
     ·rw[Gh.dK _ _ _ e]; exact bf.ext he _ _ h1
     ·rw[Gh.dK _ _ _ e]; exact h2
   | rng st=>obtain ⟨k,h1,h2⟩:=h; exact⟨k,(Gh.ay _ _ _ e).trans h1,(hoth k (hne k h1)).trans h2⟩
   | mp _ _ _=>obtain ⟨k,arr,cl,h1,h2,h3,h4⟩:=h; exact⟨k,arr,cl,(Gh.ay _ _ _ e).trans h1,(hoth k (hne k h1)).trans h2,h3,bl.ext he _ _ h4⟩
   | dead=>exact(Gh.ay _ _ _ e).trans h
   | hole=>exact(Gh.ay _ _ _ e).trans h
def Gh.zS (g:Gh) (b:Nat) (r:Loop):Gh:={ g with lr:=fun c=>if c=b then r else g.lr c }
theorem Rel.zS (hr:Rel H g w0 w) (r:Loop):Rel H (g.zS H.length r) w0 w/\Ext H g w H (g.zS H.length r) w:=by
 have hlr:∀ {c:Nat} {B:aD},H[c]? = some B->(g.zS H.length r).lr c=g.lr c:=fun {c B} h=>by
  have:=(SB.1 h).1
  simp only[Gh.zS]; rw[SI o3]
 have he:Ext H g w H (g.zS H.length r) w:=by
  refine⟨fun k o v hs hc=>⟨hc,hs⟩,fun b B hB=>⟨B,hB,?_⟩,fun _ _ h=>h,Sy _,fun k arr cl hs hm=>⟨hm,hs⟩,fun _ _ _=>rfl,fun b k h=>.inl ⟨b,h⟩⟩
  cases B with
  | box _=>rfl
  | row wr es els=>cases wr with
   | true=>exact⟨rfl,rfl,rfl,fun k arr ty _ ha=>⟨arr,ha,Sy _⟩⟩
   | false=>exact⟨rfl,⟨[],by simp[Gh.zS]⟩,(hr.blk b _ hB).len,Sy _,fun _=>⟨rfl,fun k arr ty _ ha=>⟨arr,ha,Sy _⟩⟩⟩
  | rng _=>exact⟨rfl,hlr hB⟩
  | mp _ _ _=>rfl
  | dead=>trivial
  | hole=>trivial
 refine⟨⟨hr.below,hr.dom,hr.inj,hr.out,hr.own,fun b B hB=>?_⟩,he⟩
 have h:=hr.blk b B hB
 cases B with
 | box cs=>obtain ⟨k,arr,ty,h1,h2,h3⟩:=h; exact⟨k,arr,ty,h1,h2,bl.ext he _ _ h3⟩
 | row wr es els=>cases wr with
  | true=>obtain ⟨ds,h1,h2,h3⟩:=h; exact⟨ds,bf.ext he _ _ h1,h2,h3⟩
  | false=>exact⟨bf.ext he _ _ h.1,h.2⟩
 | rng st=>obtain ⟨k,h1,h2⟩:=h; exact⟨k,h1,by rw[hlr hB]; exact h2⟩
 | mp _ _ _=>obtain ⟨k,arr,cl,h1,h2,h3,h4⟩:=h; exact⟨k,arr,cl,h1,h2,h3,bl.ext he _ _ h4⟩
 | dead=>exact h
 | hole=>exact h
theorem Rel.begin (hr:Rel H g w0 w) (r:Loop) (hr0:iH r .ready=r) :
  Rel (H++[.rng .ready]) ((g.zS H.length r).put H.length (some (w.heap.size+1)) []) w0 ((w.alloc (.deferred (some []))).alloc (.loop r)) ∧
  Ext H g w (H++[.rng .ready]) ((g.zS H.length r).put H.length (some (w.heap.size+1)) []) ((w.alloc (.deferred (some []))).alloc (.loop r)):=by
 have hb1:Below w.heap.size w (w.alloc (.deferred (some []))):=(Below.refl _ w).alloc (Sy _) _
 have r1:=hr.dY hb1
 have e1:=Ext.below hr hb1
 obtain ⟨r2,e2⟩:=r1.zS r
 have hs:(w.alloc (.deferred (some []))).heap.size=w.heap.size+1:=r8
 have hb2:Below (w.alloc (.deferred (some []))).heap.size (w.alloc (.deferred (some []))) ((w.alloc (.deferred (some []))).alloc (.loop r)):=(Below.refl _ _).alloc (Sy _) _
 obtain ⟨r3,e3⟩:=r2.push hb2 (.rng .ready) (some (w.heap.size+1)) [] (fun k hk=>by cases hk; exact⟨hs.symm,r8⟩) (fun _=>⟨w.heap.size+1,Gh.bq _ _ _ _,by
  have:=VA (w.alloc (.deferred (some []))) (.loop r)
  rw[hs] at this
  rw[this]
  have:((g.zS H.length r).put H.length (some (w.heap.size+1)) []).lr H.length=r:=by simp[Gh.put,Gh.zS]
  rw[this,hr0]⟩)
 exact⟨r3,e1.trans (e2.trans e3)⟩
def ER (s:St) (g:Gh) (w:World):E->Exit->Prop
 | .normal,.normal=>True
 | .exit i,.exit j=>i=j
 | .goto i,.goto j=>i=j
 | .ret,.ret=>True
 | .pan x,.panic ch=>∃ c,ch=[{ v:=c,recovered:=false }]/\VR s.H g w x c
 | _,_=>False
def tn (cx:Cx) (lo N:Nat) (Bs:ar->Gh->World->Prop) (F1:St->(E->St->Option R)->Option R) (c:Code):Prop:=
 ∀ (F:Fence) (n:Nat) (mb:Mb) (w0:World) (r:R) (H0:ar) (gs:Gh) (ws:World) (k:E->St->Option R) (Q:Exit->Act->World->Prop) (s:St) (g:Gh) (a:Act) (w:World),fP F->Bs H0 gs ws->Good cx N mb lo H0 gs ws w0 s g a w->F1 s k=some r ->
  (∀ e e' s' g' a' w',Good cx N mb lo H0 gs ws w0 s' g' a' w'->ER s' g' w' e e'->k e s'=some r->Q e' a' w')->c.wpIn F n cx.P Q a w
theorem qU {N:Nat}:∀ {ps:List Nat},wk N ps=true->∀ p∈ps,p<N
 | [],_,p,hp=>by cases hp
 | q :: ps,h,p,hp=>by
  unfold wk at h
  obtain ⟨h1,h2⟩:=B6 h
  rcases Ti.1 hp with rfl | hp
  ·simpa [Nat.blt_eq] using h1
  ·exact qU h2 p hp
theorem Aa:∀ (ps:List Nat) (as:List A) (cs:List Value) (fr:List (Nat×A)) (ts:Array Value),(∀ t,VR H g w (look fr t) (ts.getD t undef))->bl H g w as cs->as.length=ps.length->(∀ p∈ps,p<ts.size) ->
  (∀ t,VR H g w (look (z9 ps as fr) t) (((ps.zip cs).foldl (fun ts p=>ts.setIfInBounds p.1 p.2) ts).getD t undef))/\((ps.zip cs).foldl (fun ts p=>ts.setIfInBounds p.1 p.2) ts).size=ts.size
 | [],as,cs,fr,ts,h,_,hl,_=>by
  have:as=[]:=SV hl
  subst this
  exact⟨h,rfl⟩
 | p :: ps,[],cs,fr,ts,h,_,hl,_=>by cases hl
 | p :: ps,x :: as,cs,fr,ts,h,hv,hl,hlt=>by
  rw[bl] at hv
  obtain ⟨d,ds,rfl,h1,h2⟩:=hv
  have hp:=hlt p r8
  have:=Aa ps as ds ((p,x) :: fr) (ts.setIfInBounds p d) (fun t=>by
   rw[dI]
   by_cases e:p=t
   ·subst e
    rw[SH rfl,TD,Vb hp]
    exact h1
   ·rw[SI e,TD,Ux e,<-TD]
    exact h t) h2 (by simpa using hl) (fun q hq=>by simpa using hlt q (by simp[hq]))
  exact⟨this.1,by simpa using this.2⟩
theorem xq {β:Type} {H:ar} {b:Nat} {x:Option β} {r:β} (h:LC H b x=some r):H[b]? = some (.rng .ready)/\x=some r:=by
 unfold LC at h
 split at h
 ·rename_i e; exact⟨e,h⟩
 ·cases h
theorem oG {β:Type} {H:ar} {b:Nat} {x:Option β} {r:β} (h:Iv H b x=some r):H[b]? = some (.rng .busy)/\x=some r:=by
 unfold Iv at h
 split at h
 ·rename_i e; exact⟨e,h⟩
 ·cases h
theorem Ext.Ib (he:Ext H g w H' g' w') {b:Nat} {st st':D5} (h:H[b]? = some (.rng st)) (h':H'[b]? = some (.rng st')):g'.mu b=g.mu b/\g'.lr b=g.lr b:=by
 obtain ⟨B',hB',ht⟩:=he.blk b _ h
 rw[h'] at hB'
 cases hB'
 exact ht
theorem xv {Bs:ar->Gh->World->Prop} {F1 F2:St->(E->St->Option R)->Option R} {ps:Array Nat} {asg body:Code} (h1:tn cx lo N Bs F1 asg) (h2:tn cx lo N Bs F2 body) {b lo' l:Nat} {fr:List (Nat×A)} {args:List A} {cargs:List Value} {r:R} {rec0:Loop}
  (hps:wk N ps.toList=true) (hlob:lo<=b) (e1:rec0.params=ps) (e2:rec0.assign=asg) (e3:rec0.body=body) (hsz:rec0.tmps.size=N)
  (h:roundOf F1 F2 lo b ps.toList fr args H lo'=some r) {F:Fence} {n:Nat} (hF:fP F) (hr:Rel H g w0 w) (hbs:Bs H g w) (hgl:∀ (G:Nat) (vs:List Value),cx.glob G=some vs->bt H g w G 0 vs)
  (hfr:∀ t,VR H g w (look fr t) (rec0.tmps.getD t undef)) (hlr:g.lr b=rec0) (hv:bl H g w args cargs) (hmu:g.mu b=some l):YieldAt F n cx.P l cargs.toArray w (fN H g w0 w lo' r):=by
 unfold roundOf at h
 obtain ⟨hc,h⟩:=bc h
 rw[Sz] at hc
 have hlo:lo'<=lo:=by simpa [Vm] using hc.2
 have hlen:args.length=ps.toList.length:=by simpa using hc.1
 obtain ⟨hB,h⟩:=xq h
 have hrecAt:∀ {H2:ar} {g2:Gh} {w2:World} {st:D5},Rel H2 g2 w0 w2->Ext H g w H2 g2 w2->H2[b]? = some (.rng st)->g2.mu b=some l/\g2.lr b=rec0/\w2.heap[l]? = some (.loop (iH rec0 st)):=fun {H2 g2 w2 st} hr2 he2 hB2=>by
  obtain ⟨m1,m2⟩:=he2.Ib hB hB2
  obtain ⟨k,k1,k2⟩:=hr2.blk b _ hB2
  rw[m1,hmu] at k1; cases k1
  rw[m2,hlr] at k2
  exact⟨m1.trans hmu,m2.trans hlr,k2⟩
 obtain ⟨_,_,hw⟩:=hrecAt hr (Ext.refl hr) hB
 have hcl:=hv.length
 have hy:=run_yield (P:=cx.P) (args:=cargs.toArray) hw (by show cargs.toArray.size=rec0.params.size; rw[e1]; simp at hlen ⊢; omega)
 refine⟨_,_,_,_,hy,roundIn_of_wpIn (hF.2.1 _) ?_⟩
 show rec0.assign.wpIn _ _ _ _ _ _
 rw[e2]
 have hfold:(((iH rec0 .ready).params.zip cargs.toArray).foldl (fun tmps (t,a)=>tmps.setIfInBounds t a) (iH rec0 .ready).tmps)=(ps.toList.zip cargs).foldl (fun ts p=>ts.setIfInBounds p.1 p.2) rec0.tmps:=by
  show ((rec0.params.zip cargs.toArray).foldl _ rec0.tmps)=_
  rw[e1,<-UU,Array.toList_zip]
 have hp:=Aa ps.toList args cargs fr rec0.tmps hfr hv hlen (fun p hp=>by rw[hsz]; exact qU hps p hp)
 refine h1 (F.inRound l) n ⟨w.heap.size,[],false⟩ w0 r H g w _ _ ⟨z9 ps.toList args fr,H⟩ g _ w hF hbs ⟨⟨hr,fun t=>by
  show VR H g w _ (Array.getD (((iH rec0 .ready).params.zip cargs.toArray).foldl (fun tmps (t,a)=>tmps.setIfInBounds t a) (iH rec0 .ready).tmps) t undef)
  rw[hfold]; exact hp.1 t,hgl⟩,Ext.refl hr,Sy _,fun _ _ _=>rfl,by
  show Array.size (((iH rec0 .ready).params.zip cargs.toArray).foldl (fun tmps (t,a)=>tmps.setIfInBounds t a) (iH rec0 .ready).tmps)=N
  rw[hfold,hp.2,hsz],gX.start _ _ _ _,Sy _,rfl⟩ h ?_
 intro e e' s2 g2 a2 w2 hg2 he h
 cases e with
 | exit i=>cases h
 | goto i=>cases h
 | ret=>cases h
 | pan x=>cases h
 | normal=>
  cases e' with
  | normal=>
   obtain ⟨hB2,h⟩:=xq h
   obtain ⟨m2,l2,hw2⟩:=hrecAt hg2.sr.rel hg2.ext hB2
   have hbr:=run_beginRound (P:=cx.P) hw2 rfl
   obtain ⟨q1,q2⟩:=hg2.sr.rel.rng hB2 (.rng .busy) (some l) (.loop (iH rec0 .busy)) m2 hw2 (.inl ⟨.busy,rfl,rfl,by rw[l2]⟩)
   refine⟨_,hbr,?_⟩
   have hg3:=hg2.step (dst:=none) (x:=.any) (c:=undef) q1 q2 r8 (lD s2.H _ hlob) rfl Sm (fun d hd=>by cases hd)
   show rec0.body.wpIn _ _ _ _ _ _
   rw[e3]
   refine h2 (F.inRound l) n ⟨w.heap.size,[],false⟩ w0 r H g w _ _ ⟨s2.fr,s2.H.set b (.rng .busy)⟩ _ a2 _ hF hbs hg3 h ?_
   intro e e' s3 g3 a3 w3 hg he h
   have fin:∀ (st:D5) (jump:Option Code) (v:Bool),s3.H[b]? = some (.rng .busy)->jump.isNone=v->iH rec0 st={ iH rec0 .busy with state:=if jump.isNone then .ready else .done,pending:=jump }->r=(.ret (.v (.bool v)),s3.H.set b (.rng st)) ->
     ∃ x W,(Instr.endRound l jump).run cx.P w3=.ok x W/\fN H g w0 w lo' r (.returned x) W:=fun st jump v hB3 hjv hst hrr=>by
    obtain ⟨m3,l3,hw3⟩:=hrecAt hg.sr.rel hg.ext hB3
    have her:=run_endRound (P:=cx.P) jump hw3
    obtain ⟨p1,p2⟩:=hg.sr.rel.rng hB3 (.rng st) (some l) (.loop (iH rec0 st)) m3 hw3 (.inl ⟨st,rfl,rfl,by rw[l3]⟩)
    subst hrr
    rw[<-hst] at her
    refine⟨_,_,her,_,p1,hg.ext.trans p2,by simpa using hg.len,fun c hc hc'=>?_,hg.st,?_⟩
    ·show (s3.H.set b (.rng st))[c]? = _
     rw[SO o3]
     exact hg.low c o3 hc'
    ·show VR _ _ _ (.v (.bool v)) (.bool jump.isNone)
     rw[VR,hjv]
   cases e with
   | normal=>cases e'<;>first
     | (obtain ⟨hB3,h⟩:=oG h; exact fin .ready none true hB3 rfl rfl (by cases h; rfl))
     | exact he.elim
   | exit i=>cases e'<;>first
     | (obtain rfl:i=_:=he; obtain ⟨hB3,h⟩:=oG h; exact fin (.done (.exit i)) (some (.exit i)) false hB3 rfl rfl (by cases h; rfl))
     | exact he.elim
   | goto i=>cases e'<;>first
     | (obtain rfl:i=_:=he; obtain ⟨hB3,h⟩:=oG h; exact fin (.done (.goto i)) (some (.goto i)) false hB3 rfl rfl (by cases h; rfl))
     | exact he.elim
   | ret=>cases e'<;>first
     | (obtain ⟨hB3,h⟩:=oG h; exact fin (.done .ret) (some .ret) false hB3 rfl rfl (by cases h; rfl))
     | exact he.elim
   | pan x=>cases h
  | _=>exact he.elim
end
section
open Go.RowKit
variable {F:Fence} {n:Nat} {P:Program}
theorem mL {fn:Func} {tmps:Array Value} {R:Ending->World->Prop} {B:Nat} {ds:List Deferred}:∀ (ms:List Deferred) (u:FrameMode) (W:World),u≠.run->Marks B W ms ->
  (∀ W',bP B W W'->(∀ (k:Nat) (o:Loop),W.heap[k]? = some (.loop o)->W'.heap[k]? = some (.loop o))->LeavesInM F n P fn tmps R ds u W')->LeavesInM F n P fn tmps R (ms++ds) u W:=by
 intro ms u
 induction ms with
 | nil=>intro W _ _ h; exact h W (bP.refl _ _) (fun _ _ h=>h)
 | cons d ms ih=>
  rintro W hu ⟨rs,e,h2,h3⟩ h
  match rs,e,h2,h3 with
  | r :: rs,e,h2,h3=>
   cases e
   obtain ⟨hB,hr⟩:=h3 r r8
   refine⟨hu,.inl ⟨r,_,rfl,run_takeDeferred hr,ih _ hu ⟨rs,rfl,(V4.1 h2).2,fun q hq=>⟨(h3 q (by simp[hq])).1,?_⟩⟩ fun W' hc hl=>?_⟩⟩
   ·have hne:q≠r:=fun e=>(V4.1 h2).1 (e ▸ hq)
    exact(TW hne).trans (h3 q (by simp[hq])).2
   ·exact h W' ((bP.putObj _ hB hr rfl).trans hc) (fun k o hk=>hl k o ((TW (fun e=>by subst e; rw[hr] at hk; cases hk)).trans hk))
theorem Oper.yY {o:Oper} {a:Act} {w:World} {K K':Act->World->Prop} {Q Q':Exit->Act->World->Prop} (hK:∀ a w,K a w->K' a w) (hQ:∀ e a w,e≠.normal->Q e a w->Q' e a w) (h:o.wpIn F n P a w K Q):o.wpIn F n P a w K' Q':=by
 unfold Oper.wpIn at *
 refine⟨h.1,?_⟩
 have hh:=h.2
 have lo:LetsOut Q->LetsOut Q':=fun ⟨a,w,h⟩=>⟨a,w,hQ _ _ _ r8 h⟩
 generalize (o.semAt F.round a.eval).run P w=r at *
 cases r with
 | ok x w'=>
  cases x<;>simp only[Oper.uponIn] at hh ⊢<;>first
   | exact hK _ _ hh
   | exact⟨hh.1,CallsIn.mono hh.2 (fun e w'' he=>by cases e<;>first | exact hK _ _ he | exact hQ _ _ _ r8 he | exact lo he)⟩
   | exact⟨hh.1,RowsIn.mono hh.2 (fun _ _ he=>hK _ _ he)⟩
   | exact⟨hh.1,RoundIn.mono hh.2 (fun e w'' he=>by cases e<;>first | exact hK _ _ he | exact hQ _ _ _ r8 he | exact lo he)⟩
   | exact hh.elim
 | halt x w'=>cases x<;>simp only[Oper.uponIn] at hh ⊢<;>first | exact hQ _ _ _ r8 hh | exact hh.elim
theorem lM {ops:Array Oper} {Q Q':Exit->Act->World->Prop} {os':List Oper} (hQ:∀ e a w,e≠.normal->Q e a w->Q' e a w) (hn:∀ a w,Q .normal a w->wpListIn F n P ops Q' os' a w):∀ (os:List Oper) (a:Act) (w:World),wpListIn F n P ops Q os a w->wpListIn F n P ops Q' (os++os') a w
 | [],a,w,h=>hn a w h
 | o :: os,a,w,h=>by
  rw[Tg]
  unfold wpListIn at h ⊢
  split
  ·rename_i hw; rw[SH hw] at h; exact Oper.yY (lM hQ hn os) hQ h
  ·rename_i hw; rw[SI hw] at h; exact⟨h.1,lM hQ hn os _ _ h.2⟩
theorem mN {o:Oper} {d:Nat} (h:lH o=some d):o.dst=some d/\o.guard=none/\∀ (ev:Operand->Value) (w:World),(execOp ev o).run P w=.ok .recover w:=by
 unfold lH at h
 split at h
 ·rename_i c ho
  split at h
  ·rename_i hcal hargs
   cases hg:tc o with
   | false=>rw[hg] at h; cases h
   | true=>
    rw[hg] at h
    refine⟨h,by unfold tc at hg; split at hg<;>simp_all,fun ev w=>?_⟩
    unfold execOp
    rw[ho]
    simp[resolve,hcal,invoke,builtin]
  ·cases h
 ·cases h
theorem pY {Q:Exit->Act->List Frame->World->Prop} {a:Act} {cs cs':List Frame} {w:World} {id d:Nat} {ops:Array Oper} {o:Oper} {os:List Oper} {v:Value} (hl:ops.toList=o :: os) (hd:lH o=some d) (hFa:∀ f,F.fn f) (hro:F.round=none)
  (hrec:recoverD cs=some (v,cs')∨(recoverD cs=none/\cs'=cs/\v=.nilIface)) (h:wpListIn F n P ops (fun e a' w'=>Q e a' cs' w') os (a.put (some d) v) w):(Code.region id ops false).wpSIn F n P Q a cs w:=by
 obtain ⟨hdst,hgd,hrun⟩:=mN (P:=P) hd
 have ho:ops[0]? = some o:=by rw[<-Tc,hl]; rfl
 have hlen:cs'.length=cs.length:=by
  rcases hrec with h1 | ⟨_,rfl,_⟩
  ·exact recoverD_length h1
  ·rfl
 intro b k hb hr hFb hroom
 have hw:Region.wanted o (yielded ops a.tmps)=true:=by simp[Region.wanted,hgd]
 have hsz:List.range ops.size=0 :: List.range' 1 os.length:=by
  rw[<-UQ,hl,SW,List.range_eq_range',List.range'_succ]
 have h':wpOpsIn F n P ops (fun e a' w'=>Q e a' cs' w') (List.range' 1 os.length) (a.put (some d) v) w:=by
  rw[wpOpsIn_eq_wpListIn os 1 (fun j=>by rw[<-Tc,hl,VW 1 j,Vn])]
  exact h
 obtain ⟨e,a',w',q,harr⟩:=wp_opsIn _ _ _ h' b k cs' (hr.trans hro.symm) hFb (hlen ▸ hroom)
 have i0:(lone (b.atR a (.code (.region id ops false) :: k)) cs w).fenced P F:=V8 hFb hroom rfl
 have i1:(lone (b.atR a (.inRegion ops (0 :: List.range' 1 os.length) :: k)) cs w).fenced P F:=Wy hFb hroom ho (fun f _=>hFa f)
 refine⟨e,a',cs',w',hlen,q,.of_steps (.head i0 (hsz ▸ stepR_region) (.one i1 (VC ?_))) harr⟩
 have hg:=stepGR_op (P:=P) (b:=b) (k:=k) (cs:=cs) (w:=w) (rest:=List.range' 1 os.length) ho hw
 rw[hr,UZ] at hg
 have hfin:∀ v,(b.atR a (.inRegion ops (0 :: List.range' 1 os.length) :: k)).finish v=b.atR (a.put o.dst v) (.inRegion ops (List.range' 1 os.length) :: k):=by
  intro v; rw[V2,ho]; rfl
 have hk:(b.atR a (.inRegion ops (0 :: List.range' 1 os.length) :: k)).kind=.deferred:=hb
 have htr:=Ws hk cs
 rw[hg,<-hdst,<-hfin]
 simp only[Frame.atR,hr] at htr ⊢
 rcases hrec with h1 | ⟨h1,rfl,rfl⟩
 ·simp[stepG.apply,hrun,htr,h1]
 ·simp[stepG.apply,hrun,htr,h1]
theorem kP {ops:Array Oper} {i d j:Nat} {o:Oper} (ho:ops[i]? = some o):(jM ops i d)[j]? = if j=i then some { o with op:=.move (.tmp d) } else ops[j]?:=by
 unfold jM
 rw[ho]
 simp only
 have hi:=(SE.1 ho).1
 by_cases e:j=i
 ·subst e; rw[SH rfl]; simp[hi]
 ·rw[SI e,Ux (TF e)]
theorem rX {ops:Array Oper} {i d:Nat}:(jM ops i d).size=ops.size:=by
 unfold jM; split<;>simp
theorem xd {ops:Array Oper} {i d:Nat} {o:Oper} (ho:ops[i]? = some o) (t:Nat):Region.linearise .any (jM ops i d) t=Region.linearise .any ops t:=by
 have key:∀ (fuel t:Nat) (listed:Array Bool) (acc:List Nat),Region.linearise.go .any (jM ops i d) fuel t listed acc=Region.linearise.go .any ops fuel t listed acc:=by
  intro fuel
  induction fuel with
  | zero=>intro t listed acc; rfl
  | succ fuel ih=>
   intro t listed acc
   unfold Region.linearise.go
   simp only[rX,ih]
   have e:∀ j,((jM ops i d)[j]?).map (fun (o:Oper)=>o.after.all fun e=>!Region.binds .any e || listed.getD e.on false)=(ops[j]?).map (fun (o:Oper)=>o.after.all fun e=>!Region.binds .any e || listed.getD e.on false):=fun j=>by
    rw[kP ho]
    split
    ·rename_i h; subst h; rw[ho]; rfl
    ·rfl
   simp only[e]
 unfold Region.linearise
 rw[rX,key]
theorem Cv {ops:Array Oper}:∀ (fuel t:Nat) (listed:Array Bool) (L1:List Nat) (j:Nat) (L2:List Nat),Region.linearise.go .any ops fuel t listed []=L1++j :: L2->∀ (o:Oper) (e:Edge),ops[j]? = some o->e∈o.after->Region.binds .any e=true->listed.getD e.on false=true∨e.on∈L1
 | 0,t,listed,L1,j,L2,h,o,e,ho,he,hb=>by
  simp[Region.linearise.go] at h
 | fuel+1,t,listed,L1,j,L2,h,o,e,ho,he,hb=>by
  simp only[Region.linearise.go] at h
  change (match (Region.ready .any ops listed)[t % (Region.ready .any ops listed).length]? with
   | some i=>Region.linearise.go .any ops fuel (t / (Region.ready .any ops listed).length) (listed.setIfInBounds i true) [i]
   | none=>[].reverse)=_ at h
  split at h
  ·rename_i i hi
   rw[U8,UG,Uh] at h
   have hrd:=(UW.1 (S1 hi))
   cases L1 with
   | nil=>
    simp only[TN,TA] at h
    obtain ⟨rfl,_⟩:=h
    obtain ⟨_,o',ho',hall⟩:=hrd
    rw[ho] at ho'; cases ho'
    exact .inl (hall e he hb)
   | cons x L1=>
    simp only[Tg,TA] at h
    obtain ⟨rfl,h⟩:=h
    rcases Cv fuel _ _ L1 j L2 h o e ho he hb with h1 | h1
    ·by_cases hx:e.on=i
     ·exact .inr (by rw[hx]; exact UH ..)
     ·rw[UL false (TF hx)] at h1; exact .inl h1
    ·exact .inr (Un _ h1)
  ·simp at h
theorem Cw {ops:Array Oper} {i0:Nat} {o0:Oper} (ho:ops[i0]? = some o0) (hn:∀ e∈o0.after,Region.binds .any e=true->False):∀ (fuel t:Nat) (listed:Array Bool),listed.size=ops.size->Ak ops listed<=fuel->listed.getD i0 true=false->i0∈Region.linearise.go .any ops fuel t listed []
 | 0,t,listed,hs,hu,hl=>by
  exfalso
  have hi:=(SE.1 ho).1
  have hmem:i0∈(List.range ops.size).filter (fun i=>!listed.getD i true):=Vv.2 ⟨S6.2 hi,by rw[hl]; rfl⟩
  have:=UE hmem
  unfold Ak at hu; omega
 | fuel+1,t,listed,hs,hu,hl=>by
  have hrd:i0∈Region.ready .any ops listed:=UW.2 ⟨hl,o0,ho,fun e he hb=>(hn e he hb).elim⟩
  have hlen:=UE hrd
  simp only[Region.linearise.go]
  change i0∈(match (Region.ready .any ops listed)[t % (Region.ready .any ops listed).length]? with
   | some i=>Region.linearise.go .any ops fuel (t / (Region.ready .any ops listed).length) (listed.setIfInBounds i true) [i]
   | none=>[].reverse)
  have hlt:t % (Region.ready .any ops listed).length<(Region.ready .any ops listed).length:=UF _ hlen
  rw[Sx hlt]
  simp only
  rw[U8,UG,Uh]
  generalize hi:(Region.ready .any ops listed)[t % (Region.ready .any ops listed).length]=i
  have him:i∈Region.ready .any ops listed:=by rw[<-hi]; exact Tb _
  obtain ⟨hun,o,hoi,_⟩:=UW.1 him
  have his:i<ops.size:=(SE.1 hoi).1
  by_cases e:i=i0
  ·rw[e]; exact UH ..
  ·refine Un _ (Cw ho hn fuel _ _ (by simpa using hs) ?_ (by rw[UL true e]; exact hl))
   have:=filter_lt (fun k=>!listed.getD k true) (fun k=>!(listed.setIfInBounds i true).getD k true) (List.range ops.size) (fun x hx hq=>by
    by_cases e:i=x
    ·subst e; rw[hun]; rfl
    ·rw[UL true e] at hq; exact hq) ⟨i,S6.2 his,by rw[hun]; rfl,by simp[hs,his]⟩
   unfold Ak at hu ⊢
   omega
theorem Cy {ops:Array Oper} {i0:Nat}:∀ (fuel t:Nat) (listed:Array Bool),listed.getD i0 true=true->i0 ∉ Region.linearise.go .any ops fuel t listed []
 | 0,t,listed,h,hm=>by simp[Region.linearise.go] at hm
 | fuel+1,t,listed,h,hm=>by
  simp only[Region.linearise.go] at hm
  change i0∈(match (Region.ready .any ops listed)[t % (Region.ready .any ops listed).length]? with
   | some i=>Region.linearise.go .any ops fuel (t / (Region.ready .any ops listed).length) (listed.setIfInBounds i true) [i]
   | none=>[].reverse) at hm
  split at hm
  ·rename_i i hi
   rw[U8,UG,Uh] at hm
   obtain ⟨hun,_⟩:=UW.1 (S1 hi)
   have hne:i≠i0:=fun e=>by rw[e,h] at hun; cases hun
   rcases Ti.1 hm with hm | hm
   ·exact hne hm.symm
   ·exact Cy fuel _ _ (by rw[UL true hne]; exact h) hm
  ·simp at hm
theorem zI {ops:Array Oper} {i0:Nat}:∀ (fuel t:Nat) (listed:Array Bool) (L1 L2:List Nat),listed.size=ops.size->Region.linearise.go .any ops fuel t listed []=L1++i0 :: L2->i0 ∉ L2
 | 0,t,listed,L1,L2,_,h=>by simp[Region.linearise.go] at h
 | fuel+1,t,listed,L1,L2,hs,h=>by
  simp only[Region.linearise.go] at h
  change (match (Region.ready .any ops listed)[t % (Region.ready .any ops listed).length]? with
   | some i=>Region.linearise.go .any ops fuel (t / (Region.ready .any ops listed).length) (listed.setIfInBounds i true) [i]
   | none=>[].reverse)=_ at h
  split at h
  ·rename_i i hi
   rw[U8,UG,Uh] at h
   cases L1 with
   | nil=>
    simp only[TN,TA] at h
    obtain ⟨rfl,h⟩:=h
    rw[<-h]
    obtain ⟨_,o,ho,_⟩:=UW.1 (S1 hi)
    have:=(SE.1 ho).1
    exact Cy fuel _ _ (by simp[hs,this])
   | cons x L1=>
    simp only[Tg,TA] at h
    exact zI fuel _ _ L1 L2 (by simpa using hs) h.2
  ·simp at h
theorem zJ {ops:Array Oper}:∀ (fuel t:Nat) (listed:Array Bool) (j:Nat),j∈Region.linearise.go .any ops fuel t listed []->∃ o,ops[j]? = some o
 | 0,t,listed,j,h=>by simp[Region.linearise.go] at h
 | fuel+1,t,listed,j,h=>by
  simp only[Region.linearise.go] at h
  change j∈(match (Region.ready .any ops listed)[t % (Region.ready .any ops listed).length]? with
   | some i=>Region.linearise.go .any ops fuel (t / (Region.ready .any ops listed).length) (listed.setIfInBounds i true) [i]
   | none=>[].reverse) at h
  split at h
  ·rename_i i hi
   rw[U8,UG,Uh] at h
   obtain ⟨_,o,ho,_⟩:=UW.1 (S1 hi)
   rcases Ti.1 h with h | h
   ·exact⟨o,by rw[h]; exact ho⟩
   ·exact zJ fuel _ _ j h
  ·simp at h
theorem tj {ops:Array Oper} {i d:Nat} {o:Oper} (ho:ops[i]? = some o) (tm:Array Value):yielded (jM ops i d) tm=yielded ops tm:=by
 funext j
 have e:((jM ops i d)[j]?).bind (·.dst)=(ops[j]?).bind (·.dst):=by
  rw[kP ho]
  by_cases h:j=i
  ·subst h; rw[SH rfl,ho]; rfl
  ·rw[SI h]
 unfold yielded
 rw[e]
theorem ir {ops:Array Oper} {Q:Exit->Act->World->Prop} {i d:Nat} {o:Oper} (ho:ops[i]? = some o):∀ (L:List Nat) (a:Act) (w:World),i ∉ L->wpOpsIn F n P (jM ops i d) Q L a w->wpOpsIn F n P ops Q L a w
 | [],a,w,_,h=>h
 | j :: L,a,w,hn,h=>by
  have hj:j≠i:=fun e=>hn (by rw[e]; exact UH ..)
  have hL:i ∉ L:=fun e=>hn (Un _ e)
  unfold wpOpsIn at h ⊢
  rw[kP ho,SI hj,tj ho] at h
  cases hoj:ops[j]? with
  | none=>rw[hoj] at h; exact ir ho L a w hL h
  | some oj=>
   rw[hoj] at h
   simp only at h ⊢
   split
   ·rename_i hw; rw[SH hw] at h; exact Oper.wpIn_mono (fun a w h=>ir ho L a w hL h) h
   ·rename_i hw; rw[SI hw] at h; exact⟨h.1,ir ho L _ _ hL h.2⟩
theorem CK {o:Oper} {d:Nat} (h:jc d o=true):o.guard=none/\(∃ e,o.dst=some e/\e≠d)/\∀ (a:Act) (v:Value),execOp (a.put (some d) v).eval o=execOp a.eval o:=by
 unfold jc at h
 simp only[Sz] at h
 obtain ⟨⟨h1,h2⟩,h3⟩:=h
 refine⟨kO h1,?_,fun a v=>?_⟩
 ·cases hd:o.dst with
  | none=>rw[hd] at h3; cases h3
  | some e=>rw[hd] at h3; exact⟨e,rfl,fun e2=>by subst e2; simp at h3⟩
 ·split at h2
  ·rename_i t x ho
   have hx:x≠d:=fun e=>by subst e; simp at h2
   unfold execOp
   rw[ho]
   simp only[Act.eval_put (a:=a) (dst:=some d) (v:=v) (x:=.tmp x) (fun e he=>by cases he; intro h; cases h; exact hx rfl)]
  ·cases h2
theorem CJ {o:Oper} {d:Nat} (h:jc d o=true) (ev:Operand->Value) (w:World):(∃ y w',(execOp ev o).run P w=.ok (.value y) w')∨(∃ x w',(execOp ev o).run P w=.halt x w'):=by
 unfold jc at h
 simp only[Sz] at h
 obtain ⟨⟨h1,h2⟩,h3⟩:=h
 split at h2
 ·rename_i t x ho
  unfold execOp
  rw[ho]
  simp only
  cases hr:(Instr.loadAt t (ev (.tmp x))).run P w with
  | ok y w'=>exact .inl ⟨y,w',by simp[hr]⟩
  | halt y w'=>exact .inr ⟨y,w',by simp[hr]⟩
 ·cases h2
theorem Ac {Q:Exit->Act->List Frame->World->Prop} {ops:Array Oper} {i0 d:Nat} {o0:Oper} {v:Value} {cs cs':List Frame} (ho:ops[i0]? = some o0) (hd:lH o0=some d) (hFa:∀ f,F.fn f) (hro:F.round=none) (hrec:recoverD cs=some (v,cs')∨(recoverD cs=none/\cs'=cs/\v=.nilIface)) {L2:List Nat} (hL2:i0 ∉ L2):∀ (L1:List Nat) (a:Act) (w:World),(∀ j∈L1,∃ o,ops[j]? = some o/\jc d o=true)->d<a.tmps.size ->
  wpOpsIn F n P (jM ops i0 d) (fun e a' w'=>match e with | .panic _=>False | e=>Q e a' cs' w') (L1++i0 :: L2) (a.put (some d) v) w->∀ (b:Frame) (k:List Item),b.kind=.deferred->b.roundOf=none->F.fn b.fn->F.room (cs.length+1+n) ->
  ∃ e a' cs2 w',cs2.length=cs.length/\Q e a' cs2 w'/\ArrivesIn (Machine.fenced P F) P (lone (b.atR a (.inRegion ops (L1++i0 :: L2) :: k)) cs w) b k cs2 e a' w'
 | [],a,w,hld,hds,h,b,k,hb,hr,hFb,hroom=>by
  obtain ⟨hdst,hgd,hrun⟩:=mN (P:=P) hd
  have hlen:cs'.length=cs.length:=by
   rcases hrec with h1 | ⟨_,rfl,_⟩
   ·exact recoverD_length h1
   ·rfl
  rw[TN] at h ⊢
  unfold wpOpsIn at h
  rw[kP ho,SH rfl] at h
  simp only at h
  rw[SH (by simp[Region.wanted,hgd])] at h
  replace h:=h.2
  rw[hro,UZ] at h
  have hev:(execOp (a.put (some d) v).eval { o0 with op:=.move (.tmp d) }).run P w=.ok (.value v) w:=by
   have:(a.put (some d) v).eval (.tmp d)=v:=eS hds
   simp[execOp,this]
  rw[hev,Oper.uponIn_value] at h
  have hpp:(a.put (some d) v).put o0.dst v=a.put (some d) v:=by
   rw[hdst]
   unfold Act.put
   simp
  rw[hpp] at h
  have h':=ir ho L2 _ w hL2 h
  obtain ⟨e,a',w',q,harr⟩:=wp_opsIn _ _ _ h' b k cs' (hr.trans hro.symm) hFb (hlen ▸ hroom)
  have hw:Region.wanted o0 (yielded ops a.tmps)=true:=by simp[Region.wanted,hgd]
  have i1:(lone (b.atR a (.inRegion ops (i0 :: L2) :: k)) cs w).fenced P F:=Wy hFb hroom ho (fun f _=>hFa f)
  have q':Q e a' cs' w':=by cases e<;>first | exact q | exact q.elim
  refine⟨e,a',cs',w',hlen,q',.of_steps (.one i1 (VC ?_)) harr⟩
  have hg:=stepGR_op (P:=P) (b:=b) (k:=k) (cs:=cs) (w:=w) (rest:=L2) ho hw
  rw[hr,UZ] at hg
  have hfin:∀ v,(b.atR a (.inRegion ops (i0 :: L2) :: k)).finish v=b.atR (a.put o0.dst v) (.inRegion ops L2 :: k):=by
   intro v; rw[V2,ho]; rfl
  have hk:(b.atR a (.inRegion ops (i0 :: L2) :: k)).kind=.deferred:=hb
  have htr:=Ws hk cs
  rw[hg,<-hdst,<-hfin]
  simp only[Frame.atR,hr] at htr ⊢
  rcases hrec with h1 | ⟨h1,rfl,rfl⟩
  ·simp[stepG.apply,hrun,htr,h1]
  ·simp[stepG.apply,hrun,htr,h1]
 | j :: L1,a,w,hld,hds,h,b,k,hb,hr,hFb,hroom=>by
  obtain ⟨oj,hoj,hlo⟩:=hld j (UH ..)
  obtain ⟨hgd,⟨e0,hde,hne⟩,hsame⟩:=CK hlo
  have hji:j≠i0:=fun e=>by
   subst e
   rw[ho] at hoj; cases hoj
   unfold lH at hd
   unfold jc at hlo
   split at hd
   ·rename_i c hc; rw[hc] at hlo; simp at hlo
   ·cases hd
  rw[Tg] at h ⊢
  unfold wpOpsIn at h
  rw[kP ho,SI hji,hoj] at h
  simp only at h
  rw[SH (by simp[Region.wanted,hgd])] at h
  replace h:=h.2
  rw[hro,UZ,hsame] at h
  have hw:Region.wanted oj (yielded ops a.tmps)=true:=by simp[Region.wanted,hgd]
  rcases CJ (P:=P) hlo a.eval w with ⟨y,w1,hrun⟩ | ⟨x,w1,hrun⟩
  ·rw[hrun,Oper.uponIn_value,hde,Act.put_comm a v y (fun e he=>by cases he; intro h; cases h; exact hne rfl),<-hde] at h
   obtain ⟨e,a',cs2,w2,hl2,q,harr⟩:=Ac ho hd hFa hro hrec hL2 L1 (a.put oj.dst y) w1 (fun j hj=>hld j (Un _ hj)) (by rw[Act.pe]; exact hds) h b k hb hr hFb hroom
   have i1:(lone (b.atR a (.inRegion ops (j :: (L1++i0 :: L2)) :: k)) cs w).fenced P F:=Wy hFb hroom hoj (fun f _=>hFa f)
   refine⟨e,a',cs2,w2,hl2,q,.of_steps (.one i1 (VC ?_)) harr⟩
   have hg:=stepGR_op (P:=P) (b:=b) (k:=k) (cs:=cs) (w:=w) (rest:=L1++i0 :: L2) hoj hw
   rw[hr,UZ] at hg
   have hfin:∀ v,(b.atR a (.inRegion ops (j :: (L1++i0 :: L2)) :: k)).finish v=b.atR (a.put oj.dst v) (.inRegion ops (L1++i0 :: L2) :: k):=by
    intro v; rw[V2,hoj]; rfl
   rw[hg,<-hfin]
   simp[stepG.apply,hrun]
  ·rw[hrun] at h
   cases x<;>exact h.elim
theorem pv {Q:Exit->Act->List Frame->World->Prop} {a:Act} {cs cs':List Frame} {w:World} {id i0 d:Nat} {ops:Array Oper} {o0:Oper} {v:Value} (hm:P.follows .mixedOrders=true) (ho:ops[i0]? = some o0) (hd:lH o0=some d) (hna:o0.after=#[]) (hok:GK ops i0 d=true) (hFa:∀ f,F.fn f) (hro:F.round=none) (hds:d<a.tmps.size)
  (hrec:recoverD cs=some (v,cs')∨(recoverD cs=none/\cs'=cs/\v=.nilIface)) (h:LW F n P (jM ops i0 d) (fun e a' w'=>match e with | .panic _=>False | e=>Q e a' cs' w') (a.put (some d) v) w):(Code.region id ops true).wpSIn F n P Q a cs w:=by
 intro b k hb hr hFb hroom
 have h:=h (w.tape w.drawn (.order b.fn id))
 have hs:∀ (ops:Array Oper) t,Region.schedule (P.follows .mixedOrders) ops t=Region.linearise.go .any ops ops.size t (Array.replicate ops.size false) []:=fun ops t=>by
  simp only[Region.schedule,hm,Wu,Vd]; rfl
 have hsz:(Array.replicate ops.size false).size=ops.size:=r8
 have hrep:∀ i,(Array.replicate ops.size false).getD i false=false:=fun i=>by
  by_cases hi:i<ops.size<;>simp[hi]
 have hi0:=(SE.1 ho).1
 have i0l:(lone (b.atR a (.code (.region id ops true) :: k)) cs w).fenced P F:=V8 hFb hroom rfl
 have hL:=hs ops (w.tape w.drawn (.order b.fn id))
 have hL':Region.schedule (P.follows .mixedOrders) (jM ops i0 d) (w.tape w.drawn (.order b.fn id))=Region.schedule (P.follows .mixedOrders) ops (w.tape w.drawn (.order b.fn id)):=by
  have:=xd (d:=d) ho (w.tape w.drawn (.order b.fn id))
  simp only[Region.schedule,hm,Wu,Vd]
  exact this
 rw[hL'] at h
 have hmem:i0∈Region.schedule (P.follows .mixedOrders) ops (w.tape w.drawn (.order b.fn id)):=by
  rw[hL]
  refine Cw ho (fun e he _=>by rw[hna] at he; simp at he) _ _ _ hsz ?_ (by simp[hi0])
  unfold Ak
  exact SZ (Vu _ _) r8
 obtain ⟨L1,L2,hLe,hn1⟩:=List.eq_append_cons_of_mem hmem
 have hn2:i0 ∉ L2:=zI _ _ _ L1 L2 hsz (hL ▸ hLe)
 have hgo:Region.linearise.go .any ops ops.size (w.tape w.drawn (.order b.fn id)) (Array.replicate ops.size false) []=L1++i0 :: L2:=hL ▸ hLe
 have hload:∀ (p:Nat) (j:Nat),L1[p]? = some j->∃ o,ops[j]? = some o/\jc d o=true:=by
  intro p
  induction p using Nat.strongRecOn with
  | _ p ih=>
   intro j hp
   have hjm:j∈L1:=S1 hp
   obtain ⟨o,hoj⟩:=zJ _ _ _ j (hgo ▸ List.mem_append_left _ hjm)
   have hjs:=(SE.1 hoj).1
   have hck:=SJ.1 hok j (S6.2 hjs)
   rw[hoj] at hck
   simp only[TK] at hck
   rcases hck with h1 | h1 | h1
   ·exact absurd (SM h1 ▸ hjm) hn1
   ·exact⟨o,hoj,h1⟩
   ·exfalso
    obtain ⟨q,hq1,hq2⟩:=Array.any_eq_true.1 h1
    rw[Sz,Tn] at hq2
    obtain ⟨hp1,hpe⟩:=SB.1 hp
    have hsplit:L1++i0 :: L2=L1.take p++j :: (L1.drop (p+1)++i0 :: L2):=by
     rw[<-Tg,<-hpe,<-SU hp1,<-Tt,T3]
    rcases Cv _ _ _ (L1.take p) j _ (hgo.trans hsplit) o o.after[q] hoj (Array.getElem_mem _) hq2.1 with h2 | h2
    ·rw[hrep] at h2; cases h2
    ·obtain ⟨x,hx,hxe⟩:=Tu h2
     rw[List.getElem_take] at hxe
     have hxp:x<p:=by rw[Tz] at hx; omega
     obtain ⟨o',ho',hl'⟩:=ih x hxp o.after[q].on (by rw[<-hxe]; exact Sx _)
     unfold w9 at hq2
     rw[ho'] at hq2
     simp only at hq2
     rw[hl'] at hq2
     exact absurd hq2.2 r8
 rw[hLe] at h
 obtain ⟨e,a',cs2,w2,hl,q,harr⟩:=Ac ho hd hFa hro hrec hn2 L1 a _ (fun j hj=>by
  obtain ⟨p,hp,hpe⟩:=Tu hj
  exact hload p j (by rw[<-hpe]; exact Sx hp)) hds h b k hb hr hFb hroom
 refine⟨e,a',cs2,w2,hl,q,.of_steps (.one i0l ?_) harr⟩
 rw[<-hLe]
 exact stepR_region_draw
end
section
open Go.RowKit
variable {H H':ar} {g g':Gh} {w0 w w':World} {cx:Cx} {s:St} {a:Act} {F:Fence} {n:Nat} {N lo:Nat} {mb:Mb} {H0:ar} {gs:Gh} {ws:World}
theorem kM (fr:List (Nat×A)) (keep:List Nat) (t:Nat):look (keep.map fun t=>(t,look fr t)) t=look fr t∨look (keep.map fun t=>(t,look fr t)) t=.any:=by
 induction keep with
 | nil=>exact .inr rfl
 | cons u ks ih=>
  rw[TS,dI]
  split
  ·rename_i e; rw[e]; exact .inl rfl
  ·exact ih
theorem vy (fr:List (Nat×A)) (keep:List Nat) (t:Nat) (ht:look (keep.map fun t=>(t,look fr t)) t≠.any):t∈keep:=by
 induction keep with
 | nil=>exact absurd rfl ht
 | cons u ks ih=>
  rw[TS,dI] at ht
  split at ht
  ·rename_i e; subst e; simp
  ·exact Un _ (ih ht)
theorem Good.dh (hg:Good cx N mb lo H0 gs ws w0 s g a w) {keep:List Nat}:Good cx N mb lo H0 gs ws w0 (dh keep s) g a w:=
 ⟨⟨hg.sr.rel,fun t=>by
  show VR s.H g w (look (keep.map fun t=>(t,look s.fr t)) t) _
  rcases kM s.fr keep t with h | h
  ·rw[h]; exact hg.sr.fr t
  ·rw[h,VR]; trivial,hg.sr.gl⟩,hg.ext,hg.len,hg.low,hg.siz,hg.dfr,hg.mbw,hg.st⟩
theorem Good.CZ (hg:Good cx N mb lo H0 gs ws w0 s g a w) {keep:List Nat} {L:Nat} (hL:H0.length<=L) (hLs:L<=s.H.length) {k:St->Option R} {r:R} (h:xe keep L s k=some r):∃ s' g',k s'=some r/\Good cx N mb lo H0 gs ws w0 s' g' a w/\s'.H.length=L:=by
 unfold xe at h
 obtain ⟨H',h1,h⟩:=bn h
 obtain ⟨h2,h⟩:=bc h
 have kM:=kM s.fr keep
 have vy:=vy s.fr keep
 unfold trim at h1
 rw[bp] at h1
 split at h1
 ·rename_i hl
  have hl:s.H.length=L:=by simpa using hl
  cases h1
  refine⟨_,g,h,⟨⟨hg.sr.rel,fun t=>?_,hg.sr.gl⟩,hg.ext,hg.len,hg.low,hg.siz,hg.dfr,hg.mbw,hg.st⟩,hl⟩
  rcases kM t with h | h
  ·rw[h]; exact hg.sr.fr t
  ·rw[h,VR]; trivial
 ·rename_i hl
  obtain ⟨hall,h1⟩:=bc h1
  cases h1
  have hl:¬ s.H.length=L:=by simpa using hl
  have hk:keep.all (fun t=>A.under L (look s.fr t))=true:=by
   have hb:Nat.beq s.H.length L=false:=by
    cases hb:Nat.beq s.H.length L with
    | true=>exact absurd (SM hb) hl
    | false=>rfl
   rw[hb] at h2
   exact mK _ _ _ h2
  have hu:∀ (b:Nat) B,b<L->s.H[b]? = some B->B.under L=true:=fun b B hb hB=>by
   refine SJ.1 hall B (S1 (i:=b) ?_)
   rw[SS,SH hb]; exact hB
  obtain ⟨r1,ag⟩:=hg.sr.rel.cut hLs hu
  refine⟨_,g.cut L,h,⟨⟨r1,fun t=>?_,fun G vs hG=>(hg.sr.gl G vs hG).to ag⟩,hg.ext.cut hL,H6,fun b hb hb'=>by rw[SS,SH o3]; exact hg.low b hb hb',hg.siz,hg.dfr,hg.mbw,hg.st⟩,H6⟩
  rcases kM t with h | h
  ·rw[h]
   by_cases hany:look s.fr t=.any
   ·rw[hany,VR]; trivial
   ·have htk:=vy t (by rw[h]; exact hany)
    exact VR.to ag _ _ (SJ.1 hk t htk) (hg.sr.fr t)
  ·rw[h,VR]; trivial
theorem rF (lo:Nat):∀ (ps:List (Nat×Nat×Nat)) {s:St} {g:Gh},Good cx N mb lo H0 gs ws w0 s g a w->∃ g',Good cx N mb lo H0 gs ws w0 (dB lo (yA ps) s) g' a w/\(dB lo (yA ps) s).H.length=s.H.length
 | [],s,g,h=>⟨g,h,rfl⟩
 | p :: ps,s,g,h=>by
  unfold yA
  split
  ·rename_i he
   obtain ⟨g',h1,_,h2⟩:=h.nK p
   obtain ⟨g'',h3,h4⟩:=rF lo ps h1
   exact⟨g'',h3,h4.trans (h2 he)⟩
  ·exact rF lo ps h
theorem Good.norm (hg:Good cx N mb lo H0 gs ws w0 s g a w) {keep:List Nat} {acts:List (Nat×Nat×Nat)} {n L:Nat} (hL:H0.length<=n) (hnL:n<=L) (hr:xw acts≠none->n+1<=L) (hLs:L<=s.H.length) {k:St->Option R} {r:R} (h:CY lo keep acts L s k=some r):∃ s' g',k s'=some r/\Good cx N mb lo H0 gs ws w0 s' g' a w/\s'.H.length=L:=by
 obtain ⟨g',h1,h2⟩:=rF lo acts hg
 unfold CY at h
 split at h
 ·exact h1.CZ o3 o3 h
 ·rename_i p hp
  have hr:n+1<=L:=hr (by rw[hp]; exact Option.some_ne_none p)
  unfold GF at h
  rw[bp] at h
  split at h
  ·obtain ⟨s2,g2,h3,h4,h5⟩:=h1.CZ (L:=L - 1) o3 o3 h
   obtain ⟨h6,h3⟩:=bc h3
   obtain ⟨g3,h7,_,_⟩:=h4.nK p
   exact⟨_,g3,h3,h7.dh,SM h6⟩
  ·exact h1.CZ o3 o3 h
theorem pN {p:Prop} {a b:Code} (h:p∨(iV a&&iV b)=true):(p∨iV a=true)/\(p∨iV b=true):=by
 rcases h with h | h
 ·exact⟨.inl h,.inl h⟩
 ·rw[Sz] at h; exact⟨.inr h.1,.inr h.2⟩
def qt (cx:Cx) (rg:aU->aU):Prop:=∀ (Bs:ar->Gh->World->Prop) (base:aU),ox cx Bs base->dz cx Bs (rg base)
theorem AJ {P:Program} {x:A} {v:Value} {gf:Nat} {cap:List A} (h:Hq P x=some (gf,cap)) (hv:VR H g w x v):cp P gf=true/\∃ es:Array Value,v=.func (.func gf) #[] es/\bl H g w cap es.toList:=by
 unfold Hq at h
 split at h
 ·obtain ⟨h1,h⟩:=bc h
  cases h
  rw[VR] at hv
  obtain ⟨ds,es,e1,e2,e3⟩:=hv
  rw[bl] at e2
  have:ds=#[]:=by apply Uz; simpa using e2
  subst this
  exact⟨h1,es,e1,e3⟩
 ·cases h
theorem oI {P:Program} {k:Nat} (hk:cp P k=true) (args:Array Value) (w:World):(callFunc k args).run P w=.ok (.enter k args) w:=by
 unfold cp at hk
 cases hf:P.funcs[k]? with
 | none=>rw[hf] at hk; cases hk
 | some fn=>
  rw[hf] at hk
  simp only[Sz,Tn] at hk
  have h1:¬ fn.body=none:=by intro hb; rw[hb] at hk; simp at hk
  have h2:¬ fn.name = "runtime.NumGoroutine" := by simpa using hk.2
  simp[callFunc,program,Sem.run,hf,h1,h2]
theorem gz {P:Program} {b:Frame} {a:Act} {k:List Item} {cs:List Frame} {w:World} {c:Code}:step P (lone (b.atR a (.code (.scope c) :: k)) cs w)=.next (lone (b.atR a (.code c :: .inScope c :: k)) cs w):=
 VC (by simp[stepG,stepG.exec,Frame.atR])
theorem th {P:Program} {b:Frame} {a:Act} {k:List Item} {cs:List Frame} {w:World} {c:Code}:step P (lone (b.atR a (.inScope c :: k)) cs w)=.next (lone (b.atR a k) cs w):=
 VC (by simp[stepG,stepG.exec,Frame.atR])
theorem yZ {F:Fence} {n:Nat} {P:Program} {a:Act} {w:World} {Q:Exit->Act->World->Prop} {c:Code} (h:c.wpIn F n P (fun e a w=>match e with | .goto _=>False | e=>Q e a w) a w):(Code.scope c).wpIn F n P Q a w:=by
 intro b k cs hro hb hr
 have h0:(lone (b.atR a (.code (.scope c) :: k)) cs w).fenced P F:=V8 hb hr rfl
 obtain ⟨e,a₁,w₁,hq,harr⟩:=h b (.inScope c :: k) cs hro hb hr
 cases e with
 | normal=>exact⟨.normal,a₁,w₁,hq,.head h0 gz (StepsIn.trans harr (.one (V8 hb hr rfl) th))⟩
 | exit id'=>
  have hx:exitTo id' (.inScope c :: k)=exitTo id' k:=by simp[exitTo]
  exact⟨.exit id',a₁,w₁,hq,fun k' hk=>.head h0 gz (harr.1 k' (by rw[hx]; exact hk)),
   fun hr' hk=>let ⟨k₁,h1,h2⟩:=harr.2 hr' (by rw[hx]; exact hk); ⟨k₁,h1,.head h0 gz h2⟩⟩
 | goto l=>exact hq.elim
 | ret=>exact⟨_,a₁,w₁,hq,.of_steps (.one h0 gz) harr⟩
 | panic ch=>exact⟨_,a₁,w₁,hq,.of_steps (.one h0 gz) harr⟩
 | outgrown=>exact⟨_,a₁,w₁,hq,.of_steps (.one h0 gz) harr⟩
theorem oS {Bs:ar->Gh->World->Prop} {call:aU} (hcall:dz cx Bs call) (hb0:Bs H0 gs ws) (horc:jr cx) {F:Fence} {n:Nat} (hF:fP F) (hmx:cx.P.follows .mixedOrders=true) {f:Nat} {ops:Array Oper} {k:E->St->Option R} {r:R} {Q:Exit->Act->World->Prop}
  (hg:Good cx N mb lo H0 gs ws w0 s g a w) (h:vd cx call f lo N ops s k=some r)
  (hk:∀ s' g' a' w',Good cx N mb lo H0 gs ws w0 s' g' a' w'->k .normal s'=some r->Q .normal a' w')
  (hp:∀ x s' g' a' w' c,Good cx N mb lo H0 gs ws w0 s' g' a' w'->VR s'.H g' w' x c->k (.pan x) s'=some r->Q (.panic [{ v:=c,recovered:=false }]) a' w'):LW F n cx.P ops Q a w:=by
 unfold vd at h
 obtain ⟨hd,h⟩:=bc h
 have hd':∀ o∈ops.toList,∀ d,o.dst=some d->d<N:=fun o ho d hod=>by
  have:=SJ.1 hd o ho
  rw[hod] at this; simpa using this
 cases hci:Hf cx ops with
 | some c=>
  rw[hci] at h
  exact(wK (f:=f) hcall hb0 horc hF hmx hg hd' h hk hp)
 | none=>
 rw[hci] at h
 replace h:=bc h
 obtain ⟨lj,h⟩:=h
 replace h:=bn h
 obtain ⟨m,hm,h⟩:=h
 have hmt:eV ops m=true:=by
  unfold pV at hm
  exact List.find?_some hm
 rw[bp] at h
 split at h
 ·have htk:∀ j o,(ops.toList.take m)[j]? = some o->ops[0+j]? = some o:=fun j o ho=>by
   rw[SS] at ho
   split at ho
   ·rw[Th]; rw[Tc] at ho; exact ho
   ·cases ho
  have hm2:m<=ops.size:=by
   simp only[eV,Sz,SG] at hmt
   exact hmt.1.1
  have htl:(ops.toList.take m).length=m:=by rw[Tz]; simp; omega
  rw[bp] at h
  split at h
  ·rename_i hch
   exact(nC (f:=f) (m:=m) hcall hb0 horc hF hmx lj hmt (fun i j h1 h2 h3 h4 _ _=>yi hch h1 h2 h3 h4) IJ.none hg hd' (fun s h=>g8 _ _ _ h) h hk hp)
  obtain ⟨hch,h⟩:=bc h
  obtain ⟨fl,H1,h,hfl,_,hno⟩:=nL (ops:=ops) (m:=m) (ops.toList.take m) 0 s.H _ htk o3 h
  have hnf:∀ {i},i<m->cC i fl=none->rO cx f ops i=false:=fun {i} hi hn=>hno i hn (Tk _) o3
  exact(nC (f:=f) (m:=m) hcall hb0 horc hF hmx lj hmt (fun i j h1 h2 h3 h4 h5 h6=>wA hch h1 h2 h3 h4 (hnf o3 h5) (hnf h1 h6)) hfl hg hd' (fun s h=>g8 _ _ _ h) h hk hp)
 exact(u0 (f:=f) (m:=m) hcall hb0 horc hF hmx lj hmt hg hd' (nP (fun s h=>g8 _ _ _ h) (pJ _ _ _ h)) hk hp)
theorem c7 {Bs:ar->Gh->World->Prop} {call:aU} {rg:aU->aU} (hcall:dz cx Bs call) (hrg:qt cx rg) (horc:jr cx) (hmx:cx.P.follows .mixedOrders=true) {nf f:Nat}:∀ (c:Code) (F:Fence) (n:Nat) (mb:Mb) (w0:World) (r:R) (H0:ar) (gs:Gh) (ws:World) (k:E->St->Option R) (Q:Exit->Act->World->Prop) (s:St) (g:Gh) (a:Act) (w:World),fP F->((F.round=none/\mb.free=true)∨iV c=true)->Bs H0 gs ws->Good cx N mb lo H0 gs ws w0 s g a w->ou cx call rg nf f lo N c s k=some r ->
  (∀ e e' s' g' a' w',Good cx N mb lo H0 gs ws w0 s' g' a' w'->ER s' g' w' e e'->k e s'=some r->Q e' a' w')->c.wpIn F n cx.P Q a w
 | .skip,F,n,mb,w0,r,H0,gs,ws,k,Q,s,g,a,w,hF,hro,hb0,hg,h,hk=>wpIn_skip (hk .normal .normal _ _ _ _ hg trivial h)
 | .label l,F,n,mb,w0,r,H0,gs,ws,k,Q,s,g,a,w,hF,hro,hb0,hg,h,hk=>wpIn_label (hk .normal .normal _ _ _ _ hg trivial h)
 | .region id ops draw,F,n,mb,w0,r,H0,gs,ws,k,Q,s,g,a,w,hF,hro,hb0,hg,h,hk=>by
  rw[ou] at h
  obtain ⟨s,g1,hg,h⟩:=Good.CH _ hg h
  replace h:=bc h
  obtain ⟨hd,h⟩:=h
  have hd':∀ o∈ops.toList,∀ d,o.dst=some d->d<N:=fun o ho d hod=>by
   have:=SJ.1 hd o ho
   rw[hod] at this; simpa using this
  cases draw with
  | false=>
   exact wpIn_region_list (fq (f:=f) (ops:=ops) hcall hb0 horc hF (fun s' g' a' w' hg' h'=>hk .normal .normal _ _ _ _ hg' trivial h') (fun x s' g' a' w' c hg' hv h'=>hk (.pan x) (.panic _) _ _ _ _ hg' ⟨c,rfl,hv⟩ h') _ s g1 a w hd' hg (g8 _ _ _ h))
  | true=>
   simp only[SC] at h
   refine(oS (f:=f) hcall hb0 horc hF hmx hg (k:=k) ?_ (fun s' g' a' w' hg' h'=>hk .normal .normal _ _ _ _ hg' trivial h') (fun x s' g' a' w' c hg' hv h'=>hk (.pan x) (.panic _) _ _ _ _ hg' ⟨c,rfl,hv⟩ h')).wpIn
   unfold vd
   rw[hd]
   exact h
 | .seq x y,F,n,mb,w0,r,H0,gs,ws,k,Q,s,g,a,w,hF,hro,hb0,hg,h,hk=>by
  rw[ou] at h
  cases hj:cx.join f (vu x) with
  | cons j js=>
   rw[hj] at h
   obtain ⟨r0,h0,h⟩:=bn (show ((ou cx call rg nf f lo N x s (Gs (j :: js))).bind fun r=>Kv r fun l H=>Fv (j :: js) l fun fr=>ou cx call rg nf f lo N y ⟨fr,H⟩ k)=some r from h)
   refine WA (c7 hcall hrg horc hmx x F n mb w0 r0 H0 gs ws _ _ s g a w hF (pN hro).1 hb0 hg h0 fun e e' s' g' a' w' hg' he h'=>?_)
   cases e with
   | normal=>
    have hr:(Out.ret (.tup ((j :: js).map (look s'.fr))),s'.H)=r0:=Vh h'
    subst hr
    have h2:Fv (j :: js) ((j :: js).map (look s'.fr)) (fun fr=>ou cx call rg nf f lo N y ⟨fr,s'.H⟩ k)=some r:=h
    rw[Aj] at h2
    cases e'<;>first
     | exact c7 hcall hrg horc hmx y F n mb w0 r H0 gs ws k Q (dh (j :: js) s') g' a' w' hF (pN hro).2 hb0 hg'.dh h2 hk
     | exact he.elim
   | _=>cases h'
  | nil=>
  rw[hj] at h
  replace h:ou cx call rg nf f lo N x s (fun e s'=>match e with | .normal=>ou cx call rg nf f lo N y s' k | e=>k e s')=some r:=h
  refine WA (c7 hcall hrg horc hmx x F n mb w0 r H0 gs ws _ _ s g a w hF (pN hro).1 hb0 hg h fun e e' s' g' a' w' hg' he h'=>?_)
  cases e with
  | normal=>cases e'<;>first
    | exact c7 hcall hrg horc hmx y F n mb w0 r H0 gs ws k Q s' g' a' w' hF (pN hro).2 hb0 hg' h' hk
    | exact he.elim
  | exit i=>cases e'<;>first
    | exact hk _ _ _ _ _ _ hg' he h'
    | exact he.elim
  | goto i=>cases e'<;>first
    | exact hk _ _ _ _ _ _ hg' he h'
    | exact he.elim
  | ret=>cases e'<;>first
    | exact hk _ _ _ _ _ _ hg' he h'
    | exact he.elim
  | pan x=>cases e'<;>first
    | exact hk _ _ _ _ _ _ hg' he h'
    | exact he.elim
 | .cond c x y,F,n,mb,w0,r,H0,gs,ws,k,Q,s,g,a,w,hF,hro,hb0,hg,h,hk=>by
  rw[ou] at h
  obtain ⟨b,hv,h⟩:=Ax h (od (x:=c) (fun t _=>hg.sr.fr t) hg.sr.gl)
  refine wpIn_cond hv ?_
  cases b
  ·exact c7 hcall hrg horc hmx y F n mb w0 r H0 gs ws k Q s g a w hF (pN hro).2 hb0 hg h hk
  ·exact c7 hcall hrg horc hmx x F n mb w0 r H0 gs ws k Q s g a w hF (pN hro).1 hb0 hg h hk
 | .block id c,F,n,mb,w0,r,H0,gs,ws,k,Q,s,g,a,w,hF,hro,hb0,hg,h,hk=>by
  rw[ou] at h
  refine wpIn_block (c7 hcall hrg horc hmx c F n mb w0 r H0 gs ws _ _ s g a w hF hro hb0 hg h fun e e' s' g' a' w' hg' he h'=>?_)
  cases e with
  | exit i=>cases e' with
   | exit j=>
    obtain rfl:i=j:=he
    simp only[Exit.inBlock]
    simp only[bp] at h'
    split at h'
    ·rename_i hij
     rw[SH (by simpa using hij)]
     exact hk .normal .normal _ _ _ _ hg' trivial h'
    ·rename_i hij
     rw[SI (by simpa using hij)]
     exact hk (.exit i) (.exit i) _ _ _ _ hg' rfl h'
   | _=>exact he.elim
  | normal=>cases e'<;>first
    | exact hk _ .normal _ _ _ _ hg' he h'
    | exact he.elim
  | goto i=>cases e'<;>first
    | exact hk _ (.goto _) _ _ _ _ hg' he h'
    | exact he.elim
  | ret=>cases e'<;>first
    | exact hk _ .ret _ _ _ _ hg' he h'
    | exact he.elim
  | pan x=>cases e'<;>first
    | exact hk _ (.panic _) _ _ _ _ hg' he h'
    | exact he.elim
 | .scope c,F,n,mb,w0,r,H0,gs,ws,k,Q,s,g,a,w,hF,hro,hb0,hg,h,hk=>by
  rw[ou] at h
  have hro':(F.round=none/\mb.free=true)∨iV c=true:=by
   rcases hro with h1 | h1
   ·exact .inl h1
   ·cases h1
  refine yZ (c7 hcall hrg horc hmx c F n mb w0 r H0 gs ws _ _ s g a w hF hro' hb0 hg h fun e e' s' g' a' w' hg' he h'=>?_)
  cases e with
  | exit i=>cases e'<;>first
    | exact hk _ (.exit _) _ _ _ _ hg' he h'
    | exact he.elim
  | normal=>cases e'<;>first
    | exact hk _ .normal _ _ _ _ hg' he h'
    | exact he.elim
  | goto i=>cases h'
  | ret=>cases e'<;>first
    | exact hk _ .ret _ _ _ _ hg' he h'
    | exact he.elim
  | pan x=>cases e'<;>first
    | exact hk _ (.panic _) _ _ _ _ hg' he h'
    | exact he.elim
 | .loop c,F,n,mb,w0,r,H0,gs,ws,k,Q,s,g,a,w,hF,hro,hb0,hg,h,hk=>by
  rw[ou] at h
  unfold DI at h
  have hrst:=qT lo (cx.acts f (bL c)) (dh (cx.keep f (bL c)) s)
  obtain ⟨g0,hg0,hl0⟩:=hg.dh (keep:=cx.keep f (bL c)) |>.acts (cx.acts f (bL c))
  have rounds:∀ (m:Nat) (s':St) (g':Gh) (a':Act) (w':World),Good cx N mb lo H0 gs ws w0 s' g' a' w'->(dB lo (cx.acts f (bL c)) (dh (cx.keep f (bL c)) s)).H.length<=s'.H.length->iter lo (cx.keep f (bL c)) (cx.acts f (bL c)) (dB lo (cx.acts f (bL c)) (dh (cx.keep f (bL c)) s)).H.length (fun s k=>ou cx call rg nf f lo N c s k) (fun i s=>k (.exit i) s) (fun l s=>k (.goto l) s) (fun s=>k .ret s) (fun a s=>k (.pan a) s) m s'=some r->Code.roundsIn F n cx.P c Q m a' w':=by
   intro m
   induction m with
   | zero=>intro s' g' a' w' _ _ h; cases h
   | succ m ih=>
    intro s1 g1 a' w' hg1 hl h
    rw[iter] at h
    rw[roundsIn_succ]
    refine c7 hcall hrg horc hmx c F n mb w0 r s1.H g1 w' _ _ s1 g1 a' w' hF hro (hcall.up _ _ _ _ _ _ hb0 hg1.ext) ⟨hg1.sr,Ext.refl hg1.sr.rel,Sy _,fun _ _ _=>rfl,hg1.siz,hg1.dfr,hg1.mbw,rfl⟩ h fun e e' s2 g2 a2 w2 hg2 he h2=>?_
    have hg3:Good cx N mb lo H0 gs ws w0 s2 g2 a2 w2:=⟨hg2.sr,hg1.ext.trans hg2.ext,SZ hg1.len hg2.len,fun b hb hb'=>(hg2.low b hb (SQ hb' hg1.len)).trans (hg1.low b hb hb'),hg2.siz,hg2.dfr,hg2.mbw,hg2.st.trans hg1.st⟩
    have hlen2:(dB lo (cx.acts f (bL c)) (dh (cx.keep f (bL c)) s)).H.length<=s2.H.length:=by have:=hg2.len; omega
    have hg4:Good cx N mb lo H0 gs ws w0 (dh (cx.keep f (bL c)) s2) g2 a2 w2:=hg3.dh
    cases e with
    | normal=>cases e'<;>first
      | (obtain ⟨s3,g3,h3,hg5,hl5⟩:=hg3.norm hg.len hl0 hrst hlen2 h2
         exact ih s3 g3 a2 w2 hg5 o3 h3)
      | exact he.elim
    | exit i=>cases e'<;>first
      | exact hk (.exit i) (.exit _) _ _ _ _ hg4 he h2
      | exact he.elim
    | goto i=>cases e'<;>first
      | exact hk (.goto i) (.goto _) _ _ _ _ hg4 he h2
      | exact he.elim
    | ret=>cases e'<;>first
      | exact hk .ret .ret _ _ _ _ hg4 he h2
      | exact he.elim
    | pan x=>cases e'<;>first
      | exact hk (.pan x) (.panic _) _ _ _ _ hg4 he h2
      | exact he.elim
  exact wpIn_loop_rounds nf (rounds nf (dh (cx.keep f (bL c)) (dB lo (cx.acts f (bL c)) (dh (cx.keep f (bL c)) s))) g0 a w hg0.dh (Sy _) h)
 | .exit id,F,n,mb,w0,r,H0,gs,ws,k,Q,s,g,a,w,hF,hro,hb0,hg,h,hk=>wpIn_exit (hk (.exit id) (.exit id) _ _ _ _ hg rfl h)
 | .goto l,F,n,mb,w0,r,H0,gs,ws,k,Q,s,g,a,w,hF,hro,hb0,hg,h,hk=>wpIn_goto (hk (.goto l) (.goto l) _ _ _ _ hg rfl h)
 | .ret,F,n,mb,w0,r,H0,gs,ws,k,Q,s,g,a,w,hF,hro,hb0,hg,h,hk=>wpIn_ret (hk .ret .ret _ _ _ _ hg trivial h)
 | .rangeFunc gop ps asg body,F,n,mb,w0,r,H0,gs,ws,k,Q,s,g,a,w,hF,hro,hb0,hg,h,hk=>by
  rw[ou] at h
  unfold mP at h
  obtain ⟨g,hg,_⟩:=hg.acts (cx.acts f (yT body))
  generalize dB lo (cx.acts f (yT body)) s=s at h hg
  obtain ⟨⟨gf,cap⟩,hfn,h⟩:=bn h
  obtain ⟨lj,h⟩:=bc h
  obtain ⟨⟨out,H2⟩,hcl,h⟩:=bn h
  simp only[Sz] at lj
  obtain ⟨⟨⟨c2,c3⟩,c4⟩,c1⟩:=lj
  have hlo:lo<=s.H.length:=by simpa [Vm] using c1
  obtain ⟨hro,hfree⟩:F.round=none/\mb.free=true:=hro.elim id (fun h=>by cases h)
  obtain ⟨hcb,es,hgv,hcv⟩:=AJ hfn (od (x:=gop) (fun t _=>hg.sr.fr t) hg.sr.gl)
  refine wpIn_rangeFunc ?_
  intro fn hfnF
  rw[hro]
  obtain ⟨rec0,hrec⟩:∃ rec0:Loop,rec0={ state:=.ready,pending:=none,fn:=fn,tmps:=a.tmps,params:=ps,assign:=asg,body:=body,defers:=w.heap.size }:=⟨_,rfl⟩
  have hrr:iH rec0 .ready=rec0:=by rw[hrec]; rfl
  obtain ⟨W1,hW1⟩:∃ W1,(w.alloc (.deferred (some []))).alloc (.loop rec0)=W1:=⟨_,rfl⟩
  obtain ⟨hr1,he1⟩:=hg.sr.rel.begin rec0 hrr
  rw[hW1] at hr1 he1
  obtain ⟨g1,hg1⟩:∃ g1,(g.zS s.H.length rec0).put s.H.length (some (w.heap.size+1)) []=g1:=⟨_,rfl⟩
  have hmu1:g1.mu s.H.length=some (w.heap.size+1):=by rw[<-hg1]; exact Gh.bq _ _ _ _
  have hlr1:g1.lr s.H.length=rec0:=by rw[<-hg1]; simp[Gh.put,Gh.zS]
  have hst1:g1.S=g.S:=by rw[<-hg1]; rfl
  rw[hg1] at hr1 he1
  have hB1:(s.H++[aD.rng .ready])[s.H.length]? = some (.rng .ready):=r8
  have hsz1:W1.heap.size=w.heap.size+2:=by rw[<-hW1]; simp
  have hD1:W1.heap[w.heap.size]? = some (.deferred (some [])):=by
   rw[<-hW1]; exact(Below.heap_alloc _ _ _ r8).trans (VA w _)
  have hfr1:∀ t,VR s.H g w (look (dh (cx.keep f (yT body)) s).fr t) (a.tmps.getD t undef):=fun t=>(hg.dh (keep:=cx.keep f (yT body))).sr.fr t
  have hy:ox cx (fun H g w=>Bs H g w/\Ext (s.H++[.rng .ready]) g1 W1 H g w) (Ij cx.P.funcs.size call s.H.length (roundOf (fun s k=>ou cx call rg nf f lo N asg s k) (fun s k=>ou cx call rg nf f lo N body s k) lo s.H.length ps.toList (dh (cx.keep f (yT body)) s).fr)):=by
   refine⟨fun H g w H' g' w' hb he=>⟨hcall.up _ _ _ _ _ _ hb.1 he,hb.2.trans he⟩,fun b args H lo' r' hy F' n' l g' w0' w' cargs hF' hb hr' hgl' hv' hmu'=>?_⟩
   unfold Ij at hy
   rw[bp] at hy
   split at hy
   ·rename_i hbb
    have hbb:b=s.H.length:=by have:=SM hbb; omega
    subst hbb
    have hB':∃ st,H[s.H.length]? = some (.rng st):=by
     obtain ⟨B',hB',ht⟩:=hb.2.blk _ _ hB1
     cases B' with
     | rng st=>exact⟨st,hB'⟩
     | dead=>have h1:=hr'.blk _ _ hB'; rw[show g'.mu s.H.length=none from h1] at hmu'; cases hmu'
     | box _=>exact ht.elim
     | mp _ _ _=>exact ht.elim
     | hole=>exact ht.elim
     | row wr _ _=>cases wr<;>exact ht.elim
    obtain ⟨st',hB'⟩:=hB'
    obtain ⟨m1,m2⟩:=hb.2.Ib hB1 hB'
    have hex:=he1.trans hb.2
    exact xv (rec0:=rec0) (Bs:=Bs)
     (fun F n mb w0 r H0 gs ws k Q s g a w hF hb0 hg h hk=>c7 hcall hrg horc hmx asg F n mb w0 r H0 gs ws k Q s g a w hF (.inr c3) hb0 hg h hk)
     (fun F n mb w0 r H0 gs ws k Q s g a w hF hb0 hg h hk=>c7 hcall hrg horc hmx body F n mb w0 r H0 gs ws k Q s g a w hF (.inr c4) hb0 hg h hk)
     c2 hlo (by rw[hrec]) (by rw[hrec]) (by rw[hrec]) (by rw[hrec]; exact hg.siz) hy hF' hr' hb.1 hgl' (fun t=>by rw[hrec]; exact VR.ext hex _ _ (hfr1 t)) (m2.trans hlr1) hv' hmu'
   ·exact hcall.yl b args H lo' r' hy F' n' l g' w0' w' cargs hF' hb.1 hr' hgl' hv' hmu'
  have hv1:bl (s.H++[.rng .ready]) g1 W1 (.yld s.H.length :: cap) (.func (.yield (w.heap.size+1)) #[] #[] :: es.toList):=by
   rw[bl]
   refine⟨_,_,rfl,?_,bl.ext he1 _ _ hcv⟩
   rw[VR,hB1]
   exact⟨_,hmu1,rfl⟩
  have hgl1:∀ (G:Nat) (vs:List Value),cx.glob G=some vs->bt (s.H++[.rng .ready]) g1 W1 G 0 vs:=fun G vs hG=>(hg.sr.gl G vs hG).ext he1
  have hci:=(hrg _ _ hy).fn gf _ _ lo (out,H2) (iw hcb) hcl F (n - 1) g1 w0 W1 _ hF hro ⟨hcall.up _ _ _ _ _ _ hb0 (hg.ext.trans he1),Ext.refl hr1⟩ hr1 hgl1 hv1
  refine⟨w.heap.size+1,[{ target:=.collected w.heap.size,args:=#[] }],W1,{ target:=.fn (.func gf) es,args:=#[.func (.yield (w.heap.size+1)) #[] #[]] },W1,gf,
   #[.func (.yield (w.heap.size + 1)) #[] #[]] ++ es, W1, ?_, ?_, ?_, ?_, fun h => (by rw [hF.1] at h; cases h), ?_⟩
  ·rw[<-hW1,hrec]; exact run_enterLoop_outer _ _ _ _ _
  ·simp only[resolve,hgv]
   simp[go_sem]
  ·intro f' _; exact hF.2.1 f'
  ·simp[invoke,oI hcb]
  ·have ea:(Value.func (.yield (w.heap.size+1)) #[] #[] :: es.toList).toArray=#[.func (.yield (w.heap.size+1)) #[] #[]]++es:=by apply Uz; simp
   rw[<-ea]
   refine hci.mono ?_
   rintro e W2 ⟨g2,e1,e2,e3,e4,e6,e5⟩
   cases out with
   | pan x=>cases h
   | ret x=>
    cases e with
    | panicked _=>exact e5.elim
    | outgrown=>exact e5.elim
    | returned c=>
     have fin:∀ (st:D5) (e:E),st≠.busy->H2[s.H.length]? = some (.rng st)->k e ⟨s.fr,H2.set s.H.length .dead⟩=some r ->
       ∃ W3,(Instr.endLoop (w.heap.size+1)).run cx.P W2=.ok (iH rec0 st).pending W3/\∃ g3,Good cx N mb lo H0 gs ws w0 ⟨s.fr,H2.set s.H.length .dead⟩ g3 { a with defers:={ target:=.collected w.heap.size,args:=#[] } :: a.defers } W3:=fun st e hnb hB2 h=>by
      obtain ⟨m1,m2⟩:=e2.Ib hB1 hB2
      obtain ⟨l2,hl2,hw2⟩:=e1.blk _ _ hB2
      rw[m1,hmu1] at hl2; cases hl2
      rw[m2,hlr1] at hw2
      have hel:=run_endLoop (P:=cx.P) hw2 (by cases st<;>first | (intro h; cases h; done) | exact absurd rfl hnb)
      obtain ⟨p1,p2⟩:=e1.rng hB2 .dead none (.loop { iH rec0 st with state:=.exhausted }) (m1.trans hmu1) hw2 (.inr ⟨rfl,rfl⟩)
      have hex:=he1.trans (e2.trans p2)
      have hlen:s.H.length<=H2.length:=by have:(s.H++[aD.rng .ready]).length<=H2.length:=e3; simp at this; omega
      refine⟨_,hel,_,⟨p1,fun t=>VR.ext hex _ _ (hg.sr.fr t),fun G vs hG=>(hg.sr.gl G vs hG).ext hex⟩,hg.ext.trans hex,by simp; exact SZ hg.len hlen,fun c hc hc'=>?_,hg.siz,?_,SZ hg.mbw hex.size,?_⟩
      ·have hcs:c<s.H.length:=SQ hc' hg.len
       show (H2.set s.H.length .dead)[c]? = _
       rw[SO o3,e4 c hc r9,SP hcs]
       exact hg.low c hc hc'
      ·obtain ⟨ms,q1,q2,q3⟩:=hg.dfr
       refine⟨_ :: ms,by show _ :: a.defers=_; rw[q1]; rfl,Marks.cons (q2.lC hex.kept) hg.mbw ((e2.trans p2).kept _ _ hD1) (fun r hr=>?_),fun h=>by rw[hfree] at h; cases h⟩
       have:=q2.lt hr
       omega
      ·show g2.S=gs.S
       rw[e6,hst1]; exact hg.st
     replace h:yU s.H.length H2 (fun e H=>k e ⟨s.fr,H⟩)=some r:=h
     unfold yU Dv at h
     split at h
     ·rename_i hB2
      obtain ⟨W3,hel,g3,hg3⟩:=fin .ready .normal r8 hB2 h
      exact⟨none,W3,hel,hk .normal .normal _ _ _ _ hg3 trivial h⟩
     ·rename_i i hB2
      obtain ⟨W3,hel,g3,hg3⟩:=fin (.done (.exit i)) (.exit i) r8 hB2 h
      exact⟨some (.exit i),W3,hel,wpIn_exit (hk (.exit i) (.exit i) _ _ _ _ hg3 rfl h)⟩
     ·rename_i i hB2
      obtain ⟨W3,hel,g3,hg3⟩:=fin (.done (.goto i)) (.goto i) r8 hB2 h
      exact⟨some (.goto i),W3,hel,wpIn_goto (hk (.goto i) (.goto i) _ _ _ _ hg3 rfl h)⟩
     ·rename_i hB2
      obtain ⟨W3,hel,g3,hg3⟩:=fin (.done .ret) .ret r8 hB2 h
      exact⟨some .ret,W3,hel,wpIn_ret (hk .ret .ret _ _ _ _ hg3 trivial h)⟩
     ·cases h
 | .refuse _,F,n,mb,w0,r,H0,gs,ws,k,Q,s,g,a,w,hF,hro,hb0,hg,h,hk=>by cases h
theorem yD (args:List A) (t:Nat):look (frame args) t=(args[t]?).getD .any:=by
 have gen:∀ (args:List A) (i t:Nat),look ((args.zipIdx i).map fun p=>(p.2,p.1)) t=if i<=t then (args[t - i]?).getD .any else .any:=by
  intro args
  induction args with
  | nil=>intro i t; simp[look]
  | cons x r ih=>
   intro i t
   rw[List.zipIdx_cons,TS,dI,ih]
   by_cases e:i=t
   ·subst e; simp
   ·rw[SI e]
    by_cases hlt:i<t
    ·rw[SH o3,SH o3]
     rw[show t - i=(t - (i+1))+1 by omega,Vn]
    ·rw[SI o3,SI o3]
 have:=gen args 0 t
 simpa [frame] using this
theorem ta {P:Program} {t:TypeId} {c d:Value} (h:(Instr.loadAt t c).run P w=.ok d w):(do loadVar t (<-asAddr c):Sem Value).run P w=.ok d w:=by
 unfold Instr.loadAt at h
 cases c with
 | pointer p=>cases p with
  | some p=>simpa [Instr.sureAddr,asAddr] using h
  | none=>simp[Instr.sureAddr,stuck,Sem.run,Result.andThen] at h
 | _=>simp[Instr.sureAddr,stuck,Sem.run,Result.andThen] at h
def HA (tmps:Array Value):ResultVar->Sem Value
 | .tmp t=>pure (tmps.getD t undef)
 | .cell a t=>do loadVar t (<-asAddr (tmps.getD a undef))
theorem oU (hs:SR cx s g w0 a w) {r:ResultVar} {x:A} (h:rp cx s r=some x):∃ c,(HA a.tmps r).run cx.P w=.ok c w/\VR s.H g w x c:=by
 cases r with
 | tmp t=>cases h; exact⟨_,rfl,hs.fr t⟩
 | cell b t=>
  obtain ⟨d,h1,h2⟩:=p6 hs.rel h (hs.fr b)
  exact⟨d,ta h1,h2⟩
theorem oV (hs:SR cx s g w0 a w):∀ {rs:List ResultVar} {xs:List A},nQ cx s rs=some xs->∃ cs:List Value,(rs.mapM (HA a.tmps)).run cx.P w=.ok cs w/\bl s.H g w xs cs/\cs.length=rs.length
 | [],xs,h=>by simp only[nQ,Ta] at h; subst h; exact⟨[],r8,u3,rfl⟩
 | r :: rs,xs,h=>by
  rw[nQ] at h
  obtain ⟨y,hy,h⟩:=bn h
  obtain ⟨ys,hys,h⟩:=bn h
  cases h
  obtain ⟨c,h1,h2⟩:=oU hs hy
  obtain ⟨cs,h3,h4,h5⟩:=oV hs hys
  refine⟨c :: cs,?_,by rw[bl]; exact⟨c,cs,rfl,h2,h4⟩,by simp[h5]⟩
  rw[List.mapM_cons,Tf,h1]
  simp only[S7,Tf,h3,UO]
theorem yR (fn:Func) (tmps:Array Value):results fn tmps=(do let vs <-fn.results.mapM (HA tmps); pure (if h:vs.size=1 then vs[0] else .tuple vs)):=by
 unfold results
 congr 1
theorem wJ (hs:SR cx s g w0 a w) {fn:Func} {x:A} (h:zE cx fn s=some x):∃ c,(results fn a.tmps).run cx.P w=.ok c w/\VR s.H g w x c:=by
 rw[yR,Array.mapM_eq_mapM_toList]
 unfold zE at h
 split at h
 ·rename_i r hr
  obtain ⟨c,h1,h2⟩:=oU hs h
  refine⟨c,?_,h2⟩
  rw[hr]
  simp[h1]
 ·rename_i hne
  obtain ⟨xs,hxs,h⟩:=bn h
  cases h
  obtain ⟨cs,h1,h2,h3⟩:=oV hs hxs
  refine⟨.tuple cs.toArray,?_,by rw[VR]; exact⟨_,rfl,by simpa using h2⟩⟩
  have hn1:cs.length≠1:=fun h1'=>by
   obtain ⟨r,hr⟩:=List.length_eq_one_iff.1 (show fn.results.toList.length=1 by omega)
   exact hne r hr
  simp[h1,hn1]
theorem qY {k m:Nat} (h:k<m):Nat.ble m k=false:=by
 cases hb:Nat.ble m k with
 | false=>rfl
 | true=>rw[Vm] at hb; omega
theorem Good.calm (hg:Good cx N mb lo H0 gs ws w0 s g a w) {B:Nat} (hB:ws.heap.size<=B) (hb:w0.heap.size<=B) (hc:bP B w w') (hl:∀ (k:Nat) (o:Loop),w.heap[k]? = some (.loop o)->w'.heap[k]? = some (.loop o)) (fr:Bool):Good cx N ⟨0,a.defers,fr⟩ lo H0 gs ws w0 s g a w':=
 have h0:=hg.sr.rel.wy hc
 ⟨⟨hg.sr.rel.calm hb hc hl,fun t=>VR.eG h0 _ _ (hg.sr.fr t),fun G vs hG=>(hg.sr.gl G vs hG).eG h0⟩,hg.ext.calm hg.sr.rel hB hc,hg.len,hg.low,hg.siz,gX.start _ _ _ _,Tk _,hg.st⟩
theorem wv {fn:Func} {f:Nat} {r:R} (hg:Good cx N mb lo H0 gs ws w0 s g a w) (h:(mP (dB lo (cx.acts f 3000000) s) fun s=>lu cx fn s)=some r):∃ v,(results fn a.tmps).run cx.P w=.ok v w/\fN H0 gs w0 ws lo r (.returned v) w:=by
 obtain ⟨g1,hg',_⟩:=Good.acts (cx.acts f 3000000) hg
 replace h:lu cx fn (dB lo (cx.acts f 3000000) s)=some r:=h
 generalize dB lo (cx.acts f 3000000) s=s' at hg' h
 obtain ⟨x,hx,hrx⟩:=bn ((AI cx fn s').symm.trans h)
 cases hrx
 obtain ⟨v,h1,h2⟩:=wJ hg'.sr hx
 exact⟨v,h1,g1,hg'.sr.rel,hg'.ext,hg'.len,hg'.low,hg'.st,h2⟩
theorem rC {args:List A} {cargs:List Value} {m:Nat} (hv:bl H g w args cargs):∀ t,VR H g w (look (frame args) t) ((cargs.toArray++Array.replicate m undef).getD t undef):=fun t=>by
 rw[yD,TD]
 cases ha:args[t]? with
 | none=>rw[Option.getD_none,VR]; trivial
 | some x=>
  obtain ⟨d,hd,hvd⟩:=hv.get ha
  rw[Uc (by simpa using (SB.1 hd).1)]
  simp[hd]
  exact hvd
theorem xr:∀ {l:List Oper} {b i d:Nat},recAt b l=some (i,d)->b<=i
 | [],b,i,d,h=>by cases h
 | o :: os,b,i,d,h=>by
  unfold recAt at h
  split at h
  ·cases h; exact Sy _
  ·have:=xr h; omega
theorem sm:∀ {l:List Oper} {b i d:Nat},recAt b l=some (i,d)->∃ o,l[i - b]? = some o/\lH o=some d
 | [],b,i,d,h=>by cases h
 | o :: os,b,i,d,h=>by
  unfold recAt at h
  split at h
  ·rename_i d' hd
   cases h
   exact⟨o,by rw[Nat.sub_self]; rfl,hd⟩
  ·obtain ⟨o',h1,h2⟩:=sm h
   have hb:b+1<=i:=xr h
   refine⟨o',?_,h2⟩
   rw[show i - b=i - (b+1)+1 by omega]
   exact h1
theorem wI {Bs:ar->Gh->World->Prop} {call:aU} {rg:aU->aU} (hcall:dz cx Bs call) (hrg:qt cx rg) (horc:jr cx) (hmx:cx.P.follows .mixedOrders=true) {nf q lo:Nat} {cap:List A} {v:A} {H:ar} {k:ar->Option R} {r:R} (h:wH cx call rg nf lo q cap v H k=some r) {F:Fence} {n:Nat} {g:Gh} {w0 w:World} {ccap:List Value} {u:FrameMode} {cv:Value}
  (hF:fP F) (hro:F.round=none) (hbs:Bs H g w) (hr:Rel H g w0 w) (hgl:∀ (G:Nat) (vs:List Value),cx.glob G=some vs->bt H g w G 0 vs) (hv:bl H g w cap ccap) (hcv:VR H g w v cv) (hu:u=.panicking [{ v:=cv,recovered:=false }]∨(u=.returning/\cv=.nilIface)) :
  CallsDIn F n cx.P q ccap.toArray u w fun e u' w'=>(∃ x,e=.returned x)/\settle u'=.returning/\∃ H' g',Rel H' g' w0 w'/\Ext H g w H' g' w'/\H.length<=H'.length/\(∀ b,b<lo->b<H.length->H'[b]? = H[b]?)/\g'.S=g.S/\k H'=some r:=by
 unfold wH at h
 obtain ⟨fn,hfn,h⟩:=bn h
 obtain ⟨c,hc,h⟩:=bn h
 split at h
 ·rename_i id ops rest
  split at h
  ·rename_i o os hops
   obtain ⟨d,hd,h⟩:=bn h
   obtain ⟨hchk,h⟩:=bc h
   simp only[PW,Sz,SG] at hchk
   obtain ⟨⟨⟨hle,hdo⟩,hnr⟩,hre⟩:=hchk
   have hres:fn.results=#[]:=by
    have:fn.results.toList=[]:=by simpa using hre
    apply Uz; simpa using this
   have hl:=hv.length
   have hdst:o.dst=some d:=(mN (P:=cx.P) hd).1
   have hd':∀ o∈ops.toList,∀ d,o.dst=some d->d<fn.ntmps:=fun o ho d hod=>by
    have:=SJ.1 hdo o ho
    rw[hod] at this; simpa using this
   refine callsDIn_of_wpSIn hfn hc (hF.2.1 q) fun c₀ cs hu0=>?_
   obtain ⟨u',hset,hrec⟩:∃ u',settle u'=.returning/\(recoverD (c₀ :: cs)=some (cv,{ c₀ with mode:=u' } :: cs)∨(recoverD (c₀ :: cs)=none/\({ c₀ with mode:=u' } :: cs:List Frame)=c₀ :: cs/\cv=.nilIface)):=by
    rcases hu with hu | ⟨hu,hcn⟩
    ·refine⟨.panicking [{ v:=cv,recovered:=true }],rfl,.inl ?_⟩
     have e:=hu0.trans hu
     simp only[recoverD,e]
    ·refine⟨.returning,rfl,.inr ⟨?_,?_,hcn⟩⟩
     ·have e:=hu0.trans hu
      simp only[recoverD,e]
     ·have:({ c₀ with mode:=.returning }:Frame)=c₀:=by rw[<-hu,<-hu0]
      rw[this]
   refine wpSIn_seq (pY hops hd (fun f=>hF.2.1 f) hro hrec ?_)
   have hsz:(ccap.toArray++Array.replicate (fn.ntmps - ccap.toArray.size) undef).size=fn.ntmps:=r9
   have hdl:d<fn.ntmps:=hd' o (by rw[hops]; simp) d hdst
   have hg0:Good cx fn.ntmps ⟨0,[],false⟩ lo H g w w0 ⟨(d,v) :: frame cap,H⟩ g (({ tmps:=ccap.toArray++Array.replicate (fn.ntmps - ccap.toArray.size) undef,defers:=[] }:Act).put (some d) cv) w:=by
    refine⟨⟨hr,fun t=>?_,hgl⟩,Ext.refl hr,Sy _,fun _ _ _=>rfl,by rw[Act.pe]; exact hsz,gX.start _ _ _ _,Tk _,rfl⟩
    show VR H g w (look ((d,v) :: frame cap) t) (slot _ t)
    rw[dI]
    split
    ·rename_i e; subst e; rw[eS (by rw[hsz]; exact hdl)]; exact hcv
    ·rename_i e; rw[di (fun e2=>e (by cases e2; rfl))]; exact rC hv t
   refine fq (f:=q) (ops:=ops) hcall hbs horc hF (fun s' g' a' w' hg' h'=>?_) (fun x s' g' a' w' c hg' hvx h'=>by cases h') os _ g _ w (fun o' ho'=>hd' o' (by rw[hops]; simp[ho'])) hg0 h
   refine wpSIn_of_wpIn hro ?_
   refine c7 hcall hrg horc hmx rest F n ⟨0,[],false⟩ w0 r H g w _ _ s' g' a' w' hF (.inr hnr) hbs hg' h' fun e e' s2 g2 a2 w2 hg2 he h2=>?_
   have hdf:a2.defers=[]:=by
    obtain ⟨ms,q1,_,q3⟩:=hg2.dfr
    rw[q1,q3 rfl]; rfl
   have fin:∀ x:Value,k s2.H=some r->(∃ y:Value,Ending.returned x=.returned y)/\settle u'=.returning/\∃ H' g',Rel H' g' w0 w2/\Ext H g w H' g' w2/\H.length<=H'.length/\(∀ b,b<lo->b<H.length->H'[b]? = H[b]?)/\g'.S=g.S/\k H'=some r:=fun x hk=>⟨⟨x,rfl⟩,hset,s2.H,g2,hg2.sr.rel,hg2.ext,hg2.len,hg2.low,hg2.st,hk⟩
   have hrs:(results fn a2.tmps).run cx.P w2=.ok (.tuple #[]) w2:=by simp[results,hres]
   cases e with
   | normal=>cases e'<;>first
     | exact⟨hdf,u',rfl,_,hrs,fin _ h2⟩
     | exact he.elim
   | ret=>cases e'<;>first
     | exact⟨hdf,u',rfl,_,hrs,fin _ h2⟩
     | exact he.elim
   | pan x=>cases h2
   | exit i=>cases h2
   | goto i=>cases h2
  ·cases h
 ·rename_i id ops
  obtain ⟨⟨i0,d⟩,hra,h⟩:=bn h
  obtain ⟨hchk,h⟩:=bc h
  simp only[PY,Sz,SG] at hchk
  obtain ⟨⟨⟨⟨hle,hdl⟩,hok⟩,hna0⟩,hre⟩:=hchk
  obtain ⟨o0,ho0,hd⟩:=sm hra
  rw[Nat.sub_zero,Tc] at ho0
  have hna:o0.after=#[]:=by
   rw[ho0] at hna0
   have:o0.after.toList=[]:=by simpa using hna0
   apply Uz; simpa using this
  have hres:fn.results=#[]:=by
   have:fn.results.toList=[]:=by simpa using hre
   apply Uz; simpa using this
  have hl:=hv.length
  have hsz:(ccap.toArray++Array.replicate (fn.ntmps - ccap.toArray.size) undef).size=fn.ntmps:=r9
  refine callsDIn_of_wpSIn hfn hc (hF.2.1 q) fun c₀ cs hu0=>?_
  obtain ⟨u',hset,hrec⟩:∃ u',settle u'=.returning/\(recoverD (c₀ :: cs)=some (cv,{ c₀ with mode:=u' } :: cs)∨(recoverD (c₀ :: cs)=none/\({ c₀ with mode:=u' } :: cs:List Frame)=c₀ :: cs/\cv=.nilIface)):=by
   rcases hu with hu | ⟨hu,hcn⟩
   ·refine⟨.panicking [{ v:=cv,recovered:=true }],rfl,.inl ?_⟩
    have e:=hu0.trans hu
    simp only[recoverD,e]
   ·refine⟨.returning,rfl,.inr ⟨?_,?_,hcn⟩⟩
    ·have e:=hu0.trans hu
     simp only[recoverD,e]
    ·have:({ c₀ with mode:=.returning }:Frame)=c₀:=by rw[<-hu,<-hu0]
     rw[this]
  refine pv hmx ho0 hd hna hok (fun f=>hF.2.1 f) hro (by rw[hsz]; exact hdl) hrec ?_
  have hg0:Good cx fn.ntmps ⟨0,[],false⟩ lo H g w w0 ⟨(d,v) :: frame cap,H⟩ g (({ tmps:=ccap.toArray++Array.replicate (fn.ntmps - ccap.toArray.size) undef,defers:=[] }:Act).put (some d) cv) w:=by
   refine⟨⟨hr,fun t=>?_,hgl⟩,Ext.refl hr,Sy _,fun _ _ _=>rfl,by rw[Act.pe]; exact hsz,gX.start _ _ _ _,Tk _,rfl⟩
   show VR H g w (look ((d,v) :: frame cap) t) (slot _ t)
   rw[dI]
   split
   ·rename_i e; subst e; rw[eS (by rw[hsz]; exact hdl)]; exact hcv
   ·rename_i e; rw[di (fun e2=>e (by cases e2; rfl))]; exact rC hv t
  refine oS hcall hbs horc hF hmx hg0 h (fun s2 g2 a2 w2 hg2 h2=>?_) (fun x s' g' a' w' c hg' hvx h'=>by cases h')
  have hdf:a2.defers=[]:=by
   obtain ⟨ms,q1,_,q3⟩:=hg2.dfr
   rw[q1,q3 rfl]; rfl
  have fin:∀ x:Value,k s2.H=some r->(∃ y:Value,Ending.returned x=.returned y)/\settle u'=.returning/\∃ H' g',Rel H' g' w0 w2/\Ext H g w H' g' w2/\H.length<=H'.length/\(∀ b,b<lo->b<H.length->H'[b]? = H[b]?)/\g'.S=g.S/\k H'=some r:=fun x hk=>⟨⟨x,rfl⟩,hset,s2.H,g2,hg2.sr.rel,hg2.ext,hg2.len,hg2.low,hg2.st,hk⟩
  have hrs:(results fn a2.tmps).run cx.P w2=.ok (.tuple #[]) w2:=by simp[results,hres]
  exact⟨hdf,u',rfl,_,hrs,fin _ h2⟩
 ·cases h
theorem rR:∀ {os init:List Oper} {o:Oper},xa os=some (init,o)->os=init++[o]
 | [],_,_,h=>by cases h
 | [x],_,_,h=>by
  simp only[xa,Ta,Vp] at h
  rw[<-h.1,<-h.2]; rfl
 | x :: y :: os,init,o,h=>by
  unfold xa at h
  simp only[Te] at h
  obtain ⟨⟨i,o'⟩,h1,h2⟩:=h
  cases h2
  rw[rR h1]; rfl
theorem yj {o:Oper} {q:Nat} {cap:List A} (h:Ca cx s o=some (q,cap)) (hs:SR cx s g w0 a w):o.guard=none/\o.dst=none/\cp cx.P q=true/\∃ es:Array Value,bl s.H g w cap es.toList/\(execOp a.eval o).run cx.P w=.ok (.defer { target:=.fn (.func q) es,args:=#[] }) w:=by
 unfold Ca at h
 split at h
 ·rename_i c ho
  split at h
  ·rename_i gop hcal hargs
   split at h
   ·rename_i q' cap' hop
    obtain ⟨hc,h⟩:=bc h
    cases h
    simp only[PS,Sz] at hc
    have hvr:=od (cx:=cx) (x:=gop) (fun t _=>hs.fr t) hs.gl
    rw[hop,VR] at hvr
    obtain ⟨ds,es,e1,e2,e3⟩:=hvr
    rw[bl] at e2
    have hds:ds=#[]:=by apply Uz; simpa using e2
    subst hds
    have hca:c.args=#[]:=by apply Uz; simpa using hargs
    refine⟨kO hc.1.2,by simpa using hc.2,hc.1.1,es,e3,?_⟩
    unfold execOp
    rw[ho]
    simp[resolve,hcal,e1,Deferred.ofValue,hca]
   ·cases h
  ·cases h
 ·cases h
theorem Rel.insert (hr:Rel H g w0 w) {b es:Nat} {els:List (List A)} (hB:H[b]? = some (.row true es els)) {w':World} (hbl:Below 0 w w') (hsame:∀ j,j<w.heap.size->w'.heap[j]? = w.heap[j]?∨(g.mu b=some j/\∃ arr ty fr,w.heap[j]? = some (.cells arr ty fr))) :
  Rel (H.set b .dead) (g.put b none []) w0 w'/\Ext H g w (H.set b .dead) (g.put b none []) w'/\∀ k o,(g.mu b=some k∨w.heap.size<=k)->dP (H.set b .dead) (g.put b none []) k o:=by
 have hlt:b<H.length:=(SB.1 hB).1
 have hget:(H.set b .dead)[b]? = some .dead:=SY hlt
 have hot:∀ c,c≠b->(H.set b .dead)[c]? = H[c]?:=fun c hc=>SO (TF hc)
 have hno:∀ k,g.mu b=some k->∀ o,¬ dP H g k o:=fun k hk o hs=>by
  obtain ⟨es',els',h1,_⟩:=hs.2 b hk
  rw[hB] at h1; cases h1
 have hmu:∀ c k,(g.put b none []).mu c=some k->c≠b/\g.mu c=some k:=fun c k h=>by
  by_cases e:c=b
  ·subst e; rw[Gh.bq] at h; cases h
  ·exact⟨e,by rwa [Gh.ay _ _ _ e] at h⟩
 have hob:∀ c k,c≠b->g.mu c=some k->w'.heap[k]? = w.heap[k]?:=fun c k hc hk=>by
  rcases hsame k (hr.dom c k hk).2.2 with h | ⟨h,_⟩
  ·exact h
  ·exact absurd (hr.inj c b k hk h) hc
 have hst:∀ k o,dP H g k o->dP (H.set b .dead) (g.put b none []) k o:=fun k o hs=>⟨hs.1,fun c hc=>by
  obtain ⟨h1,h2⟩:=hmu c k hc
  obtain ⟨es',els',h3,h4⟩:=hs.2 c h2
  exact⟨es',els',(hot c h1).trans h3,h4⟩⟩
 have he:Ext H g w (H.set b .dead) (g.put b none []) w':=by
  refine⟨fun k o v hs hc=>⟨?_,hst k o hs⟩,fun c C hC=>?_,fun k x h=>?_,hbl.size,fun k arr cl hs hm=>⟨?_,hst k 0 hs⟩,fun k hk hn=>?_,fun c k h=>.inl ⟨c,(hmu c k h).2⟩⟩
  ·rcases hsame k (Uo w _ hc) with h | ⟨h,_⟩
   ·unfold World.cell? at hc ⊢
    simp only at hc ⊢
    rw[h]; exact hc
   ·exact absurd hs (hno k h o)
  ·by_cases e:c=b
   ·subst e
    rw[hB] at hC; cases hC
    exact⟨.dead,hget,trivial⟩
   ·refine⟨C,(hot c e).trans hC,?_⟩
    cases C with
    | box _=>exact Gh.ay _ _ _ e
    | row wr es' els'=>cases wr with
     | true=>exact⟨rfl,rfl,Gh.ay _ _ _ e,fun k arr ty hk ha=>⟨arr,(hob c k e hk).trans ha,Sy _⟩⟩
     | false=>exact⟨rfl,⟨[],by rw[Gh.dK _ _ _ e]; simp⟩,(hr.blk c _ hC).len,Sy _,fun _=>⟨Gh.ay _ _ _ e,fun k arr ty hk ha=>⟨arr,(hob c k e hk).trans ha,Sy _⟩⟩⟩
    | rng _=>exact⟨Gh.ay _ _ _ e,rfl⟩
    | mp _ _ _=>exact Gh.ay _ _ _ e
    | dead=>trivial
    | hole=>trivial
  ·rcases hsame k (SE.1 h).1 with h1 | ⟨_,arr,ty,fr,h1⟩
   ·exact h1.trans h
   ·rw[h1] at h; cases h
  ·rcases hsame k (SE.1 hm).1 with h1 | ⟨h1,_⟩
   ·exact h1.trans hm
   ·exact absurd hs (hno k h1 0)
  ·rcases hsame k hk with h1 | ⟨h1,_⟩
   ·exact h1
   ·exact absurd h1 (hn b)
 have hbl0:Below w0.heap.size w w':=⟨hbl.os,hbl.tape,hbl.output,hbl.size,fun k hk=>by
  rcases hsame k (SQ hk hr.below.size) with h1 | ⟨h1,_⟩
  ·exact h1
  ·exact absurd (hr.dom b k h1).2.1 o3⟩
 refine⟨⟨hr.below.trans hbl0,fun c k hck=>?_,fun c d k h1 h2=>hr.inj c d k (hmu c k h1).2 (hmu d k h2).2,hr.xk he,hr.vD he,fun c C hC=>?_⟩,he,fun k o hk=>⟨?_,fun c hc=>?_⟩⟩
 ·have:=hr.dom c k (hmu c k hck).2
  have hs:=hbl.size
  exact⟨by simpa using this.1,this.2.1,o3⟩
 ·by_cases e:c=b
  ·subst e
   rw[hget] at hC; cases hC
   exact Gh.bq _ _ _ _
  ·rw[hot c e] at hC
   have h:=hr.blk c C hC
   cases C with
   | box cs=>obtain ⟨k,arr,ty,h1,h2,h3⟩:=h; exact⟨k,arr,ty,(Gh.ay _ _ _ e).trans h1,(hob c k e h1).trans h2,bl.ext he _ _ h3⟩
   | row wr es' els'=>cases wr with
    | true=>
     obtain ⟨ds,h1,h2,h3⟩:=h
     exact⟨ds,bf.ext he _ _ h1,h2,fun hp=>let ⟨k,arr,ty,e1,e2,e3⟩:=h3 hp; ⟨k,arr,ty,(Gh.ay _ _ _ e).trans e1,(hob c k e e1).trans e2,e3⟩⟩
    | false=>
     obtain ⟨h1,h2⟩:=h
     refine⟨?_,?_⟩
     ·rw[Gh.dK _ _ _ e]; exact bf.ext he _ _ h1
     ·rw[Gh.dK _ _ _ e]; exact h2
   | rng st=>obtain ⟨k,h1,h2⟩:=h; exact⟨k,(Gh.ay _ _ _ e).trans h1,(hob c k e h1).trans h2⟩
   | mp _ _ _=>obtain ⟨k,arr,cl,h1,h2,h3,h4⟩:=h; exact⟨k,arr,cl,(Gh.ay _ _ _ e).trans h1,(hob c k e h1).trans h2,h3,bl.ext he _ _ h4⟩
   | dead=>exact(Gh.ay _ _ _ e).trans h
   | hole=>exact(Gh.ay _ _ _ e).trans h
 ·rcases hk with h | h
  ·exact hr.own b k o h
  ·exact hr.out k o h
 ·obtain ⟨h1,h2⟩:=hmu c k hc
  rcases hk with h | h
  ·exact absurd (hr.inj c b k h2 h) h1
  ·exact absurd (hr.dom c k h2).2.2 o3
theorem A6 {es:Nat} {ds:List (List Value)} (hl:∀ d∈ds,d.length=es) {m:Nat} (hm:m<=ds.length):(ds.take m).flatten=ds.flatten.take (m*es)/\(ds.drop m).flatten=ds.flatten.drop (m*es):=by
 have e:ds.flatten=(ds.take m).flatten++(ds.drop m).flatten:=So
 have hn:=fL hl hm
 constructor
 ·rw[e,<-hn,List.take_left']
  rfl
 ·rw[e,<-hn,List.drop_left']
  rfl
theorem sZ (hr:Rel H g w0 w) {es f lo:Nat} {P:Program} (hs:qG P f es) {args:List A} {r:R} (h:qz es args H lo=some r) {F:Fence} {d:Nat} (hF:fP F) {cargs:List Value} (hv:bl H g w args cargs):CallsIn F d P f cargs.toArray w (fN H g w0 w lo r):=by
 unfold qz at h
 split at h
 rotate_left 1
 ·cases h
 rename_i b n cl i v cl2
 split at h
 rotate_left 1
 ·cases h
 rename_i es' els hB
 obtain ⟨hc,h⟩:=bc h
 cases h
 simp only[Sz,Tn,SG] at hc
 obtain ⟨⟨⟨⟨⟨⟨⟨⟨⟨he1,he0⟩,hn⟩,hlo⟩,hi0⟩,hin⟩,hbig⟩,hvl⟩,hvc⟩,hec⟩:=hc
 have he1:=SM he1
 subst he1
 have he0:es'≠0:=fun e=>by subst e; cases he0
 have hn:=SM hn
 have hvl:=SM hvl
 obtain ⟨m,rfl⟩:∃ m:Nat,i=(m:Int):=⟨i.toNat,o3⟩
 rw[T1]
 have hmn:m<=n:=o3
 rw[bl] at hv
 obtain ⟨c1,ds1,rfl,hv1,hv⟩:=hv
 rw[bl] at hv
 obtain ⟨c2,ds2,rfl,hv2,hv⟩:=hv
 rw[bl] at hv
 obtain ⟨c3,ds3,rfl,hv3,hv⟩:=hv
 rw[bl] at hv
 subst hv
 rw[VR,hB] at hv1
 obtain ⟨_,a,cap,rfl,hnc,hclip,ha,hroom⟩:=hv1
 rw[VR] at hv2
 subst hv2
 rw[VR] at hv3
 obtain ⟨a3,cap3,dv,es3,rfl,_,_,hdl3,ha3,hdv⟩:=hv3
 rw[bf] at hdv
 obtain ⟨d,dr,rfl,hd1,hd2⟩:=hdv
 rw[bf] at hd2
 subst hd2
 obtain ⟨kv,ov,rfl,hcv⟩:=ha3 r8
 simp only[TR,List.flatten_nil,TG] at hcv
 have hdl:d.length=es':=hd1.length.trans hvl
 obtain ⟨ds,hds,hdsl,harr⟩:=hr.blk b _ hB
 have hlen:ds.length=n:=hds.length.trans hn.symm
 have hfl:ds.flatten.length=n*es':=by rw[bH hdsl,hlen]
 have hdone:∀ x∈d,x.oneCell'=true:=by
  have h1:bf H g w [v] [d]:=by rw[bf]; exact⟨d,[],rfl,hd1,by rw[bf]⟩
  have:=h1.one (fun cs hcs a ha=>by
   simp only[List.mem_singleton] at hcs
   subst hcs
   exact SJ.1 hvc a ha)
  simpa using this
 have hdsone:=hds.one (fun cs hcs a ha=>SJ.1 (SJ.1 hec cs hcs) a ha)
 have hkv:∀ k,g.mu b=some k->kv≠k:=fun k hk e=>by
  subst e
  obtain ⟨_,hs0⟩:=hcv 0 d[0] (Sx o3)
  obtain ⟨e1,e2,h1,_⟩:=hs0.2 b hk
  rw[hB] at h1; cases h1
 have hmem:0<cap->∃ k arr ty,g.mu b=some k/\a=some ⟨k,0,none⟩/\w.heap[k]? = some (.cells arr ty (0,0))/\cap*es'<=arr.size/\∀ (j:Nat) (v:Value),ds.flatten[j]? = some v->arr[j]? = some v:=fun hp=>by
  by_cases h0:n=0
  ·have hnil:ds.flatten=[]:=V3.1 (by rw[hfl,h0,VX])
   have hcl:cl=false:=by
    cases cl with
    | false=>rfl
    | true=>exact absurd (hclip rfl) o3
   obtain ⟨k,arr,ty,h1,h2,h3,h4⟩:=hroom hcl rfl hn o3
   exact⟨k,arr,ty,h1,h2,h3,h4,fun j v hj=>by rw[hnil] at hj; simp at hj⟩
  ·obtain ⟨k,arr,ty,h1,h2,h3⟩:=harr o3
   obtain ⟨k',h4,h5⟩:=ha o3
   rw[h1] at h4; cases h4
   rw[VX] at h5
   refine⟨k,arr,ty,h1,h5,h2,?_,h3⟩
   by_cases hlt:n<cap
   ·have hcl:cl=false:=by
     cases cl with
     | false=>rfl
     | true=>exact absurd (hclip rfl) o3
    obtain ⟨k',arr',ty',g1,g2,g3,g4⟩:=hroom hcl rfl hn hlt
    rw[h1] at g1; cases g1
    rw[h2] at g3; cases g3
    exact g4
   ·have hce:cap=n:=by omega
    rw[hce,<-hfl]
    have hp2:0<ds.flatten.length:=by rw[hfl]; exact Nat.mul_pos o3 o3
    have:=h3 (ds.flatten.length - 1) _ (Sx o3)
    have:=(SE.1 this).1
    omega
 refine fG hF ((hs w a n cap m kv ov cap3 ds.flatten d hmn hnc o3 hfl hdl hdsone hdone (fun j x hj=>(hcv j x hj).1) fun hp=>?_).mono ?_)
 ·obtain ⟨k,arr,ty,h1,h2,h3,h4,h5⟩:=hmem hp
  exact⟨k,arr,ty,h2,hkv k h1,h3,h4,h5⟩
 ·rintro e w' ⟨k',cap',rfl,hc',hbl,hsame,hk',hcells⟩
  obtain ⟨r1,r2,r3⟩:=hr.insert hB hbl (fun j hj=>by
   rcases hsame j hj with h | ⟨hp,h⟩
   ·exact .inl h
   ·obtain ⟨k,arr,ty,h1,h2,h3,_⟩:=hmem hp
    rw[h] at h2; cases h2
    exact .inr ⟨h1,arr,ty,(0,0),h3⟩)
  have hst:∀ o,dP (H.set b .dead) (g.put b none []) k' o:=fun o=>r3 k' o (by
   rcases hk' with ⟨hp,h⟩ | h
   ·obtain ⟨k,arr,ty,h1,h2,_⟩:=hmem hp
    rw[h] at h2; cases h2
    exact .inl h1
   ·exact .inr h)
  refine⟨_,r1,r2,r8,lD _ _ hlo,rfl,?_⟩
  show VR _ _ w' (.imm (els.take m++v :: els.drop m) false) (.slice (some ⟨k',0,none⟩) (n+1) cap')
  have hel:(els.take m++v :: els.drop m).length=n+1:=by
   rw[SX,SW,Tz,Uj]; omega
  obtain ⟨f1,f2⟩:=A6 hdsl (m:=m) o3
  rw[VR]
  refine⟨_,_,ds.take m++d :: ds.drop m,es',by rw[hel],by rw[hel]; exact hc',fun h=>(by cases h),fun x hx=>?_,fun _=>⟨k',0,rfl,fun j x hj=>?_⟩,?_⟩
  ·rcases TP.1 hx with hx | hx
   ·exact hdsl x (S2 hx)
   ·rcases Ti.1 hx with rfl | hx
    ·exact hdl
    ·exact hdsl x (S4 hx)
  ·rw[Th]
   refine⟨hcells j x ?_,hst j⟩
   rw[Ur,TR,f1,f2,<-Tt] at hj
   exact hj
  ·refine(bf.ext r2 _ _ (hds.take m)).append ?_
   rw[bf]
   exact⟨d,_,rfl,bl.ext r2 _ _ hd1,bf.ext r2 _ _ (hds.drop m)⟩
theorem nA {Bs:ar->Gh->World->Prop} {call:aU} {rg:aU->aU} (hcall:dz cx Bs call) (hrg:qt cx rg) (horc:jr cx) (hmx:cx.P.follows .mixedOrders=true) {n f lo:Nat} {args:List A} {H:ar} {r:R} (h:aB cx call rg n f args H lo=some r) {F:Fence} {d:Nat} {g:Gh} {w0 w:World} {cargs:List Value} (hF:fP F) (hro:F.round=none) (hbs:Bs H g w) (hr:Rel H g w0 w)
  (hgl:∀ (G:Nat) (vs:List Value),cx.glob G=some vs->bt H g w G 0 vs) (hv:bl H g w args cargs):CallsIn F d cx.P f cargs.toArray w (fN H g w0 w lo r):=by
 rw[aB] at h
 obtain ⟨fn,hfn,h⟩:=bn h
 cases hins:Nat.beq (cx.ins f) 0 with
 | false=>rw[hins] at h; exact sZ hr (cx.insOK f hins) h hF hv
 | true=>
 rw[hins] at h
 replace h:(fn.body.bind fun c=>bif decide (args.length<=fn.ntmps) then bif rJ c then qx cx call rg n f lo fn c args H else Cm cx call rg n f lo fn c args H else none)=some r:=h
 obtain ⟨c,hc,h⟩:=bn h
 obtain ⟨hle,h⟩:=bc h
 have hle:=SF hle
 have hl:=hv.length
 refine callsIn_of_wp_marks hfn hc (hF.2.1 f) ?_ hro
 have hsz:(cargs.toArray++Array.replicate (fn.ntmps - cargs.toArray.size) undef).size=fn.ntmps:=r9
 have hfr:=rC (m:=fn.ntmps - cargs.toArray.size) hv
 have hbase:w0.heap.size<=w.heap.size:=hr.below.size
 have hg0:∀ b,Good cx fn.ntmps ⟨w.heap.size,[],b⟩ lo H g w w0 ⟨frame args,H⟩ g { tmps:=cargs.toArray++Array.replicate (fn.ntmps - cargs.toArray.size) undef,defers:=[] } w:=fun b=>⟨⟨hr,hfr,hgl⟩,Ext.refl hr,Sy _,fun _ _ _=>rfl,hsz,gX.start _ _ _ _,Sy _,rfl⟩
 cases hdf:rJ c with
 | false=>
  rw[hdf] at h
  refine c7 (cx:=cx) (N:=fn.ntmps) (lo:=lo) (nf:=n) (f:=f) hcall hrg horc hmx c F d ⟨w.heap.size,[],true⟩ w0 r H g w _ _ ⟨frame args,H⟩ g _ w hF (.inl ⟨hro,rfl⟩) hbs (hg0 true) h fun e e' s' g' a' w' hg' he h'=>?_
  obtain ⟨ms,q1,q2,_⟩:=hg'.dfr
  have hret:(mP (dB lo (cx.acts f 3000000) s') fun s=>lu cx fn s)=some r->LeavesInM F d cx.P fn a'.tmps (fN H g w0 w lo r) a'.defers .returning w':=fun h'=>by
   rw[q1]
   refine mL ms .returning w' r8 q2 fun W' hcm hlm=>?_
   obtain ⟨v,h1,h2⟩:=wv (hg'.calm (Sy _) hbase hcm hlm true) h'
   exact⟨v,h1,h2⟩
  cases e with
  | normal=>cases e'<;>first
    | exact hret h'
    | exact he.elim
  | ret=>cases e'<;>first
    | exact hret h'
    | exact he.elim
  | pan x=>cases e'<;>first
    | (obtain ⟨c',rfl,hvr⟩:=he
       cases h'
       show LeavesInM F d cx.P fn a'.tmps _ a'.defers (.panicking _) w'
       rw[q1]
       refine mL ms _ w' r8 q2 fun W' hcm hlm=>?_
       have hg2:=hg'.calm (Sy _) hbase hcm hlm true
       exact⟨g',hg2.sr.rel,hg2.ext,hg2.len,hg2.low,hg2.st,c',rfl,VR.eG (hg'.sr.rel.wy hcm) _ _ hvr⟩)
    | exact he.elim
  | exit i=>cases h'
  | goto i=>cases h'
 | true=>
  rw[hdf] at h
  replace h:qx cx call rg n f lo fn c args H=some r:=h
  unfold qx at h
  split at h
  ·rename_i c0 id ops rest _
   obtain ⟨hchk,h⟩:=bc h
   rw[PU,Sz] at hchk
   have hd':∀ o∈ops.toList,∀ d,o.dst=some d->d<fn.ntmps:=fun o ho d hod=>by
    have:=SJ.1 hchk.1 o ho
    rw[hod] at this; simpa using this
   have hem:∀ {s':St} {g':Gh} {a':Act} {w':World},Good cx fn.ntmps ⟨w.heap.size,[],false⟩ lo H g w w0 s' g' a' w'->a'.defers=[]:=fun hg'=>by
    obtain ⟨ms,q1,_,q3⟩:=hg'.dfr
    rw[q1,q3 rfl]; rfl
   refine WA (c7 hcall hrg horc hmx c0 F d ⟨w.heap.size,[],false⟩ w0 r H g w _ _ ⟨frame args,H⟩ g _ w hF (.inr hchk.2) hbs (hg0 false) h fun e e' s1 g1 a1 w1 hg1 he h=>?_)
   cases e with
   | normal=>
    cases e' with
    | normal=>
     obtain ⟨⟨init,dop⟩,hla,h⟩:=bn h
     have hsp:=rR hla
     refine WA (wpIn_region_list ?_)
     rw[hsp]
     refine lM (Q:=fun e a w2=>e=.normal/\wpListIn F d cx.P ops _ [dop] a w2) (fun e a w2 he h=>absurd h.1 he) (fun a w2 h=>h.2) init a1 w1 ?_
     refine fq (f:=f) (ops:=ops) hcall hbs horc hF (fun s2 g2 a2 w2 hg2 h=>⟨rfl,?_⟩) (fun x s' g' a' w' c hg' hvx h=>by cases h) init s1 g1 a1 w1 (fun o ho=>hd' o (by rw[hsp]; simp[ho])) hg1 h
     obtain ⟨⟨q,cap⟩,hcl,h⟩:=bn h
     obtain ⟨k1,k2,hcb,es,hes,hrun⟩:=yj (o:=dop) hcl hg2.sr
     unfold wpListIn
     rw[SH (by simp[Region.wanted,k1])]
     refine⟨fun f _=>hF.2.1 f,?_⟩
     rw[hro,UZ,hrun,Oper.uponIn_defer,k2,hem hg2]
     obtain ⟨dd,hdd⟩:∃ dd:Deferred,dd={ target:=.fn (.func q) es,args:=#[] }:=⟨_,rfl⟩
     rw[<-hdd]
     refine c7 hcall hrg horc hmx rest F d ⟨w.heap.size,[dd],true⟩ w0 r s2.H g2 w2 _ _ s2 g2 { a2 with defers:=[dd] } w2 hF (.inl ⟨hro,rfl⟩) (hcall.up _ _ _ _ _ _ hbs hg2.ext) ⟨⟨hg2.sr.rel,hg2.sr.fr,hg2.sr.gl⟩,Ext.refl hg2.sr.rel,Sy _,fun _ _ _=>rfl,hg2.siz,gX.start _ _ _ _,hg2.mbw,rfl⟩ h fun e e' s3 g3 a3 w3 hg30 he h=>?_
     have hg3:Good cx fn.ntmps ⟨w.heap.size,[dd],true⟩ lo H g w w0 s3 g3 a3 w3:=⟨hg30.sr,hg2.ext.trans hg30.ext,SZ hg2.len hg30.len,fun b hb hb'=>(hg30.low b hb (SQ hb' hg2.len)).trans (hg2.low b hb hb'),hg30.siz,hg30.dfr,hg30.mbw,hg30.st.trans hg2.st⟩
     obtain ⟨ms,q1,q2,_⟩:=hg3.dfr
     replace q1:a3.defers=ms++[dd]:=q1
     have key:∀ (u:FrameMode) (x:A) (cv:Value),(u=.panicking [{ v:=cv,recovered:=false }]∨(u=.returning/\cv=.nilIface))->VR s3.H g3 w3 x cv->wH cx call rg n lo q cap x s3.H (fun H=>mP (dB lo (cx.acts f 3000000) ⟨s3.fr,H⟩) fun s=>lu cx fn s)=some r->LeavesInM F d cx.P fn a3.tmps (fN H g w0 w lo r) a3.defers u w3:=fun u x cv hu hx h=>by
      rw[q1]
      have hrunu:u≠.run:=by rcases hu with rfl | ⟨rfl,_⟩<;>simp
      refine mL ms u w3 hrunu q2 fun W' hcm hlm=>?_
      have hg4:=hg3.calm (Sy _) hbase hcm hlm true
      have h0:=hg3.sr.rel.wy hcm
      refine⟨hrunu,.inr ⟨fun hs=>(by rw[hF.1] at hs; cases hs),.func q,es,q,es,by rw[hdd],?_,fun f _=>hF.2.1 f,?_⟩⟩
      ·rw[hdd]
       have:=oI hcb (#[]++es) W'
       simpa [invoke] using this
      ·have hcap:bl s3.H g3 W' cap es.toList:=bl.eG h0 _ _ (bl.ext hg30.ext _ _ hes)
       have hrc:CallsDIn F.plain (d - 1) cx.P q es.toList.toArray u W' _:=wI (F:=F.plain) (n:=d - 1) hcall hrg horc hmx h hF rfl (hcall.up _ _ _ _ _ _ hbs hg4.ext) hg4.sr.rel hg4.sr.gl hcap (VR.eG h0 _ _ hx) hu
       rw[show es.toList.toArray=es by simp] at hrc
       have hrc':CallsDIn F (d - 1) cx.P q es u W' _:=hrc
       refine hrc'.mono ?_
       rintro e u' w4 ⟨⟨v,rfl⟩,hset,H',g',j1,j2,j3,j4,j5,hk⟩
       show LeavesInM F d cx.P fn a3.tmps _ [] (settle u') w4
       rw[hset]
       have hx2:=hg4.ext.trans j2
       obtain ⟨v',l1,l2⟩:=wv (a:=a3) (mb:=⟨0,a3.defers,true⟩) (s:=⟨s3.fr,H'⟩) ⟨⟨j1,fun t=>VR.ext j2 _ _ (hg4.sr.fr t),fun G vs hG=>(hg4.sr.gl G vs hG).ext j2⟩,hx2,SZ hg4.len j3,fun b hb hb'=>(j4 b hb (SQ hb' hg4.len)).trans (hg4.low b hb hb'),hg4.siz,gX.start _ _ _ _,Tk _,j5.trans hg4.st⟩ hk
       exact⟨v',l1,l2⟩
     have hni:VR s3.H g3 w3 (.v .nilIface) .nilIface:=s6
     cases e with
     | normal=>cases e' with
      | normal=>exact key .returning (.v .nilIface) .nilIface (.inr ⟨rfl,rfl⟩) hni h
      | _=>exact he.elim
     | ret=>cases e' with
      | ret=>exact key .returning (.v .nilIface) .nilIface (.inr ⟨rfl,rfl⟩) hni h
      | _=>exact he.elim
     | pan x=>cases e' with
      | panic ch=>
       obtain ⟨c',rfl,hvr⟩:=he
       exact key _ x c' (.inl rfl) hvr h
      | _=>exact he.elim
     | exit i=>cases h
     | goto i=>cases h
    | _=>exact he.elim
   | _=>cases h
  ·cases h
theorem wm {p:aD->Bool} {H:ar} {m:Nat} (h:(H.take m).all p=true) (b:Nat) (B:aD) (hb:b<m) (hB:H[b]? = some B):p B=true:=
 SJ.1 h B (S1 (i:=b) (by rw[SS,SH hb]; exact hB))
theorem oK {m:Nat} {f:ar->Option R} {args:List A} {H:ar} {r:R} (h:mX m f args H=some r):aZ m args=true/\(H.take m).all (aD.under m)=true/\∃ o H1,f (H.take m)=some (o,H1)/\m<=H1.length/\(H1.take m).all (aD.under m)=true/\kR m o=true/\r=(o,H1.take m++H.drop m):=by
 unfold mX at h
 obtain ⟨h1,h⟩:=bc h
 obtain ⟨⟨o,H1⟩,h2,h⟩:=bn h
 obtain ⟨h3,h⟩:=bc h
 rw[Sz] at h1
 simp only[Sz] at h3
 cases h
 exact⟨h1.1,h1.2,o,H1,h2,S9 h3.1.1,h3.1.2,h3.2,rfl⟩
theorem B7 {k:Nat} {H:ar}:cutAt cx k H<=H.length:=by
 unfold cutAt
 cases hb:Nat.ble (cx.cut k) H.length with
 | true=>exact S9 hb
 | false=>exact Sy _
theorem nB (horc:jr cx) (hmx:cx.P.follows .mixedOrders=true):∀ n,qt cx (bo cx n)
 | 0=>fun Bs base hy=>⟨⟨hy.up,fun b args H lo r h=>hy.yl b args H lo r (by
   rw[bo,bp,SH (by rw[Vm]; omega)] at h; exact h)⟩,(fun k args H lo r hk h=>by rw[bo,qY hk] at h; cases h),fun k args H lo r hk _ _ h=>by rw[bo,qY hk] at h; cases h⟩
 | n+1=>fun Bs base hy=>by
  refine⟨⟨hy.up,fun b args H lo r h=>hy.yl b args H lo r (by
   rw[bo,bp,SH (by rw[Vm]; omega)] at h; exact h)⟩,?_,fun k args H lo r hk h0 hm h=>?_⟩
  rotate_left 1
  ·rw[bo,qY hk] at h
   replace h:(bif fH cx k H then mX (cutAt cx k H) (fun H=>aB cx (bo cx n DT) (bo cx n) n k args H lo) args H else bif fS cx k H then mq cx k args H else aB cx (bo cx n base) (bo cx n) n k args H lo)=some r:=h
   have hc:fH cx k H=true:=by
    unfold fH
    have:Nat.beq (cx.cut k) 0=false:=by
     cases hb:Nat.beq (cx.cut k) 0 with
     | false=>rfl
     | true=>exact absurd (SM hb) h0
    rw[this,TI hm]; rfl
   have hcm:cutAt cx k H=cx.cut k:=by unfold cutAt; rw[TI hm]; rfl
   simp only[hc,SC,hcm] at h
   obtain ⟨_,_,o,H1,_,hm1,_,_,rfl⟩:=oK h
   refine⟨Ss,fun b hb=>?_⟩
   rw[S3 H6,Tz,TL,Ug hm1]
   congr 1; omega
  intro f args H lo r hkc h F d g w0 w cargs hF hro hbs hr hgl hv
  have hrg:=nB horc hmx n
  have hcall:=hrg Bs base hy
  rw[bo,qY hkc] at h
  replace h:(bif fH cx f H then mX (cutAt cx f H) (fun H=>aB cx (bo cx n DT) (bo cx n) n f args H lo) args H else bif fS cx f H then mq cx f args H else aB cx (bo cx n base) (bo cx n) n f args H lo)=some r:=h
  cases hc:fH cx f H with
  | false=>
   rw[hc] at h
   cases hd:fS cx f H with
   | false=>rw[hd] at h; exact nA hcall hrg horc hmx h hF hro hbs hr hgl hv
   | true=>
    rw[hd] at h
    replace h:mq cx f args H=some r:=h
    unfold mq at h
    obtain ⟨y,hy,h⟩:=bn h
    obtain ⟨hv1,h⟩:=bc h
    cases h
    have hdp:cx.deep f=true:=by
     unfold fS at hd
     cases hq:cx.deep f with
     | true=>rfl
     | false=>rw[hq] at hd; cases hd
    have hcallok:=horc f _ y (.inr (.inr hdp)) hy g.S w cargs hr.out (fun G vs hG j v hj=>let ⟨e1,e2⟩:=hgl G vs hG j v hj; ⟨e1,e2.1,fun b hb=>by cases hb⟩) (ur hr 6 _ _ hv)
    refine(fG hF hcallok).mono ?_
    rintro e w' ⟨c',rfl,hb,hvr⟩
    refine⟨g,hr.dY hb,Ext.below hr hb,Sy _,fun _ _ _=>rfl,rfl,?_⟩
    cases y with
    | v x=>rw[VR] at hvr; show VR H g w' (.v x) c'; rw[VR]; exact hvr
    | _=>cases hv1
  | true=>
   simp only[hc,SC] at h
   obtain ⟨hu1,hu2,o,H1,h9,hm1,hu3,hu4,rfl⟩:=oK h
   have hm:=B7 (cx:=cx) (k:=f) (H:=H)
   obtain ⟨hr',ag⟩:=hr.qm hm (wm hu2)
   have hno:ox cx (fun _ _ _=>True) DT:=⟨fun _ _ _ _ _ _ _ _=>trivial,fun _ _ _ _ _ h=>by cases h⟩
   refine(nA (hrg _ _ hno) hrg horc hmx h9 hF hro trivial hr' (fun G vs hG=>(hgl G vs hG).to ag) (bl.to ag _ _ hu1 hv)).mono ?_
   rintro e w' ⟨g1,k1,k2,k3,k4,k6,k5⟩
   obtain ⟨g2,e1,e2,e3,ag2⟩:=hr.join hm k1 k2 hm1 k6 (wm hu3)
   refine⟨g2,e1,e2,Ss,fun b hb hb'=>?_,e3,?_⟩
   ·by_cases hbm:b<cutAt cx f H
    ·rw[SP H6,SS,SH hbm,k4 b hb H6,SS,SH hbm]
    ·rw[S3 H6,Tz,TL,Ug hm1]
     congr 1; omega
   ·cases o with
    | ret x=>cases e with
     | returned c=>exact VR.to ag2 _ _ hu4 k5
     | panicked _=>exact k5
     | outgrown=>exact k5
    | pan x=>cases e with
     | panicked ch=>obtain ⟨c,rfl,hv⟩:=k5; exact⟨c,rfl,VR.to ag2 _ _ hu4 hv⟩
     | returned _=>exact k5
     | outgrown=>exact k5
theorem AH {n k:Nat} {args:List A} {H:ar} {lo:Nat} {r:R} (h:dx cx n k args H lo=some r):k<cx.P.funcs.size:=by
 refine TV fun hle=>?_
 have hb:Nat.ble cx.P.funcs.size k=true:=by rw[Vm]; exact hle
 unfold dx at h
 cases n with
 | zero=>rw[bo,hb] at h; cases h
 | succ n=>rw[bo,hb] at h; cases h
theorem oH (horc:jr cx) (hmx:cx.P.follows .mixedOrders=true) {n k:Nat} {args:List A} {x:A} {H':ar} (h:dx cx n k args [] 0=some (.ret x,H')):eh cx.P cx.glob k args (br H' x):=by
 intro S w cargs hS hgl hv
 have hr:Rel [] (G0 S) w w:=⟨Below.refl _ _,fun b k h=>(by cases h),fun b c k h=>(by cases h),hS,fun b k o h=>(by cases h),fun b B h=>(by simp at h)⟩
 have hno:ox cx (fun _ _ _=>True) DT:=⟨fun _ _ _ _ _ _ _ _=>trivial,fun _ _ _ _ _ h=>by cases h⟩
 have hkc:=AH h
 have hc:=(nB horc hmx n _ _ hno).fn k args [] 0 _ hkc h Fence.wide 0 (G0 S) w w cargs yX rfl trivial hr hgl hv
 refine(callsIn_wide.1 hc).mono ?_
 rintro e w' ⟨g',e1,e2,_,_,e5,e6⟩
 cases e with
 | returned c=>
  refine⟨c,rfl,e1.below,?_⟩
  exact VR.eG (H:=[]) (g:=G0 g'.S) ⟨fun k o v hs hc=>⟨hc,by have:=hs.1; rw[show (G0 g'.S).S=g'.S from rfl,e5] at this; exact this,fun b hb=>(by cases hb)⟩,fun b B hB=>(by simp at hB),fun k arr cl hs hm=>⟨hm,by have:=hs.1; rw[show (G0 g'.S).S=g'.S from rfl,e5] at this; exact this,fun b hb=>(by cases hb)⟩⟩ _ _ (DF e1 x c e6)
 | panicked _=>exact e6.elim
 | outgrown=>exact e6.elim
end
section
open Go.RowKit
def Quiet (w w':World):Prop:=∃ m,w'=w.drewN m
theorem Quiet.refl (w:World):Quiet w w:=⟨0,rfl⟩
theorem Quiet.trans {a b c:World} (h:Quiet a b) (k:Quiet b c):Quiet a c:=by
 obtain ⟨m,rfl⟩:=h
 obtain ⟨n,rfl⟩:=k
 exact⟨m+n,by rw[World.drewN_drewN]⟩
theorem Quiet.drewN {a b:World} (h:Quiet a b) (n:Nat):Quiet a (b.drewN n):=h.trans ⟨n,rfl⟩
theorem Quiet.drew {a b:World} (h:Quiet a b):Quiet a b.drew:=h.trans ⟨1,rfl⟩
theorem Quiet.cell {w w':World} (h:Quiet w w') (a:Addr):w'.cell? a=w.cell? a:=by obtain ⟨m,rfl⟩:=h; rfl
theorem Quiet.below {w w':World} (h:Quiet w w') (B:Nat):Below B w w':=by obtain ⟨m,rfl⟩:=h; exact below_drewN (Below.refl _ _) m
theorem Quiet.size {w w':World} (h:Quiet w w'):w'.heap.size=w.heap.size:=by obtain ⟨m,rfl⟩:=h; rfl
end
section
open Go.RowKit Go.ChangeShapes Go.WideShapes Go.ChangeAt Go.Deep
theorem nF {H:Type} {enc:TypeId×Value->H} {P:Program} (hl:laidOutB P=true) {W W':World} (hb:Below W.heap.size W W') :
  ∀ (ts:List TypeId) (vs:List Value) (ds:List (DataW H)) (ps:List MemPlace),ts.all (fun t=>P.readableRec t&&decide (t<P.types.size))=true ->
   DataW.TrodAll enc P W 0 (fun _=>true) true ts vs ds ps->DataW.TrodAll enc P W' 0 (fun b=>decide (b<W.heap.size)) true ts vs ds ps
 | [],[],[],ps,_,h=>h
 | t :: ts,v :: vs,d :: ds,ps,hr,h=>by
  obtain ⟨p,q,h1,h2,rfl⟩:=h
  simp only[US,Sz,SG] at hr
  have lt:∀ x∈p,x.block<W.heap.size:=by obtain ⟨m,hm⟩:=h1; exact DataW.trod_lt m _ _ _ hm
  exact⟨p,q,Below.trod hl hr.1.1 hr.1.2 h1 hb lt,nF hl hb ts vs ds q hr.2 h2,rfl⟩
 | [],_ :: _,_,_,_,h=>h.elim
 | [],[],_ :: _,_,_,h=>h.elim
 | _ :: _,[],_,_,_,h=>h.elim
 | _ :: _,_ :: _,[],_,_,h=>h.elim
theorem mR {H:Type} {enc:TypeId×Value->H} {P:Program} {W:World} {base:Nat} {sp:Nat->Bool} {held:Bool} :
  ∀ (ts:List TypeId) (vs:List Value) (ds:List (DataW H)) (ps:List MemPlace),DataW.TrodAll enc P W base sp held ts vs ds ps->vs.length=ts.length/\ds.length=ts.length
 | [],[],[],_,_=>⟨rfl,rfl⟩
 | t :: ts,v :: vs,d :: ds,ps,h=>by
  obtain ⟨p,q,_,h2,_⟩:=h
  have:=mR ts vs ds q h2
  simp[this.1,this.2]
 | [],_ :: _,_,_,h=>h.elim
 | [],[],_ :: _,_,h=>h.elim
 | _ :: _,[],_,_,h=>h.elim
 | _ :: _,_ :: _,[],_,h=>h.elim
theorem qh {H:Type} {enc:TypeId×Value->H} {P:Program} {W:World} {base:Nat} {sp:Nat->Bool} {held:Bool} :
  ∀ (ts:List TypeId) (vs:List Value) (ds:List (DataW H)) (ps:List MemPlace),DataW.TrodAll enc P W base sp held ts vs ds ps ->
   ∀ (j:Nat) (t:TypeId) (v:Value),ts[j]? = some t->vs[j]? = some v->∃ d p,DataW.Trod enc P W base sp held t v d p
 | t :: ts,v :: vs,d :: ds,ps,h,j,t',v',hj,hv=>by
  obtain ⟨p,q,h1,h2,_⟩:=h
  cases j with
  | zero=>cases hj; cases hv; exact⟨d,p,h1⟩
  | succ j=>exact qh ts vs ds q h2 j t' v' hj hv
 | [],[],[],_,_,_,_,_,hj,_=>by simp at hj
 | [],_ :: _,_,_,h,_,_,_,_,_=>h.elim
 | [],[],_ :: _,_,h,_,_,_,_,_=>h.elim
 | _ :: _,[],_,_,h,_,_,_,_,_=>h.elim
 | _ :: _,_ :: _,[],_,h,_,_,_,_,_=>h.elim
def qF {H:Type} (enc:TypeId×Value->H) (P:Program) (W:World) (base:Nat) (ts:Array TypeId) (args:Array Value):Prop:=
 args.size=ts.size/\∀ (j:Nat) t v,ts[j]? = some t->args[j]? = some v->Value.okWide P W .any base t v/\∃ d p,DataW.Trod enc P W 0 (fun _=>true) true t v d p
theorem vx {H:Type} {enc:TypeId×Value->H} {P:Program} {f:Nat} {fn:Func} {s:ChangeSpec} {tb:TypeId} (hv:s.vars=[]) (hres:fn.resultTypes=#[tb]) (htb:P.underlying tb=some .bool)
  (hl:laidOutB P=true) (hread:fn.params.toList.all (fun t=>P.readableRec t&&decide (t<P.types.size))=true)
  (hs:∀ ds:List (DataW H),ds.length=fn.params.size->s.fn H ds={ results:=[.lit (.bool true)],args:=ds })
  (W:World) (base:Nat) (args:Array Value) (ds gs:List (DataW H)) (before:List MemPlace)
  (hval:∀ (j:Nat) t v,fn.params[j]? = some t->args[j]? = some v->Value.okWide P W .any base t v)
  (hW:DataW.Whole enc P fn.params.toList s.vars false W args.toList ds gs before)
  (walk:qF enc P W base fn.params args->Calls P f args W fun e W'=>e=.returned (.bool true)/\Below W.heap.size W W') :
  Calls P f args W fun e W'=>∃ v,e=.returned v/\s.post enc P fn false true false false W args v W':=by
 have hW':=hW
 obtain ⟨p,q,hA,hV,rfl,hfz,hnd⟩:=hW
 rw[hv] at hV
 obtain ⟨rfl,rfl⟩:=trodVars_none hV
 have hlen:=mR _ _ _ _ hA
 refine(walk ⟨by simpa using hlen.1,fun j t v hj hv=>⟨hval j t v hj hv,?_⟩⟩).mono fun e W' ⟨he,bel⟩=>?_
 ·exact qh _ _ _ _ hA j t v (by simpa using hj) (by simpa using hv)
 ·subst he
  have e1:s.fn H (ds++[])={ results:=[.lit (.bool true)],args:=ds }:=by rw[TG]; exact hs ds (by simpa using hlen.2)
  refine⟨_,rfl,ds,[],_,[],p,[],hW',?_,?_,?_,bel.frame _,fun h=>by cases h⟩
  ·rw[e1,hres]
   exact trodAll_mk1 (shut_bool htb _)
  ·rw[e1]
   exact nF hl bel _ _ _ _ hread hA
  ·rw[e1,hv]; exact rfl
theorem Cu {H:Type} {enc:TypeId×Value->H} {P:Program} {W:World} {base:Nat} {ts:Array TypeId} {args:Array Value} (h:qF enc P W base ts args) (j:Nat) {t:TypeId} {v:Value} (hj:ts[j]? = some t) (hv:args[j]? = some v) (ht:P.underlying t=some (.int .u8)) :
  ∃ n:Int,v=.int .u8 n/\0<=n/\n<=255:=by
 obtain ⟨ok,d,p,htr⟩:=h.2 j t v hj hv
 obtain ⟨n,rfl,rfl,rfl,hw⟩:=open_int ht ok htr
 exact⟨n,rfl,(bounds_u8 hw).1,(bounds_u8 hw).2⟩
end
section
theorem oe {α β:Type} (P:Program) (f:α->Sem β):∀ (m:Sem α),cj P (m >>= f)=(cj P m).bind fun a=>cj P (f a)
 | .pure a=>rfl
 | .program k=>oe P f (k P)
 | .mark _ k=>oe P f k
 | .load .. | .store .. | .new .. | .shape .. | .freeze .. | .frozen .. | .getObj .. | .setObj .. | .choose .. | .sys .. | .halt _=>rfl
theorem pR (P:Program) (t:TypeId):cj P (underlying t)=P.underlying t:=by
 unfold underlying
 show cj P (match P.underlying t with | some d=>pure d | none=>stuck "no such type")=_
 cases P.underlying t<;>rfl
@[simp] theorem Jb {β:Type} (b:Bool) (x y:Option β):cJ (.v (.bool b)) x y=bif b then x else y:=rfl
@[simp] theorem JL {β:Type} (b:Bool) (x y:Option β):qa (.v (.bool b)) true x y=bif b then x else y:=rfl
@[simp] theorem Iy {β:Type} (b:Bool) (x y:Option β):qa (.v (.bool b)) false x y=bif b then y else x:=by cases b<;>rfl
@[simp] theorem Iz {β:Type} (w:Bool) (x y:Option β):qa (.v undef) w x y=y:=by cases w<;>rfl
@[simp] theorem Ki (k:IntKind) (n:Int):(Value.int k n).oneCell'=true:=rfl
@[simp] theorem ID (b:Bool):(Value.bool b).oneCell'=true:=rfl
@[simp] theorem GI (s:ByteArray):(Value.string s).oneCell'=true:=rfl
section
variable (P:Program) (t s d:TypeId) (i j:Bool) (k:IntKind) (a b:Int) (p q:Bool) (H:ar) (lo:Nat)
@[simp] theorem aV:jE P .eql t i j (.v (.int k a)) (.v (.int k b))=some (.v (.bool (a==b))):=by cases k<;>rfl
@[simp] theorem aC:jE P .neq t i j (.v (.int k a)) (.v (.int k b))=some (.v (.bool (a != b))):=by cases k<;>rfl
@[simp] theorem bj:jE P .lss t i j (.v (.int k a)) (.v (.int k b))=some (.v (.bool (decide (a<b)))):=by cases k<;>rfl
@[simp] theorem fm:jE P .leq t i j (.v (.int k a)) (.v (.int k b))=some (.v (.bool (decide (a<=b)))):=by cases k<;>rfl
@[simp] theorem dg:jE P .gtr t i j (.v (.int k a)) (.v (.int k b))=some (.v (.bool (decide (b<a)))):=by cases k<;>rfl
@[simp] theorem dS:jE P .geq t i j (.v (.int k a)) (.v (.int k b))=some (.v (.bool (decide (b<=a)))):=by cases k<;>rfl
@[simp] theorem aF:jE P .add t i j (.v (.int k a)) (.v (.int k b))=some (.v (.int k (k.wrap (a+b)))):=by cases k<;>rfl
@[simp] theorem dU:jE P .sub t i j (.v (.int k a)) (.v (.int k b))=some (.v (.int k (k.wrap (a - b)))):=by cases k<;>rfl
@[simp] theorem oy:jE P .mul t i j (.v (.int k a)) (.v (.int k b))=some (.v (.int k (k.wrap (a*b)))):=by cases k<;>rfl
def iK (a b:ByteArray):Bool:=a.toList==b.toList
theorem jt (x y:ByteArray):jE P .eql t i j (.v (.string x)) (.v (.string y))=some (.v (.bool (iK x y))):=rfl
theorem xU (x y:ByteArray):jE P .neq t i j (.v (.string x)) (.v (.string y))=some (.v (.bool (!iK x y))):=rfl
theorem kz (hb:b≠0):jE P .rem t i j (.v (.int k a)) (.v (.int k b))=some (.v (.int k (a.tmod b))):=by
 have h:cj P (do eqGuard .rem t (rep i) (rep j) (.int k a) (.int k b); binOp .rem t (.int k a) (.int k b))=some (.int k (a.tmod b)):=by
  show cj P (binOp .rem t (.int k a) (.int k b))=_
  simp only[binOp,ne_eq,U4,Vk,Op.intDiv,SI hb]; rfl
 show (cj P _).map xf=_
 rw[h]; rfl
theorem qL (hb:b≠0):jE P .quo t i j (.v (.int k a)) (.v (.int k b))=some (.v (.int k (k.wrap (a.tdiv b)))):=by
 have h:cj P (do eqGuard .quo t (rep i) (rep j) (.int k a) (.int k b); binOp .quo t (.int k a) (.int k b))=some (.int k (k.wrap (a.tdiv b))):=by
  show cj P (binOp .quo t (.int k a) (.int k b))=_
  simp only[binOp,ne_eq,U4,Vk,Op.intDiv,SI hb]; rfl
 show (cj P _).map xf=_
 rw[h]; rfl
@[simp] theorem Lx:kC P .not (.v (.bool p))=some (.v (.bool (!p))):=rfl
@[simp] theorem Lw:kC P .neg (.v (.int k a))=some (.v (.int k (k.wrap (0 - a)))):=rfl
@[simp] theorem D6 (l:List A) (n:Nat):mi (.tup l) n=l[n]?:=rfl
@[simp] theorem O1 (x:Value):snap H (.v x)=.v x:=rfl
@[simp] theorem LG (L:Nat) (x:Value):A.under L (.v x)=true:=rfl
@[simp] theorem Oj (L:Nat) (x:Value) (H':ar):HZ L (.ret (.v x),H')=some (.v x):=rfl
@[simp] theorem Kl (x:A) (f g:A->Option R):dj (.ret x) f g=f x:=rfl
@[simp] theorem Kk (x:A) (f g:A->Option R):dj (.pan x) f g=g x:=rfl
@[simp] theorem Iu {α β:Type} (x y:α) (f:α->Option β):(bif p then some x else some y).bind f=f (bif p then x else y):=by cases p<;>rfl
@[simp] theorem MW (x y:Value):(bif p then A.v x else A.v y)=A.v (bif p then x else y):=by cases p<;>rfl
@[simp] theorem Iw (x y:Bool):(bif p then Value.bool x else Value.bool y)=Value.bool (bif p then x else y):=by cases p<;>rfl
@[simp] theorem Jh (x y:Int):(bif p then Value.int k x else Value.int k y)=Value.int k (bif p then x else y):=by cases p<;>rfl
theorem aE {l:IntKind} (hs:P.underlying s=some (.int l)) (hd:P.underlying d=some (.int k)):aW P s d (.v (.int l a)) H=some (.v (.int k (k.wrap a))):=by
 simp only[aW,hs,hd]
 have h:cj P (convert s d (.int l a))=some (.int k (k.wrap a)):=by
  unfold convert
  simp only[oe,pR,hs,hd,Sw]
  rfl
 show (cj P _).map xf=_
 rw[h]; rfl
end
end
end Go.Proofs.Ytebkhfhcipnfgaa
