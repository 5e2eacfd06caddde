/-
 Regions that draw their order and turn the heap ahead of their tail: in the text's order, whatever was drawn.
-/
import Derived.Test.YtdmgdjnadbakfaaEvHole
namespace Go.Proofs.Ytdmgdjnadbakfaa
set_option linter.unusedSimpArgs false
open Go.RowKit
section
variable {F:Fence} {n:Nat} {P:Program} {ops:Array Oper} {Q:Exit->Act->World->Prop}
def OpVP (F:Fence) (n:Nat) (P:Program) (o:Oper) (ev:Operand->Value) (w:World) (R:Value->World->Prop) (Rp:List PanicEntry->World->Prop):Prop :=
 OpV F n P o ev w R∨∃ f args w',(execOp ev o).run P w=.ok (.enter f args) w'/\CallsIn F (n - 1) P f args w' fun
   | .returned v,w''=>R v w''
   | .panicked ch,w''=>Rp ch w''
   | _,_=>False
theorem wpOpIn_of_opVP (hWF:WideF F) {i:Nat} {o:Oper} (ho:ops[i]? = some o) (hp:plainOp o=true) {a:Act} {w:World} {K:Act->World->Prop} {R:Value->World->Prop}
  (h:if Region.wanted o (yielded ops a.tmps)=true then OpVP F n P o a.eval w R (fun ch w'=>Q (.panic ch) a w') else R undef w) (hK:∀ v w',R v w'->K (a.put o.dst v) w'):wpOpIn F n P ops Q i K a w:=by
 by_cases hw:Region.wanted o (yielded ops a.tmps)=true
 ·rw[if_pos hw] at h
  rcases h with h | ⟨f,args,w',h1,h2⟩
  ·exact wpOpIn_of_opV hWF ho hp (by rw[if_pos hw]; exact h) hK
  ·unfold wpOpIn
   simp only[ho]
   rw[if_pos hw]
   refine⟨fun f _=>hWF.2 f,?_⟩
   rw[Oper.semAt_eq _ _ _ (fun c hc=>by unfold plainOp at hp; rw[hc] at hp; cases hp),h1]
   have hd:F.depth.isSome=true->1<=n:=fun hs=>by rw[hWF.1] at hs; cases hs
   simp only[Oper.uponIn]
   exact⟨hd,h2.mono fun e w'' he=>by cases e<;>first | exact hK _ _ he | exact he | exact he.elim⟩
 ·exact wpOpIn_of_opV hWF ho hp (by rw[if_neg hw] at h ⊢; exact h) hK
theorem region_inv {a0:Act} {w0:World} (hWF:WideF F) (hm:P.follows .mixedOrders=true) (N m:Nat) (hN:a0.tmps.size=N) (chk:rgOk ops N=true) (chkt:tailOk ops m=true)
  (I:(Nat->Prop)->Act->World->Prop) (h0:∀ D,(∀ i,¬ D i)->I D a0 w0.drew)
  (hstep:∀ (D D':Nat->Prop) i o,i<m->ops[i]? = some o->(∀ j,D j->j<m)->¬ D i->(∀ j,bef ops i j=true->D j)->(∀ j k,D j->bef ops j k=true->D k)->(∀ j,D' j↔j=i∨D j)->∀ (a:Act) (w:World),I D a w->a.tmps.size=N->a.defers=a0.defers ->
   if Region.wanted o (yielded ops a.tmps)=true then OpVP F n P o a.eval w (fun v w'=>I D' (a.put o.dst v) w') (fun ch w'=>Q (.panic ch) a w') else I D' (a.put o.dst undef) w)
  (hend:∀ (D:Nat->Prop) (a:Act) (w:World),(∀ i,i<m->D i)->(∀ j,D j->j<m)->I D a w->a.defers=a0.defers->a.tmps.size=N->wpListIn F n P ops Q (ops.toList.drop m) a w) :
  LW F n P ops Q a0 w0:=by
 have chk1:∀ i o,ops[i]? = some o->plainOp o=true/\(∀ e∈o.after,Region.binds .any e=true->e.on<i):=by
  intro i o ho
  have hi:i<ops.size:=(Array.getElem?_eq_some_iff.1 ho).1
  have h:=List.all_eq_true.1 chk i (List.mem_range.2 hi)
  simp only[ho,Bool.and_eq_true] at h
  obtain ⟨⟨⟨⟨⟨h1,h2⟩,h3⟩,h4⟩,h5⟩,h6⟩:=h
  refine⟨h1,fun e he hb=>?_⟩
  have:=Array.all_eq_true_iff_forall_mem.1 h3 e he
  rw[hb] at this; simpa using this
 have hm2:m<=ops.size:=by
  simp only[tailOk,Bool.and_eq_true,decide_eq_true_eq] at chkt
  exact chkt.1.1
 have main:∀ (fuel:Nat) (listed:Array Bool) (a:Act) (w:World),unl ops listed<=fuel->listed.size=ops.size->I (fun i=>Come ops listed i) a w->a.defers=a0.defers->a.tmps.size=N ->
   (∀ i o,ops[i]? = some o->Come ops listed i->∀ e∈o.after,Region.binds .any e=true->Come ops listed e.on)->(∀ i,m<=i->¬ Come ops listed i)->wpAnyIn F n P .any ops Q fuel listed a w:=by
  have getD_eq:∀ (listed:Array Bool) (i:Nat),i<listed.size->listed.getD i true=listed.getD i false:=fun listed i hi=>by simp[hi]
  intro fuel
  induction fuel with
  | zero =>
   intro listed a w hu hls hI hdf hsz hcl hnt
   have all:∀ i,i<ops.size->Come ops listed i:=fun i hi=>by
    cases hc:listed.getD i false with
    | true=>exact hc
    | false =>
     have hmem:i∈(List.range ops.size).filter (fun i=>!listed.getD i true):=List.mem_filter.2 ⟨List.mem_range.2 hi,by rw[getD_eq _ _ (by omega),hc]; rfl⟩
     have:=List.length_pos_of_mem hmem
     unfold unl at hu; omega
   have hmm:m=ops.size:=Nat.le_antisymm hm2 (Nat.le_of_not_lt fun h=>hnt m (Nat.le_refl _) (all m h))
   exact tail_run chkt 0 ops.size (by omega) hm2 0 listed a w (Nat.le_refl _) hls (fun i hi=>⟨fun _=>hi,fun _=>all i hi⟩)
    (by rw[<-hmm]; exact hend _ a w (fun i hi=>all i (by omega)) (fun j hj=>Nat.lt_of_not_le fun hle=>hnt j hle hj) hI hdf hsz)
  | succ fuel ih =>
   intro listed a w hu hls hI hdf hsz hcl hnt
   by_cases hall:∀ i,i<m->Come ops listed i
   ·refine tail_run chkt (ops.size - m) m (by omega) (Nat.le_refl _) (fuel+1) listed a w ?_ hls (fun i hi=>⟨fun h=>Nat.lt_of_not_le fun hle=>hnt i hle h,fun h=>hall i h⟩)
     (hend _ a w hall (fun j hj=>Nat.lt_of_not_le fun hle=>hnt j hle hj) hI hdf hsz)
    refine Nat.le_trans ?_ hu
    unfold unl
    have:((List.range ops.size).filter fun i=>decide (m<=i)).length=ops.size - m:=by
     rw[<-List.countP_eq_length_filter]
     have:∀ s,(List.range s).countP (fun i=>decide (m<=i))=s - m:=by
      intro s
      induction s with
      | zero=>simp
      | succ s ih=>rw[List.range_succ,List.countP_append,ih]; simp[List.countP_cons]; split<;>omega
     exact this _
    rw[<-this]
    rw[<-List.countP_eq_length_filter,<-List.countP_eq_length_filter]
    refine List.countP_mono_left fun i hi h=>?_
    have hi:=List.mem_range.1 hi
    have hn:=hnt i (by simpa using h)
    unfold Come at hn
    rw[getD_eq _ _ (by omega)]
    simpa using hn
   ·simp only[Classical.not_forall] at hall
    obtain ⟨i0,hi0,hni0⟩:=hall
    refine⟨fun hrd=>?_,fun i hi=>?_⟩
    ·exfalso
     have:∀ i,i<m->Come ops listed i:=by
      intro i
      induction i using Nat.strongRecOn with
      | _ i ih2 =>
       intro hi
       cases hc:listed.getD i false with
       | true=>exact hc
       | false =>
        have:i∈Region.ready .any ops listed:=by
         refine mem_ready.2 ⟨by rw[getD_eq _ _ (by omega)]; exact hc,_,Array.getElem?_eq_getElem (by omega),fun e he hb=>?_⟩
         have hlt:=(chk1 i _ (Array.getElem?_eq_getElem (by omega))).2 e he hb
         exact ih2 e.on hlt (by omega)
        rw[hrd] at this; cases this
     exact hni0 (this i0 hi0)
    obtain ⟨hun,o,ho,hall⟩:=mem_ready.1 hi
    have his:i<ops.size:=(Array.getElem?_eq_some_iff.1 ho).1
    have him:i<m:=Nat.lt_of_not_le fun hle=>by
     simp only[tailOk,Bool.and_eq_true] at chkt
     have h1:=List.all_eq_true.1 chkt.1.2 i (List.mem_range.2 his)
     simp only[Bool.or_eq_true,decide_eq_true_eq] at h1
     have h2:=List.all_eq_true.1 (h1.resolve_left (by omega)) i0 (List.mem_range.2 hi0)
     exact hni0 (bef_come hcl i i0 ⟨o,ho,hall⟩ h2)
    obtain ⟨c1,c3⟩:=chk1 i o ho
    have hnot:¬ Come ops listed i:=by unfold Come; rw[<-getD_eq _ _ (by omega),hun]; simp
    have come_set:∀ k,Come ops (listed.setIfInBounds i true) k↔k=i∨Come ops listed k:=fun k=>by
     unfold Come
     by_cases e:k=i
     ·subst e; simp[hls,his]
     ·rw[getD_set_ne false (Ne.symm e)]; simp[e]
    have hlt:∀ j,Come ops listed j->j<m:=fun j hj=>Nat.lt_of_not_le fun hle=>hnt j hle hj
    refine wpOpIn_of_opVP hWF ho c1 (R:=fun v w'=>I (fun k=>Come ops (listed.setIfInBounds i true) k) (a.put o.dst v) w') (hstep _ _ i o him ho hlt hnot (fun j hb=>bef_come hcl i j ⟨o,ho,hall⟩ hb) (fun j k hj hb=>?_) come_set a w hI hsz hdf) ?_
    ·cases hoj:ops[j]? with
     | none=>exact absurd (Array.getElem?_eq_none_iff.1 hoj) (by have:=hlt j hj; omega)
     | some oj=>exact bef_come hcl j k ⟨oj,hoj,hcl j oj hoj hj⟩ hb
    ·intro v w' hI'
     refine ih _ _ _ ?_ (by simpa using hls) hI' ?_ ?_ ?_ ?_
     ·have:=filter_lt (fun k=>!listed.getD k true) (fun k=>!(listed.setIfInBounds i true).getD k true) (List.range ops.size) (fun x hx hq=>by
       by_cases e:i=x
       ·subst e; rw[hun]; rfl
       ·rw[getD_set_ne true e] at hq; exact hq) ⟨i,List.mem_range.2 his,by rw[hun]; rfl,by simp[hls,his]⟩
      unfold unl at *; omega
     ·cases hd:o.dst<;>simp[Act.put,hdf]
     ·cases hd:o.dst<;>simp[Act.put,hsz]
     ·intro k ok hok hk e he hb
      rw[come_set]
      rcases (come_set k).1 hk with rfl | hk
      ·rw[ho] at hok; cases hok
       exact .inr (hall e he hb)
      ·exact .inr (hcl k ok hok hk e he hb)
     ·intro k hk hc
      rcases (come_set k).1 hc with rfl | hc
      ·omega
      ·exact hnt k hk hc
 have h00:∀ i,¬ Come ops (Array.replicate ops.size false) i:=fun i hc=>by
  unfold Come at hc
  by_cases h:i<ops.size<;>simp[Array.getD,h] at hc
 refine LW_any hm (main _ _ _ _ ?_ (by simp) (h0 _ h00) rfl hN ?_ ?_)
 ·unfold unl
  exact Nat.le_trans (List.length_filter_le _ _) (by simp)
 ·intro i o _ hc; exact absurd hc (h00 i)
 ·intro i _ hc; exact h00 i hc
end
variable {H H':Heap} {g g':Gh} {w0 w w':World} {cx:Cx} {s:St} {a:Act} {F:Fence} {n:Nat} {N lo:Nat} {mb:Mb} {H0:Heap} {gs:Gh} {ws:World} {Bs:Heap->Gh->World->Prop} {f:Nat} {ops:Array Oper}
theorem evV_free {call:CallT} {o:Oper} {fr:List (Nat×A)} {H H':Heap} (hk:opKind o=0):evV cx call f o ⟨fr,H⟩=evV cx call f o ⟨fr,H'⟩:=by
 have ho:∀ x,opd cx ⟨fr,H⟩ x=opd cx ⟨fr,H'⟩ x:=fun x=>by cases x<;>rfl
 have hof:opd cx ⟨fr,H⟩=opd cx ⟨fr,H'⟩:=funext ho
 unfold opKind at hk
 unfold evV evOp1
 split at hk
 all_goals first
  | (rename_i h; simp only[h,ho,hof]; done)
  | (rename_i h; simp only[h,ho,hof]; rfl)
  | (cases hk; done)
  | (split at hk<;>cases hk; done)
theorem frzA_flat {H H':Heap} {a:A} (h:flatA a=true):frzA H a=frzA H' a:=by
 unfold flatA at h
 unfold frzA
 split
 ·cases h
 ·rename_i cs
  congr 1
  refine List.map_congr_left fun c hc=>?_
  have:=List.all_eq_true.1 h c hc
  unfold flat1 at this
  unfold frz1
  split
  ·cases this
  ·rfl
  ·rfl
 ·rfl
theorem flats_spec:∀ {l:List A},flats l=true->∀ a∈l,flatA a=true
 | [],_,a,ha=>by cases ha
 | x :: l,h,a,ha=>by
  unfold flats at h
  cases hx:flatA x with
  | false=>rw[hx] at h; cases h
  | true =>
   rw[hx] at h
   rcases List.mem_cons.1 ha with rfl | ha
   ·exact hx
   ·exact flats_spec h a ha
theorem evV_flat {call:CallT} {o:Oper} {fr:List (Nat×A)} {H H':Heap} (hk:opKind o=2) (hf:flats (partsOf cx ⟨fr,H⟩ o.op)=true):evV cx call f o ⟨fr,H⟩=evV cx call f o ⟨fr,H'⟩:=by
 have ho:∀ x,opd cx ⟨fr,H⟩ x=opd cx ⟨fr,H'⟩ x:=fun x=>by cases x<;>rfl
 unfold opKind at hk
 split at hk<;>first | (cases hk; done) | (split at hk<;>cases hk; done) | skip
 rename_i t len parts h
 have hf:=flats_spec hf
 unfold partsOf at hf
 rw[h] at hf
 simp only[] at hf
 unfold evV evOp1
 simp only[h]
 have:(parts.toList.map fun p=>(p.1,frzA H (opd cx ⟨fr,H⟩ p.2)))=parts.toList.map fun p=>(p.1,frzA H' (opd cx ⟨fr,H'⟩ p.2)):=by
  refine List.map_congr_left fun p hp=>?_
  rw[<-ho,frzA_flat (hf _ (List.mem_map.2 ⟨p,hp,rfl⟩))]
 rw[this]
theorem refOK_one {H H':Heap} {x:A} (hb:∀ b,blk? x=some b->H'[b]? = H[b]?):refOK H x=refOK H' x:=by
 unfold refOK
 cases x with
 | ptr b o=>simp only[]; rw[hb b rfl]
 | ep b i o=>simp only[]; rw[hb b rfl]
 | sl b o n c=>simp only[]; rw[hb b rfl]
 | mr b=>simp only[]; rw[hb b rfl]
 | _=>rfl
theorem evV_one {call:CallT} {o:Oper} {fr:List (Nat×A)} {H H':Heap} (hk:opKind o=1) (hb:∀ b,blk? (addrOf cx ⟨fr,H⟩ o.op)=some b->H'[b]? = H[b]?):evV cx call f o ⟨fr,H⟩=evV cx call f o ⟨fr,H'⟩:=by
 have ho:∀ x,opd cx ⟨fr,H⟩ x=opd cx ⟨fr,H'⟩ x:=fun x=>by cases x<;>rfl
 have hof:opd cx ⟨fr,H⟩=opd cx ⟨fr,H'⟩:=funext ho
 unfold opKind at hk
 split at hk<;>first | (cases hk; done) | skip
 ·rename_i t x h
  unfold addrOf at hb
  rw[h] at hb
  simp only[] at hb
  unfold evV evOp1
  simp only[h]
  have:aLoad cx.P t (opd cx ⟨fr,H⟩ x) H=aLoad cx.P t (opd cx ⟨fr,H'⟩ x) H':=by
   rw[<-ho]
   unfold aLoad
   cases hx:opd cx ⟨fr,H⟩ x with
   | ptr b o=>simp only[]; rw[hb b (by rw[hx]; rfl)]
   | ep b i o=>simp only[]; rw[hb b (by rw[hx]; rfl)]
   | _=>rfl
  rw[this]
 ·rename_i t x i h
  unfold addrOf at hb
  rw[h] at hb
  simp only[] at hb
  unfold evV evOp1
  simp only[h]
  have:aFieldAddr cx.P t (opd cx ⟨fr,H⟩ x) i H=aFieldAddr cx.P t (opd cx ⟨fr,H'⟩ x) i H':=by
   rw[<-ho]
   unfold aFieldAddr
   rw[refOK_one hb]
  rw[this]
 ·rename_i t x i h
  unfold addrOf at hb
  rw[h] at hb
  simp only[] at hb
  unfold evV evOp1
  simp only[h]
  have:aIndexAddr cx.P t (opd cx ⟨fr,H⟩ x) (opd cx ⟨fr,H⟩ i) H=aIndexAddr cx.P t (opd cx ⟨fr,H'⟩ x) (opd cx ⟨fr,H'⟩ i) H':=by
   rw[<-ho,<-ho]
   unfold aIndexAddr
   rw[refOK_one hb]
   cases hx:opd cx ⟨fr,H⟩ x with
   | ptr b o=>rfl
   | ep b i o=>simp only[]; rw[hb b (by rw[hx]; rfl)]
   | sl b o n c=>simp only[]; rw[hb b (by rw[hx]; rfl)]
   | _=>rfl
  rw[this]
 ·rename_i t x lo hi mx h
  unfold addrOf at hb
  rw[h] at hb
  simp only[] at hb
  unfold evV evOp1
  simp only[h]
  have:∀ a b c,aSlice cx.P t (opd cx ⟨fr,H⟩ x) a b c H=aSlice cx.P t (opd cx ⟨fr,H'⟩ x) a b c H':=fun a b c=>by
   rw[<-ho]
   generalize hx:opd cx ⟨fr,H⟩ x=y at hb ⊢
   unfold aSlice
   split
   ·rfl
   ·rfl
   ·rename_i hb'
    rw[hb _ rfl]
   ·rfl
   ·rename_i hb'
    rw[hb _ rfl]
   ·rfl
  simp only[this]
  simp only[hof]
 ·rename_i x h
  unfold addrOf at hb
  rw[h] at hb
  simp only[] at hb
  unfold evV evOp1
  simp only[h]
  have:aNil (opd cx ⟨fr,H⟩ x) H=aNil (opd cx ⟨fr,H'⟩ x) H':=by
   rw[<-ho]
   have hr:=refOK_one hb
   unfold aNil
   cases hx:opd cx ⟨fr,H⟩ x with
   | ptr b o=>rw[hx] at hr; simp only[nonNil,hr]
   | ep b i o=>rw[hx] at hr; simp only[nonNil,hr]
   | fn q _ _=>cases q<;>rfl
   | _=>rfl
  rw[this]
 ·rename_i t1 t2 x h
  unfold addrOf at hb
  rw[h] at hb
  simp only[] at hb
  unfold evV evOp1
  simp only[h]
  have:aConvert cx.P t1 t2 (opd cx ⟨fr,H⟩ x) H=aConvert cx.P t1 t2 (opd cx ⟨fr,H'⟩ x) H':=by
   rw[<-ho]
   have he:elsB H (opd cx ⟨fr,H⟩ x)=elsB H' (opd cx ⟨fr,H⟩ x):=by
    unfold elsB els?
    cases hx:opd cx ⟨fr,H⟩ x with
    | sl b o n c=>simp only[]; rw[hb b (by rw[hx]; rfl)]
    | v y=>rfl
    | _=>rfl
   generalize opd cx ⟨fr,H⟩ x=z at he
   unfold aConvert
   split
   ·rw[he]
   ·rfl
   ·rfl
  rw[this]
 ·rename_i t x q c h
  unfold addrOf at hb
  rw[h] at hb
  simp only[] at hb
  unfold evV evOp1
  simp only[h]
  have:aLookup cx.P t (opd cx ⟨fr,H⟩ x) (opd cx ⟨fr,H⟩ q) c H=aLookup cx.P t (opd cx ⟨fr,H'⟩ x) (opd cx ⟨fr,H'⟩ q) c H':=by
   rw[<-ho,<-ho]
   unfold aLookup
   cases hx:opd cx ⟨fr,H⟩ x with
   | mr b=>simp only[]; rw[hb b (by rw[hx]; rfl)]
   | _=>rfl
  rw[this]
 ·rename_i c h
  split at hk<;>first | (cases hk; done) | skip
  rename_i hc
  unfold addrOf at hb
  rw[h] at hb
  simp only[] at hb
  unfold evV evOp1
  simp only[h,hc]
  have hi:isCall (.call c)=false:=by unfold isCall; simp only[hc]
  rw[hi,cond_false,cond_false]
  unfold evBI
  simp only[hc]
  cases hx:c.args.toList with
  | nil=>rfl
  | cons y l =>
   rw[hx] at hb
   simp only[] at hb
   cases l with
   | nil =>
    cases c.argTypes.toList with
    | nil=>rfl
    | cons t ts=>cases ts with
     | nil =>
      simp only[]
      have:aLen cx.P t (opd cx ⟨fr,H⟩ y) H=aLen cx.P t (opd cx ⟨fr,H'⟩ y) H':=by
       rw[<-ho]
       unfold aLen
       rw[refOK_one hb]
      rw[this]
     | cons _ _=>rfl
   | cons _ _=>rfl
theorem refOK_there {H:Heap} {x:A} {b:Nat} (h:refOK H x=true) (hb:blk? x=some b):∃ B,H[b]? = some B:=by
 unfold refOK at h
 cases x with
 | ptr b' o=>cases hb; cases hq:H[b]? with
  | none=>simp only[hq] at h; cases h
  | some B=>exact⟨B,rfl⟩
 | ep b' i o=>cases hb; cases hq:H[b]? with
  | none=>simp only[hq] at h; cases h
  | some B=>exact⟨B,rfl⟩
 | sl b' o n c=>cases hb; cases hq:H[b]? with
  | none=>simp only[hq] at h; cases h
  | some B=>exact⟨B,rfl⟩
 | mr b'=>cases hb; cases hq:H[b]? with
  | none=>simp only[hq] at h; cases h
  | some B=>exact⟨B,rfl⟩
 | _=>cases hb
theorem evV_there {call:CallT} {o:Oper} {s:St} {x:A} {b:Nat} (hk:opKind o=1) (h1:evV cx call f o s=some x) (hb:blk? (addrOf cx s o.op)=some b):∃ B,s.H[b]? = some B:=by
 unfold opKind at hk
 unfold addrOf at hb
 split at hk<;>first | (cases hk; done) | skip
 ·rename_i t y hx
  rw[hx] at hb
  simp only[] at hb
  unfold evV evOp1 at h1
  simp only[hx] at h1
  obtain ⟨_,h1,_⟩:=bnd h1
  unfold aLoad at h1
  obtain ⟨_,_,h1⟩:=bnd h1
  obtain ⟨_,h1⟩:=cnone h1
  generalize opd cx s y=z at hb h1
  cases z with
  | ptr b2 o2=>cases hb; cases hq:s.H[b]? with
   | none=>simp only[hq] at h1; cases h1
   | some B=>exact⟨B,rfl⟩
  | ep b2 i2 o2=>cases hb; cases hq:s.H[b]? with
   | none=>simp only[hq] at h1; cases h1
   | some B=>exact⟨B,rfl⟩
  | sl b2 o2 n2 c2=>cases h1
  | mr _=>cases h1
  | _=>cases hb
 ·rename_i t y q hx
  rw[hx] at hb
  simp only[] at hb
  unfold evV evOp1 at h1
  simp only[hx] at h1
  obtain ⟨_,h1,_⟩:=bnd h1
  unfold aFieldAddr at h1
  exact refOK_there (csome h1).1 hb
 ·rename_i t y q hx
  rw[hx] at hb
  simp only[] at hb
  unfold evV evOp1 at h1
  simp only[hx] at h1
  obtain ⟨_,h1,_⟩:=bnd h1
  unfold aIndexAddr at h1
  obtain ⟨_,_,h1⟩:=bnd h1
  exact refOK_there (csome h1).1 hb
 ·rename_i t y q1 q2 q3 hx
  rw[hx] at hb
  simp only[] at hb
  unfold evV evOp1 at h1
  simp only[hx] at h1
  obtain ⟨_,h1,_⟩:=bnd h1
  obtain ⟨_,h1⟩:=csome h1
  generalize opd cx s y=z at hb h1
  unfold aSlice at h1
  split at h1
  ·cases hb
  ·cases hb
  ·cases hb
   obtain ⟨_,_,h1⟩:=bnd h1
   obtain ⟨_,_,h1⟩:=bnd h1
   obtain ⟨_,_,h1⟩:=bnd h1
   obtain ⟨hc,_⟩:=csome h1
   rw[Bool.and_eq_true] at hc
   have hc:=hc.2
   cases hq:s.H[b]? with
   | none=>rw[hq] at hc; cases hc
   | some B=>exact⟨B,rfl⟩
  ·cases hb
  ·cases hb
   obtain ⟨_,_,h1⟩:=bnd h1
   obtain ⟨_,_,h1⟩:=bnd h1
   obtain ⟨_,_,h1⟩:=bnd h1
   obtain ⟨hc,_⟩:=csome h1
   rw[Bool.and_eq_true] at hc
   have hc:=hc.2
   cases hq:s.H[b]? with
   | none=>rw[hq] at hc; cases hc
   | some B=>exact⟨B,rfl⟩
  ·cases h1
 ·rename_i y hx
  rw[hx] at hb
  simp only[] at hb
  unfold evV evOp1 at h1
  simp only[hx] at h1
  obtain ⟨_,h1,_⟩:=bnd h1
  unfold aNil at h1
  obtain ⟨hn,_⟩:=csome h1
  generalize opd cx s y=z at hb hn
  cases z with
  | ptr b2 o2=>exact refOK_there (x:=.ptr b2 o2) hn hb
  | ep b2 i2 o2=>exact refOK_there (x:=.ep b2 i2 o2) hn hb
  | sl b2 o2 n2 c2=>cases hn
  | mr _=>cases hn
  | _=>cases hb
 ·rename_i t1 t2 y hx
  rw[hx] at hb
  simp only[] at hb
  unfold evV evOp1 at h1
  simp only[hx] at h1
  obtain ⟨_,h1,_⟩:=bnd h1
  generalize opd cx s y=z at hb h1
  cases z with
  | sl b2 o2 n2 c2 =>
   cases hb
   cases hq:s.H[b]? with
   | some B=>exact⟨B,rfl⟩
   | none =>
    unfold aConvert at h1
    split at h1
    ·rename_i heq
     split at h1
     ·obtain ⟨_,h1,_⟩:=bnd h1
      simp only[elsB,els?,hq] at h1
      cases h1
     ·cases h1
    ·rename_i heq
     cases heq
    ·obtain ⟨_,h1,_⟩:=bnd h1
     cases h1
  | ptr _ _ =>
   unfold aConvert at h1
   split at h1
   ·split at h1
    ·obtain ⟨_,h1,_⟩:=bnd h1
     cases h1
    ·cases h1
   ·rename_i heq
    cases heq
   ·obtain ⟨_,h1,_⟩:=bnd h1
    cases h1
  | ep _ _ _ =>
   unfold aConvert at h1
   split at h1
   ·split at h1
    ·obtain ⟨_,h1,_⟩:=bnd h1
     cases h1
    ·cases h1
   ·rename_i heq
    cases heq
   ·obtain ⟨_,h1,_⟩:=bnd h1
    cases h1
  | mr _ =>
   unfold aConvert at h1
   split at h1
   ·split at h1
    ·obtain ⟨_,h1,_⟩:=bnd h1
     cases h1
    ·cases h1
   ·rename_i heq
    cases heq
   ·obtain ⟨_,h1,_⟩:=bnd h1
    cases h1
  | _=>cases hb
 ·rename_i t y q c hx
  rw[hx] at hb
  simp only[] at hb
  unfold evV evOp1 at h1
  simp only[hx] at h1
  obtain ⟨_,h1,_⟩:=bnd h1
  generalize opd cx s y=z at hb h1
  unfold aLookup at h1
  obtain ⟨_,_,h1⟩:=bnd h1
  obtain ⟨_,_,h1⟩:=bnd h1
  cases z with
  | mr b2=>cases hb; cases hq:s.H[b]? with
   | none=>simp only[hq] at h1; cases h1
   | some B=>exact⟨B,rfl⟩
  | ptr _ _=>cases h1
  | ep _ _ _=>cases h1
  | sl _ _ _ _=>cases h1
  | _=>cases hb
 ·rename_i c hx
  split at hk<;>first | (cases hk; done) | skip
  rename_i hc
  rw[hx] at hb
  simp only[] at hb
  unfold evV evOp1 at h1
  simp only[hx,hc] at h1
  have hi:isCall (.call c)=false:=by unfold isCall; simp only[hc]
  rw[hi,cond_false] at h1
  unfold evBI at h1
  simp only[hc] at h1
  cases hargs:c.args.toList with
  | nil=>rw[hargs] at hb; cases hb
  | cons y l =>
   rw[hargs] at hb h1
   simp only[] at hb h1
   split at h1<;>first | (cases h1; done) | skip
   all_goals first
    | (rename_i hh _ _; injection hh with hh; cases hh; done)
    | (rename_i hh _; injection hh with hh; cases hh; done)
    | skip
   rename_i x' t' _ hl _
   cases hl
   obtain ⟨_,h1,_⟩:=bnd h1
   unfold aLen at h1
   exact refOK_there (csome h1).1 hb
theorem evV_calm {call:CallT} {o:Oper} {fr:List (Nat×A)} {H H':Heap} (hk:opKind o=2∨(opKind o=4/\orcOp cx o=true)) (h:∀ b,rowF H b=rowF H' b):evV cx call f o ⟨fr,H⟩=evV cx call f o ⟨fr,H'⟩:=by
 have ho:∀ x,opd cx ⟨fr,H⟩ x=opd cx ⟨fr,H'⟩ x:=fun x=>by cases x<;>rfl
 have hof:opd cx ⟨fr,H⟩=opd cx ⟨fr,H'⟩:=funext ho
 rcases hk with hk | ⟨_,hk⟩
 ·unfold opKind at hk
  split at hk<;>first | (cases hk; done) | (rename_i c _; split at hk<;>cases hk; done) | skip
  rename_i t len parts ho
  unfold evV evOp1
  simp only[ho,hof,frzA_rowF h]
 ·unfold orcOp at hk
  split at hk
  ·rename_i c hc
   split at hk
   ·rename_i q hq
    rw[Bool.and_eq_true] at hk
    have hi:isCall o.op=true:=by unfold isCall; rw[hc]; simp only[hq]
    unfold evV
    simp only[hc] at hi ⊢
    rw[hi,cond_true,cond_true]
    unfold fvOf fargs
    simp only[hq]
    have hfv:∀ K,opd cx ⟨fr,K⟩ (.func q)=.fn (.func q) [] []:=fun _=>rfl
    rw[hfv,hfv]
    unfold dynV
    simp only[hk.1,hk.2,cond_true,hof,snap_rowF h]
   ·cases hk
  ·cases hk
theorem evV_orcD {call:CallT} {o:Oper} {s:St} {H H':Heap} (hk:orcD cx s o=true) (h:∀ b,rowF H b=rowF H' b):evV cx call f o ⟨s.fr,H⟩=evV cx call f o ⟨s.fr,H'⟩:=by
 have ho:∀ x,opd cx ⟨s.fr,H⟩ x=opd cx ⟨s.fr,H'⟩ x:=fun x=>by cases x<;>rfl
 have ho2:∀ x,opd cx ⟨s.fr,H'⟩ x=opd cx s x:=fun x=>by cases x<;>rfl
 have hof:opd cx ⟨s.fr,H⟩=opd cx ⟨s.fr,H'⟩:=funext ho
 have hof2:opd cx ⟨s.fr,H'⟩=opd cx s:=funext ho2
 unfold orcD at hk
 split at hk
 ·rename_i c hc
  have hi:isCall (.call c)=true:=by
   cases hi:isCall (.call c) with
   | true=>rfl
   | false=>rw[hi] at hk; cases hk
  rw[hi,cond_true] at hk
  have e1:fvOf cx ⟨s.fr,H⟩ (.call c)=fvOf cx s (.call c):=by unfold fvOf; rw[hof,hof2]
  have e2:fvOf cx ⟨s.fr,H'⟩ (.call c)=fvOf cx s (.call c):=by unfold fvOf; rw[hof2]
  have e3:fargs cx ⟨s.fr,H⟩ (.call c)=fargs cx ⟨s.fr,H'⟩ (.call c):=by unfold fargs; rw[hof]
  unfold evV
  simp only[hc]
  rw[hi,cond_true,cond_true,e1,e2,e3]
  split at hk
  ·rename_i q first cap hfv
   rw[Bool.and_eq_true] at hk
   rw[hfv]
   unfold dynV
   simp only[hk.1,hk.2,cond_true,snap_rowF h]
  ·cases hk
 ·cases hk
theorem calm_rowF {o:Oper} {x:A} {H':Heap} (he:calmOp o=true) (h:evOp1 cx f lo o s (fun a H=>some (a,H))=some (x,H')):∀ b,rowF H' b=rowF s.H b:=by
 have new:∀ B,(∀ es els,B≠Blk.row false es els)->∀ b,rowF (s.H++[B]) b=rowF s.H b:=fun B hB b=>by
  unfold rowF
  by_cases hb:b<s.H.length
  ·rw[List.getElem?_append_left hb]
  ·rw[List.getElem?_append_right (by omega),List.getElem?_eq_none (by omega:s.H.length<=b)]
   cases hx:[B][b - s.H.length]? with
   | none=>rfl
   | some C =>
    have:C=B:=by
     have:=List.mem_of_getElem? hx
     simpa using this
    subst this
    cases C with
    | row wr es els=>cases wr with
     | true=>rfl
     | false=>exact absurd rfl (hB es els)
    | _=>rfl
 have setb:∀ c B B0,s.H[c]? = some B0->(∀ es els,B0≠Blk.row false es els)->(∀ es els,B≠Blk.row false es els)->∀ b,rowF (s.H.set c B) b=rowF s.H b:=fun c B B0 h0 h1 h2 b=>by
  by_cases hb:b=c
  ·subst hb
   rw[rowF_none (List.getElem?_set_self (List.getElem?_eq_some_iff.1 h0).1) h2,rowF_none h0 h1]
  ·unfold rowF
   rw[List.getElem?_set_ne (Ne.symm hb)]
 have nb:∀ cs es els,Blk.box cs≠Blk.row false es els:=fun _ _ _ h=>by cases h
 have nt:∀ es els es' els',Blk.row true es els≠Blk.row false es' els':=fun _ _ _ _ h=>by cases h
 have row:∀ {t cs y K},rowOf cx.P t cs s.H=some (y,K)->∃ es els,K=s.H++[.row true es els]:=fun {t cs y K} h=>by
  unfold rowOf at h
  split at h
  ·obtain ⟨es,_,h⟩:=bnd h
   obtain ⟨_,h⟩:=cnone h
   cases h
   exact⟨_,_,rfl⟩
  ·cases h
 unfold calmOp at he
 split at he
 ·rename_i t ad v ho
  unfold evOp1 at h
  simp only[ho] at h
  obtain ⟨K,h1,h⟩:=bnd h
  cases h
  unfold aStore at h1
  obtain ⟨nn,_,h1⟩:=bnd h1
  obtain ⟨xs,_,h1⟩:=bnd h1
  obtain ⟨_,h1⟩:=cnone h1
  split at h1
  ·split at h1
   ·rename_i hb
    obtain ⟨_,h1⟩:=csome h1
    cases h1
    exact setb _ _ _ hb (nb _) (nb _)
   ·cases h1
  ·split at h1
   ·rename_i hb
    split at h1
    ·rw[bcond] at h1
     split at h1
     ·cases h1
      exact setb _ _ _ hb (nt _ _) (nt _ _)
     ·obtain ⟨_,h1⟩:=csome h1
      cases h1
      exact setb _ _ _ hb (nt _ _) (nt _ _)
    ·cases h1
   ·cases h1
  ·cases h1
 ·rename_i t ho
  unfold evOp1 at h
  simp only[ho] at h
  obtain ⟨⟨y,K⟩,h1,h⟩:=bnd h
  cases h
  unfold allocT at h1
  rw[bcond] at h1
  split at h1
  ·unfold aAllocR at h1
   obtain ⟨cs,_,h1⟩:=bnd h1
   obtain ⟨es,els,rfl⟩:=row h1
   exact new _ (nt _ _)
  ·unfold aAlloc at h1
   obtain ⟨cs,_,h1⟩:=Option.map_eq_some_iff.1 h1
   cases h1
   exact new _ (nb _)
 ·rename_i t v ho
  unfold evOp1 at h
  simp only[ho] at h
  obtain ⟨⟨y,K⟩,h1,h⟩:=bnd h
  cases h
  unfold boxT at h1
  rw[bcond] at h1
  split at h1
  ·unfold aBoxR at h1
   obtain ⟨cs,_,h1⟩:=bnd h1
   obtain ⟨es,els,rfl⟩:=row h1
   exact new _ (nt _ _)
  ·unfold aBox at h1
   obtain ⟨cs,_,h1⟩:=Option.map_eq_some_iff.1 h1
   cases h1
   exact new _ (nb _)
 ·rename_i c ho
  unfold evOp1 at h
  simp only[ho] at h
  split at he
  ·rename_i hca
   unfold evBI at h
   simp only[hca] at h
   split at h
   all_goals first | (rename_i hh _ _; cases hh; done) | (rename_i hh _ _; injection hh with hh; cases hh; done) | skip
   ·rename_i x y t t2 _ hargs _
    obtain ⟨⟨z,K⟩,h1,h⟩:=bnd h
    cases h
    unfold aCopy at h1
    obtain ⟨_,_,h1⟩:=bnd h1
    obtain ⟨_,_,h1⟩:=bnd h1
    obtain ⟨_,_,h1⟩:=bnd h1
    obtain ⟨_,h1⟩:=cnone h1
    split at h1
    ·split at h1
     ·rename_i hb
      obtain ⟨_,h1⟩:=csome h1
      cases h1
      exact setb _ _ _ hb (nt _ _) (nt _ _)
     ·cases h1
    ·cases h1
   all_goals first | (cases h; done) | (rename_i hh _; injection hh with hh; cases hh; done)
  ·cases he
 ·cases he
theorem eff_touch {o:Oper} {x:A} {H':Heap} (he:isEff o=true) (h:evOp1 cx f lo o s (fun a H=>some (a,H))=some (x,H')):s.H.length<=H'.length/\∀ b,b<s.H.length->(∀ c,blk? (touchA cx s o.op)=some c->b≠c)->H'[b]? = s.H[b]?:=by
 have new:∀ B,s.H.length<=(s.H++[B]).length/\∀ b,b<s.H.length->(∀ c,blk? (touchA cx s o.op)=some c->b≠c)->(s.H++[B])[b]? = s.H[b]?:=fun B=>⟨by simp,fun b hb _=>List.getElem?_append_left hb⟩
 have setb:∀ c B,blk? (touchA cx s o.op)=some c->s.H.length<=(s.H.set c B).length/\∀ b,b<s.H.length->(∀ c,blk? (touchA cx s o.op)=some c->b≠c)->(s.H.set c B)[b]? = s.H[b]?:=fun c B hc=>⟨by simp,fun b _ hb=>List.getElem?_set_ne (Ne.symm (hb c hc))⟩
 have row:∀ {t cs y K},rowOf cx.P t cs s.H=some (y,K)->∃ B,K=s.H++[B]:=fun {t cs y K} h=>by
  unfold rowOf at h
  split at h
  ·obtain ⟨es,_,h⟩:=bnd h
   obtain ⟨_,h⟩:=cnone h
   cases h
   exact⟨_,rfl⟩
  ·cases h
 unfold isEff at he
 split at he
 ·rename_i t ad v ho
  unfold evOp1 at h
  simp only[ho] at h
  obtain ⟨K,h1,h⟩:=bnd h
  cases h
  unfold aStore at h1
  obtain ⟨nn,_,h1⟩:=bnd h1
  obtain ⟨xs,_,h1⟩:=bnd h1
  obtain ⟨_,h1⟩:=cnone h1
  have ht:touchA cx s o.op=opd cx s ad:=by unfold touchA; rw[ho]
  cases hx:opd cx s ad with
  | ptr b oo =>
   simp only[hx] at h1
   split at h1
   ·obtain ⟨_,h1⟩:=csome h1
    cases h1
    exact setb b _ (by rw[ht,hx]; rfl)
   ·cases h1
  | ep b i oo =>
   simp only[hx] at h1
   split at h1
   ·split at h1
    ·rw[bcond] at h1
     split at h1
     ·cases h1
      exact setb b _ (by rw[ht,hx]; rfl)
     ·obtain ⟨_,h1⟩:=csome h1
      cases h1
      exact setb b _ (by rw[ht,hx]; rfl)
    ·cases h1
   ·cases h1
  | _=>simp only[hx] at h1; cases h1
 ·rename_i t ho
  unfold evOp1 at h
  simp only[ho] at h
  obtain ⟨⟨y,K⟩,h1,h⟩:=bnd h
  cases h
  unfold allocT at h1
  rw[bcond] at h1
  split at h1
  ·unfold aAllocR at h1
   obtain ⟨cs,_,h1⟩:=bnd h1
   obtain ⟨B,rfl⟩:=row h1
   exact new B
  ·unfold aAlloc at h1
   obtain ⟨cs,_,h1⟩:=Option.map_eq_some_iff.1 h1
   cases h1
   exact new _
 ·rename_i t v ho
  unfold evOp1 at h
  simp only[ho] at h
  obtain ⟨⟨y,K⟩,h1,h⟩:=bnd h
  cases h
  unfold boxT at h1
  rw[bcond] at h1
  split at h1
  ·unfold aBoxR at h1
   obtain ⟨cs,_,h1⟩:=bnd h1
   obtain ⟨B,rfl⟩:=row h1
   exact new B
  ·unfold aBox at h1
   obtain ⟨cs,_,h1⟩:=Option.map_eq_some_iff.1 h1
   cases h1
   exact new _
 ·rename_i t l c ho
  unfold evOp1 at h
  simp only[ho] at h
  obtain ⟨⟨y,K⟩,h1,h⟩:=bnd h
  cases h
  unfold makeT at h1
  rw[bcond] at h1
  split at h1
  ·unfold aMakeImm at h1
   obtain ⟨_,_,h1⟩:=bnd h1
   obtain ⟨_,_,h1⟩:=bnd h1
   obtain ⟨_,_,h1⟩:=bnd h1
   obtain ⟨_,_,h1⟩:=bnd h1
   obtain ⟨_,_,h1⟩:=bnd h1
   obtain ⟨_,_,h1⟩:=bnd h1
   obtain ⟨_,h1⟩:=cnone h1
   cases h1
   exact⟨Nat.le_refl _,fun _ _ _=>rfl⟩
  unfold aMakeSlice aMakeSliceK at h1
  obtain ⟨_,_,h1⟩:=bnd h1
  obtain ⟨_,_,h1⟩:=bnd h1
  obtain ⟨_,_,h1⟩:=bnd h1
  obtain ⟨_,_,h1⟩:=bnd h1
  obtain ⟨_,_,h1⟩:=bnd h1
  obtain ⟨_,_,h1⟩:=bnd h1
  obtain ⟨_,h1⟩:=cnone h1
  rw[bcond] at h1
  split at h1
  ·cases h1; exact new _
  ·obtain ⟨_,h1⟩:=csome h1
   cases h1; exact new _
 ·rename_i c ho
  have ht:∀ x r,c.args.toList=x :: r->touchA cx s o.op=opd cx s x:=fun x r hc=>by unfold touchA; rw[ho]; simp only[hc]
  unfold evOp1 at h
  simp only[ho] at h
  split at he
  ·rename_i hca
   unfold evBI at h
   simp only[hca] at h
   split at h
   all_goals first | (rename_i hh _ _; cases hh; done) | (rename_i hh _ _; injection hh with hh; cases hh; done) | skip
   ·rename_i x y t t2 _ hargs _
    obtain ⟨⟨z,K⟩,h1,h⟩:=bnd h
    cases h
    have ht:=ht x [y] hargs
    unfold aAppend at h1
    obtain ⟨_,_,h1⟩:=bnd h1
    obtain ⟨_,_,h1⟩:=bnd h1
    obtain ⟨_,_,h1⟩:=bnd h1
    obtain ⟨_,_,h1⟩:=bnd h1
    obtain ⟨_,_,h1⟩:=bnd h1
    obtain ⟨_,h1⟩:=cnone h1
    cases hx:opd cx s x with
    | imm xs cl =>
     simp only[hx] at h1
     cases cl with
     | false=>cases h1
     | true =>
      simp only[] at h1
      obtain ⟨_,h1⟩:=cnone h1
      rw[bcond] at h1
      split at h1
      ·cases h1; exact new _
      ·obtain ⟨_,h1⟩:=csome h1
       cases h1; exact new _
    | sl b oo nn cl =>
     simp only[hx] at h1
     split at h1
     ·obtain ⟨_,h1⟩:=cnone h1
      rw[bcond] at h1
      split at h1
      ·cases h1; exact new _
      ·obtain ⟨_,h1⟩:=csome h1
       cases h1
       exact setb b _ (by rw[ht,hx]; rfl)
     ·cases h1
    | _=>simp only[hx] at h1; cases h1
   all_goals first | (cases h; done) | (rename_i hh _; injection hh with hh; cases hh; done)
  ·rename_i hca
   unfold evBI at h
   simp only[hca] at h
   split at h
   all_goals first | (rename_i hh _ _; cases hh; done) | (rename_i hh _ _; injection hh with hh; cases hh; done) | skip
   ·rename_i x y t t2 _ hargs _
    obtain ⟨⟨z,K⟩,h1,h⟩:=bnd h
    cases h
    have ht:=ht x [y] hargs
    unfold aCopy at h1
    obtain ⟨_,_,h1⟩:=bnd h1
    obtain ⟨_,_,h1⟩:=bnd h1
    obtain ⟨_,_,h1⟩:=bnd h1
    obtain ⟨_,h1⟩:=cnone h1
    cases hx:opd cx s x with
    | sl b oo nn cl =>
     simp only[hx] at h1
     split at h1
     ·obtain ⟨_,h1⟩:=csome h1
      cases h1
      exact setb b _ (by rw[ht,hx]; rfl)
     ·cases h1
    | _=>simp only[hx] at h1; cases h1
   all_goals first | (cases h; done) | (rename_i hh _; injection hh with hh; cases hh; done)
  ·cases he
 ·cases he
def Alike (s s':St):Prop:=s'.H=s.H/\∀ t,look s'.fr t=look s.fr t
theorem Alike.refl (s:St):Alike s s:=⟨rfl,fun _=>rfl⟩
theorem Alike.trans {a b c:St} (h1:Alike a b) (h2:Alike b c):Alike a c:=⟨h2.1.trans h1.1,fun t=>(h2.2 t).trans (h1.2 t)⟩
theorem look_putO (s:St) (d:Option Nat) (x:A) (t:Nat):look (s.put d x).fr t=if d=some t then x else look s.fr t:=by
 cases d with
 | none=>simp[St.put]
 | some d =>
  show look ((d,x) :: s.fr) t=_
  rw[look_put]
  by_cases e:d=t
  ·subst e; simp
  ·rw[if_neg e,if_neg (by simpa using e)]
theorem put_H (s:St) (d:Option Nat) (x:A):(s.put d x).H=s.H:=by cases d<;>rfl
theorem Alike.lit {s:St} {t:Nat} {x:A} (h:look s.fr t=x):Alike s (s.put (some t) x):=⟨rfl,fun t'=>by
 rw[look_putO]
 split
 ·rename_i e
  cases e
  exact h.symm
 ·rfl⟩
def StepE (cx:Cx) (call:CallT) (f lo:Nat) (ops:Array Oper) (m:Nat) (fl:List (Nat×A)) (i:Nat) (o:Oper) (s s':St) (x:A):Prop :=
 (flOf i fl=some x/\Alike (s.put o.dst x) s') ∨
 (flOf i fl=none/\isEff o=true/\∃ H',evOp1 cx f lo o s (fun a H=>some (a,H))=some (x,H')/\Alike (({ s with H:=H' }:St).put o.dst x) s') ∨
 (flOf i fl=none/\isEff o=false/\evV cx call f o s=some x/\Alike (s.put o.dst x) s'/\((ordAllF fl ops m i=true/\((localK cx o=true∨flBef ops i fl=true)∨orcD cx s o=true))∨opKind o=0∨opKind o=1∨((opKind o=2∨(opKind o=4/\orcOp cx o=true))/\calmU ops m i=true)∨(opKind o=2/\flats (partsOf cx s o.op)=true)))
def StepG (cx:Cx) (call:CallT) (f:Nat) (ops:Array Oper) (fl:List (Nat×A)) (i:Nat) (o:Oper) (s s':St) (x:A):Prop :=
 ∃ t w,guardSlot ops o=some (t,w)/\flOf i fl=none/\isEff o=false/\opKind o=0/\Alike (s.put o.dst x) s'/\((∃ b,look s.fr t=.v (.bool b)/\if b==w then evV cx call f o s=some x else x=.v undef)∨((∃ y,look s.fr t=.v (.tuple y))/\x=.v undef))
def StepS (cx:Cx) (call:CallT) (f lo:Nat) (ops:Array Oper) (m:Nat) (fl:List (Nat×A)) (i:Nat) (o:Oper) (s s':St) (x:A):Prop :=
 ∃ t w b,guardSlot ops o=some (t,w)/\flOf i fl=none/\look s.fr t=.v (.bool b)/\((b==w)=true/\StepE cx call f lo ops m fl i o s s' x∨(b==w)=false/\x=.v undef/\Alike (s.put o.dst x) s')
def StepA (cx:Cx) (call:CallT) (f lo:Nat) (ops:Array Oper) (m:Nat) (fl:List (Nat×A)) (i:Nat) (o:Oper) (s s':St) (x:A):Prop :=
 (o.guard=none/\StepE cx call f lo ops m fl i o s s' x)∨StepG cx call f ops fl i o s s' x∨StepS cx call f lo ops m fl i o s s' x
theorem StepE.alike {call:CallT} {o:Oper} {m:Nat} {fl:List (Nat×A)} {i:Nat} {s s' s2:St} {x:A} (h:StepE cx call f lo ops m fl i o s s' x) (h2:Alike s' s2):StepE cx call f lo ops m fl i o s s2 x:=by
 rcases h with ⟨a,b⟩ | ⟨a,b,H',c,d⟩ | ⟨a,b,c,d,e⟩
 ·exact .inl ⟨a,b.trans h2⟩
 ·exact .inr (.inl ⟨a,b,H',c,d.trans h2⟩)
 ·exact .inr (.inr ⟨a,b,c,d.trans h2,e⟩)
theorem StepA.alike {call:CallT} {o:Oper} {m:Nat} {fl:List (Nat×A)} {i:Nat} {s s' s2:St} {x:A} (h:StepA cx call f lo ops m fl i o s s' x) (h2:Alike s' s2):StepA cx call f lo ops m fl i o s s2 x:=by
 rcases h with ⟨a,b⟩ | ⟨t,w,a,b,c,d,e,g⟩ | ⟨t,w,b,a1,a2,a3,a4⟩
 ·exact .inl ⟨a,b.alike h2⟩
 ·exact .inr (.inl ⟨t,w,a,b,c,d,e.trans h2,g⟩)
 ·refine .inr (.inr ⟨t,w,b,a1,a2,a3,?_⟩)
  rcases a4 with ⟨c,d⟩ | ⟨c,d,e⟩
  ·exact .inl ⟨c,d.alike h2⟩
  ·exact .inr ⟨c,d,e.trans h2⟩
theorem StepE.look {call:CallT} {o:Oper} {m:Nat} {fl:List (Nat×A)} {i:Nat} {s s':St} {x:A} (h:StepE cx call f lo ops m fl i o s s' x) (t:Nat):look s'.fr t=if o.dst=some t then x else look s.fr t:=by
 rcases h with ⟨_,b⟩ | ⟨_,_,H',_,d⟩ | ⟨_,_,_,d,_⟩
 ·rw[b.2,look_putO]
 ·rw[d.2,look_putO]
 ·rw[d.2,look_putO]
theorem StepA.look {call:CallT} {o:Oper} {m:Nat} {fl:List (Nat×A)} {i:Nat} {s s':St} {x:A} (h:StepA cx call f lo ops m fl i o s s' x) (t:Nat):look s'.fr t=if o.dst=some t then x else look s.fr t:=by
 rcases h with ⟨_,b⟩ | ⟨_,_,_,_,_,_,e,_⟩ | ⟨_,_,_,_,_,_,a4⟩
 ·exact b.look t
 ·rw[e.2,look_putO]
 ·rcases a4 with ⟨_,d⟩ | ⟨_,_,e⟩
  ·exact d.look t
  ·rw[e.2,look_putO]
theorem StepE.heap {call:CallT} {o:Oper} {m:Nat} {fl:List (Nat×A)} {i:Nat} {s s':St} {x:A} (h:StepE cx call f lo ops m fl i o s s' x):(isEff o=false∨(flOf i fl).isSome=true->s'.H=s.H)/\s.H.length<=s'.H.length/\∀ b,b<s.H.length->(isEff o=true->flOf i fl=none->∀ c,blk? (touchA cx s o.op)=some c->b≠c)->s'.H[b]? = s.H[b]?:=by
 rcases h with ⟨_,e⟩ | ⟨hn,he,H',h1,e⟩ | ⟨_,he,_,e,_⟩
 ·rw[e.1,put_H]
  exact⟨fun _=>rfl,Nat.le_refl _,fun _ _ _=>rfl⟩
 ·obtain ⟨t1,t2⟩:=eff_touch he h1
  rw[e.1,put_H]
  exact⟨fun h'=>(by rw[he,hn] at h'; rcases h' with h' | h'<;>cases h'),t1,fun b hb hc=>t2 b hb (hc he hn)⟩
 ·rw[e.1,put_H]
  exact⟨fun _=>rfl,Nat.le_refl _,fun _ _ _=>rfl⟩
theorem StepA.heap {call:CallT} {o:Oper} {m:Nat} {fl:List (Nat×A)} {i:Nat} {s s':St} {x:A} (h:StepA cx call f lo ops m fl i o s s' x):(isEff o=false∨(flOf i fl).isSome=true->s'.H=s.H)/\s.H.length<=s'.H.length/\∀ b,b<s.H.length->(isEff o=true->flOf i fl=none->∀ c,blk? (touchA cx s o.op)=some c->b≠c)->s'.H[b]? = s.H[b]?:=by
 rcases h with ⟨_,b⟩ | ⟨_,_,_,_,_,_,e,_⟩ | ⟨_,_,_,_,_,_,a4⟩
 ·exact b.heap
 ·rw[e.1,put_H]
  exact⟨fun _=>rfl,Nat.le_refl _,fun _ _ _=>rfl⟩
 ·rcases a4 with ⟨_,d⟩ | ⟨_,_,e⟩
  ·exact d.heap
  ·rw[e.1,put_H]
   exact⟨fun _=>rfl,Nat.le_refl _,fun _ _ _=>rfl⟩
def Unord (ops:Array Oper) (i j:Nat):Prop:=(bef ops i j || bef ops j i)=false
theorem seenAll_spec {i:Nat} {e:A}:∀ {l:List (Nat×A)},seenAll ops i e l=true->∀ p∈l,Unord ops i p.1->apart p.2 e=true
 | [],_,p,hp,_=>by cases hp
 | q :: l,h,p,hp,hu=>by
  unfold seenAll at h
  cases hb:(bef ops i q.1 || bef ops q.1 i) with
  | true =>
   rw[hb] at h
   rcases List.mem_cons.1 hp with rfl | hp
   ·unfold Unord at hu; rw[hb] at hu; cases hu
   ·exact seenAll_spec h p hp hu
  | false =>
   rw[hb] at h
   cases ha:apart q.2 e with
   | false=>rw[ha] at h; cases h
   | true =>
    rw[ha] at h
    rcases List.mem_cons.1 hp with rfl | hp
    ·exact ha
    ·exact seenAll_spec h p hp hu
theorem apartAll_spec {i:Nat} {a:A}:∀ {l:List (Nat×A)},apartAll ops i a l=true->∀ p∈l,Unord ops i p.1->apart a p.2=true
 | [],_,p,hp,_=>by cases hp
 | q :: l,h,p,hp,hu=>by
  unfold apartAll at h
  cases hb:(bef ops i q.1 || bef ops q.1 i) with
  | true =>
   rw[hb] at h
   rcases List.mem_cons.1 hp with rfl | hp
   ·unfold Unord at hu; rw[hb] at hu; cases hu
   ·exact apartAll_spec h p hp hu
  | false =>
   rw[hb] at h
   cases ha:apart a q.2 with
   | false=>rw[ha] at h; cases h
   | true =>
    rw[ha] at h
    rcases List.mem_cons.1 hp with rfl | hp
    ·exact ha
    ·exact apartAll_spec h p hp hu
theorem beq_spec {a b:Nat} (h:Nat.beq a b=true):a=b:=Nat.eq_of_beq_eq_true h
def Tr (cx:Cx) (call:CallT) (f lo:Nat) (ops:Array Oper) (m:Nat) (fl:List (Nat×A)) (k:St->Option R) (r:R) (os:List Oper) (i:Nat) (effs seen:List (Nat×A)) (s:St):Prop :=
  ∃ (σ:Nat->St) (xs:Nat->A),Alike s (σ 0)/\k (σ os.length)=some r/\∀ (j:Nat) o,os[j]? = some o->StepA cx call f lo ops m fl (i+j) o (σ j) (σ (j+1)) (xs j) ∧
   (flOf (i+j) fl=none->isEff o=true->(∀ p∈seen,Unord ops (i+j) p.1->apart p.2 (touchA cx (σ j) o.op)=true)/\∀ (j':Nat) o',j'<j->os[j']? = some o'->isEff o'=false->opKind o'=1->ordAllF fl ops m (i+j')=false->Unord ops (i+j) (i+j')->apart (addrOf cx (σ j') o'.op) (touchA cx (σ j) o.op)=true) ∧
   (isEff o=false->opKind o=1->ordAllF fl ops m (i+j)=false->(∀ p∈effs,Unord ops (i+j) p.1->apart (addrOf cx (σ j) o.op) p.2=true)/\∀ (j':Nat) o',j'<j->os[j']? = some o'->flOf (i+j') fl=none->isEff o'=true->Unord ops (i+j) (i+j')->apart (addrOf cx (σ j) o.op) (touchA cx (σ j') o'.op)=true)
theorem evPreE_spec {call:CallT} {m:Nat} {fl:List (Nat×A)} {k:St->Option R} {r:R} (hfe:∀ i o a,flOf i fl=some a->ops[i]? = some o->isEff o=true) (hV:∀ {o:Oper} {s:St} (k:A->Option R),evVk cx call f o s k=(evV cx call f o s).bind k):∀ (os:List Oper) (i:Nat) (effs seen:List (Nat×A)) (s:St),(∀ j o,os[j]? = some o->ops[i+j]? = some o)->evPreE cx call f lo ops m fl i os effs seen s k=some r->Tr cx call f lo ops m fl k r os i effs seen s
 | [],i,effs,seen,s,_,h=>⟨fun _=>s,fun _=>.any,Alike.refl _,h,fun j o ho=>by simp at ho⟩
 | o :: os,i,effs,seen,s,hos,h=>by
  have hos':∀ j o,os[j]? = some o->ops[i+1+j]? = some o:=fun j o' ho'=>by
   have:=hos (j+1) o' (by simpa using ho')
   rwa [show i+1+j=i+(j+1) by omega]
  have hoi:ops[i]? = some o:=by simpa using hos 0 o (by simp)
  have finG:∀ (s1 s':St) (x:A) (effs' seen':List (Nat×A)),Alike s s1->StepA cx call f lo ops m fl i o s1 s' x->(∀ p∈effs,p∈effs')->(∀ p∈seen,p∈seen')->(flOf i fl=none->isEff o=true->(i,touchA cx s1 o.op)∈effs'/\∀ p∈seen,Unord ops i p.1->apart p.2 (touchA cx s1 o.op)=true) ->
    (isEff o=false->opKind o=1->ordAllF fl ops m i=false->(i,addrOf cx s1 o.op)∈seen'/\∀ p∈effs,Unord ops i p.1->apart (addrOf cx s1 o.op) p.2=true)->evPreE cx call f lo ops m fl (i+1) os effs' seen' s' k=some r->Tr cx call f lo ops m fl k r (o :: os) i effs seen s:=by
   intro s1 s' x effs' seen' hal hst he1 hs1 hce hcp h
   obtain ⟨σ,xs,g0,g1,g2⟩:=evPreE_spec hfe hV os (i+1) effs' seen' s' hos' h
   refine⟨fun j=>match j with | 0=>s1 | j+1=>σ j,fun j=>match j with | 0=>x | j+1=>xs j,hal,g1,fun j o1 ho1=>?_⟩
   cases j with
   | zero =>
    simp at ho1
    subst ho1
    refine⟨hst.alike g0,fun hn he=>⟨(hce hn he).2,fun j' o' hj'=>by omega⟩,fun he hk ho=>⟨(hcp he hk ho).2,fun j' o' hj'=>by omega⟩⟩
   | succ j =>
    obtain ⟨q2,q3,q4⟩:=g2 j o1 (by simpa using ho1)
    have e:i+1+j=i+(j+1):=by omega
    rw[e] at q2 q3 q4
    refine⟨q2,fun hn he=>⟨fun p hp=>(q3 hn he).1 p (hs1 p hp),fun j' o' hj' ho' he' hk' hod hu=>?_⟩,fun he hk hod=>⟨fun p hp=>(q4 he hk hod).1 p (he1 p hp),fun j' o' hj' ho' hn' he' hu=>?_⟩⟩
    ·cases j' with
     | zero =>
      simp at ho'
      subst ho'
      exact(q3 hn he).1 _ (hcp he' hk' hod).1 hu
     | succ j' =>
      refine(q3 hn he).2 j' o' (by omega) (by simpa using ho') he' hk' ?_ ?_
      ·rw[show i+1+j'=i+(j'+1) by omega]; exact hod
      ·rw[show i+1+j'=i+(j'+1) by omega]; exact hu
    ·cases j' with
     | zero =>
      simp at ho'
      subst ho'
      exact(q4 he hk hod).1 _ (hce hn' he').1 hu
     | succ j' =>
      refine(q4 he hk hod).2 j' o' (by omega) (by simpa using ho') ?_ he' ?_
      ·rw[show i+1+j'=i+(j'+1) by omega]; exact hn'
      ·rw[show i+1+j'=i+(j'+1) by omega]; exact hu
  have doB:∀ (s1:St),Alike s s1->(∀ s' x,StepE cx call f lo ops m fl i o s1 s' x->StepA cx call f lo ops m fl i o s1 s' x)->evPreB cx call f lo ops m fl i o effs seen s1 (fun effs seen s=>evPreE cx call f lo ops m fl (i+1) os effs seen s k)=some r->Tr cx call f lo ops m fl k r (o :: os) i effs seen s:=by
   intro s1 hal hA h
   have fin:∀ (s':St) (x:A) (effs' seen':List (Nat×A)),StepE cx call f lo ops m fl i o s1 s' x->(∀ p∈effs,p∈effs')->(∀ p∈seen,p∈seen')->(flOf i fl=none->isEff o=true->(i,touchA cx s1 o.op)∈effs'/\∀ p∈seen,Unord ops i p.1->apart p.2 (touchA cx s1 o.op)=true) ->
     (isEff o=false->opKind o=1->ordAllF fl ops m i=false->(i,addrOf cx s1 o.op)∈seen'/\∀ p∈effs,Unord ops i p.1->apart (addrOf cx s1 o.op) p.2=true)->evPreE cx call f lo ops m fl (i+1) os effs' seen' s' k=some r->Tr cx call f lo ops m fl k r (o :: os) i effs seen s:=fun s' x effs' seen' hst=>finG s1 s' x effs' seen' hal (hA _ _ hst)
   unfold evPreB at h
   cases hfl:flOf i fl with
   | some a =>
    simp only[hfl] at h
    have he:=hfe i o a hfl hoi
    exact fin _ a effs seen (.inl ⟨hfl,Alike.refl _⟩) (fun p hp=>hp) (fun p hp=>hp) (fun h'=>(by rw[hfl] at h'; cases h')) (fun h'=>(by rw[he] at h'; cases h')) h
   | none =>
   simp only[hfl] at h
   rw[bcond] at h
   split at h
   ·rename_i he
    obtain ⟨hsn,h⟩:=csome h
    rw[evOp1_val] at h
    obtain ⟨⟨x,H'⟩,h1,h⟩:=bnd h
    exact fin _ x _ seen (.inr (.inl ⟨hfl,he,H',h1,Alike.refl _⟩)) (fun p hp=>by simp[hp]) (fun p hp=>hp) (fun _ _=>⟨by simp,seenAll_spec hsn⟩) (fun h'=>(by rw[he] at h'; cases h')) h
   ·rename_i he
    have he:isEff o=false:=by simpa using he
    rw[bcond] at h
    split at h
    ·rename_i hod
     simp only[Bool.and_eq_true,Bool.or_eq_true] at hod
     rw[hV] at h
     obtain ⟨x,h1,h⟩:=bnd h
     exact fin _ x effs seen (.inr (.inr ⟨hfl,he,h1,Alike.refl _,.inl hod⟩)) (fun p hp=>hp) (fun p hp=>hp) (fun _ h'=>(by rw[he] at h'; cases h')) (fun _ _ h'=>(by rw[hod.1] at h'; cases h')) h
    ·rename_i hod
     rw[bcond] at h
     split at h
     ·rename_i hk
      rw[hV] at h
      obtain ⟨x,h1,h⟩:=bnd h
      have hk:=beq_spec hk
      exact fin _ x effs seen (.inr (.inr ⟨hfl,he,h1,Alike.refl _,.inr (.inl hk)⟩)) (fun p hp=>hp) (fun p hp=>hp) (fun _ h'=>(by rw[he] at h'; cases h')) (fun _ h' _=>(by rw[hk] at h'; cases h')) h
     ·rw[bcond] at h
      split at h
      ·rename_i hk
       have hk:=beq_spec hk
       obtain ⟨hap,h⟩:=csome h
       rw[hV] at h
       obtain ⟨x,h1,h⟩:=bnd h
       exact fin _ x effs _ (.inr (.inr ⟨hfl,he,h1,Alike.refl _,.inr (.inr (.inl hk))⟩)) (fun p hp=>hp) (fun p hp=>by simp[hp]) (fun _ h'=>(by rw[he] at h'; cases h')) (fun _ _ _=>⟨by simp,apartAll_spec hap⟩) h
      ·rename_i hk1
       rw[bcond] at h
       split at h
       ·rename_i hk
        simp only[Bool.and_eq_true,Bool.or_eq_true] at hk
        have hk2:opKind o=2∨(opKind o=4/\orcOp cx o=true):=hk.1.imp beq_spec (fun h=>⟨beq_spec h.1,h.2⟩)
        rw[hV] at h
        obtain ⟨x,h1,h⟩:=bnd h
        exact fin _ x effs seen (.inr (.inr ⟨hfl,he,h1,Alike.refl _,.inr (.inr (.inr (.inl ⟨hk2,hk.2⟩)))⟩)) (fun p hp=>hp) (fun p hp=>hp) (fun _ h'=>(by rw[he] at h'; cases h')) (fun _ h' _=>(by rcases hk2 with hk2 | hk2<;>(first | rw[hk2] at h' | rw[hk2.1] at h')<;>cases h')) h
       obtain ⟨hk,h⟩:=csome h
       have hk:=beq_spec hk
       obtain ⟨hfl2,h⟩:=csome h
       rw[hV] at h
       obtain ⟨x,h1,h⟩:=bnd h
       exact fin _ x effs seen (.inr (.inr ⟨hfl,he,h1,Alike.refl _,.inr (.inr (.inr (.inr ⟨hk,hfl2⟩)))⟩)) (fun p hp=>hp) (fun p hp=>hp) (fun _ h'=>(by rw[he] at h'; cases h')) (fun _ h' _=>(by rw[hk] at h'; cases h')) h
  have doS:∀ (s1:St),Alike s s1->(∀ s',Alike (s1.put o.dst (.v undef)) s'->StepA cx call f lo ops m fl i o s1 s' (.v undef))->evPreS cx ops m fl i o effs seen s1 (fun effs seen s=>evPreE cx call f lo ops m fl (i+1) os effs seen s k)=some r->Tr cx call f lo ops m fl k r (o :: os) i effs seen s:=by
   intro s1 hal hA h
   have fin:=fun effs' seen'=>finG s1 (s1.put o.dst (.v undef)) (.v undef) effs' seen' hal (hA _ (Alike.refl _))
   unfold evPreS at h
   rw[bcond] at h
   split at h
   ·rename_i he
    obtain ⟨hsn,h⟩:=csome h
    exact fin _ seen (fun p hp=>by simp[hp]) (fun p hp=>hp) (fun _ _=>⟨by simp,seenAll_spec hsn⟩) (fun h'=>(by rw[he] at h'; cases h')) h
   ·rename_i he
    have he:isEff o=false:=by simpa using he
    rw[bcond] at h
    split at h
    ·rename_i hk
     rw[bcond] at h
     split at h
     ·rename_i hod
      exact fin effs seen (fun p hp=>hp) (fun p hp=>hp) (fun _ h'=>(by rw[he] at h'; cases h')) (fun _ _ h'=>(by rw[hod] at h'; cases h')) h
     ·obtain ⟨hap,h⟩:=csome h
      exact fin effs _ (fun p hp=>hp) (fun p hp=>by simp[hp]) (fun _ h'=>(by rw[he] at h'; cases h')) (fun _ _ _=>⟨by simp,apartAll_spec hap⟩) h
    ·rename_i hk
     exact fin effs seen (fun p hp=>hp) (fun p hp=>hp) (fun _ h'=>(by rw[he] at h'; cases h')) (fun _ h' _=>(by rw[h'] at hk; exact absurd rfl hk)) h
  unfold evPreE at h
  cases hgd:o.guard with
  | some _ =>
   simp only[hgd] at h
   cases hgs:guardSlot ops o with
   | none=>rw[hgs] at h; cases h
   | some tw =>
    obtain ⟨t,w⟩:=tw
    simp only[hgs] at h
    rw[bcond] at h
    split at h
    ·rename_i hc
     simp only[Bool.and_eq_true,Bool.not_eq_true',Option.isNone_iff_eq_none] at hc
     obtain ⟨⟨hk,he⟩,hn⟩:=hc
     have hk:=beq_spec hk
     obtain ⟨x,h0,h⟩:=bnd h
     refine finG s _ x effs seen (Alike.refl _) (.inr (.inl ⟨t,w,hgs,hn,he,hk,Alike.refl _,?_⟩)) (fun p hp=>hp) (fun p hp=>hp) (fun _ h'=>(by rw[he] at h'; cases h')) (fun _ h' _=>(by rw[hk] at h'; cases h')) h
     rcases gIf_spec h0 with ⟨b,hb,h0⟩ | ⟨y,hb,h0⟩
     ·refine .inl ⟨b,hb,?_⟩
      split at h0
      ·rename_i hbw; rw[if_pos hbw]; exact h0
      ·rename_i hbw; rw[if_neg hbw]; cases h0; rfl
     ·cases h0; exact .inr ⟨⟨y,hb⟩,rfl⟩
    ·obtain ⟨hn,h⟩:=csome h
     simp only[Option.isNone_iff_eq_none] at hn
     obtain ⟨b,hb,h⟩:=bIf_spec h
     have hl:look (s.put (some t) (.v (.bool b))).fr t=.v (.bool b):=by rw[look_putO,if_pos rfl]
     cases b with
     | true =>
      simp only[if_true] at h
      cases w with
      | true=>exact doB _ (Alike.lit hb) (fun s' x hE=>.inr (.inr ⟨t,true,true,hgs,hn,hl,.inl ⟨rfl,hE⟩⟩)) h
      | false=>exact doS _ (Alike.lit hb) (fun s' hE=>.inr (.inr ⟨t,false,true,hgs,hn,hl,.inr ⟨rfl,rfl,hE⟩⟩)) h
     | false =>
      simp only[Bool.false_eq_true,if_false] at h
      cases w with
      | true=>exact doS _ (Alike.lit hb) (fun s' hE=>.inr (.inr ⟨t,true,false,hgs,hn,hl,.inr ⟨rfl,rfl,hE⟩⟩)) h
      | false=>exact doB _ (Alike.lit hb) (fun s' x hE=>.inr (.inr ⟨t,false,false,hgs,hn,hl,.inl ⟨rfl,hE⟩⟩)) h
  | none =>
   simp only[hgd] at h
   exact doB s (Alike.refl _) (fun s' x hE=>.inl ⟨hgd,hE⟩) h
theorem ordAllF_spec {fl:List (Nat×A)} {m i e:Nat} (h:ordAllF fl ops m i=true) (he:e<m) (hf:effAt ops e=true) (hn:flOf e fl=none):e=i∨bef ops i e=true∨bef ops e i=true:=by
 have:=List.all_eq_true.1 h e (List.mem_range.2 he)
 simp only[Bool.or_eq_true,Bool.not_eq_true',beq_iff_eq] at this
 rcases this with (((h | h) | h) | h) | h
 ·rw[hf] at h; cases h
 ·rw[hn] at h; cases h
 ·exact .inl h
 ·exact .inr (.inl h)
 ·exact .inr (.inr h)
theorem chain_spec {m i j:Nat} (h:chainOk ops m=true) (hj:j<m) (hij:i<j) (h1:effAt ops i=true) (h2:effAt ops j=true):bef ops j i=true:=by
 have:=List.all_eq_true.1 (List.all_eq_true.1 h i (List.mem_range.2 (by omega))) j (List.mem_range.2 hj)
 simpa [h1,h2,hij] using this
theorem chainF_spec {m i j:Nat} (h:chainOkF cx f ops m=true) (hj:j<m) (hij:i<j) (h1:effAt ops i=true) (h2:effAt ops j=true) (h3:isFlo cx f ops i=false) (h4:isFlo cx f ops j=false):bef ops j i=true:=by
 have:=List.all_eq_true.1 (List.all_eq_true.1 h i (List.mem_range.2 (by omega))) j (List.mem_range.2 hj)
 simpa [h1,h2,h3,h4,hij] using this
theorem flBef_spec {i:Nat}:∀ {fl:List (Nat×A)},flBef ops i fl=true->∀ j a,flOf j fl=some a->bef ops i j=true
 | [],_,j,a,h=>by cases h
 | p :: l,h,j,a,hj=>by
  unfold flBef at h
  cases hb:bef ops i p.1 with
  | false=>rw[hb] at h; cases h
  | true =>
   rw[hb] at h
   unfold flOf at hj
   cases he:Nat.beq p.1 j with
   | true=>rw[<-Nat.eq_of_beq_eq_true he]; exact hb
   | false=>rw[he] at hj; exact flBef_spec h j a hj
structure Flo (cx:Cx) (ops:Array Oper) (m:Nat) (H H1:Heap) (fl:List (Nat×A)):Prop where
 at_:∀ i a,flOf i fl=some a->i<m/\∃ o t b cs,ops[i]? = some o/\o.op=.alloc t/\a=.ptr b 0/\H.length<=b/\H1[b]? = some (.box cs)/\zeroT cx.P t=some cs
 inj:∀ i j b,flOf i fl=some (.ptr b 0)->flOf j fl=some (.ptr b 0)->i=j
 all:∀ b,H.length<=b->b<H1.length->∃ i,flOf i fl=some (.ptr b 0)
 len:H.length<=H1.length
 low:∀ b,b<H.length->H1[b]? = H[b]?
theorem Flo.none {m:Nat} {H:Heap}:Flo cx ops m H H []:=⟨fun i a h=>(by cases h),fun i j b h=>(by cases h),fun b h1 h2=>(by omega),Nat.le_refl _,fun _ _=>rfl⟩
theorem ahead_spec {β:Type} {m:Nat} {r:β}:∀ (os:List Oper) (i:Nat) (H:Heap) (k:List (Nat×A)->Heap->Option β),(∀ j o,os[j]? = some o->ops[i+j]? = some o)->i+os.length<=m->ahead cx f i os H k=some r ->
  ∃ fl H1,k fl H1=some r/\Flo cx ops m H H1 fl/\(∀ j a,flOf j fl=some a->i<=j)/\(∀ j,flOf j fl=none->i<=j->j<i+os.length->isFlo cx f ops j=false)
 | [],i,H,k,_,_,h=>⟨[],H,h,.none,fun j a h=>(by cases h),fun j _ h1 h2=>(by simp at h2; omega)⟩
 | o :: os,i,H,k,hos,hm,h=>by
  have hos':∀ j o,os[j]? = some o->ops[i+1+j]? = some o:=fun j o' ho'=>by
   have:=hos (j+1) o' (by simpa using ho')
   rwa [show i+1+j=i+(j+1) by omega]
  have hoi:ops[i]? = some o:=by simpa using hos 0 o (by simp)
  simp only[List.length_cons] at hm
  unfold ahead at h
  cases hft:floatT cx f o with
  | none =>
   simp only[hft] at h
   obtain ⟨fl,H1,h1,h2,h3,h4⟩:=ahead_spec (m:=m) os (i+1) H k hos' (by omega) h
   refine⟨fl,H1,h1,h2,fun j a hj=>by have:=h3 j a hj; omega,fun j hj h5 h6=>?_⟩
   by_cases e:j=i
   ·subst e; unfold isFlo; rw[hoi]; simp[hft]
   ·exact h4 j hj (by omega) (by simp at h6; omega)
  | some t =>
   simp only[hft] at h
   obtain ⟨⟨y,H2⟩,ha,h⟩:=bnd h
   unfold aAlloc at ha
   obtain ⟨cs,hz,ha⟩:=Option.map_eq_some_iff.1 ha
   cases ha
   obtain ⟨fl,H1,h1,h2,h3,h4⟩:=ahead_spec (m:=m) os (i+1) _ _ hos' (by omega) h
   have hop:o.op=.alloc t:=by
    unfold floatT at hft
    split at hft
    ·rename_i t' ho
     obtain ⟨_,e⟩:=cnone hft
     cases e; exact ho
    ·cases hft
   have hl2:=h2.len
   simp only[List.length_append,List.length_cons,List.length_nil] at hl2
   have hnew:H1[H.length]? = some (.box cs):=by rw[h2.low _ (by simp)]; exact get_push _ _
   have hof:∀ j,flOf j ((i,A.ptr H.length 0) :: fl)=if i=j then some (.ptr H.length 0) else flOf j fl:=fun j=>by
    show (bif Nat.beq i j then some (A.ptr H.length 0) else flOf j fl)=_
    by_cases e:i=j
    ·subst e; simp
    ·rw[if_neg e,show Nat.beq i j=false from by cases hh:Nat.beq i j with | false=>rfl | true=>exact absurd (Nat.eq_of_beq_eq_true hh) e]; rfl
   have hni:flOf i fl=none:=by
    cases hh:flOf i fl with
    | none=>rfl
    | some a=>have:=h3 i a hh; omega
   refine⟨(i,.ptr H.length 0) :: fl,H1,h1,⟨fun j a hj=>?_,fun j j' b hj hj'=>?_,fun b hb1 hb2=>?_,by omega,fun b hb=>?_⟩,fun j a hj=>?_,fun j hj h5 h6=>?_⟩
   ·rw[hof] at hj
    split at hj
    ·rename_i e; subst e; cases hj
     exact⟨by omega,o,t,_,cs,hoi,hop,rfl,Nat.le_refl _,hnew,hz⟩
    ·obtain ⟨q1,o',t',b,cs',q2,q3,q4,q5,q6⟩:=h2.at_ j a hj
     simp only[List.length_append,List.length_cons,List.length_nil] at q5
     exact⟨q1,o',t',b,cs',q2,q3,q4,by omega,q6⟩
   ·rw[hof] at hj hj'
    have out:∀ j b,flOf j fl=some (.ptr b 0)->b≠H.length:=fun j b hj e=>by
     obtain ⟨_,_,_,b',_,_,_,q4,q5,_⟩:=h2.at_ j _ hj
     cases q4
     simp only[List.length_append,List.length_cons,List.length_nil] at q5
     omega
    split at hj<;>split at hj'
    ·omega
    ·cases hj; exact absurd rfl (out _ _ hj')
    ·cases hj'; exact absurd rfl (out _ _ hj)
    ·exact h2.inj j j' b hj hj'
   ·by_cases e:b=H.length
    ·subst e; exact⟨i,by rw[hof,if_pos rfl]⟩
    ·obtain ⟨j,hj⟩:=h2.all b (by simp; omega) hb2
     refine⟨j,?_⟩
     rw[hof,if_neg (fun e=>by subst e; rw[hni] at hj; cases hj)]
     exact hj
   ·rw[h2.low b (by simp; omega),List.getElem?_append_left hb]
   ·rw[hof] at hj
    split at hj
    ·omega
    ·have:=h3 j a hj; omega
   ·rw[hof] at hj
    split at hj
    ·cases hj
    ·exact h4 j hj (by omega) (by simp at h6; omega)
open Classical in
theorem evDrawE_sound {call:CallT} {fl:List (Nat×A)} {H1:Heap} (hcall:CallSound cx Bs call) (hb0:Bs H0 gs ws) (horc:OrcOK cx) (hF:WideA F) (hmx:cx.P.follows .mixedOrders=true) {m:Nat} {k:E->St->Option R} {r:R} {Q:Exit->Act->World->Prop} (chk:rgOk ops N=true) (chkt:tailOk ops m=true) (hch:∀ i j,j<m->i<j->effAt ops i=true->effAt ops j=true->flOf i fl=none->flOf j fl=none->bef ops j i=true) (hfl:Flo cx ops m s.H H1 fl)
  (hg:Good cx N mb lo H0 gs ws w0 s g a w) (hd:∀ o∈ops.toList,∀ d,o.dst=some d->d<N)
  {kk:St->Option R} (hkk:∀ s,kk s=some r->evOps cx call f lo ops (ops.toList.drop m) s k=some r) (h:evPreE cx call f lo ops m fl 0 (ops.toList.take m) [] [] ⟨s.fr,H1⟩ kk=some r)
  (hk:∀ s' g' a' w',Good cx N mb lo H0 gs ws w0 s' g' a' w'->k .normal s'=some r->Q .normal a' w')
  (hp:∀ x s' g' a' w' c,Good cx N mb lo H0 gs ws w0 s' g' a' w'->VR s'.H g' w' x c->k (.pan x) s'=some r->Q (.panic [{ v:=c,recovered:=false }]) a' w'):LW F n cx.P ops Q a w:=by
 have hfe:∀ i o a,flOf i fl=some a->ops[i]? = some o->isEff o=true:=fun i o a h1 h2=>by
  obtain ⟨_,o',t,_,_,q1,q2,_⟩:=hfl.at_ i a h1
  rw[h2] at q1; cases q1
  unfold isEff; rw[q2]
 obtain ⟨σ,xs,hσ0,hz,htr⟩:=evPreE_spec hfe (fun k=>evVk_eq k) _ _ _ _ _ (fun j o ho=>by
  rw[List.getElem?_take] at ho
  split at ho
  ·rw[Nat.zero_add]; rw[Array.getElem?_toList] at ho; exact ho
  ·cases ho) h
 have hσH:(σ 0).H=H1:=hσ0.1
 have hσf:∀ t,look (σ 0).fr t=look s.fr t:=hσ0.2
 have hm2:m<=ops.size:=by
  simp only[tailOk,Bool.and_eq_true,decide_eq_true_eq] at chkt
  exact chkt.1.1
 have hlen:(ops.toList.take m).length=m:=by rw[List.length_take]; simp; omega
 rw[hlen] at hz
 replace hz:=hkk _ hz
 have hget:∀ {i o},i<m->ops[i]? = some o->(ops.toList.take m)[i]? = some o:=fun {i o} him ho=>by
  rw[List.getElem?_take,if_pos him,Array.getElem?_toList]; exact ho
 have hop:∀ i,i<m->∃ o,ops[i]? = some o:=fun i hi=>⟨_,Array.getElem?_eq_getElem (by omega)⟩
 have hdst:∀ {i o},ops[i]? = some o->dstOf ops i=o.dst:=fun {i o} ho=>by unfold dstOf; rw[ho]; rfl
 have heff:∀ {i o},ops[i]? = some o->effAt ops i=isEff o:=fun {i o} ho=>by unfold effAt; rw[ho]
 have hlt:∀ {i j},bef ops i j=true->j<i:=fun {i j} hb=>waits_lt chk (before_waits i j hb)
 have hsel:∀ j,j<m->∀ o,ops[j]? = some o->StepA cx call f lo ops m fl j o (σ j) (σ (j+1)) (xs j):=fun j hj o ho=>by
  have:=(htr j o (hget hj ho)).1
  rwa [Nat.zero_add] at this
 have fstep:∀ j,j<m->∀ o,ops[j]? = some o->∀ t,look (σ (j+1)).fr t=if o.dst=some t then xs j else look (σ j).fr t:=fun j hj o ho t=>(hsel j hj o ho).look t
 have fkeep:∀ t i j,i<=j->j<=m->(∀ q,i<=q->q<j->dstOf ops q≠some t)->look (σ j).fr t=look (σ i).fr t:=by
  intro t i j hij
  induction j with
  | zero =>
   intro _ _; obtain rfl:i=0:=by omega
   rfl
  | succ j ih =>
   intro hjm hq
   by_cases e:i=j+1
   ·subst e; rfl
   ·obtain ⟨o,ho⟩:=hop j (by omega)
    rw[fstep j (by omega) o ho,if_neg (by rw[<-hdst ho]; exact hq j (by omega) (by omega))]
    exact ih (by omega) (by omega) (fun q h1 h2=>hq q h1 (by omega))
 have hstep:∀ j,j<m->∀ o,ops[j]? = some o->(effAt ops j=false∨(flOf j fl).isSome=true->(σ (j+1)).H=(σ j).H)/\(σ j).H.length<=(σ (j+1)).H.length/\∀ b,b<(σ j).H.length->(effAt ops j=true->flOf j fl=none->∀ c,blk? (touchA cx (σ j) o.op)=some c->b≠c)->(σ (j+1)).H[b]? = (σ j).H[b]?:=fun j hj o ho=>by
  have h:=(hsel j hj o ho).heap
  rw[heff ho]
  exact h
 have hlenm:∀ i j,i<=j->j<=m->(σ i).H.length<=(σ j).H.length:=by
  intro i j hij
  induction j with
  | zero =>
   intro _; obtain rfl:i=0:=by omega
   exact Nat.le_refl _
  | succ j ih =>
   intro hjm
   by_cases e:i=j+1
   ·subst e; exact Nat.le_refl _
   ·obtain ⟨o,ho⟩:=hop j (by omega)
    exact Nat.le_trans (ih (by omega) (by omega)) (hstep j (by omega) o ho).2.1
 have hsame:∀ i j,i<=j->j<=m->(∀ q,i<=q->q<j->effAt ops q=false∨(flOf q fl).isSome=true)->(σ j).H=(σ i).H:=by
  intro i j hij
  induction j with
  | zero =>
   intro _ _; obtain rfl:i=0:=by omega
   rfl
  | succ j ih =>
   intro hjm hq
   by_cases e:i=j+1
   ·subst e; rfl
   ·obtain ⟨o,ho⟩:=hop j (by omega)
    rw[(hstep j (by omega) o ho).1 (hq j (by omega) (by omega))]
    exact ih (by omega) (by omega) (fun q h1 h2=>hq q h1 (by omega))
 have hblk:∀ i j,i<=j->j<=m->∀ b,b<(σ i).H.length->(∀ q o,i<=q->q<j->ops[q]? = some o->effAt ops q=true->flOf q fl=none->∀ c,blk? (touchA cx (σ q) o.op)=some c->b≠c)->(σ j).H[b]? = (σ i).H[b]?:=by
  intro i j hij
  induction j with
  | zero =>
   intro _ b _ _; obtain rfl:i=0:=by omega
   rfl
  | succ j ih =>
   intro hjm b hb hq
   by_cases e:i=j+1
   ·subst e; rfl
   ·obtain ⟨o,ho⟩:=hop j (by omega)
    rw[(hstep j (by omega) o ho).2.2 b (Nat.lt_of_lt_of_le hb (hlenm i j (by omega) (by omega))) (fun he hn=>hq j o (by omega) (by omega) ho he hn)]
    exact ih (by omega) (by omega) b hb (fun q o h1 h2=>hq q o h1 (by omega))
 have hnf:∀ {q},effAt ops q=true->¬ (flOf q fl=none)->(flOf q fl).isSome=true:=fun _ h=>by cases hh:flOf _ fl with | none=>exact absurd hh h | some _=>rfl
 let zm:(Nat->Prop)->Nat->Bool:=fun D b=>decide (∃ i,flOf i fl=some (.ptr b 0)/\¬ D i)
 have zmT:∀ (D:Nat->Prop) (b:Nat),zm D b=true↔∃ i,flOf i fl=some (.ptr b 0)/\¬ D i:=fun D b=>by simp only[zm,decide_eq_true_eq]
 have zmF:∀ (D:Nat->Prop) (b:Nat),zm D b=false↔∀ i,flOf i fl=some (.ptr b 0)->D i:=fun D b=>by
  rw[Bool.eq_false_iff,ne_eq,zmT,not_exists]
  exact forall_congr' fun i=>⟨fun h1 h2=>Classical.byContradiction fun h3=>h1 ⟨h2,h3⟩,fun h1 h2=>h2.2 (h1 h2.1)⟩
 have zmlow:∀ (D:Nat->Prop) (b:Nat),b<s.H.length->zm D b=false:=fun D b hb=>(zmF D b).2 fun i hi=>by
  obtain ⟨_,_,_,b',_,_,_,q,q2,_⟩:=hfl.at_ i _ hi
  cases q; omega
 have zmhi:∀ (D:Nat->Prop) (b:Nat),H1.length<=b->zm D b=false:=fun D b hb=>(zmF D b).2 fun i hi=>by
  obtain ⟨_,_,_,b',_,_,_,q,_,q2,_⟩:=hfl.at_ i _ hi
  cases q
  have:=(List.getElem?_eq_some_iff.1 q2).1
  omega
 have hlen1:∀ j,j<=m->H1.length<=(σ j).H.length:=fun j hj=>by
  have:=hlenm 0 j (by omega) hj
  rw[hσH] at this; exact this
 refine region_inv (F:=F) ⟨hF.1,hF.2.1⟩ hmx N m hg.siz chk chkt (fun D a' W=>∃ (p:Nat) (g':Gh),p<=m/\(∀ i,i<m->effAt ops i=true->flOf i fl=none->(D i↔i<p))/\(∀ i b,flOf i fl=some (.ptr b 0)->¬ D i->(σ p).H[b]? = H1[b]?)/\Rel (maskH (zm D) (σ p).H) g' w0 W/\Ext s.H g w (maskH (zm D) (σ p).H) g' W/\(∀ b,b<lo->b<s.H.length->(σ p).H[b]? = s.H[b]?)/\g'.S=g.S ∧
   (∀ t i,i<m->dstOf ops i=some t->D i->VR (maskH (zm D) (σ p).H) g' W (xs i) (slot a' t))/\(∀ t,(∀ i,i<m->dstOf ops i=some t->¬ D i)->VR (maskH (zm D) (σ p).H) g' W (look s.fr t) (slot a' t))) ?_ ?_ ?_
 ·intro D hD
  have hr:=hg.sr.rel
  obtain ⟨g',r1,r2,r3⟩:=Rel.holes (H1.length - s.H.length) (hr.of_below (Below.refl _ _).drew)
  have r2:=(Ext.below hr (Below.refl _ _).drew).trans r2
  have hH0:maskH (zm D) (σ 0).H=s.H++List.replicate (H1.length - s.H.length) .hole:=by
   rw[hσH]
   refine List.ext_getElem? fun b=>?_
   by_cases hb:b<s.H.length
   ·rw[maskH_off (zmlow D b hb),List.getElem?_append_left hb]; exact hfl.low b hb
   ·by_cases hb1:b<H1.length
    ·obtain ⟨i,hi⟩:=hfl.all b (by omega) hb1
     rw[maskH_on ((zmT D b).2 ⟨i,hi,hD i⟩) (List.getElem?_eq_getElem hb1),List.getElem?_append_right (by omega),List.getElem?_replicate,if_pos (by omega)]
    ·have hl1:=hfl.len
     rw[List.getElem?_eq_none (by rw[maskH_len]; exact Nat.le_of_not_lt hb1),List.getElem?_eq_none (by simp; omega)]
  refine⟨0,g',Nat.zero_le _,fun i _ _ _=>⟨fun h=>absurd h (hD i),fun h=>by omega⟩,fun i b _ _=>by rw[hσH],by rw[hH0]; exact r1,by rw[hH0]; exact r2,fun b _ hb=>by rw[hσH]; exact hfl.low b hb,r3,fun t i _ _ h=>absurd h (hD i),fun t _=>?_⟩
  rw[hH0]
  exact VR.ext r2 _ _ (hg.sr.fr t)
 ·rintro D D' i o him ho hDm hDi hbef hcl hD' a' W ⟨p,g',hpm,hpe,hpb,hrW,heW,hlow,hgS,hv1,hv2⟩ hsz _
  obtain ⟨c4,c5⟩:=rg_spec chk ho
  obtain ⟨_,htA,htB⟩:=htr i o (hget him ho)
  rw[Nat.zero_add] at htA htB
  have hDlt:∀ {q},effAt ops q=true->flOf q fl=none->D q->q<p:=fun he hn h=>(hpe _ (hDm _ h) he hn).1 h
  have hlook:∀ t∈o.looksAt ops,VR (maskH (zm D) (σ p).H) g' W (look (σ i).fr t) (a'.tmps.getD t undef):=fun t ht=>by
   by_cases hj:∃ j,dstOf ops j=some t/\bef ops i j=true
   ·obtain ⟨j,hjt,hjb⟩:=hj
    have hji:=hlt hjb
    have hv:=hv1 t j (by omega) hjt (hbef j hjb)
    obtain ⟨oj,hoj⟩:=hop j (by omega)
    have e1:look (σ (j+1)).fr t=xs j:=by rw[fstep j (by omega) oj hoj,if_pos (by rw[<-hdst hoj]; exact hjt)]
    rw[fkeep t (j+1) i (by omega) (by omega) (fun q h1 h2 hq=>by
     obtain ⟨oq,hoq⟩:=hop q (by omega)
     obtain ⟨c4',_⟩:=rg_spec chk hoq
     exact c4' j t (by omega) (by rw[<-hdst hoq]; exact hq) hjt),e1]
    exact hv
   ·have hno:∀ j,dstOf ops j=some t->bef ops i j=false:=fun j hjt=>by
     cases hb:bef ops i j with
     | false=>rfl
     | true=>exact absurd ⟨j,hjt,hb⟩ hj
    have hs:=hv2 t (fun j hjm hjt hDj=>by
     rcases c5 j t hjt ht with rfl | h | h
     ·exact hDi hDj
     ·rw[hno j hjt] at h; cases h
     ·exact hDi (hcl j i hDj h))
    rw[fkeep t 0 i (by omega) (by omega) (fun q h1 h2 hq=>by
     rcases c5 q t hq ht with h | h | h
     ·omega
     ·rw[hno q hq] at h; cases h
     ·have:=hlt h; omega),hσf]
    exact hs
  have hopr:OpR cx ⟨(σ i).fr,maskH (zm D) (σ p).H⟩ g' w0 o.op a'.eval W:=⟨hrW,fun y hy=>opd_VR (fun t ht=>by
    refine hlook t ?_
    subst ht
    unfold Oper.looksAt
    exact List.mem_append.2 (.inl (List.mem_filterMap.2 ⟨.tmp t,hy,rfl⟩))) (fun G vs hG=>(hg.sr.gl G vs hG).ext heW),fun _=>rfl⟩
  have zsame:flOf i fl=none->zm D'=zm D:=fun hn=>funext fun b=>by
   have:(zm D' b=true)↔(zm D b=true):=by
    rw[zmT,zmT]
    constructor
    ·rintro ⟨j,h1,h2⟩; exact⟨j,h1,fun h=>h2 ((hD' j).2 (.inr h))⟩
    ·rintro ⟨j,h1,h2⟩
     refine⟨j,h1,fun h=>?_⟩
     rcases (hD' j).1 h with rfl | h
     ·rw[hn] at h1; cases h1
     ·exact h2 h
   exact Bool.eq_iff_iff.2 this
  have fin:∀ (p':Nat) (g2:Gh) (W':World) (v:Value),p'<=m->(∀ j,j<m->effAt ops j=true->flOf j fl=none->(D' j↔j<p'))->(∀ j b,flOf j fl=some (.ptr b 0)->¬ D' j->(σ p').H[b]? = H1[b]?)->Rel (maskH (zm D') (σ p').H) g2 w0 W'->Ext (maskH (zm D) (σ p).H) g' W (maskH (zm D') (σ p').H) g2 W'->(∀ b,b<lo->b<s.H.length->(σ p').H[b]? = s.H[b]?)->g2.S=g.S->(∀ d,o.dst=some d->VR (maskH (zm D') (σ p').H) g2 W' (xs i) v) ->
    ∃ (p:Nat) (g':Gh),p<=m/\(∀ i,i<m->effAt ops i=true->flOf i fl=none->(D' i↔i<p))/\(∀ i b,flOf i fl=some (.ptr b 0)->¬ D' i->(σ p).H[b]? = H1[b]?)/\Rel (maskH (zm D') (σ p).H) g' w0 W'/\Ext s.H g w (maskH (zm D') (σ p).H) g' W'/\(∀ b,b<lo->b<s.H.length->(σ p).H[b]? = s.H[b]?)/\g'.S=g.S ∧
     (∀ t j,j<m->dstOf ops j=some t->D' j->VR (maskH (zm D') (σ p).H) g' W' (xs j) (slot (a'.put o.dst v) t))/\(∀ t,(∀ j,j<m->dstOf ops j=some t->¬ D' j)->VR (maskH (zm D') (σ p).H) g' W' (look s.fr t) (slot (a'.put o.dst v) t)):=by
   intro p' g2 W' v h1 h2 h2b h3 h4 h5 h6 h7
   refine⟨p',g2,h1,h2,h2b,h3,heW.trans h4,h5,h6,fun t j hjm hjt hDj=>?_,fun t ht=>?_⟩
   ·rcases (hD' j).1 hDj with rfl | hDj
    ·have hdt:o.dst=some t:=by rw[<-hdst ho]; exact hjt
     rw[hdt,slot_put_same (by rw[hsz]; exact hd o (by rw[<-Array.mem_def]; exact Array.mem_of_getElem? ho) t hdt)]
     exact h7 t hdt
    ·have hne:j≠i:=fun e=>hDi (e ▸ hDj)
     rw[slot_put_other (fun hdt=>c4 j t (Ne.symm hne) hdt hjt)]
     exact VR.ext h4 _ _ (hv1 t j hjm hjt hDj)
   ·rw[slot_put_other (fun hdt=>ht i him (by rw[hdst ho]; exact hdt) ((hD' i).2 (.inl rfl)))]
    exact VR.ext h4 _ _ (hv2 t (fun j hjm hjt hDj=>ht j hjm hjt ((hD' j).2 (.inr hDj))))
  have rowM:∀ b,rowF (maskH (zm D) (σ p).H) b=rowF (σ p).H b:=fun b=>by
   cases hzb:zm D b with
   | false=>unfold rowF; rw[maskH_off hzb]
   | true =>
    obtain ⟨j,hj,hDj⟩:=(zmT D b).1 hzb
    obtain ⟨_,_,_,b',cs',_,_,q3,_,q5,_⟩:=hfl.at_ j _ hj
    cases q3
    have hB:=(hpb j b hj hDj).trans q5
    unfold rowF
    rw[maskH_on hzb hB,hB]
  have hwant:(Region.wanted o (yielded ops a'.tmps)=false/\flOf i fl=none/\(isEff o=false∨(σ (i+1)).H=(σ i).H)/\xs i=.v undef)∨(Region.wanted o (yielded ops a'.tmps)=true/\StepE cx call f lo ops m fl i o (σ i) (σ (i+1)) (xs i)):=by
   have htl:∀ {t want},guardSlot ops o=some (t,want)->t∈o.looksAt ops:=fun {t want} hgs=>by
    rw[guardSlot_eq] at hgs
    unfold Oper.looksAt
    split at hgs
    ·rename_i j want' hgd
     cases hdj:(ops[j]?).bind (·.dst) with
     | none=>rw[hdj] at hgs; cases hgs
     | some t' =>
      rw[hdj] at hgs
      cases hgs
      refine List.mem_append.2 (.inr ?_)
      rw[hgd]
      simp[hdj]
    ·cases hgs
   rcases hsel i him o ho with ⟨hgd,hse⟩ | ⟨t,want,hgs,hni,he,hk,hs1,hor⟩ | ⟨t,want,b,hgs,hni,hlb,hor⟩
   ·exact .inr ⟨by simp[Region.wanted,hgd],hse⟩
   ·have hv:=hlook t (htl hgs)
    rcases hor with ⟨b,hlb,hcond⟩ | ⟨⟨y,hlb⟩,hcond⟩
    ·rw[hlb,VR] at hv
     rw[guard_spec hgs hv]
     split at hcond
     ·rename_i hbw
      exact .inr ⟨hbw,.inr (.inr ⟨hni,he,hcond,hs1,.inr (.inl hk)⟩)⟩
     ·rename_i hbw
      exact .inl ⟨by simpa using hbw,hni,.inl he,hcond⟩
    ·rw[hlb,VR] at hv
     rw[guard_skip hgs hv]
     exact .inl ⟨rfl,hni,.inl he,hcond⟩
   ·have hv:=hlook t (htl hgs)
    rw[hlb,VR] at hv
    rw[guard_spec hgs hv]
    rcases hor with ⟨hbw,hE⟩ | ⟨hbw,hx,hal⟩
    ·exact .inr ⟨hbw,hE⟩
    ·exact .inl ⟨hbw,hni,.inr (by rw[hal.1,put_H]),hx⟩
  rcases hwant with ⟨hw,hni,he,hxu⟩ | ⟨hw,hse⟩
  ·rw[if_neg (by rw[hw]; simp)]
   cases hee:isEff o with
   | false =>
    refine fin p g' W undef hpm (fun j hjm hje hjn=>⟨fun h'=>?_,fun h'=>(hD' j).2 (.inr ((hpe j hjm hje hjn).2 h'))⟩) (fun j b hj hnj=>hpb j b hj (fun h=>hnj ((hD' j).2 (.inr h)))) (by rw[zsame hni]; exact hrW) (by rw[zsame hni]; exact Ext.refl hrW) hlow hgS (fun d _=>by rw[hxu,VR])
    rcases (hD' j).1 h' with rfl | h'
    ·rw[heff ho,hee] at hje; cases hje
    ·exact hDlt hje hjn h'
   | true =>
    have hei:effAt ops i=true:=by rw[heff ho]; exact hee
    have hpi:p<=i:=Nat.le_of_not_lt fun hlt'=>hDi ((hpe i him hei hni).2 hlt')
    have hHp:(σ i).H=(σ p).H:=hsame p i hpi (by omega) (fun q h2 h3=>by
     cases hq:effAt ops q with
     | false=>exact .inl rfl
     | true =>
      by_cases hnq:flOf q fl=none
      ·have:=hDlt hq hnq (hbef q (hch q i him h3 hq hei hnq hni)); omega
      ·exact .inr (hnf hq hnq))
    have hH2:(σ (i+1)).H=(σ p).H:=by
     rcases he with he | he
     ·rw[hee] at he; cases he
     ·rw[he,hHp]
    refine fin (i+1) g' W undef (by omega) (fun j hjm hje hjn=>⟨fun h'=>?_,fun h'=>?_⟩) (fun j b hj hnj=>by rw[hH2]; exact hpb j b hj (fun h=>hnj ((hD' j).2 (.inr h)))) (by rw[hH2,zsame hni]; exact hrW) (by rw[hH2,zsame hni]; exact Ext.refl hrW) (fun b hb hb'=>by rw[hH2]; exact hlow b hb hb') hgS (fun d _=>by rw[hxu,VR])
    ·rcases (hD' j).1 h' with rfl | h'
     ·omega
     ·have:=hDlt hje hjn h'; omega
    ·refine(hD' j).2 ?_
     by_cases e:j=i
     ·exact .inl e
     ·exact .inr (hbef j (hch j i him (by omega) hje hei hjn hni))
  rw[if_pos hw]
  refine .inl ?_
  rcases hse with ⟨hfi,hs1⟩ | ⟨hni,he,H',h1,hs1⟩ | ⟨hni,he,h1,hs1,hkind⟩
  ·
   obtain ⟨_,o',t,b,cs,q1,q2,q3,q4,q5,q6⟩:=hfl.at_ i _ hfi
   rw[ho] at q1; cases q1
   have hxi:xs i=.ptr b 0:=q3
   have hfb:flOf i fl=some (.ptr b 0):=by rw[<-hxi]; exact hfi
   have hHb:(σ p).H[b]? = some (.box cs):=(hpb i b hfb hDi).trans q5
   have hhole:(maskH (zm D) (σ p).H)[b]? = some .hole:=maskH_on ((zmT D b).2 ⟨i,hfb,hDi⟩) hHb
   have hmk:maskH (zm D') (σ p).H=(maskH (zm D) (σ p).H).set b (.box cs):=maskH_fill hHb ((zmF D' b).2 fun j hj=>(hD' j).2 (.inl (hfl.inj j i b hj hfb))) fun c hc=>by
    have:(zm D' c=true)↔(zm D c=true):=by
     rw[zmT,zmT]
     constructor
     ·rintro ⟨j,h1,h2⟩; exact⟨j,h1,fun h=>h2 ((hD' j).2 (.inr h))⟩
     ·rintro ⟨j,h1,h2⟩
      refine⟨j,h1,fun h=>?_⟩
      rcases (hD' j).1 h with rfl | h
      ·rw[hfb] at h1; cases h1; exact hc rfl
      ·exact h2 h
    exact Bool.eq_iff_iff.2 this
   obtain ⟨d,W',g2,r1,r2,r3,r4,r5⟩:=alloc_fill (P:=cx.P) hrW hhole q6
   have r1':(execOp a'.eval o).run cx.P W=.ok (.value d) W':=by
    unfold execOp
    simp only[q2]
    exact vrun r1
   refine opV_of_ops (.inl r1') ?_
   refine fin p g2 W' d hpm (fun j hjm hje hjn=>⟨fun h'=>?_,fun h'=>(hD' j).2 (.inr ((hpe j hjm hje hjn).2 h'))⟩) (fun j b' hj hnj=>hpb j b' hj (fun h=>hnj ((hD' j).2 (.inr h)))) (by rw[hmk]; exact r2) (by rw[hmk]; exact r3) hlow (r5.trans hgS) (fun _ _=>by rw[hmk,hxi]; exact r4)
   rcases (hD' j).1 h' with rfl | h'
   ·rw[hfb] at hjn; cases hjn
   ·exact hDlt hje hjn h'
  ·
   have hei:effAt ops i=true:=by rw[heff ho]; exact he
   have hpi:p<=i:=Nat.le_of_not_lt fun hlt'=>hDi ((hpe i him hei hni).2 hlt')
   have hHp:(σ i).H=(σ p).H:=hsame p i hpi (by omega) (fun q h2 h3=>by
    cases hq:effAt ops q with
    | false=>exact .inl rfl
    | true =>
     by_cases hnq:flOf q fl=none
     ·have:=hDlt hq hnq (hbef q (hch q i him h3 hq hei hnq hni)); omega
     ·exact .inr (hnf hq hnq))
   have hst:(⟨(σ i).fr,(σ p).H⟩:St)=σ i:=by rw[<-hHp]
   have hzl:zm D (σ p).H.length=false:=zmhi D _ (hlen1 p hpm)
   have hbl:∀ y∈o.op.operands.toList,∀ b,blk? (opd cx ⟨(σ i).fr,(σ p).H⟩ y)=some b->zm D b=false:=fun y hy b hb=>VR_mask (hopr.one y hy) (by rw[<-hb]; cases y<;>rfl)
   have h1m:evOp1 cx f lo o ⟨(σ i).fr,maskH (zm D) (σ p).H⟩ (fun a H=>some (a,H))=some (xs i,maskH (zm D) H'):=by
    rw[eff_mask he hzl rowM hbl,hst,h1]; rfl
   obtain ⟨c,w',x,H2,g2,e1,e2,e3,e4,e5,e6,e7,e8⟩:=evOp1_sound hopr h1m
   cases e2
   refine opV_of_ops e1 ?_
   have hH1:(σ (i+1)).H=H':=by rw[hs1.1,put_H]
   have hz':=zsame hni
   have htch:=eff_touch he h1
   refine fin (i+1) g2 w' c (by omega) (fun j hjm hje hjn=>⟨fun h'=>?_,fun h'=>?_⟩) (fun j b hj hnj=>?_) (by rw[hH1,hz']; exact e3) (by rw[hH1,hz']; exact e4) (fun b hb hb'=>?_) (e8.trans hgS) (fun d _=>by rw[hH1,hz']; first | exact e5 | exact e6 | exact e7)
   ·rcases (hD' j).1 h' with rfl | h'
    ·omega
    ·have:=hDlt hje hjn h'; omega
   ·refine(hD' j).2 ?_
    by_cases e:j=i
    ·exact .inl e
    ·exact .inr (hbef j (hch j i him (by omega) hje hei hjn hni))
   ·have hDj:¬ D j:=fun h=>hnj ((hD' j).2 (.inr h))
    obtain ⟨_,_,_,b',cs',_,_,q3,q4,q5,_⟩:=hfl.at_ j _ hj
    cases q3
    have hbH:b<(σ i).H.length:=Nat.lt_of_lt_of_le (List.getElem?_eq_some_iff.1 q5).1 (hlen1 i (by omega))
    rw[hH1,htch.2 b hbH (fun c hc e=>?_),hHp]
    ·exact hpb j b hj hDj
    ·subst e
     have hzb:zm D b=true:=(zmT D b).2 ⟨j,hj,hDj⟩
     have hza:zm D b=false:=by
      obtain ⟨y,hy,hty⟩:∃ y∈o.op.operands.toList,touchA cx (σ i) o.op=opd cx (σ i) y:=by
       have hcs:blk? (touchA cx (σ i) o.op)=some b:=hc
       unfold touchA at hcs ⊢
       split at hcs
       ·rename_i t ad v hx; exact⟨ad,by rw[hx]; simp[Op.operands],rfl⟩
       ·rename_i c' hx
        split at hcs
        ·rename_i y l hl
         refine⟨y,?_,rfl⟩
         rw[hx]
         have:y∈c'.args.toList:=by rw[hl]; simp
         simp[Op.operands,Call.operands]
         exact .inr (by simpa using this)
        ·cases hcs
       ·cases hcs
      refine hbl y hy b ?_
      rw[hst,<-hty]; exact hc
     rw[hzb] at hza; cases hza
   ·have hb2:b<(σ i).H.length:=Nat.lt_of_lt_of_le hb' (by have:=hlenm 0 i (by omega) (by omega); rw[hσH] at this; exact Nat.le_trans hfl.len this)
    have h3:=(by first | exact e7 b hb (by rw[maskH_len,<-hHp]; exact hb2) | exact e6 b hb (by rw[maskH_len,<-hHp]; exact hb2):(maskH (zm D) H')[b]? = (maskH (zm D) (σ p).H)[b]?)
    rw[maskH_off (zmlow D b hb'),maskH_off (zmlow D b hb')] at h3
    rw[hH1,h3]
    exact hlow b hb hb'
  ·
   have hun:∀ q,q<m->effAt ops q=true->flOf q fl=none->((i<q/\q<p)∨(p<=q/\q<i))->Unord ops i q:=fun q hqm hqe hqn hq=>by
    unfold Unord
    rw[Bool.or_eq_false_iff]
    constructor
    ·cases hb:bef ops i q with
     | false=>rfl
     | true =>
      have h2:=hDlt hqe hqn (hbef q hb)
      have h3:=hlt hb
      omega
    ·cases hb:bef ops q i with
     | false=>rfl
     | true =>
      have h2:=hlt hb
      have h3:D q:=(hpe q hqm hqe hqn).2 (by omega)
      exact absurd (hcl q i h3 hb) hDi
   have hvo:∀ {y:Operand},y∈o.op.operands.toList->∀ {b:Nat},blk? (opd cx (σ i) y)=some b->zm D b=false/\∃ B,(σ p).H[b]? = some B:=fun {y} hy {b} hb=>by
    have hvr:=hopr.one y hy
    rw[show opd cx ⟨(σ i).fr,maskH (zm D) (σ p).H⟩ y=opd cx (σ i) y from by cases y<;>rfl] at hvr
    have hz:=VR_mask hvr hb
    obtain ⟨B,hB,_⟩:=VR_nohole hvr hb
    rw[maskH_off hz] at hB
    exact⟨hz,B,hB⟩
   have haddr:opKind o=1->∀ {b:Nat},blk? (addrOf cx (σ i) o.op)=some b->∃ y∈o.op.operands.toList,addrOf cx (σ i) o.op=opd cx (σ i) y:=fun h2 {b} hbs=>by
    unfold opKind at h2
    split at h2<;>first | (cases h2; done) | skip
    ·rename_i t x hx; exact⟨x,by rw[hx]; simp[Op.operands],by unfold addrOf; rw[hx]⟩
    ·rename_i t x q hx; exact⟨x,by rw[hx]; simp[Op.operands],by unfold addrOf; rw[hx]⟩
    ·rename_i t x q hx; exact⟨x,by rw[hx]; simp[Op.operands],by unfold addrOf; rw[hx]⟩
    ·rename_i t x q1 q2 q3 hx; exact⟨x,by rw[hx]; simp[Op.operands],by unfold addrOf; rw[hx]⟩
    ·rename_i x hx; exact⟨x,by rw[hx]; simp[Op.operands],by unfold addrOf; rw[hx]⟩
    ·rename_i t1 t2 x hx; exact⟨x,by rw[hx]; simp[Op.operands],by unfold addrOf; rw[hx]⟩
    ·rename_i t x q c hx; exact⟨x,by rw[hx]; simp[Op.operands],by unfold addrOf; rw[hx]⟩
    ·rename_i c hx
     unfold addrOf at hbs ⊢
     rw[hx] at hbs ⊢
     simp only[] at hbs ⊢
     cases hargs:c.args.toList with
     | nil=>rw[hargs] at hbs; cases hbs
     | cons y l =>
      refine⟨y,?_,rfl⟩
      have:y∈c.args.toList:=by rw[hargs]; simp
      simp[Op.operands,Call.operands]
      exact .inr (by simpa using this)
   have hev:evV cx call f o ⟨(σ i).fr,(σ p).H⟩=some (xs i):=by
    have hsi:(⟨(σ i).fr,(σ i).H⟩:St)=σ i:=rfl
    rw[<-hsi] at h1
    have allSame:(∀ q,q<m->effAt ops q=true->flOf q fl=none->((i<q/\q<p)∨(p<=q/\q<i))->False)->(σ p).H=(σ i).H:=fun hno=>by
     rcases Nat.le_total i p with hip | hip
     ·exact hsame i p hip hpm (fun q h2 h3=>by
       cases hq:effAt ops q with
       | false=>exact .inl rfl
       | true =>
        by_cases hnq:flOf q fl=none
        ·by_cases e:q=i
         ·subst e; rw[heff ho,he] at hq; cases hq
         ·exact(hno q (by omega) hq hnq (.inl ⟨by omega,h3⟩)).elim
        ·exact .inr (hnf hq hnq))
     ·exact(hsame p i hip (by omega) (fun q h2 h3=>by
       cases hq:effAt ops q with
       | false=>exact .inl rfl
       | true =>
        by_cases hnq:flOf q fl=none
        ·exact(hno q (by omega) hq hnq (.inr ⟨h2,h3⟩)).elim
        ·exact .inr (hnf hq hnq))).symm
    cases hord:ordAllF fl ops m i with
    | true =>
     rw[allSame (fun q hqm hqe hqn hq=>by
      have hu:=hun q hqm hqe hqn hq
      unfold Unord at hu
      rw[Bool.or_eq_false_iff] at hu
      rcases ordAllF_spec hord hqm hqe hqn with h2 | h2 | h2
      ·omega
      ·rw[hu.1] at h2; cases h2
      ·rw[hu.2] at h2; cases h2)]
     exact h1
    | false =>
     rcases hkind with h2 | h2 | h2 | ⟨h2,h3⟩ | ⟨h2,h3⟩
     ·rw[hord] at h2; cases h2.1
     ·rw[evV_free h2 (H':=(σ i).H)]; exact h1
     ·rw[<-evV_one h2 (H:=(σ i).H) (fun b hb=>?_)]
      ·exact h1
      ·have hbV:∃ B,(σ p).H[b]? = some B:=by
        obtain ⟨y,hy,hay⟩:=haddr h2 hb
        exact(hvo hy (by rw[<-hay]; exact hb)).2
       obtain ⟨B,hB⟩:=hbV
       have hbp:b<(σ p).H.length:=(List.getElem?_eq_some_iff.1 hB).1
       have hap:∀ {e:A} {c:Nat},apart (addrOf cx (σ i) o.op) e=true->blk? e=some c->b≠c:=fun {e c} h4 h5 h6=>by
        have hb':blk? (addrOf cx (σ i) o.op)=some b:=hb
        unfold apart at h4
        simp only[hb',h5,h6,Nat.beq_refl] at h4
        cases h4
       rcases Nat.le_total i p with hip | hip
       ·
        have hbi:b<(σ i).H.length∨(σ i).H.length<=b:=Nat.lt_or_ge _ _
        rcases hbi with hbi | hbi
        ·exact hblk i p hip hpm b hbi (fun q oq h4 h5 hoq hqe hqn c hc=>by
          by_cases e:q=i
          ·subst e; rw[heff ho,he] at hqe; cases hqe
          ·have hu:=hun q (by omega) hqe hqn (.inl ⟨by omega,h5⟩)
           have hqA:=(htr q oq (hget (by omega) hoq)).2.1 (by rw[Nat.zero_add]; exact hqn) (by rw[<-heff hoq]; exact hqe)
           simp only[Nat.zero_add] at hqA
           exact hap (hqA.2 i o (by omega) (hget him ho) he h2 hord (by unfold Unord at hu ⊢; rw[Bool.or_comm]; exact hu)) hc)
        ·exfalso
         obtain ⟨B',hB'⟩:=evV_there (s:=σ i) h2 h1 hb
         have:=(List.getElem?_eq_some_iff.1 hB').1
         omega
       ·exact(hblk p i hip (by omega) b hbp (fun q oq h4 h5 hoq hqe hqn c hc=>by
         have hu:=hun q (by omega) hqe hqn (.inr ⟨h4,h5⟩)
         exact hap ((htB he h2 hord).2 q oq h5 (hget (by omega) hoq) (by rw[Nat.zero_add]; exact hqn) (by rw[<-heff hoq]; exact hqe) (by rw[Nat.zero_add]; exact hu)) hc)).symm
     ·have hrow:∀ i j,i<=j->j<=m->(∀ q,i<=q->q<j->effAt ops q=true->flOf q fl=none->calmAt ops q=true)->∀ b,rowF (σ j).H b=rowF (σ i).H b:=by
       intro i j hij
       induction j with
       | zero =>
        intro _ _ b; obtain rfl:i=0:=by omega
        rfl
       | succ j ih =>
        intro hjm hq b
        by_cases e:i=j+1
        ·subst e; rfl
        ·obtain ⟨oj,hoj⟩:=hop j (by omega)
         have hprev:=ih (by omega) (by omega) (fun q h1 h2=>hq q h1 (by omega)) b
         have stE:StepE cx call f lo ops m fl j oj (σ j) (σ (j+1)) (xs j)->rowF (σ (j+1)).H b=rowF (σ i).H b:=fun hE=>by
          rcases hE with ⟨_,ej⟩ | ⟨hnj,hej,H',hj1,ej⟩ | ⟨_,_,_,ej,_⟩
          ·rw[ej.1,put_H]
           exact hprev
          ·have hc:=hq j (by omega) (by omega) (by rw[heff hoj]; exact hej) hnj
           unfold calmAt at hc
           rw[hoj] at hc
           rw[ej.1,put_H]
           exact(calm_rowF hc hj1 b).trans hprev
          ·rw[ej.1,put_H]
           exact hprev
         rcases hsel j (by omega) oj hoj with ⟨_,hE⟩ | ⟨_,_,_,_,_,_,ej,_⟩ | ⟨_,_,_,_,_,_,a4⟩
         ·exact stE hE
         ·rw[ej.1,put_H]
          exact hprev
         ·rcases a4 with ⟨_,hE⟩ | ⟨_,_,ej⟩
          ·exact stE hE
          ·rw[ej.1,put_H]
           exact hprev
      have hcalm:∀ q,q<m->effAt ops q=true->flOf q fl=none->((i<q/\q<p)∨(p<=q/\q<i))->calmAt ops q=true:=fun q hqm hqe hqn hq=>by
       have hu:=hun q hqm hqe hqn hq
       unfold Unord at hu
       rw[Bool.or_eq_false_iff] at hu
       have:=List.all_eq_true.1 h3 q (List.mem_range.2 hqm)
       simp only[hqe,hu.1,hu.2,Bool.or_eq_true,Bool.not_eq_true',beq_iff_eq,Bool.false_eq_true,or_false,false_or,reduceCtorEq,Bool.not_true] at this
       rcases this with h | h
       ·exact h
       ·omega
      rw[evV_calm h2 (H':=(σ i).H) (fun b=>?_)]
      ·exact h1
      ·rcases Nat.le_total i p with hip | hip
       ·exact hrow i p hip hpm (fun q h4 h5 hqe hqn=>by
         by_cases e:q=i
         ·subst e; rw[heff ho,he] at hqe; cases hqe
         ·exact hcalm q (by omega) hqe hqn (.inl ⟨by omega,h5⟩)) b
       ·exact(hrow p i hip (by omega) (fun q h4 h5 hqe hqn=>hcalm q (by omega) hqe hqn (.inr ⟨h4,h5⟩)) b).symm
     ·rw[<-evV_flat h2 (H:=(σ i).H) h3]; exact h1
   have hevm:evV cx call f o ⟨(σ i).fr,maskH (zm D) (σ p).H⟩=some (xs i):=by
    have loc:localK cx o=true->evV cx call f o ⟨(σ i).fr,maskH (zm D) (σ p).H⟩=evV cx call f o ⟨(σ i).fr,(σ p).H⟩:=fun hl=>by
     unfold localK at hl
     simp only[Bool.or_eq_true,Bool.and_eq_true] at hl
     rcases hl with ((hl | hl) | hl) | ⟨hl,hq⟩
     ·exact evV_free (beq_spec hl)
     ·refine(evV_one (beq_spec hl) fun b hb=>?_).symm
      have hb':blk? (addrOf cx (σ i) o.op)=some b:=hb
      obtain ⟨y,hy,hay⟩:=haddr (beq_spec hl) hb'
      exact maskH_off (hvo hy (by rw[<-hay]; exact hb')).1
     ·exact evV_calm (.inl (beq_spec hl)) rowM
     ·exact evV_calm (.inr ⟨beq_spec hl,hq⟩) rowM
    have lk:∀ k,opKind o=k->(k=0∨k=1∨k=2)->localK cx o=true:=fun k hk h=>by
     unfold localK
     rcases h with rfl | rfl | rfl<;>rw[hk]<;>rfl
    rcases hkind with ⟨_,(h2 | h2) | h2⟩ | h2 | h2 | ⟨h2 | ⟨h2,h3⟩,_⟩ | ⟨h2,_⟩
    ·rw[loc h2]; exact hev
    ·rw[maskH_none fun b=>(zmF D b).2 fun j hj=>hbef j (flBef_spec h2 j _ hj)]; exact hev
    ·rw[evV_orcD (H':=(σ p).H) h2 rowM]; exact hev
    ·rw[loc (lk 0 h2 (.inl rfl))]; exact hev
    ·rw[loc (lk 1 h2 (.inr (.inl rfl)))]; exact hev
    ·rw[loc (lk 2 h2 (.inr (.inr rfl)))]; exact hev
    ·rw[loc (by unfold localK; rw[h2,h3]; rfl)]; exact hev
    ·rw[loc (lk 2 h2 (.inr (.inr rfl)))]; exact hev
   have hpo:=evV_spec hcall horc hevm
   refine(hpo F n g' w0 W a'.eval hF hopr (fun G vs hG=>(hg.sr.gl G vs hG).ext heW) (hcall.up _ _ _ _ _ _ hb0 (hg.ext.trans heW))).mono ?_
   rintro v w' ⟨k1,k2,k3⟩
   refine fin p g' w' v hpm (fun j hjm hje hjn=>⟨fun h'=>?_,fun h'=>(hD' j).2 (.inr ((hpe j hjm hje hjn).2 h'))⟩) (fun j b hj hnj=>hpb j b hj (fun h=>hnj ((hD' j).2 (.inr h)))) (by rw[zsame hni]; exact k2) (by rw[zsame hni]; exact k3) hlow hgS (fun d _=>by rw[zsame hni]; exact k1)
   rcases (hD' j).1 h' with rfl | h'
   ·rw[heff ho,he] at hje; cases hje
   ·exact hDlt hje hjn h'
 ·rintro D a' W hall hDm ⟨p,g',hpm,hpe,hpb,hrW,heW,hlow,hgS,hv1,hv2⟩ hdf hsz
  have hmn:maskH (zm D) (σ p).H=(σ p).H:=maskH_none fun b=>(zmF D b).2 fun j hj=>hall j (hfl.at_ j _ hj).1
  rw[hmn] at hrW heW hv1 hv2
  have hHm:(σ m).H=(σ p).H:=hsame p m hpm (Nat.le_refl _) (fun q h2 h3=>by
   cases hq:effAt ops q with
   | false=>exact .inl rfl
   | true =>
    by_cases hnq:flOf q fl=none
    ·have:=(hpe q h3 hq hnq).1 (hall q h3); omega
    ·exact .inr (hnf hq hnq))
  refine evOps_sound (f:=f) (ops:=ops) hcall hb0 horc hF hk hp _ (σ m) g' a' W (fun o ho=>hd o (List.mem_of_mem_drop ho)) ⟨⟨by rw[hHm]; exact hrW,fun t=>?_,fun G vs hG=>by rw[hHm]; exact(hg.sr.gl G vs hG).ext heW⟩,by rw[hHm]; exact hg.ext.trans heW,?_,fun b hb hb'=>?_,hsz,(by rw[hdf]; exact hg.dfr.keptBy heW.kept),Nat.le_trans hg.mbw heW.size,hgS.trans hg.st⟩ hz
  ·rw[hHm]
   by_cases ht:∃ i,i<m/\dstOf ops i=some t
   ·obtain ⟨i,him,hit⟩:=ht
    obtain ⟨oi,hoi⟩:=hop i him
    have e1:look (σ (i+1)).fr t=xs i:=by rw[fstep i him oi hoi,if_pos (by rw[<-hdst hoi]; exact hit)]
    rw[fkeep t (i+1) m (by omega) (Nat.le_refl _) (fun q h1 h2 hq=>by
     obtain ⟨oq,hoq⟩:=hop q h2
     obtain ⟨c4',_⟩:=rg_spec chk hoq
     exact c4' i t (by omega) (by rw[<-hdst hoq]; exact hq) hit),e1]
    exact hv1 t i him hit (hall i him)
   ·rw[fkeep t 0 m (by omega) (Nat.le_refl _) (fun q h1 h2 hq=>ht ⟨q,h2,hq⟩),hσf]
    exact hv2 t (fun i him hit=>absurd ⟨i,him,hit⟩ ht)
  ·have:=hlenm 0 m (by omega) (Nat.le_refl _)
   rw[hσH] at this
   exact Nat.le_trans hg.len (Nat.le_trans hfl.len this)
  ·rw[hHm,hlow b hb (Nat.lt_of_lt_of_le hb' hg.len)]
   exact hg.low b hb hb'
end Go.Proofs.Ytdmgdjnadbakfaa
