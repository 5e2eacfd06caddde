/-
 Runs of guarded operations, taken together: the same as one by one.
-/
import Derived.Test.YtdmgdjnadbakfaaEvDraw
namespace Go.Proofs.Ytdmgdjnadbakfaa
variable {cx:Cx} {call:CallT} {f:Nat} {ops:Array Oper}
def opVal (cx:Cx) (call:CallT) (f:Nat) (ops:Array Oper) (o:Oper) (s:St):Option A:=match o.guard with
 | none=>evV cx call f o s
 | some _=>match guardSlot ops o with
  | none=>none
  | some (g,w)=>gIf (look s.fr g) w (evV cx call f o s) (some (.v undef))
theorem evVk_eq {β:Type} {o:Oper} {s:St} (k:A->Option β):evVk cx call f o s k=(evV cx call f o s).bind k:=by
 have one:(evOp1 cx f 0 o s fun a _=>k a)=(evOp1 cx f 0 o s fun a _=>some a).bind k:=by
  rw[evOp1_val,evOp1_val (k:=fun a _=>some a),Option.bind_assoc]; rfl
 unfold evVk evV
 split
 ·rfl
 ·rfl
 ·rfl
 ·rfl
 ·rfl
 ·rfl
 ·rfl
 ·rfl
 ·rfl
 ·rw[bcond,bcond]
  split
  ·rw[dynV_eq,dynV_eq]; simp only[Option.bind_assoc,Option.bind_some]
  ·split
   ·exact one
   ·rfl
 ·exact one
theorem unN_spec {β:Type} {r:β}:∀ (ds:List Nat) (l:List A) (k:List (Nat×A)->Option β),unN ds l k=some r->∃ fr l',fr.map (·.1)=ds/\l=fr.map (·.2)++l'/\k fr=some r
 | [],l,k,h=>⟨[],l,rfl,rfl,h⟩
 | d :: ds,[],k,h=>by cases h
 | d :: ds,a :: l,k,h=>by
  obtain ⟨fr,l',h1,h2,h3⟩:=unN_spec ds l _ h
  exact⟨(d,a) :: fr,l',by simp[h1],by simp[h2],h3⟩
theorem fr_ext:∀ {a b:List (Nat×A)} {l':List A},a.map (·.1)=b.map (·.1)->a.map (·.2)=b.map (·.2)++l'->a=b
 | [],[],_,_,_=>rfl
 | [],_ :: _,_,h,_=>by simp at h
 | _ :: _,[],_,h,_=>by simp at h
 | (x,y) :: a,(z,t) :: b,l',h,k=>by
  simp only[List.map_cons,List.cons.injEq,List.cons_append] at h k
  obtain ⟨rfl,h⟩:=h
  obtain ⟨rfl,k⟩:=k
  rw[fr_ext h k]
theorem over_put (dl:List (Nat×A)) (s:St) (o:Oper) (x:A):(over dl s).put o.dst x=over (dput o.dst x dl) s:=by
 cases o.dst<;>rfl
theorem over_nil (s:St):over [] s=s:=rfl
theorem over_over (a b:List (Nat×A)) (s:St):over a (over b s)=over (a++b) s:=by simp[over]
theorem look_over {t:Nat}:∀ {dl:List (Nat×A)} {s:St},memN t (dl.map (·.1))=false->look (over dl s).fr t=look s.fr t
 | [],s,_=>rfl
 | (d,x) :: dl,s,h=>by
  simp only[List.map_cons,memN,bcond] at h
  split at h
  ·cases h
  ·rename_i hd
   show look ((d,x) :: (dl++s.fr)) t=_
   rw[look_put,if_neg (fun e=>hd (by simp[e]))]
   exact look_over (dl:=dl) (s:=s) h
theorem memN_append (t:Nat):∀ (a b:List Nat),memN t (a++b)=(memN t a || memN t b)
 | [],b=>rfl
 | x :: a,b=>by
  simp only[List.cons_append,memN,bcond]
  split
  ·rfl
  ·exact memN_append t a b
def RunOK (ops:Array Oper) (g:Nat) (w:Bool):List Nat->List Oper->Prop
 | _,[]=>True
 | ds,o :: os=>inRun ops g w ds o=true/\RunOK ops g w (dstL o++ds) os
theorem splitRun_spec (g:Nat) (w:Bool):∀ (os:List Oper) (ds:List Nat),os=(splitRun ops g w ds os).1++(splitRun ops g w ds os).2/\RunOK ops g w ds (splitRun ops g w ds os).1
 | [],ds=>⟨rfl,trivial⟩
 | o :: os,ds=>by
  unfold splitRun
  rw[bcond]
  split
  ·rename_i h
   obtain ⟨h1,h2⟩:=splitRun_spec g w os (dstL o++ds)
   exact⟨by rw[List.cons_append,<-h1],h,h2⟩
  ·exact⟨rfl,trivial⟩
theorem inRun_spec {g:Nat} {w:Bool} {ds:List Nat} {o:Oper} (h:inRun ops g w ds o=true):o.guard≠none/\memN g (dstL o)=false/\∃ t w',guardSlot ops o=some (t,w')/\((t=g/\w'=w)∨memN t ds=true):=by
 unfold inRun at h
 split at h
 ·cases h
 ·rename_i q hq
  split at h
  ·cases h
  ·rename_i t w' hgs
   rw[bcond] at h
   split at h
   ·cases h
   ·rename_i hm
    refine⟨by rw[hq]; simp,by simpa using hm,t,w',hgs,?_⟩
    rw[bcond] at h
    split at h
    ·rename_i hb
     refine .inl ⟨Nat.eq_of_beq_eq_true hb,?_⟩
     cases w<;>cases w'<;>simp at h<;>rfl
    ·exact .inr h
theorem RunOK.out {g:Nat} {w:Bool}:∀ {ds:List Nat} {os:List Oper},RunOK ops g w ds os->(∀ o∈os,memN g (dstL o)=false/\o.guard≠none)/\memN g (dsts os)=false
 | _,[],_=>⟨fun o ho=>(by cases ho),rfl⟩
 | ds,o :: os,h=>by
  obtain ⟨h1,h2⟩:=inRun_spec h.1
  obtain ⟨h3,h4⟩:=RunOK.out h.2
  refine⟨fun o' ho'=>?_,?_⟩
  ·rcases List.mem_cons.1 ho' with rfl | ho'
   ·exact⟨h2.1,h1⟩
   ·exact h3 o' ho'
  ·rw[dsts,memN_append,h4,h2.1]; rfl
variable {X:Type} {E:List Oper->St->Option X} {Q:Oper->Prop}
theorem skip_eq (hE:∀ o os s,Q o->E (o :: os) s=(opVal cx call f ops o s).bind fun x=>E os (s.put o.dst x)) {g:Nat} {w:Bool} (rest:List Oper):∀ (os:List Oper) (ds:List Nat) (dl:List (Nat×A)) (s:St),RunOK ops g w ds os->(∀ o∈os,Q o)->(look (over dl s).fr g=.v (.bool (!w))∨∃ y,look (over dl s).fr g=.v (.tuple y)) ->
  (∀ t,memN t ds=true->look (over dl s).fr t=.v undef)->E (os++rest) (over dl s)=E rest (over (undefs (dsts os)++dl) s)
 | [],ds,dl,s,_,_,_,_=>rfl
 | o :: os,ds,dl,s,hr,hq,hg,hd=>by
  obtain ⟨hgd,hm,t,w',hgs,hor⟩:=inRun_spec hr.1
  have hv:opVal cx call f ops o (over dl s)=some (.v undef):=by
   unfold opVal
   cases hgu:o.guard with
   | none=>exact absurd hgu hgd
   | some q =>
    rw[hgs]
    rcases hor with ⟨rfl,rfl⟩ | hmem
    ·rcases hg with hg | ⟨y,hg⟩
     ·simp only[hg,gIf]; cases w'<;>rfl
     ·simp only[hg,gIf]
    ·simp only[hd t hmem,undef,gIf]
  rw[List.cons_append,hE o _ _ (hq o (by simp)),hv,Option.bind_some,over_put]
  have hlk:∀ t,look (over (dput o.dst (.v undef) dl) s).fr t=if memN t (dstL o)=true then .v undef else look (over dl s).fr t:=fun t=>by
   cases hdo:o.dst with
   | none=>simp[dstL,hdo,memN,dput]
   | some d =>
    show look ((d,.v undef) :: (dl++s.fr)) t=_
    rw[look_put]
    simp only[dstL,hdo,memN,bcond]
    by_cases e:d=t
    ·subst e; simp
    ·rw[if_neg e]
     rw[if_neg (by simp[e])]
     rfl
  rw[skip_eq hE rest os (dstL o++ds) _ s hr.2 (fun o' ho'=>hq o' (by simp[ho'])) (by rw[hlk,if_neg (by simp[hm])]; exact hg) (fun t ht=>?_)]
  ·congr 2
   cases hdo:o.dst with
   | none=>simp[dsts,dstL,hdo,dput]
   | some d=>simp[dsts,dstL,hdo,undefs,dput]
  ·rw[hlk]
   split
   ·rfl
   ·rename_i hn
    rw[memN_append] at ht
    exact hd t (by simpa [hn] using ht)
theorem dsts_append:∀ (a b:List Oper),dsts (a++b)=dsts b++dsts a
 | [],b=>by simp[dsts]
 | o :: a,b=>by simp[dsts,dsts_append a b]
theorem endPick_spec {asm:Option (Nat×Bool)} {g d:Nat} {a b:Operand} {os:List Oper} (h:endPick ops asm g os=some (d,a,b)):∃ o os',os=o :: os'/\plainG ops asm o=true/\o.op=.pick (.tmp g) a b/\o.dst=some d:=by
 unfold endPick at h
 split at h
 ·rename_i o os'
  rw[bcond] at h
  split at h
  ·rename_i hp
   split at h
   ·rename_i t x y d' ho hd
    rw[bcond] at h
    split at h
    ·rename_i ht
     cases h
     exact⟨o,os',rfl,hp,by rw[ho,Nat.eq_of_beq_eq_true ht],hd⟩
    ·cases h
   ·cases h
  ·cases h
 ·cases h
theorem plainG_val {asm:Option (Nat×Bool)} {o:Oper} {s:St} (h:plainG ops asm o=true) (ha:∀ g w,asm=some (g,w)->look s.fr g=.v (.bool w)):opVal cx call f ops o s=evV cx call f o s:=by
 unfold plainG at h
 unfold opVal
 split at h
 ·rename_i hg; rw[hg]
 ·rename_i q hq
  split at h
  ·rename_i g w t w' hgs
   rw[bcond] at h
   split at h
   ·rename_i ht
    have:=Nat.eq_of_beq_eq_true ht
    subst this
    rw[hq,hgs]
    simp only[ha t w rfl,gIf]
    cases w<;>cases w'<;>first | rfl | (simp at h)
   ·cases h
  ·cases h
theorem grp_spec (hE:∀ o os s,Q o->E (o :: os) s=(opVal cx call f ops o s).bind fun x=>E os (s.put o.dst x)) (hpick:∀ o c a b,o.op=.pick c a b->Q o) {β:Type} {r:β} {asm:Option (Nat×Bool)} {g:Nat} {w:Bool} {os:List Oper} {s:St} {vals:Option (Nat×Operand)->List Oper->Option (List A)} {k:List Oper->List (Nat×A)->Option β}
  (hq:∀ o∈(splitRun ops g w [] os).1,Q o) (ha:∀ g w,asm=some (g,w)->look s.fr g=.v (.bool w)/\∀ o∈os,memN g (dstL o)=false)
  (hv:look s.fr g=.v (.bool w)->∀ fin l,vals fin (splitRun ops g w [] os).1=some l->∃ dl,l=(finD cx fin dl s).map (·.2)/\dl.map (·.1)=dsts (splitRun ops g w [] os).1/\∀ rest,E ((splitRun ops g w [] os).1++rest) s=E rest (over dl s))
  (h:grp ops asm g w os s vals (udV cx s) k=some r):∃ pre rest fr,os=pre++rest/\k rest fr=some r/\fr.map (·.1)=dsts pre/\∀ rest',E (pre++rest') s=E rest' (over fr s):=by
 obtain ⟨hsp,hrun⟩:=splitRun_spec (ops:=ops) g w os []
 obtain ⟨hro,hgn⟩:=hrun.out
 have hskip:(look s.fr g=.v (.bool (!w))∨∃ y,look s.fr g=.v (.tuple y))->∀ rest,E ((splitRun ops g w [] os).1++rest) s=E rest (over (undefs (dsts (splitRun ops g w [] os).1)) s):=fun hg rest=>by
  have:=skip_eq hE rest _ [] [] s hrun hq hg (fun t ht=>by cases ht)
  simpa [over_nil] using this
 have hmu:∀ ds:List Nat,(undefs ds).map (·.1)=ds:=fun ds=>by simp[undefs,Function.comp_def]
 unfold grp at h
 split at h
 ·rename_i d a b hep
  obtain ⟨o,os',hrest,hpl,hop,hdst⟩:=endPick_spec hep
  obtain ⟨l,hl,h⟩:=bnd h
  obtain ⟨fr,l',e1,e2,e3⟩:=unN_spec _ _ _ h
  obtain ⟨bb,hb,hl⟩:=bIf_spec hl
  rw[hrest,List.tail_cons] at e3
  have fin:∀ (dl:List (Nat×A)) (x:Operand),l=(finD cx (some (d,x)) dl s).map (·.2)->dl.map (·.1)=dsts (splitRun ops g w [] os).1->(∀ rest,E ((splitRun ops g w [] os).1++rest) s=E rest (over dl s))->x=(if bb then a else b) ->
    ∃ pre rest fr,os=pre++rest/\k rest fr=some r/\fr.map (·.1)=dsts pre/\∀ rest',E (pre++rest') s=E rest' (over fr s):=by
   intro dl x h1 h2 h3 h4
   have hfr:finD cx (some (d,x)) dl s=fr:=fr_ext (l':=l') (by rw[e1]; simp[finD,h2]) (by rw[<-h1,e2])
   refine⟨(splitRun ops g w [] os).1++[o],os',fr,?_,e3,?_,?_⟩
   ·rw[List.append_assoc,List.singleton_append,<-hrest]; exact hsp
   ·rw[e1,dsts_append]; simp[dsts,dstL,hdst]
   ·intro rest'
    rw[List.append_assoc,List.singleton_append,h3,hE o _ _ (hpick o _ _ _ hop)]
    have hgl:look (over dl s).fr g=.v (.bool bb):=by rw[look_over (by rw[h2]; exact hgn),hb]
    have hval:opVal cx call f ops o (over dl s)=evV cx call f o (over dl s):=plainG_val hpl fun g' w' hga=>by
     obtain ⟨ha1,ha2⟩:=ha g' w' hga
     rw[look_over ?_,ha1]
     rw[h2]
     have:∀ (l:List Oper),(∀ o∈l,memN g' (dstL o)=false)->memN g' (dsts l)=false:=by
      intro l
      induction l with
      | nil=>intro _; rfl
      | cons o' l ih=>intro hh; rw[dsts,memN_append,ih (fun o'' ho''=>hh o'' (by simp[ho''])),hh o' (by simp)]; rfl
     exact this _ fun o' ho'=>ha2 o' (by rw[hsp]; simp[ho'])
    rw[hval]
    have:evV cx call f o (over dl s)=some (opd cx (over dl s) x):=by
     unfold evV
     rw[hop]
     show bIf (opd cx (over dl s) (.tmp g)) _ _=_
     rw[show opd cx (over dl s) (.tmp g)=.v (.bool bb) from hgl]
     subst h4
     cases bb<;>rfl
    rw[this,Option.bind_some,over_put,hdst]
    show E rest' (over ((d,opd cx (over dl s) x) :: dl) s)=_
    rw[<-hfr]; rfl
  cases bb with
  | true =>
   rw[if_pos rfl] at hl
   cases w with
   | true =>
    obtain ⟨dl,h1,h2,h3⟩:=hv hb _ _ hl
    exact fin dl a h1 h2 h3 rfl
   | false =>
    cases hl
    exact fin _ a rfl (hmu _) (hskip (.inl hb)) rfl
  | false =>
   rw[if_neg (by simp)] at hl
   cases w with
   | true =>
    cases hl
    exact fin _ b rfl (hmu _) (hskip (.inl hb)) rfl
   | false =>
    obtain ⟨dl,h1,h2,h3⟩:=hv hb _ _ hl
    exact fin dl b h1 h2 h3 rfl
 ·obtain ⟨l,hl,h⟩:=bnd h
  obtain ⟨fr,l',e1,e2,e3⟩:=unN_spec _ _ _ h
  have fin:∀ (dl:List (Nat×A)),l=(finD cx none dl s).map (·.2)->dl.map (·.1)=dsts (splitRun ops g w [] os).1->(∀ rest,E ((splitRun ops g w [] os).1++rest) s=E rest (over dl s)) ->
    ∃ pre rest fr,os=pre++rest/\k rest fr=some r/\fr.map (·.1)=dsts pre/\∀ rest',E (pre++rest') s=E rest' (over fr s):=by
   intro dl h1 h2 h3
   have hfr:dl=fr:=fr_ext (l':=l') (by rw[e1,h2]) (by rw[<-e2,h1]; rfl)
   subst hfr
   exact⟨_,_,dl,hsp,e3,h2,h3⟩
  rcases gIf_spec hl with ⟨bb,hb,hl⟩ | ⟨y,hb,hl⟩
  ·split at hl
   ·rename_i hbw
    have hbw:bb=w:=by simpa using hbw
    subst hbw
    obtain ⟨dl,h1,h2,h3⟩:=hv hb _ _ hl
    exact fin dl h1 h2 h3
   ·rename_i hbw
    have hbw:bb = !w:=by cases bb<;>cases w<;>simp at hbw ⊢
    subst hbw
    cases hl
    exact fin _ rfl (hmu _) (hskip (.inl hb))
  ·cases hl
   exact fin _ rfl (hmu _) (hskip (.inr ⟨y,hb⟩))
theorem evVals_spec (hE:∀ o os s,Q o->E (o :: os) s=(opVal cx call f ops o s).bind fun x=>E os (s.put o.dst x)) (hpick:∀ o c a b,o.op=.pick c a b->Q o):∀ (q:Nat) (asm:Option (Nat×Bool)) (fin:Option (Nat×Operand)) (os:List Oper) (dl:List (Nat×A)) (s:St) (l:List A),evVals cx call f ops q asm fin os dl s=some l->(∀ o∈os,Q o) ->
  (∀ g w,asm=some (g,w)->look (over dl s).fr g=.v (.bool w)/\∀ o∈os,memN g (dstL o)=false) ->
  ∃ dl',l=(finD cx fin dl' s).map (·.2)/\dl'.map (·.1)=dsts os++dl.map (·.1)/\∀ rest,E (os++rest) (over dl s)=E rest (over dl' s)
 | 0,_,_,_,_,_,_,h,_,_=>by cases h
 | q+1,asm,fin,[],dl,s,l,h,_,_=>by cases h; exact⟨dl,rfl,rfl,fun _=>rfl⟩
 | q+1,asm,fin,o :: os,dl,s,l,h,hq,ha=>by
  unfold evVals at h
  rw[bcond] at h
  split at h
  ·rename_i hpl
   rw[evVk_eq] at h
   obtain ⟨x,hx,h⟩:=bnd h
   obtain ⟨dl',h1,h2,h3⟩:=evVals_spec hE hpick q asm fin os _ s l h (fun o' ho'=>hq o' (by simp[ho'])) (fun g w hg=>by
    obtain ⟨k1,k2⟩:=ha g w hg
    refine⟨?_,fun o' ho'=>k2 o' (by simp[ho'])⟩
    have hm:=k2 o (by simp)
    cases hd:o.dst with
    | none=>exact k1
    | some d =>
     simp only[dstL,hd] at hm
     show look ((d,x) :: (dl++s.fr)) g=_
     rw[look_put,if_neg (fun e=>by simp[memN,e] at hm)]
     exact k1)
   refine⟨dl',h1,?_,fun rest=>?_⟩
   ·rw[h2]
    cases hd:o.dst<;>simp[dsts,dstL,hd,dput]
   ·rw[List.cons_append,hE o _ _ (hq o (by simp)),plainG_val hpl (fun g w hg=>(ha g w hg).1),hx,Option.bind_some,over_put,h3]
  ·split at h
   ·cases h
   ·rename_i t w hgs
    obtain ⟨_,h⟩:=csome h
    obtain ⟨pre,rest,fr,h1,h2,h3,h4⟩:=grp_spec (E:=fun os' s'=>E os' s') hE hpick (fun o' ho'=>hq o' (by
     rw[(splitRun_spec (ops:=ops) t w (o :: os) []).1]; simp[ho'])) ha (fun hlk fin' l' hl'=>by
     obtain ⟨dl2,k1,k2,k3⟩:=evVals_spec hE hpick q (some (t,w)) fin' _ [] (over dl s) l' hl' (fun o' ho'=>hq o' (by
      rw[(splitRun_spec (ops:=ops) t w (o :: os) []).1]; simp[ho'])) (fun g' w' hg'=>by
      cases hg'
      exact⟨hlk,fun o' ho'=>((splitRun_spec (ops:=ops) t w (o :: os) []).2.out.1 o' ho').1⟩)
     exact⟨dl2,k1,by simpa using k2,k3⟩) h
    rw[h1] at hq ha ⊢
    have hnm:∀ g,(∀ o∈pre,memN g (dstL o)=false)->memN g (dsts pre)=false:=by
     intro g
     clear h1 h2 h3 h4 hq ha
     induction pre with
     | nil=>intro _; rfl
     | cons o' l ih=>intro hh; rw[dsts,memN_append,ih (fun o'' ho''=>hh o'' (by simp[ho''])),hh o' (by simp)]; rfl
    obtain ⟨dl',k1,k2,k3⟩:=evVals_spec hE hpick q asm fin rest (fr++dl) s l h2 (fun o' ho'=>hq o' (by simp[ho'])) (fun g' w' hg'=>by
     obtain ⟨m1,m2⟩:=ha g' w' hg'
     refine⟨?_,fun o' ho'=>m2 o' (by simp[ho'])⟩
     rw[<-over_over,look_over (by rw[h3]; exact hnm g' fun o' ho'=>m2 o' (by simp[ho']))]
     exact m1)
    refine⟨dl',k1,by rw[k2,dsts_append]; simp[h3],fun rest'=>?_⟩
    rw[List.append_assoc,h4,over_over,k3]
end Go.Proofs.Ytdmgdjnadbakfaa
