/-
 **The interpreter is sound**: what it answers of a call, the model's call answers.
-/
import Derived.Test.YtdmgdjnadbakfaaEvDefer
namespace Go.Proofs.Ytdmgdjnadbakfaa
open Go.RowKit
variable {H H':Heap} {g g':Gh} {w0 w w':World} {cx:Cx} {s:St} {a:Act} {F:Fence} {n:Nat} {N lo:Nat} {mb:Mb} {H0:Heap} {gs:Gh} {ws:World}
theorem look_keep (fr:List (Nat×A)) (keep:List Nat) (t:Nat):look (keep.map fun t=>(t,look fr t)) t=look fr t∨look (keep.map fun t=>(t,look fr t)) t=.any:=by
 induction keep with
 | nil=>exact .inr rfl
 | cons u ks ih =>
  rw[List.map_cons,look_put]
  split
  ·rename_i e; rw[e]; exact .inl rfl
  ·exact ih
theorem look_in (fr:List (Nat×A)) (keep:List Nat) (t:Nat) (ht:look (keep.map fun t=>(t,look fr t)) t≠.any):t∈keep:=by
 induction keep with
 | nil=>exact absurd rfl ht
 | cons u ks ih =>
  rw[List.map_cons,look_put] at ht
  split at ht
  ·rename_i e; subst e; simp
  ·exact List.mem_cons_of_mem _ (ih ht)
theorem Good.rekeep (hg:Good cx N mb lo H0 gs ws w0 s g a w) {keep:List Nat}:Good cx N mb lo H0 gs ws w0 (rekeep keep s) g a w :=
 ⟨⟨hg.sr.rel,fun t=>by
  show VR s.H g w (look (keep.map fun t=>(t,look s.fr t)) t) _
  rcases look_keep s.fr keep t with h | h
  ·rw[h]; exact hg.sr.fr t
  ·rw[h,VR]; trivial,hg.sr.gl⟩,hg.ext,hg.len,hg.low,hg.siz,hg.dfr,hg.mbw,hg.st⟩
theorem Good.normZ (hg:Good cx N mb lo H0 gs ws w0 s g a w) {keep:List Nat} {L:Nat} (hL:H0.length<=L) (hLs:L<=s.H.length) {k:St->Option R} {r:R} (h:norm0 keep L s k=some r):∃ s' g',k s'=some r/\Good cx N mb lo H0 gs ws w0 s' g' a w/\s'.H.length=L:=by
 unfold norm0 at h
 obtain ⟨H',h1,h⟩:=bnd h
 obtain ⟨h2,h⟩:=csome h
 have look_keep:=look_keep s.fr keep
 have look_in:=look_in s.fr keep
 unfold trim at h1
 rw[bcond] at h1
 split at h1
 ·rename_i hl
  have hl:s.H.length=L:=by simpa using hl
  cases h1
  refine⟨_,g,h,⟨⟨hg.sr.rel,fun t=>?_,hg.sr.gl⟩,hg.ext,hg.len,hg.low,hg.siz,hg.dfr,hg.mbw,hg.st⟩,hl⟩
  rcases look_keep t with h | h
  ·rw[h]; exact hg.sr.fr t
  ·rw[h,VR]; trivial
 ·rename_i hl
  obtain ⟨hall,h1⟩:=csome h1
  cases h1
  have hl:¬ s.H.length=L:=by simpa using hl
  have hk:keep.all (fun t=>A.under L (look s.fr t))=true:=by
   have hb:Nat.beq s.H.length L=false:=by
    cases hb:Nat.beq s.H.length L with
    | true=>exact absurd (Nat.eq_of_beq_eq_true hb) hl
    | false=>rfl
   rw[hb] at h2
   exact keepsUnder_all _ _ _ h2
  have hu:∀ (b:Nat) B,b<L->s.H[b]? = some B->B.under L=true:=fun b B hb hB=>by
   refine List.all_eq_true.1 hall B (List.mem_of_getElem? (i:=b) ?_)
   rw[List.getElem?_take,if_pos hb]; exact hB
  obtain ⟨r1,ag⟩:=hg.sr.rel.cut hLs hu
  refine⟨_,g.cut L,h,⟨⟨r1,fun t=>?_,fun G vs hG=>(hg.sr.gl G vs hG).to ag⟩,hg.ext.cut hL,by rw[List.length_take]; omega,fun b hb hb'=>by rw[List.getElem?_take,if_pos (by omega)]; exact hg.low b hb hb',hg.siz,hg.dfr,hg.mbw,hg.st⟩,by rw[List.length_take]; omega⟩
  rcases look_keep t with h | h
  ·rw[h]
   by_cases hany:look s.fr t=.any
   ·rw[hany,VR]; trivial
   ·have htk:=look_in t (by rw[h]; exact hany)
    exact VR.to ag _ _ (List.all_eq_true.1 hk t htk) (hg.sr.fr t)
  ·rw[h,VR]; trivial
theorem frzs_len (lo:Nat):∀ (ps:List (Nat×Nat×Nat)) {s:St} {g:Gh},Good cx N mb lo H0 gs ws w0 s g a w->∃ g',Good cx N mb lo H0 gs ws w0 (actAll lo (frzs ps) s) g' a w/\(actAll lo (frzs ps) s).H.length=s.H.length
 | [],s,g,h=>⟨g,h,rfl⟩
 | p :: ps,s,g,h=>by
  unfold frzs
  split
  ·rename_i he
   obtain ⟨g',h1,_,h2⟩:=h.act1 p
   obtain ⟨g'',h3,h4⟩:=frzs_len lo ps h1
   exact⟨g'',h3,h4.trans (h2 he)⟩
  ·exact frzs_len lo ps h
theorem Good.norm (hg:Good cx N mb lo H0 gs ws w0 s g a w) {keep:List Nat} {acts:List (Nat×Nat×Nat)} {n L:Nat} (hL:H0.length<=n) (hnL:n<=L) (hr:rstOf acts≠none->n+1<=L) (hLs:L<=s.H.length) {k:St->Option R} {r:R} (h:normK lo keep acts L s k=some r):∃ s' g',k s'=some r/\Good cx N mb lo H0 gs ws w0 s' g' a w/\s'.H.length=L:=by
 obtain ⟨g',h1,h2⟩:=frzs_len lo acts hg
 unfold normK at h
 split at h
 ·exact h1.normZ (by omega) (by omega) h
 ·rename_i p hp
  have hr:n+1<=L:=hr (by rw[hp]; exact Option.some_ne_none p)
  unfold normR at h
  rw[bcond] at h
  split at h
  ·obtain ⟨s2,g2,h3,h4,h5⟩:=h1.normZ (L:=L - 1) (by omega) (by omega) h
   obtain ⟨h6,h3⟩:=csome h3
   obtain ⟨g3,h7,_,_⟩:=h4.act1 p
   exact⟨_,g3,h3,h7.rekeep,Nat.eq_of_beq_eq_true h6⟩
  ·exact h1.normZ (by omega) (by omega) h
theorem noRng2 {p:Prop} {a b:Code} (h:p∨(noRng a&&noRng b)=true):(p∨noRng a=true)/\(p∨noRng b=true):=by
 rcases h with h | h
 ·exact⟨.inl h,.inl h⟩
 ·rw[Bool.and_eq_true] at h; exact⟨.inr h.1,.inr h.2⟩
def RgSound (cx:Cx) (rg:CallT->CallT):Prop:=∀ (Bs:Heap->Gh->World->Prop) (base:CallT),YlSound cx Bs base->CallSound cx Bs (rg base)
theorem fnOf_spec {P:Program} {x:A} {v:Value} {gf:Nat} {cap:List A} (h:fnOf P x=some (gf,cap)) (hv:VR H g w x v):callable P gf=true/\∃ es:Array Value,v=.func (.func gf) #[] es/\VRs H g w cap es.toList:=by
 unfold fnOf at h
 split at h
 ·obtain ⟨h1,h⟩:=csome h
  cases h
  rw[VR] at hv
  obtain ⟨ds,es,e1,e2,e3⟩:=hv
  rw[VRs] at e2
  have:ds=#[]:=by apply Array.ext'; simpa using e2
  subst this
  exact⟨h1,es,e1,e3⟩
 ·cases h
theorem callable_run {P:Program} {k:Nat} (hk:callable P k=true) (args:Array Value) (w:World):(callFunc k args).run P w=.ok (.enter k args) w:=by
 unfold callable at hk
 cases hf:P.funcs[k]? with
 | none=>rw[hf] at hk; cases hk
 | some fn =>
  rw[hf] at hk
  simp only[Bool.and_eq_true,Bool.not_eq_true'] at hk
  have h1:¬ fn.body=none:=by intro hb; rw[hb] at hk; simp at hk
  have h2:¬ fn.name = "runtime.NumGoroutine" := by simpa using hk.2
  simp[callFunc,program,Sem.run,hf,h1,h2]
theorem stepR_scope {P:Program} {b:Frame} {a:Act} {k:List Item} {cs:List Frame} {w:World} {c:Code}:step P (lone (b.atR a (.code (.scope c) :: k)) cs w)=.next (lone (b.atR a (.code c :: .inScope c :: k)) cs w) :=
 step_lone_go (by simp[stepG,stepG.exec,Frame.atR])
theorem stepR_inScope {P:Program} {b:Frame} {a:Act} {k:List Item} {cs:List Frame} {w:World} {c:Code}:step P (lone (b.atR a (.inScope c :: k)) cs w)=.next (lone (b.atR a k) cs w) :=
 step_lone_go (by simp[stepG,stepG.exec,Frame.atR])
theorem wpIn_scope {F:Fence} {n:Nat} {P:Program} {a:Act} {w:World} {Q:Exit->Act->World->Prop} {c:Code} (h:c.wpIn F n P (fun e a w=>match e with | .goto _=>False | e=>Q e a w) a w):(Code.scope c).wpIn F n P Q a w:=by
 intro b k cs hro hb hr
 have h0:(lone (b.atR a (.code (.scope c) :: k)) cs w).fenced P F:=fenced_calm hb hr rfl
 obtain ⟨e,a₁,w₁,hq,harr⟩:=h b (.inScope c :: k) cs hro hb hr
 cases e with
 | normal=>exact⟨.normal,a₁,w₁,hq,.head h0 stepR_scope (StepsIn.trans harr (.one (fenced_calm hb hr rfl) stepR_inScope))⟩
 | exit id' =>
  have hx:exitTo id' (.inScope c :: k)=exitTo id' k:=by simp[exitTo]
  exact⟨.exit id',a₁,w₁,hq,fun k' hk=>.head h0 stepR_scope (harr.1 k' (by rw[hx]; exact hk)),
   fun hr' hk=>let ⟨k₁,h1,h2⟩:=harr.2 hr' (by rw[hx]; exact hk); ⟨k₁,h1,.head h0 stepR_scope h2⟩⟩
 | goto l=>exact hq.elim
 | ret=>exact⟨_,a₁,w₁,hq,.of_steps (.one h0 stepR_scope) harr⟩
 | panic ch=>exact⟨_,a₁,w₁,hq,.of_steps (.one h0 stepR_scope) harr⟩
 | outgrown=>exact⟨_,a₁,w₁,hq,.of_steps (.one h0 stepR_scope) harr⟩
theorem evRegD_sound {Bs:Heap->Gh->World->Prop} {call:CallT} (hcall:CallSound cx Bs call) (hb0:Bs H0 gs ws) (horc:OrcOK cx) {F:Fence} {n:Nat} (hF:WideA F) (hmx:cx.P.follows .mixedOrders=true) {f:Nat} {ops:Array Oper} {k:E->St->Option R} {r:R} {Q:Exit->Act->World->Prop}
  (hg:Good cx N mb lo H0 gs ws w0 s g a w) (h:evRegD cx call f lo N ops s k=some r)
  (hk:∀ s' g' a' w',Good cx N mb lo H0 gs ws w0 s' g' a' w'->k .normal s'=some r->Q .normal a' w')
  (hp:∀ x s' g' a' w' c,Good cx N mb lo H0 gs ws w0 s' g' a' w'->VR s'.H g' w' x c->k (.pan x) s'=some r->Q (.panic [{ v:=c,recovered:=false }]) a' w'):LW F n cx.P ops Q a w:=by
 unfold evRegD at h
 obtain ⟨hd,h⟩:=csome h
 have hd':∀ o∈ops.toList,∀ d,o.dst=some d->d<N:=fun o ho d hod=>by
  have:=List.all_eq_true.1 hd o ho
  rw[hod] at this; simpa using this
 cases hci:cutC cx ops with
 | some c =>
  rw[hci] at h
  exact(evRgC_sound (f:=f) hcall hb0 horc hF hmx hg hd' h hk hp)
 | none =>
 rw[hci] at h
 replace h:=csome h
 obtain ⟨chk,h⟩:=h
 replace h:=bnd h
 obtain ⟨m,hm,h⟩:=h
 have hmt:tailOk ops m=true:=by
  unfold tailAt at hm
  exact List.find?_some hm
 rw[bcond] at h
 split at h
 ·have htk:∀ j o,(ops.toList.take m)[j]? = some o->ops[0+j]? = some o:=fun j o ho=>by
   rw[List.getElem?_take] at ho
   split at ho
   ·rw[Nat.zero_add]; rw[Array.getElem?_toList] at ho; exact ho
   ·cases ho
  have hm2:m<=ops.size:=by
   simp only[tailOk,Bool.and_eq_true,decide_eq_true_eq] at hmt
   exact hmt.1.1
  have htl:(ops.toList.take m).length=m:=by rw[List.length_take]; simp; omega
  rw[bcond] at h
  split at h
  ·rename_i hch
   exact(evDrawE_sound (f:=f) (m:=m) hcall hb0 horc hF hmx chk hmt (fun i j h1 h2 h3 h4 _ _=>chain_spec hch h1 h2 h3 h4) Flo.none hg hd' (fun s h=>evOpsG_eq _ _ _ h) h hk hp)
  obtain ⟨hch,h⟩:=csome h
  obtain ⟨fl,H1,h,hfl,_,hno⟩:=ahead_spec (ops:=ops) (m:=m) (ops.toList.take m) 0 s.H _ htk (by omega) h
  have hnf:∀ {i},i<m->flOf i fl=none->isFlo cx f ops i=false:=fun {i} hi hn=>hno i hn (Nat.zero_le _) (by omega)
  exact(evDrawE_sound (f:=f) (m:=m) hcall hb0 horc hF hmx chk hmt (fun i j h1 h2 h3 h4 h5 h6=>chainF_spec hch h1 h2 h3 h4 (hnf (by omega) h5) (hnf h1 h6)) hfl hg hd' (fun s h=>evOpsG_eq _ _ _ h) h hk hp)
 exact(evDraw_sound (f:=f) (m:=m) hcall hb0 horc hF hmx chk hmt hg hd' (evPre_mono (fun s h=>evOpsG_eq _ _ _ h) (evPreG_eq _ _ _ h)) hk hp)
theorem evF_sound {Bs:Heap->Gh->World->Prop} {call:CallT} {rg:CallT->CallT} (hcall:CallSound cx Bs call) (hrg:RgSound cx rg) (horc:OrcOK cx) (hmx:cx.P.follows .mixedOrders=true) {nf f:Nat}:∀ (c:Code) (F:Fence) (n:Nat) (mb:Mb) (w0:World) (r:R) (H0:Heap) (gs:Gh) (ws:World) (k:E->St->Option R) (Q:Exit->Act->World->Prop) (s:St) (g:Gh) (a:Act) (w:World),WideA F->((F.round=none/\mb.free=true)∨noRng c=true)->Bs H0 gs ws->Good cx N mb lo H0 gs ws w0 s g a w->evF cx call rg nf f lo N c s k=some r ->
  (∀ e e' s' g' a' w',Good cx N mb lo H0 gs ws w0 s' g' a' w'->ER s' g' w' e e'->k e s'=some r->Q e' a' w')->c.wpIn F n cx.P Q a w
 | .skip,F,n,mb,w0,r,H0,gs,ws,k,Q,s,g,a,w,hF,hro,hb0,hg,h,hk=>wpIn_skip (hk .normal .normal _ _ _ _ hg trivial h)
 | .label l,F,n,mb,w0,r,H0,gs,ws,k,Q,s,g,a,w,hF,hro,hb0,hg,h,hk=>wpIn_label (hk .normal .normal _ _ _ _ hg trivial h)
 | .region id ops draw,F,n,mb,w0,r,H0,gs,ws,k,Q,s,g,a,w,hF,hro,hb0,hg,h,hk=>by
  rw[evF] at h
  obtain ⟨s,g1,hg,h⟩:=Good.kills _ hg h
  replace h:=csome h
  obtain ⟨hd,h⟩:=h
  have hd':∀ o∈ops.toList,∀ d,o.dst=some d->d<N:=fun o ho d hod=>by
   have:=List.all_eq_true.1 hd o ho
   rw[hod] at this; simpa using this
  cases draw with
  | false =>
   exact wpIn_region_list (evOps_sound (f:=f) (ops:=ops) hcall hb0 horc hF (fun s' g' a' w' hg' h'=>hk .normal .normal _ _ _ _ hg' trivial h') (fun x s' g' a' w' c hg' hv h'=>hk (.pan x) (.panic _) _ _ _ _ hg' ⟨c,rfl,hv⟩ h') _ s g1 a w hd' hg (evOpsG_eq _ _ _ h))
  | true =>
   simp only[cond_true] at h
   refine(evRegD_sound (f:=f) hcall hb0 horc hF hmx hg (k:=k) ?_ (fun s' g' a' w' hg' h'=>hk .normal .normal _ _ _ _ hg' trivial h') (fun x s' g' a' w' c hg' hv h'=>hk (.pan x) (.panic _) _ _ _ _ hg' ⟨c,rfl,hv⟩ h')).wpIn
   unfold evRegD
   rw[hd]
   exact h
 | .seq x y,F,n,mb,w0,r,H0,gs,ws,k,Q,s,g,a,w,hF,hro,hb0,hg,h,hk=>by
  rw[evF] at h
  cases hj:cx.join f (joinKey x) with
  | cons j js =>
   rw[hj] at h
   obtain ⟨r0,h0,h⟩:=bnd (show ((evF cx call rg nf f lo N x s (joinE (j :: js))).bind fun r=>retT r fun l H=>unN (j :: js) l fun fr=>evF cx call rg nf f lo N y ⟨fr,H⟩ k)=some r from h)
   refine wpIn_seq (evF_sound hcall hrg horc hmx x F n mb w0 r0 H0 gs ws _ _ s g a w hF (noRng2 hro).1 hb0 hg h0 fun e e' s' g' a' w' hg' he h'=>?_)
   cases e with
   | normal =>
    have hr:(Out.ret (.tup ((j :: js).map (look s'.fr))),s'.H)=r0:=Option.some.inj h'
    subst hr
    have h2:unN (j :: js) ((j :: js).map (look s'.fr)) (fun fr=>evF cx call rg nf f lo N y ⟨fr,s'.H⟩ k)=some r:=h
    rw[unN_map] at h2
    cases e'<;>first
     | exact evF_sound hcall hrg horc hmx y F n mb w0 r H0 gs ws k Q (rekeep (j :: js) s') g' a' w' hF (noRng2 hro).2 hb0 hg'.rekeep h2 hk
     | exact he.elim
   | _=>cases h'
  | nil =>
  rw[hj] at h
  replace h:evF cx call rg nf f lo N x s (fun e s'=>match e with | .normal=>evF cx call rg nf f lo N y s' k | e=>k e s')=some r:=h
  refine wpIn_seq (evF_sound hcall hrg horc hmx x F n mb w0 r H0 gs ws _ _ s g a w hF (noRng2 hro).1 hb0 hg h fun e e' s' g' a' w' hg' he h'=>?_)
  cases e with
  | normal=>cases e'<;>first
    | exact evF_sound hcall hrg horc hmx y F n mb w0 r H0 gs ws k Q s' g' a' w' hF (noRng2 hro).2 hb0 hg' h' hk
    | exact he.elim
  | exit i=>cases e'<;>first
    | exact hk _ _ _ _ _ _ hg' he h'
    | exact he.elim
  | goto i=>cases e'<;>first
    | exact hk _ _ _ _ _ _ hg' he h'
    | exact he.elim
  | ret=>cases e'<;>first
    | exact hk _ _ _ _ _ _ hg' he h'
    | exact he.elim
  | pan x=>cases e'<;>first
    | exact hk _ _ _ _ _ _ hg' he h'
    | exact he.elim
 | .cond c x y,F,n,mb,w0,r,H0,gs,ws,k,Q,s,g,a,w,hF,hro,hb0,hg,h,hk=>by
  rw[evF] at h
  obtain ⟨b,hv,h⟩:=bIfN_spec h (opd_VR (x:=c) (fun t _=>hg.sr.fr t) hg.sr.gl)
  refine wpIn_cond hv ?_
  cases b
  ·exact evF_sound hcall hrg horc hmx y F n mb w0 r H0 gs ws k Q s g a w hF (noRng2 hro).2 hb0 hg h hk
  ·exact evF_sound hcall hrg horc hmx x F n mb w0 r H0 gs ws k Q s g a w hF (noRng2 hro).1 hb0 hg h hk
 | .block id c,F,n,mb,w0,r,H0,gs,ws,k,Q,s,g,a,w,hF,hro,hb0,hg,h,hk=>by
  rw[evF] at h
  refine wpIn_block (evF_sound hcall hrg horc hmx c F n mb w0 r H0 gs ws _ _ s g a w hF hro hb0 hg h fun e e' s' g' a' w' hg' he h'=>?_)
  cases e with
  | exit i=>cases e' with
   | exit j =>
    obtain rfl:i=j:=he
    simp only[Exit.inBlock]
    simp only[bcond] at h'
    split at h'
    ·rename_i hij
     rw[if_pos (by simpa using hij)]
     exact hk .normal .normal _ _ _ _ hg' trivial h'
    ·rename_i hij
     rw[if_neg (by simpa using hij)]
     exact hk (.exit i) (.exit i) _ _ _ _ hg' rfl h'
   | _=>exact he.elim
  | normal=>cases e'<;>first
    | exact hk _ .normal _ _ _ _ hg' he h'
    | exact he.elim
  | goto i=>cases e'<;>first
    | exact hk _ (.goto _) _ _ _ _ hg' he h'
    | exact he.elim
  | ret=>cases e'<;>first
    | exact hk _ .ret _ _ _ _ hg' he h'
    | exact he.elim
  | pan x=>cases e'<;>first
    | exact hk _ (.panic _) _ _ _ _ hg' he h'
    | exact he.elim
 | .scope c,F,n,mb,w0,r,H0,gs,ws,k,Q,s,g,a,w,hF,hro,hb0,hg,h,hk=>by
  rw[evF] at h
  have hro':(F.round=none/\mb.free=true)∨noRng c=true:=by
   rcases hro with h1 | h1
   ·exact .inl h1
   ·cases h1
  refine wpIn_scope (evF_sound hcall hrg horc hmx c F n mb w0 r H0 gs ws _ _ s g a w hF hro' hb0 hg h fun e e' s' g' a' w' hg' he h'=>?_)
  cases e with
  | exit i=>cases e'<;>first
    | exact hk _ (.exit _) _ _ _ _ hg' he h'
    | exact he.elim
  | normal=>cases e'<;>first
    | exact hk _ .normal _ _ _ _ hg' he h'
    | exact he.elim
  | goto i=>cases h'
  | ret=>cases e'<;>first
    | exact hk _ .ret _ _ _ _ hg' he h'
    | exact he.elim
  | pan x=>cases e'<;>first
    | exact hk _ (.panic _) _ _ _ _ hg' he h'
    | exact he.elim
 | .loop c,F,n,mb,w0,r,H0,gs,ws,k,Q,s,g,a,w,hF,hro,hb0,hg,h,hk=>by
  rw[evF] at h
  unfold startL at h
  have hrst:=actAll_rst lo (cx.acts f (firstReg c)) (rekeep (cx.keep f (firstReg c)) s)
  obtain ⟨g0,hg0,hl0⟩:=hg.rekeep (keep:=cx.keep f (firstReg c)) |>.acts (cx.acts f (firstReg c))
  have rounds:∀ (m:Nat) (s':St) (g':Gh) (a':Act) (w':World),Good cx N mb lo H0 gs ws w0 s' g' a' w'->(actAll lo (cx.acts f (firstReg c)) (rekeep (cx.keep f (firstReg c)) s)).H.length<=s'.H.length->iter lo (cx.keep f (firstReg c)) (cx.acts f (firstReg c)) (actAll lo (cx.acts f (firstReg c)) (rekeep (cx.keep f (firstReg c)) s)).H.length (fun s k=>evF cx call rg nf f lo N c s k) (fun i s=>k (.exit i) s) (fun l s=>k (.goto l) s) (fun s=>k .ret s) (fun a s=>k (.pan a) s) m s'=some r->Code.roundsIn F n cx.P c Q m a' w':=by
   intro m
   induction m with
   | zero=>intro s' g' a' w' _ _ h; cases h
   | succ m ih =>
    intro s1 g1 a' w' hg1 hl h
    rw[iter] at h
    rw[roundsIn_succ]
    refine evF_sound hcall hrg horc hmx c F n mb w0 r s1.H g1 w' _ _ s1 g1 a' w' hF hro (hcall.up _ _ _ _ _ _ hb0 hg1.ext) ⟨hg1.sr,Ext.refl hg1.sr.rel,Nat.le_refl _,fun _ _ _=>rfl,hg1.siz,hg1.dfr,hg1.mbw,rfl⟩ h fun e e' s2 g2 a2 w2 hg2 he h2=>?_
    have hg3:Good cx N mb lo H0 gs ws w0 s2 g2 a2 w2:=⟨hg2.sr,hg1.ext.trans hg2.ext,Nat.le_trans hg1.len hg2.len,fun b hb hb'=>(hg2.low b hb (Nat.lt_of_lt_of_le hb' hg1.len)).trans (hg1.low b hb hb'),hg2.siz,hg2.dfr,hg2.mbw,hg2.st.trans hg1.st⟩
    have hlen2:(actAll lo (cx.acts f (firstReg c)) (rekeep (cx.keep f (firstReg c)) s)).H.length<=s2.H.length:=by have:=hg2.len; omega
    have hg4:Good cx N mb lo H0 gs ws w0 (rekeep (cx.keep f (firstReg c)) s2) g2 a2 w2:=hg3.rekeep
    cases e with
    | normal=>cases e'<;>first
      | (obtain ⟨s3,g3,h3,hg5,hl5⟩:=hg3.norm hg.len hl0 hrst hlen2 h2
         exact ih s3 g3 a2 w2 hg5 (by omega) h3)
      | exact he.elim
    | exit i=>cases e'<;>first
      | exact hk (.exit i) (.exit _) _ _ _ _ hg4 he h2
      | exact he.elim
    | goto i=>cases e'<;>first
      | exact hk (.goto i) (.goto _) _ _ _ _ hg4 he h2
      | exact he.elim
    | ret=>cases e'<;>first
      | exact hk .ret .ret _ _ _ _ hg4 he h2
      | exact he.elim
    | pan x=>cases e'<;>first
      | exact hk (.pan x) (.panic _) _ _ _ _ hg4 he h2
      | exact he.elim
  exact wpIn_loop_rounds nf (rounds nf (rekeep (cx.keep f (firstReg c)) (actAll lo (cx.acts f (firstReg c)) (rekeep (cx.keep f (firstReg c)) s))) g0 a w hg0.rekeep (Nat.le_refl _) h)
 | .exit id,F,n,mb,w0,r,H0,gs,ws,k,Q,s,g,a,w,hF,hro,hb0,hg,h,hk=>wpIn_exit (hk (.exit id) (.exit id) _ _ _ _ hg rfl h)
 | .goto l,F,n,mb,w0,r,H0,gs,ws,k,Q,s,g,a,w,hF,hro,hb0,hg,h,hk=>wpIn_goto (hk (.goto l) (.goto l) _ _ _ _ hg rfl h)
 | .ret,F,n,mb,w0,r,H0,gs,ws,k,Q,s,g,a,w,hF,hro,hb0,hg,h,hk=>wpIn_ret (hk .ret .ret _ _ _ _ hg trivial h)
 | .rangeFunc gop ps asg body,F,n,mb,w0,r,H0,gs,ws,k,Q,s,g,a,w,hF,hro,hb0,hg,h,hk=>by
  rw[evF] at h
  unfold startR at h
  obtain ⟨g,hg,_⟩:=hg.acts (cx.acts f (rkey body))
  generalize actAll lo (cx.acts f (rkey body)) s=s at h hg
  obtain ⟨⟨gf,cap⟩,hfn,h⟩:=bnd h
  obtain ⟨chk,h⟩:=csome h
  obtain ⟨⟨out,H2⟩,hcl,h⟩:=bnd h
  simp only[Bool.and_eq_true] at chk
  obtain ⟨⟨⟨c2,c3⟩,c4⟩,c1⟩:=chk
  have hlo:lo<=s.H.length:=by simpa [Nat.ble_eq] using c1
  obtain ⟨hro,hfree⟩:F.round=none/\mb.free=true:=hro.elim id (fun h=>by cases h)
  obtain ⟨hcb,es,hgv,hcv⟩:=fnOf_spec hfn (opd_VR (x:=gop) (fun t _=>hg.sr.fr t) hg.sr.gl)
  refine wpIn_rangeFunc ?_
  intro fn hfnF
  rw[hro]
  obtain ⟨rec0,hrec⟩:∃ rec0:Loop,rec0={ state:=.ready,pending:=none,fn:=fn,tmps:=a.tmps,params:=ps,assign:=asg,body:=body,defers:=w.heap.size }:=⟨_,rfl⟩
  have hrr:recOf rec0 .ready=rec0:=by rw[hrec]; rfl
  obtain ⟨W1,hW1⟩:∃ W1,(w.alloc (.deferred (some []))).alloc (.loop rec0)=W1:=⟨_,rfl⟩
  obtain ⟨hr1,he1⟩:=hg.sr.rel.begin rec0 hrr
  rw[hW1] at hr1 he1
  obtain ⟨g1,hg1⟩:∃ g1,(g.lrp s.H.length rec0).put s.H.length (some (w.heap.size+1)) []=g1:=⟨_,rfl⟩
  have hmu1:g1.mu s.H.length=some (w.heap.size+1):=by rw[<-hg1]; exact Gh.put_mu _ _ _ _
  have hlr1:g1.lr s.H.length=rec0:=by rw[<-hg1]; simp[Gh.put,Gh.lrp]
  have hst1:g1.S=g.S:=by rw[<-hg1]; rfl
  rw[hg1] at hr1 he1
  have hB1:(s.H++[Blk.rng .ready])[s.H.length]? = some (.rng .ready):=by simp
  have hsz1:W1.heap.size=w.heap.size+2:=by rw[<-hW1]; simp
  have hD1:W1.heap[w.heap.size]? = some (.deferred (some [])):=by
   rw[<-hW1]; exact(Below.heap_alloc _ _ _ (by simp)).trans (World.alloc_heap_new w _)
  have hfr1:∀ t,VR s.H g w (look (rekeep (cx.keep f (rkey body)) s).fr t) (a.tmps.getD t undef):=fun t=>(hg.rekeep (keep:=cx.keep f (rkey body))).sr.fr t
  have hy:YlSound cx (fun H g w=>Bs H g w/\Ext (s.H++[.rng .ready]) g1 W1 H g w) (yext cx.P.funcs.size call s.H.length (roundOf (fun s k=>evF cx call rg nf f lo N asg s k) (fun s k=>evF cx call rg nf f lo N body s k) lo s.H.length ps.toList (rekeep (cx.keep f (rkey body)) s).fr)):=by
   refine⟨fun H g w H' g' w' hb he=>⟨hcall.up _ _ _ _ _ _ hb.1 he,hb.2.trans he⟩,fun b args H lo' r' hy F' n' l g' w0' w' cargs hF' hb hr' hgl' hv' hmu'=>?_⟩
   unfold yext at hy
   rw[bcond] at hy
   split at hy
   ·rename_i hbb
    have hbb:b=s.H.length:=by have:=Nat.eq_of_beq_eq_true hbb; omega
    subst hbb
    have hB':∃ st,H[s.H.length]? = some (.rng st):=by
     obtain ⟨B',hB',ht⟩:=hb.2.blk _ _ hB1
     cases B' with
     | rng st=>exact⟨st,hB'⟩
     | dead=>have h1:=hr'.blk _ _ hB'; rw[show g'.mu s.H.length=none from h1] at hmu'; cases hmu'
     | box _=>exact ht.elim
     | mp _ _ _=>exact ht.elim
     | hole=>exact ht.elim
     | row wr _ _=>cases wr<;>exact ht.elim
    obtain ⟨st',hB'⟩:=hB'
    obtain ⟨m1,m2⟩:=hb.2.rngs hB1 hB'
    have hex:=he1.trans hb.2
    exact round_sound (rec0:=rec0) (Bs:=Bs)
     (fun F n mb w0 r H0 gs ws k Q s g a w hF hb0 hg h hk=>evF_sound hcall hrg horc hmx asg F n mb w0 r H0 gs ws k Q s g a w hF (.inr c3) hb0 hg h hk)
     (fun F n mb w0 r H0 gs ws k Q s g a w hF hb0 hg h hk=>evF_sound hcall hrg horc hmx body F n mb w0 r H0 gs ws k Q s g a w hF (.inr c4) hb0 hg h hk)
     c2 hlo (by rw[hrec]) (by rw[hrec]) (by rw[hrec]) (by rw[hrec]; exact hg.siz) hy hF' hr' hb.1 hgl' (fun t=>by rw[hrec]; exact VR.ext hex _ _ (hfr1 t)) (m2.trans hlr1) hv' hmu'
   ·exact hcall.yl b args H lo' r' hy F' n' l g' w0' w' cargs hF' hb.1 hr' hgl' hv' hmu'
  have hv1:VRs (s.H++[.rng .ready]) g1 W1 (.yld s.H.length :: cap) (.func (.yield (w.heap.size+1)) #[] #[] :: es.toList):=by
   rw[VRs]
   refine⟨_,_,rfl,?_,VRs.ext he1 _ _ hcv⟩
   rw[VR,hB1]
   exact⟨_,hmu1,rfl⟩
  have hgl1:∀ (G:Nat) (vs:List Value),cx.glob G=some vs->CellsAt (s.H++[.rng .ready]) g1 W1 G 0 vs:=fun G vs hG=>(hg.sr.gl G vs hG).ext he1
  have hci:=(hrg _ _ hy).fn gf _ _ lo (out,H2) (callable_lt hcb) hcl F (n - 1) g1 w0 W1 _ hF hro ⟨hcall.up _ _ _ _ _ _ hb0 (hg.ext.trans he1),Ext.refl hr1⟩ hr1 hgl1 hv1
  refine⟨w.heap.size+1,[{ target:=.collected w.heap.size,args:=#[] }],W1,{ target:=.fn (.func gf) es,args:=#[.func (.yield (w.heap.size+1)) #[] #[]] },W1,gf,
   #[.func (.yield (w.heap.size + 1)) #[] #[]] ++ es, W1, ?_, ?_, ?_, ?_, fun h => (by rw [hF.1] at h; cases h), ?_⟩
  ·rw[<-hW1,hrec]; exact run_enterLoop_outer _ _ _ _ _
  ·simp only[resolve,hgv]
   simp[go_sem]
  ·intro f' _; exact hF.2.1 f'
  ·simp[invoke,callable_run hcb]
  ·have ea:(Value.func (.yield (w.heap.size+1)) #[] #[] :: es.toList).toArray=#[.func (.yield (w.heap.size+1)) #[] #[]]++es:=by apply Array.ext'; simp
   rw[<-ea]
   refine hci.mono ?_
   rintro e W2 ⟨g2,e1,e2,e3,e4,e6,e5⟩
   cases out with
   | pan x=>cases h
   | ret x =>
    cases e with
    | panicked _=>exact e5.elim
    | outgrown=>exact e5.elim
    | returned c =>
     have fin:∀ (st:RSt) (e:E),st≠.busy->H2[s.H.length]? = some (.rng st)->k e ⟨s.fr,H2.set s.H.length .dead⟩=some r ->
       ∃ W3,(Instr.endLoop (w.heap.size+1)).run cx.P W2=.ok (recOf rec0 st).pending W3/\∃ g3,Good cx N mb lo H0 gs ws w0 ⟨s.fr,H2.set s.H.length .dead⟩ g3 { a with defers:={ target:=.collected w.heap.size,args:=#[] } :: a.defers } W3:=fun st e hnb hB2 h=>by
      obtain ⟨m1,m2⟩:=e2.rngs hB1 hB2
      obtain ⟨l2,hl2,hw2⟩:=e1.blk _ _ hB2
      rw[m1,hmu1] at hl2; cases hl2
      rw[m2,hlr1] at hw2
      have hel:=run_endLoop (P:=cx.P) hw2 (by cases st<;>first | (intro h; cases h; done) | exact absurd rfl hnb)
      obtain ⟨p1,p2⟩:=e1.rng hB2 .dead none (.loop { recOf rec0 st with state:=.exhausted }) (m1.trans hmu1) hw2 (.inr ⟨rfl,rfl⟩)
      have hex:=he1.trans (e2.trans p2)
      have hlen:s.H.length<=H2.length:=by have:(s.H++[Blk.rng .ready]).length<=H2.length:=e3; simp at this; omega
      refine⟨_,hel,_,⟨p1,fun t=>VR.ext hex _ _ (hg.sr.fr t),fun G vs hG=>(hg.sr.gl G vs hG).ext hex⟩,hg.ext.trans hex,by simp; exact Nat.le_trans hg.len hlen,fun c hc hc'=>?_,hg.siz,?_,Nat.le_trans hg.mbw hex.size,?_⟩
      ·have hcs:c<s.H.length:=Nat.lt_of_lt_of_le hc' hg.len
       show (H2.set s.H.length .dead)[c]? = _
       rw[List.getElem?_set_ne (by omega),e4 c hc (by simp; omega),List.getElem?_append_left hcs]
       exact hg.low c hc hc'
      ·obtain ⟨ms,q1,q2,q3⟩:=hg.dfr
       refine⟨_ :: ms,by show _ :: a.defers=_; rw[q1]; rfl,Marks.cons (q2.keptBy hex.kept) hg.mbw ((e2.trans p2).kept _ _ hD1) (fun r hr=>?_),fun h=>by rw[hfree] at h; cases h⟩
       have:=q2.lt hr
       omega
      ·show g2.S=gs.S
       rw[e6,hst1]; exact hg.st
     replace h:rngEnd s.H.length H2 (fun e H=>k e ⟨s.fr,H⟩)=some r:=h
     unfold rngEnd rngSel at h
     split at h
     ·rename_i hB2
      obtain ⟨W3,hel,g3,hg3⟩:=fin .ready .normal (by simp) hB2 h
      exact⟨none,W3,hel,hk .normal .normal _ _ _ _ hg3 trivial h⟩
     ·rename_i i hB2
      obtain ⟨W3,hel,g3,hg3⟩:=fin (.done (.exit i)) (.exit i) (by simp) hB2 h
      exact⟨some (.exit i),W3,hel,wpIn_exit (hk (.exit i) (.exit i) _ _ _ _ hg3 rfl h)⟩
     ·rename_i i hB2
      obtain ⟨W3,hel,g3,hg3⟩:=fin (.done (.goto i)) (.goto i) (by simp) hB2 h
      exact⟨some (.goto i),W3,hel,wpIn_goto (hk (.goto i) (.goto i) _ _ _ _ hg3 rfl h)⟩
     ·rename_i hB2
      obtain ⟨W3,hel,g3,hg3⟩:=fin (.done .ret) .ret (by simp) hB2 h
      exact⟨some .ret,W3,hel,wpIn_ret (hk .ret .ret _ _ _ _ hg3 trivial h)⟩
     ·cases h
 | .refuse _,F,n,mb,w0,r,H0,gs,ws,k,Q,s,g,a,w,hF,hro,hb0,hg,h,hk=>by cases h
theorem look_frame (args:List A) (t:Nat):look (frame args) t=(args[t]?).getD .any:=by
 have gen:∀ (args:List A) (i t:Nat),look ((args.zipIdx i).map fun p=>(p.2,p.1)) t=if i<=t then (args[t - i]?).getD .any else .any:=by
  intro args
  induction args with
  | nil=>intro i t; simp[look]
  | cons x r ih =>
   intro i t
   rw[List.zipIdx_cons,List.map_cons,look_put,ih]
   by_cases e:i=t
   ·subst e; simp
   ·rw[if_neg e]
    by_cases hlt:i<t
    ·rw[if_pos (by omega),if_pos (by omega)]
     rw[show t - i=(t - (i+1))+1 by omega,List.getElem?_cons_succ]
    ·rw[if_neg (by omega),if_neg (by omega)]
 have:=gen args 0 t
 simpa [frame] using this
theorem loadAt_asAddr {P:Program} {t:TypeId} {c d:Value} (h:(Instr.loadAt t c).run P w=.ok d w):(do loadVar t (<-asAddr c):Sem Value).run P w=.ok d w:=by
 unfold Instr.loadAt at h
 cases c with
 | pointer p=>cases p with
  | some p=>simpa [Instr.sureAddr,asAddr] using h
  | none=>simp[Instr.sureAddr,stuck,Sem.run,Result.andThen] at h
 | _=>simp[Instr.sureAddr,stuck,Sem.run,Result.andThen] at h
def mRes (tmps:Array Value):ResultVar->Sem Value
 | .tmp t=>pure (tmps.getD t undef)
 | .cell a t=>do loadVar t (<-asAddr (tmps.getD a undef))
theorem evRes1_sound (hs:SR cx s g w0 a w) {r:ResultVar} {x:A} (h:evRes1 cx s r=some x):∃ c,(mRes a.tmps r).run cx.P w=.ok c w/\VR s.H g w x c:=by
 cases r with
 | tmp t=>cases h; exact⟨_,rfl,hs.fr t⟩
 | cell b t =>
  obtain ⟨d,h1,h2⟩:=aLoad_sound hs.rel h (hs.fr b)
  exact⟨d,loadAt_asAddr h1,h2⟩
theorem evResL_sound (hs:SR cx s g w0 a w):∀ {rs:List ResultVar} {xs:List A},evResL cx s rs=some xs->∃ cs:List Value,(rs.mapM (mRes a.tmps)).run cx.P w=.ok cs w/\VRs s.H g w xs cs/\cs.length=rs.length
 | [],xs,h=>by simp only[evResL,Option.some.injEq] at h; subst h; exact⟨[],by simp,by rw[VRs],rfl⟩
 | r :: rs,xs,h=>by
  rw[evResL] at h
  obtain ⟨y,hy,h⟩:=bnd h
  obtain ⟨ys,hys,h⟩:=bnd h
  cases h
  obtain ⟨c,h1,h2⟩:=evRes1_sound hs hy
  obtain ⟨cs,h3,h4,h5⟩:=evResL_sound hs hys
  refine⟨c :: cs,?_,by rw[VRs]; exact⟨c,cs,rfl,h2,h4⟩,by simp[h5]⟩
  rw[List.mapM_cons,Sem.run_bind,h1]
  simp only[Result.andThen_ok,Sem.run_bind,h3,Sem.run_pure]
theorem results_eq (fn:Func) (tmps:Array Value):results fn tmps=(do let vs <-fn.results.mapM (mRes tmps); pure (if h:vs.size=1 then vs[0] else .tuple vs)):=by
 unfold results
 congr 1
theorem evRes_sound (hs:SR cx s g w0 a w) {fn:Func} {x:A} (h:evRes cx fn s=some x):∃ c,(results fn a.tmps).run cx.P w=.ok c w/\VR s.H g w x c:=by
 rw[results_eq,Array.mapM_eq_mapM_toList]
 unfold evRes at h
 split at h
 ·rename_i r hr
  obtain ⟨c,h1,h2⟩:=evRes1_sound hs h
  refine⟨c,?_,h2⟩
  rw[hr]
  simp[h1]
 ·rename_i hne
  obtain ⟨xs,hxs,h⟩:=bnd h
  cases h
  obtain ⟨cs,h1,h2,h3⟩:=evResL_sound hs hxs
  refine⟨.tuple cs.toArray,?_,by rw[VR]; exact⟨_,rfl,by simpa using h2⟩⟩
  have hn1:cs.length≠1:=fun h1'=>by
   obtain ⟨r,hr⟩:=List.length_eq_one_iff.1 (show fn.results.toList.length=1 by omega)
   exact hne r hr
  simp[h1,hn1]
theorem ble_lt {k m:Nat} (h:k<m):Nat.ble m k=false:=by
 cases hb:Nat.ble m k with
 | false=>rfl
 | true=>rw[Nat.ble_eq] at hb; omega
theorem Good.calm (hg:Good cx N mb lo H0 gs ws w0 s g a w) {B:Nat} (hB:ws.heap.size<=B) (hb:w0.heap.size<=B) (hc:CalmFrom B w w') (hl:∀ (k:Nat) (o:Loop),w.heap[k]? = some (.loop o)->w'.heap[k]? = some (.loop o)) (fr:Bool):Good cx N ⟨0,a.defers,fr⟩ lo H0 gs ws w0 s g a w' :=
 have h0:=hg.sr.rel.calm0 hc
 ⟨⟨hg.sr.rel.calm hb hc hl,fun t=>VR.ext0 h0 _ _ (hg.sr.fr t),fun G vs hG=>(hg.sr.gl G vs hG).ext0 h0⟩,hg.ext.calm hg.sr.rel hB hc,hg.len,hg.low,hg.siz,MarksB.start _ _ _ _,Nat.zero_le _,hg.st⟩
theorem body_end {fn:Func} {f:Nat} {r:R} (hg:Good cx N mb lo H0 gs ws w0 s g a w) (h:(startR (actAll lo (cx.acts f 3000000) s) fun s=>evResR cx fn s)=some r):∃ v,(results fn a.tmps).run cx.P w=.ok v w/\CallPost H0 gs w0 ws lo r (.returned v) w:=by
 obtain ⟨g1,hg',_⟩:=Good.acts (cx.acts f 3000000) hg
 replace h:evResR cx fn (actAll lo (cx.acts f 3000000) s)=some r:=h
 generalize actAll lo (cx.acts f 3000000) s=s' at hg' h
 obtain ⟨x,hx,hrx⟩:=bnd ((evResR_eq cx fn s').symm.trans h)
 cases hrx
 obtain ⟨v,h1,h2⟩:=evRes_sound hg'.sr hx
 exact⟨v,h1,g1,hg'.sr.rel,hg'.ext,hg'.len,hg'.low,hg'.st,h2⟩
theorem frame_VR {args:List A} {cargs:List Value} {m:Nat} (hv:VRs H g w args cargs):∀ t,VR H g w (look (frame args) t) ((cargs.toArray++Array.replicate m undef).getD t undef):=fun t=>by
 rw[look_frame,Array.getD_eq_getD_getElem?]
 cases ha:args[t]? with
 | none=>rw[Option.getD_none,VR]; trivial
 | some x =>
  obtain ⟨d,hd,hvd⟩:=hv.get ha
  rw[Array.getElem?_append_left (by simpa using (List.getElem?_eq_some_iff.1 hd).1)]
  simp[hd]
  exact hvd
theorem recAt_ge:∀ {l:List Oper} {b i d:Nat},recAt b l=some (i,d)->b<=i
 | [],b,i,d,h=>by cases h
 | o :: os,b,i,d,h=>by
  unfold recAt at h
  split at h
  ·cases h; exact Nat.le_refl _
  ·have:=recAt_ge h; omega
theorem recAt_spec:∀ {l:List Oper} {b i d:Nat},recAt b l=some (i,d)->∃ o,l[i - b]? = some o/\recDst o=some d
 | [],b,i,d,h=>by cases h
 | o :: os,b,i,d,h=>by
  unfold recAt at h
  split at h
  ·rename_i d' hd
   cases h
   exact⟨o,by rw[Nat.sub_self]; rfl,hd⟩
  ·obtain ⟨o',h1,h2⟩:=recAt_spec h
   have hb:b+1<=i:=recAt_ge h
   refine⟨o',?_,h2⟩
   rw[show i - b=i - (b+1)+1 by omega]
   exact h1
theorem evRec_sound {Bs:Heap->Gh->World->Prop} {call:CallT} {rg:CallT->CallT} (hcall:CallSound cx Bs call) (hrg:RgSound cx rg) (horc:OrcOK cx) (hmx:cx.P.follows .mixedOrders=true) {nf q lo:Nat} {cap:List A} {v:A} {H:Heap} {k:Heap->Option R} {r:R} (h:evRec cx call rg nf lo q cap v H k=some r) {F:Fence} {n:Nat} {g:Gh} {w0 w:World} {ccap:List Value} {u:FrameMode} {cv:Value}
  (hF:WideA F) (hro:F.round=none) (hbs:Bs H g w) (hr:Rel H g w0 w) (hgl:∀ (G:Nat) (vs:List Value),cx.glob G=some vs->CellsAt H g w G 0 vs) (hv:VRs H g w cap ccap) (hcv:VR H g w v cv) (hu:u=.panicking [{ v:=cv,recovered:=false }]∨(u=.returning/\cv=.nilIface)) :
  CallsDIn F n cx.P q ccap.toArray u w fun e u' w'=>(∃ x,e=.returned x)/\settle u'=.returning/\∃ H' g',Rel H' g' w0 w'/\Ext H g w H' g' w'/\H.length<=H'.length/\(∀ b,b<lo->b<H.length->H'[b]? = H[b]?)/\g'.S=g.S/\k H'=some r:=by
 unfold evRec at h
 obtain ⟨fn,hfn,h⟩:=bnd h
 obtain ⟨c,hc,h⟩:=bnd h
 split at h
 ·rename_i id ops rest
  split at h
  ·rename_i o os hops
   obtain ⟨d,hd,h⟩:=bnd h
   obtain ⟨hchk,h⟩:=csome h
   simp only[okR,Bool.and_eq_true,decide_eq_true_eq] at hchk
   obtain ⟨⟨⟨hle,hdo⟩,hnr⟩,hre⟩:=hchk
   have hres:fn.results=#[]:=by
    have:fn.results.toList=[]:=by simpa using hre
    apply Array.ext'; simpa using this
   have hl:=hv.length
   have hdst:o.dst=some d:=(recDst_spec (P:=cx.P) hd).1
   have hd':∀ o∈ops.toList,∀ d,o.dst=some d->d<fn.ntmps:=fun o ho d hod=>by
    have:=List.all_eq_true.1 hdo o ho
    rw[hod] at this; simpa using this
   refine callsDIn_of_wpSIn hfn hc (hF.2.1 q) fun c₀ cs hu0=>?_
   obtain ⟨u',hset,hrec⟩:∃ u',settle u'=.returning/\(recoverD (c₀ :: cs)=some (cv,{ c₀ with mode:=u' } :: cs)∨(recoverD (c₀ :: cs)=none/\({ c₀ with mode:=u' } :: cs:List Frame)=c₀ :: cs/\cv=.nilIface)):=by
    rcases hu with hu | ⟨hu,hcn⟩
    ·refine⟨.panicking [{ v:=cv,recovered:=true }],rfl,.inl ?_⟩
     have e:=hu0.trans hu
     simp only[recoverD,e]
    ·refine⟨.returning,rfl,.inr ⟨?_,?_,hcn⟩⟩
     ·have e:=hu0.trans hu
      simp only[recoverD,e]
     ·have:({ c₀ with mode:=.returning }:Frame)=c₀:=by rw[<-hu,<-hu0]
      rw[this]
   refine wpSIn_seq (wpSIn_region_rec hops hd (fun f=>hF.2.1 f) hro hrec ?_)
   have hsz:(ccap.toArray++Array.replicate (fn.ntmps - ccap.toArray.size) undef).size=fn.ntmps:=by simp; omega
   have hdl:d<fn.ntmps:=hd' o (by rw[hops]; simp) d hdst
   have hg0:Good cx fn.ntmps ⟨0,[],false⟩ lo H g w w0 ⟨(d,v) :: frame cap,H⟩ g (({ tmps:=ccap.toArray++Array.replicate (fn.ntmps - ccap.toArray.size) undef,defers:=[] }:Act).put (some d) cv) w:=by
    refine⟨⟨hr,fun t=>?_,hgl⟩,Ext.refl hr,Nat.le_refl _,fun _ _ _=>rfl,by rw[Act.put_size]; exact hsz,MarksB.start _ _ _ _,Nat.zero_le _,rfl⟩
    show VR H g w (look ((d,v) :: frame cap) t) (slot _ t)
    rw[look_put]
    split
    ·rename_i e; subst e; rw[slot_put_same (by rw[hsz]; exact hdl)]; exact hcv
    ·rename_i e; rw[slot_put_other (fun e2=>e (by cases e2; rfl))]; exact frame_VR hv t
   refine evOps_sound (f:=q) (ops:=ops) hcall hbs horc hF (fun s' g' a' w' hg' h'=>?_) (fun x s' g' a' w' c hg' hvx h'=>by cases h') os _ g _ w (fun o' ho'=>hd' o' (by rw[hops]; simp[ho'])) hg0 h
   refine wpSIn_of_wpIn hro ?_
   refine evF_sound hcall hrg horc hmx rest F n ⟨0,[],false⟩ w0 r H g w _ _ s' g' a' w' hF (.inr hnr) hbs hg' h' fun e e' s2 g2 a2 w2 hg2 he h2=>?_
   have hdf:a2.defers=[]:=by
    obtain ⟨ms,q1,_,q3⟩:=hg2.dfr
    rw[q1,q3 rfl]; rfl
   have fin:∀ x:Value,k s2.H=some r->(∃ y:Value,Ending.returned x=.returned y)/\settle u'=.returning/\∃ H' g',Rel H' g' w0 w2/\Ext H g w H' g' w2/\H.length<=H'.length/\(∀ b,b<lo->b<H.length->H'[b]? = H[b]?)/\g'.S=g.S/\k H'=some r:=fun x hk=>⟨⟨x,rfl⟩,hset,s2.H,g2,hg2.sr.rel,hg2.ext,hg2.len,hg2.low,hg2.st,hk⟩
   have hrs:(results fn a2.tmps).run cx.P w2=.ok (.tuple #[]) w2:=by simp[results,hres]
   cases e with
   | normal=>cases e'<;>first
     | exact⟨hdf,u',rfl,_,hrs,fin _ h2⟩
     | exact he.elim
   | ret=>cases e'<;>first
     | exact⟨hdf,u',rfl,_,hrs,fin _ h2⟩
     | exact he.elim
   | pan x=>cases h2
   | exit i=>cases h2
   | goto i=>cases h2
  ·cases h
 ·rename_i id ops
  obtain ⟨⟨i0,d⟩,hra,h⟩:=bnd h
  obtain ⟨hchk,h⟩:=csome h
  simp only[okX,Bool.and_eq_true,decide_eq_true_eq] at hchk
  obtain ⟨⟨⟨⟨hle,hdl⟩,hok⟩,hna0⟩,hre⟩:=hchk
  obtain ⟨o0,ho0,hd⟩:=recAt_spec hra
  rw[Nat.sub_zero,Array.getElem?_toList] at ho0
  have hna:o0.after=#[]:=by
   rw[ho0] at hna0
   have:o0.after.toList=[]:=by simpa using hna0
   apply Array.ext'; simpa using this
  have hres:fn.results=#[]:=by
   have:fn.results.toList=[]:=by simpa using hre
   apply Array.ext'; simpa using this
  have hl:=hv.length
  have hsz:(ccap.toArray++Array.replicate (fn.ntmps - ccap.toArray.size) undef).size=fn.ntmps:=by simp; omega
  refine callsDIn_of_wpSIn hfn hc (hF.2.1 q) fun c₀ cs hu0=>?_
  obtain ⟨u',hset,hrec⟩:∃ u',settle u'=.returning/\(recoverD (c₀ :: cs)=some (cv,{ c₀ with mode:=u' } :: cs)∨(recoverD (c₀ :: cs)=none/\({ c₀ with mode:=u' } :: cs:List Frame)=c₀ :: cs/\cv=.nilIface)):=by
   rcases hu with hu | ⟨hu,hcn⟩
   ·refine⟨.panicking [{ v:=cv,recovered:=true }],rfl,.inl ?_⟩
    have e:=hu0.trans hu
    simp only[recoverD,e]
   ·refine⟨.returning,rfl,.inr ⟨?_,?_,hcn⟩⟩
    ·have e:=hu0.trans hu
     simp only[recoverD,e]
    ·have:({ c₀ with mode:=.returning }:Frame)=c₀:=by rw[<-hu,<-hu0]
     rw[this]
  refine wpSIn_region_drec hmx ho0 hd hna hok (fun f=>hF.2.1 f) hro (by rw[hsz]; exact hdl) hrec ?_
  have hg0:Good cx fn.ntmps ⟨0,[],false⟩ lo H g w w0 ⟨(d,v) :: frame cap,H⟩ g (({ tmps:=ccap.toArray++Array.replicate (fn.ntmps - ccap.toArray.size) undef,defers:=[] }:Act).put (some d) cv) w:=by
   refine⟨⟨hr,fun t=>?_,hgl⟩,Ext.refl hr,Nat.le_refl _,fun _ _ _=>rfl,by rw[Act.put_size]; exact hsz,MarksB.start _ _ _ _,Nat.zero_le _,rfl⟩
   show VR H g w (look ((d,v) :: frame cap) t) (slot _ t)
   rw[look_put]
   split
   ·rename_i e; subst e; rw[slot_put_same (by rw[hsz]; exact hdl)]; exact hcv
   ·rename_i e; rw[slot_put_other (fun e2=>e (by cases e2; rfl))]; exact frame_VR hv t
  refine evRegD_sound hcall hbs horc hF hmx hg0 h (fun s2 g2 a2 w2 hg2 h2=>?_) (fun x s' g' a' w' c hg' hvx h'=>by cases h')
  have hdf:a2.defers=[]:=by
   obtain ⟨ms,q1,_,q3⟩:=hg2.dfr
   rw[q1,q3 rfl]; rfl
  have fin:∀ x:Value,k s2.H=some r->(∃ y:Value,Ending.returned x=.returned y)/\settle u'=.returning/\∃ H' g',Rel H' g' w0 w2/\Ext H g w H' g' w2/\H.length<=H'.length/\(∀ b,b<lo->b<H.length->H'[b]? = H[b]?)/\g'.S=g.S/\k H'=some r:=fun x hk=>⟨⟨x,rfl⟩,hset,s2.H,g2,hg2.sr.rel,hg2.ext,hg2.len,hg2.low,hg2.st,hk⟩
  have hrs:(results fn a2.tmps).run cx.P w2=.ok (.tuple #[]) w2:=by simp[results,hres]
  exact⟨hdf,u',rfl,_,hrs,fin _ h2⟩
 ·cases h
theorem lastD_spec:∀ {os init:List Oper} {o:Oper},lastD os=some (init,o)->os=init++[o]
 | [],_,_,h=>by cases h
 | [x],_,_,h=>by
  simp only[lastD,Option.some.injEq,Prod.mk.injEq] at h
  rw[<-h.1,<-h.2]; rfl
 | x :: y :: os,init,o,h=>by
  unfold lastD at h
  simp only[Option.map_eq_some_iff] at h
  obtain ⟨⟨i,o'⟩,h1,h2⟩:=h
  cases h2
  rw[lastD_spec h1]; rfl
theorem dClos_spec {o:Oper} {q:Nat} {cap:List A} (h:dClos cx s o=some (q,cap)) (hs:SR cx s g w0 a w):o.guard=none/\o.dst=none/\callable cx.P q=true/\∃ es:Array Value,VRs s.H g w cap es.toList/\(execOp a.eval o).run cx.P w=.ok (.defer { target:=.fn (.func q) es,args:=#[] }) w:=by
 unfold dClos at h
 split at h
 ·rename_i c ho
  split at h
  ·rename_i gop hcal hargs
   split at h
   ·rename_i q' cap' hop
    obtain ⟨hc,h⟩:=csome h
    cases h
    simp only[okC,Bool.and_eq_true] at hc
    have hvr:=opd_VR (cx:=cx) (x:=gop) (fun t _=>hs.fr t) hs.gl
    rw[hop,VR] at hvr
    obtain ⟨ds,es,e1,e2,e3⟩:=hvr
    rw[VRs] at e2
    have hds:ds=#[]:=by apply Array.ext'; simpa using e2
    subst hds
    have hca:c.args=#[]:=by apply Array.ext'; simpa using hargs
    refine⟨noGd_spec hc.1.2,by simpa using hc.2,hc.1.1,es,e3,?_⟩
    unfold execOp
    rw[ho]
    simp[resolve,hcal,e1,Deferred.ofValue,hca]
   ·cases h
  ·cases h
 ·cases h
theorem evCall1_sound {Bs:Heap->Gh->World->Prop} {call:CallT} {rg:CallT->CallT} (hcall:CallSound cx Bs call) (hrg:RgSound cx rg) (horc:OrcOK cx) (hmx:cx.P.follows .mixedOrders=true) {n f lo:Nat} {args:List A} {H:Heap} {r:R} (h:evCall1 cx call rg n f args H lo=some r) {F:Fence} {d:Nat} {g:Gh} {w0 w:World} {cargs:List Value} (hF:WideA F) (hro:F.round=none) (hbs:Bs H g w) (hr:Rel H g w0 w)
  (hgl:∀ (G:Nat) (vs:List Value),cx.glob G=some vs->CellsAt H g w G 0 vs) (hv:VRs H g w args cargs):CallsIn F d cx.P f cargs.toArray w (CallPost H g w0 w lo r):=by
 rw[evCall1] at h
 obtain ⟨fn,hfn,h⟩:=bnd h
 obtain ⟨c,hc,h⟩:=bnd h
 obtain ⟨hle,h⟩:=csome h
 have hle:=of_decide_eq_true hle
 have hl:=hv.length
 refine callsIn_of_wp_marks hfn hc (hF.2.1 f) ?_ hro
 have hsz:(cargs.toArray++Array.replicate (fn.ntmps - cargs.toArray.size) undef).size=fn.ntmps:=by simp; omega
 have hfr:=frame_VR (m:=fn.ntmps - cargs.toArray.size) hv
 have hbase:w0.heap.size<=w.heap.size:=hr.below.size
 have hg0:∀ b,Good cx fn.ntmps ⟨w.heap.size,[],b⟩ lo H g w w0 ⟨frame args,H⟩ g { tmps:=cargs.toArray++Array.replicate (fn.ntmps - cargs.toArray.size) undef,defers:=[] } w:=fun b=>⟨⟨hr,hfr,hgl⟩,Ext.refl hr,Nat.le_refl _,fun _ _ _=>rfl,hsz,MarksB.start _ _ _ _,Nat.le_refl _,rfl⟩
 cases hdf:hasDefer c with
 | false =>
  rw[hdf] at h
  refine evF_sound (cx:=cx) (N:=fn.ntmps) (lo:=lo) (nf:=n) (f:=f) hcall hrg horc hmx c F d ⟨w.heap.size,[],true⟩ w0 r H g w _ _ ⟨frame args,H⟩ g _ w hF (.inl ⟨hro,rfl⟩) hbs (hg0 true) h fun e e' s' g' a' w' hg' he h'=>?_
  obtain ⟨ms,q1,q2,_⟩:=hg'.dfr
  have hret:(startR (actAll lo (cx.acts f 3000000) s') fun s=>evResR cx fn s)=some r->LeavesInM F d cx.P fn a'.tmps (CallPost H g w0 w lo r) a'.defers .returning w':=fun h'=>by
   rw[q1]
   refine leaves_over ms .returning w' (by simp) q2 fun W' hcm hlm=>?_
   obtain ⟨v,h1,h2⟩:=body_end (hg'.calm (Nat.le_refl _) hbase hcm hlm true) h'
   exact⟨v,h1,h2⟩
  cases e with
  | normal=>cases e'<;>first
    | exact hret h'
    | exact he.elim
  | ret=>cases e'<;>first
    | exact hret h'
    | exact he.elim
  | pan x=>cases e'<;>first
    | (obtain ⟨c',rfl,hvr⟩:=he
       cases h'
       show LeavesInM F d cx.P fn a'.tmps _ a'.defers (.panicking _) w'
       rw[q1]
       refine leaves_over ms _ w' (by simp) q2 fun W' hcm hlm=>?_
       have hg2:=hg'.calm (Nat.le_refl _) hbase hcm hlm true
       exact⟨g',hg2.sr.rel,hg2.ext,hg2.len,hg2.low,hg2.st,c',rfl,VR.ext0 (hg'.sr.rel.calm0 hcm) _ _ hvr⟩)
    | exact he.elim
  | exit i=>cases h'
  | goto i=>cases h'
 | true =>
  rw[hdf] at h
  replace h:evBodyD cx call rg n f lo fn c args H=some r:=h
  unfold evBodyD at h
  split at h
  ·rename_i c0 id ops rest _
   obtain ⟨hchk,h⟩:=csome h
   rw[okD,Bool.and_eq_true] at hchk
   have hd':∀ o∈ops.toList,∀ d,o.dst=some d->d<fn.ntmps:=fun o ho d hod=>by
    have:=List.all_eq_true.1 hchk.1 o ho
    rw[hod] at this; simpa using this
   have hem:∀ {s':St} {g':Gh} {a':Act} {w':World},Good cx fn.ntmps ⟨w.heap.size,[],false⟩ lo H g w w0 s' g' a' w'->a'.defers=[]:=fun hg'=>by
    obtain ⟨ms,q1,_,q3⟩:=hg'.dfr
    rw[q1,q3 rfl]; rfl
   refine wpIn_seq (evF_sound hcall hrg horc hmx c0 F d ⟨w.heap.size,[],false⟩ w0 r H g w _ _ ⟨frame args,H⟩ g _ w hF (.inr hchk.2) hbs (hg0 false) h fun e e' s1 g1 a1 w1 hg1 he h=>?_)
   cases e with
   | normal =>
    cases e' with
    | normal =>
     obtain ⟨⟨init,dop⟩,hla,h⟩:=bnd h
     have hsp:=lastD_spec hla
     refine wpIn_seq (wpIn_region_list ?_)
     rw[hsp]
     refine wpListIn_app (Q:=fun e a w2=>e=.normal/\wpListIn F d cx.P ops _ [dop] a w2) (fun e a w2 he h=>absurd h.1 he) (fun a w2 h=>h.2) init a1 w1 ?_
     refine evOps_sound (f:=f) (ops:=ops) hcall hbs horc hF (fun s2 g2 a2 w2 hg2 h=>⟨rfl,?_⟩) (fun x s' g' a' w' c hg' hvx h=>by cases h) init s1 g1 a1 w1 (fun o ho=>hd' o (by rw[hsp]; simp[ho])) hg1 h
     obtain ⟨⟨q,cap⟩,hcl,h⟩:=bnd h
     obtain ⟨k1,k2,hcb,es,hes,hrun⟩:=dClos_spec (o:=dop) hcl hg2.sr
     unfold wpListIn
     rw[if_pos (by simp[Region.wanted,k1])]
     refine⟨fun f _=>hF.2.1 f,?_⟩
     rw[hro,Oper.semAt_none,hrun,Oper.uponIn_defer,k2,hem hg2]
     obtain ⟨dd,hdd⟩:∃ dd:Deferred,dd={ target:=.fn (.func q) es,args:=#[] }:=⟨_,rfl⟩
     rw[<-hdd]
     refine evF_sound hcall hrg horc hmx rest F d ⟨w.heap.size,[dd],true⟩ w0 r s2.H g2 w2 _ _ s2 g2 { a2 with defers:=[dd] } w2 hF (.inl ⟨hro,rfl⟩) (hcall.up _ _ _ _ _ _ hbs hg2.ext) ⟨⟨hg2.sr.rel,hg2.sr.fr,hg2.sr.gl⟩,Ext.refl hg2.sr.rel,Nat.le_refl _,fun _ _ _=>rfl,hg2.siz,MarksB.start _ _ _ _,hg2.mbw,rfl⟩ h fun e e' s3 g3 a3 w3 hg30 he h=>?_
     have hg3:Good cx fn.ntmps ⟨w.heap.size,[dd],true⟩ lo H g w w0 s3 g3 a3 w3:=⟨hg30.sr,hg2.ext.trans hg30.ext,Nat.le_trans hg2.len hg30.len,fun b hb hb'=>(hg30.low b hb (Nat.lt_of_lt_of_le hb' hg2.len)).trans (hg2.low b hb hb'),hg30.siz,hg30.dfr,hg30.mbw,hg30.st.trans hg2.st⟩
     obtain ⟨ms,q1,q2,_⟩:=hg3.dfr
     replace q1:a3.defers=ms++[dd]:=q1
     have key:∀ (u:FrameMode) (x:A) (cv:Value),(u=.panicking [{ v:=cv,recovered:=false }]∨(u=.returning/\cv=.nilIface))->VR s3.H g3 w3 x cv->evRec cx call rg n lo q cap x s3.H (fun H=>startR (actAll lo (cx.acts f 3000000) ⟨s3.fr,H⟩) fun s=>evResR cx fn s)=some r->LeavesInM F d cx.P fn a3.tmps (CallPost H g w0 w lo r) a3.defers u w3:=fun u x cv hu hx h=>by
      rw[q1]
      have hrunu:u≠.run:=by rcases hu with rfl | ⟨rfl,_⟩<;>simp
      refine leaves_over ms u w3 hrunu q2 fun W' hcm hlm=>?_
      have hg4:=hg3.calm (Nat.le_refl _) hbase hcm hlm true
      have h0:=hg3.sr.rel.calm0 hcm
      refine⟨hrunu,.inr ⟨fun hs=>(by rw[hF.1] at hs; cases hs),.func q,es,q,es,by rw[hdd],?_,fun f _=>hF.2.1 f,?_⟩⟩
      ·rw[hdd]
       have:=callable_run hcb (#[]++es) W'
       simpa [invoke] using this
      ·have hcap:VRs s3.H g3 W' cap es.toList:=VRs.ext0 h0 _ _ (VRs.ext hg30.ext _ _ hes)
       have hrc:CallsDIn F.plain (d - 1) cx.P q es.toList.toArray u W' _:=evRec_sound (F:=F.plain) (n:=d - 1) hcall hrg horc hmx h hF rfl (hcall.up _ _ _ _ _ _ hbs hg4.ext) hg4.sr.rel hg4.sr.gl hcap (VR.ext0 h0 _ _ hx) hu
       rw[show es.toList.toArray=es by simp] at hrc
       have hrc':CallsDIn F (d - 1) cx.P q es u W' _:=hrc
       refine hrc'.mono ?_
       rintro e u' w4 ⟨⟨v,rfl⟩,hset,H',g',j1,j2,j3,j4,j5,hk⟩
       show LeavesInM F d cx.P fn a3.tmps _ [] (settle u') w4
       rw[hset]
       have hx2:=hg4.ext.trans j2
       obtain ⟨v',l1,l2⟩:=body_end (a:=a3) (mb:=⟨0,a3.defers,true⟩) (s:=⟨s3.fr,H'⟩) ⟨⟨j1,fun t=>VR.ext j2 _ _ (hg4.sr.fr t),fun G vs hG=>(hg4.sr.gl G vs hG).ext j2⟩,hx2,Nat.le_trans hg4.len j3,fun b hb hb'=>(j4 b hb (Nat.lt_of_lt_of_le hb' hg4.len)).trans (hg4.low b hb hb'),hg4.siz,MarksB.start _ _ _ _,Nat.zero_le _,j5.trans hg4.st⟩ hk
       exact⟨v',l1,l2⟩
     have hni:VR s3.H g3 w3 (.v .nilIface) .nilIface:=by rw[VR]
     cases e with
     | normal=>cases e' with
      | normal=>exact key .returning (.v .nilIface) .nilIface (.inr ⟨rfl,rfl⟩) hni h
      | _=>exact he.elim
     | ret=>cases e' with
      | ret=>exact key .returning (.v .nilIface) .nilIface (.inr ⟨rfl,rfl⟩) hni h
      | _=>exact he.elim
     | pan x=>cases e' with
      | panic ch =>
       obtain ⟨c',rfl,hvr⟩:=he
       exact key _ x c' (.inl rfl) hvr h
      | _=>exact he.elim
     | exit i=>cases h
     | goto i=>cases h
    | _=>exact he.elim
   | _=>cases h
  ·cases h
theorem all_take {p:Blk->Bool} {H:Heap} {m:Nat} (h:(H.take m).all p=true) (b:Nat) (B:Blk) (hb:b<m) (hB:H[b]? = some B):p B=true :=
 List.all_eq_true.1 h B (List.mem_of_getElem? (i:=b) (by rw[List.getElem?_take,if_pos hb]; exact hB))
theorem cutCall_spec {m:Nat} {f:Heap->Option R} {args:List A} {H:Heap} {r:R} (h:cutCall m f args H=some r):unders m args=true/\(H.take m).all (Blk.under m)=true/\∃ o H1,f (H.take m)=some (o,H1)/\m<=H1.length/\(H1.take m).all (Blk.under m)=true/\outUnder m o=true/\r=(o,H1.take m++H.drop m):=by
 unfold cutCall at h
 obtain ⟨h1,h⟩:=csome h
 obtain ⟨⟨o,H1⟩,h2,h⟩:=bnd h
 obtain ⟨h3,h⟩:=csome h
 rw[Bool.and_eq_true] at h1
 simp only[Bool.and_eq_true] at h3
 cases h
 exact⟨h1.1,h1.2,o,H1,h2,Nat.le_of_ble_eq_true h3.1.1,h3.1.2,h3.2,rfl⟩
theorem cutAt_le {k:Nat} {H:Heap}:cutAt cx k H<=H.length:=by
 unfold cutAt
 cases hb:Nat.ble (cx.cut k) H.length with
 | true=>exact Nat.le_of_ble_eq_true hb
 | false=>exact Nat.le_refl _
theorem evCallY_sound (horc:OrcOK cx) (hmx:cx.P.follows .mixedOrders=true):∀ n,RgSound cx (evCallY cx n)
 | 0=>fun Bs base hy=>⟨⟨hy.up,fun b args H lo r h=>hy.yl b args H lo r (by
   rw[evCallY,bcond,if_pos (by rw[Nat.ble_eq]; omega)] at h; exact h)⟩,(fun k args H lo r hk h=>by rw[evCallY,ble_lt hk] at h; cases h),fun k args H lo r hk _ _ h=>by rw[evCallY,ble_lt hk] at h; cases h⟩
 | n+1=>fun Bs base hy=>by
  refine⟨⟨hy.up,fun b args H lo r h=>hy.yl b args H lo r (by
   rw[evCallY,bcond,if_pos (by rw[Nat.ble_eq]; omega)] at h; exact h)⟩,?_,fun k args H lo r hk h0 hm h=>?_⟩
  rotate_left 1
  ·rw[evCallY,ble_lt hk] at h
   replace h:(bif cutHere cx k H then cutCall (cutAt cx k H) (fun H=>evCall1 cx (evCallY cx n noY) (evCallY cx n) n k args H lo) args H else bif deepHere cx k H then deepCall cx k args H else evCall1 cx (evCallY cx n base) (evCallY cx n) n k args H lo)=some r:=h
   have hc:cutHere cx k H=true:=by
    unfold cutHere
    have:Nat.beq (cx.cut k) 0=false:=by
     cases hb:Nat.beq (cx.cut k) 0 with
     | false=>rfl
     | true=>exact absurd (Nat.eq_of_beq_eq_true hb) h0
    rw[this,Nat.ble_eq_true_of_le hm]; rfl
   have hcm:cutAt cx k H=cx.cut k:=by unfold cutAt; rw[Nat.ble_eq_true_of_le hm]; rfl
   simp only[hc,cond_true,hcm] at h
   obtain ⟨_,_,o,H1,_,hm1,_,_,rfl⟩:=cutCall_spec h
   refine⟨by simp only[List.length_append,List.length_take,List.length_drop]; omega,fun b hb=>?_⟩
   rw[List.getElem?_append_right (by rw[List.length_take]; omega),List.length_take,List.getElem?_drop,Nat.min_eq_left hm1]
   congr 1; omega
  intro f args H lo r hkc h F d g w0 w cargs hF hro hbs hr hgl hv
  have hrg:=evCallY_sound horc hmx n
  have hcall:=hrg Bs base hy
  rw[evCallY,ble_lt hkc] at h
  replace h:(bif cutHere cx f H then cutCall (cutAt cx f H) (fun H=>evCall1 cx (evCallY cx n noY) (evCallY cx n) n f args H lo) args H else bif deepHere cx f H then deepCall cx f args H else evCall1 cx (evCallY cx n base) (evCallY cx n) n f args H lo)=some r:=h
  cases hc:cutHere cx f H with
  | false =>
   rw[hc] at h
   cases hd:deepHere cx f H with
   | false=>rw[hd] at h; exact evCall1_sound hcall hrg horc hmx h hF hro hbs hr hgl hv
   | true =>
    rw[hd] at h
    replace h:deepCall cx f args H=some r:=h
    unfold deepCall at h
    obtain ⟨y,hy,h⟩:=bnd h
    obtain ⟨hv1,h⟩:=csome h
    cases h
    have hdp:cx.deep f=true:=by
     unfold deepHere at hd
     cases hq:cx.deep f with
     | true=>rfl
     | false=>rw[hq] at hd; cases hd
    have hcallok:=horc f _ y (.inr (.inr hdp)) hy g.S w cargs hr.out (fun G vs hG j v hj=>let ⟨e1,e2⟩:=hgl G vs hG j v hj; ⟨e1,e2.1,fun b hb=>by cases hb⟩) (snapDs_VR hr 6 _ _ hv)
    refine(callsIn_of_calls hF hcallok).mono ?_
    rintro e w' ⟨c',rfl,hb,hvr⟩
    refine⟨g,hr.of_below hb,Ext.below hr hb,Nat.le_refl _,fun _ _ _=>rfl,rfl,?_⟩
    cases y with
    | v x=>rw[VR] at hvr; show VR H g w' (.v x) c'; rw[VR]; exact hvr
    | _=>cases hv1
  | true =>
   simp only[hc,cond_true] at h
   obtain ⟨hu1,hu2,o,H1,h9,hm1,hu3,hu4,rfl⟩:=cutCall_spec h
   have hm:=cutAt_le (cx:=cx) (k:=f) (H:=H)
   obtain ⟨hr',ag⟩:=hr.cutS hm (all_take hu2)
   have hno:YlSound cx (fun _ _ _=>True) noY:=⟨fun _ _ _ _ _ _ _ _=>trivial,fun _ _ _ _ _ h=>by cases h⟩
   refine(evCall1_sound (hrg _ _ hno) hrg horc hmx h9 hF hro trivial hr' (fun G vs hG=>(hgl G vs hG).to ag) (VRs.to ag _ _ hu1 hv)).mono ?_
   rintro e w' ⟨g1,k1,k2,k3,k4,k6,k5⟩
   obtain ⟨g2,e1,e2,e3,ag2⟩:=hr.join hm k1 k2 hm1 k6 (all_take hu3)
   refine⟨g2,e1,e2,by simp only[List.length_append,List.length_take,List.length_drop]; omega,fun b hb hb'=>?_,e3,?_⟩
   ·by_cases hbm:b<cutAt cx f H
    ·rw[List.getElem?_append_left (by rw[List.length_take]; omega),List.getElem?_take,if_pos hbm,k4 b hb (by rw[List.length_take]; omega),List.getElem?_take,if_pos hbm]
    ·rw[List.getElem?_append_right (by rw[List.length_take]; omega),List.length_take,List.getElem?_drop,Nat.min_eq_left hm1]
     congr 1; omega
   ·cases o with
    | ret x=>cases e with
     | returned c=>exact VR.to ag2 _ _ hu4 k5
     | panicked _=>exact k5
     | outgrown=>exact k5
    | pan x=>cases e with
     | panicked ch=>obtain ⟨c,rfl,hv⟩:=k5; exact⟨c,rfl,VR.to ag2 _ _ hu4 hv⟩
     | returned _=>exact k5
     | outgrown=>exact k5
theorem evCall_lt {n k:Nat} {args:List A} {H:Heap} {lo:Nat} {r:R} (h:evCall cx n k args H lo=some r):k<cx.P.funcs.size:=by
 refine Nat.lt_of_not_le fun hle=>?_
 have hb:Nat.ble cx.P.funcs.size k=true:=by rw[Nat.ble_eq]; exact hle
 unfold evCall at h
 cases n with
 | zero=>rw[evCallY,hb] at h; cases h
 | succ n=>rw[evCallY,hb] at h; cases h
theorem callOK_of_ev (horc:OrcOK cx) (hmx:cx.P.follows .mixedOrders=true) {n k:Nat} {args:List A} {x:A} {H':Heap} (h:evCall cx n k args [] 0=some (.ret x,H')):CallOK cx.P cx.glob k args (snapE H' x):=by
 intro S w cargs hS hgl hv
 have hr:Rel [] (G0 S) w w:=⟨Below.refl _ _,fun b k h=>(by cases h),fun b c k h=>(by cases h),hS,fun b k o h=>(by cases h),fun b B h=>(by simp at h)⟩
 have hno:YlSound cx (fun _ _ _=>True) noY:=⟨fun _ _ _ _ _ _ _ _=>trivial,fun _ _ _ _ _ h=>by cases h⟩
 have hkc:=evCall_lt h
 have hc:=(evCallY_sound horc hmx n _ _ hno).fn k args [] 0 _ hkc h Fence.wide 0 (G0 S) w w cargs wideA_wide rfl trivial hr hgl hv
 refine(callsIn_wide.1 hc).mono ?_
 rintro e w' ⟨g',e1,e2,_,_,e5,e6⟩
 cases e with
 | returned c =>
  refine⟨c,rfl,e1.below,?_⟩
  exact VR.ext0 (H:=[]) (g:=G0 g'.S) ⟨fun k o v hs hc=>⟨hc,by have:=hs.1; rw[show (G0 g'.S).S=g'.S from rfl,e5] at this; exact this,fun b hb=>(by cases hb)⟩,fun b B hB=>(by simp at hB),fun k arr cl hs hm=>⟨hm,by have:=hs.1; rw[show (G0 g'.S).S=g'.S from rfl,e5] at this; exact this,fun b hb=>(by cases hb)⟩⟩ _ _ (snapE_VR e1 x c e6)
 | panicked _=>exact e6.elim
 | outgrown=>exact e6.elim
end Go.Proofs.Ytdmgdjnadbakfaa
