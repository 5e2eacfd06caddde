/-
 The interpreter's operations that write nothing: what they answer, the model's answer.
-/
import Derived.Test.YtdmgdjnadbakfaaEvRel
import Derived.Deep.MidRow
namespace Go.Proofs.Ytdmgdjnadbakfaa
open Go.RowKit
variable {P:Program} {H:Heap} {g:Gh} {w0 w:World}
theorem pureV_run {α:Type} {P:Program}:∀ {s:Sem α} {a:α},pureV P s=some a->∀ w,s.run P w=.ok a w
 | .pure a,_,h,w=>by simp only[pureV,Option.some.injEq] at h; subst h; rfl
 | .program k,a,h,w=>by simp only[pureV] at h; exact pureV_run (s:=k P) h w
 | .mark _ k,a,h,w=>by simp only[pureV] at h; exact pureV_run (s:=k) h w
 | .load ..,_,h,_ | .store ..,_,h,_ | .new ..,_,h,_ | .shape ..,_,h,_ | .freeze ..,_,h,_ | .frozen ..,_,h,_ | .getObj ..,_,h,_ | .setObj ..,_,h,_ | .choose ..,_,h,_ | .sys ..,_,h,_ | .halt _,_,h,_=>by cases h
theorem VRs_iff:∀ {cs:List A} {ds:List Value},VRs H g w cs ds↔ds.length=cs.length/\∀ (i:Nat) a d,cs[i]? = some a->ds[i]? = some d->VR H g w a d
 | [],ds=>by
  rw[VRs]
  exact⟨fun h=>by subst h; simp,fun h=>by simpa using h.1⟩
 | a :: as,ds=>by
  rw[VRs]
  constructor
  ·rintro ⟨d,ds',rfl,h1,h2⟩
   obtain ⟨h3,h4⟩:=VRs_iff.1 h2
   refine⟨by simp[h3],fun i x y hx hy=>?_⟩
   cases i with
   | zero=>simp at hx hy; subst hx; subst hy; exact h1
   | succ i=>exact h4 i x y (by simpa using hx) (by simpa using hy)
  ·rintro ⟨h1,h2⟩
   cases ds with
   | nil=>simp at h1
   | cons d ds'=>exact⟨d,ds',rfl,h2 0 a d rfl rfl,VRs_iff.2 ⟨by simpa using h1,fun i x y hx hy=>h2 (i+1) x y (by simpa using hx) (by simpa using hy)⟩⟩
theorem VRss_iff:∀ {cs:List (List A)} {ds:List (List Value)},VRss H g w cs ds↔ds.length=cs.length/\∀ (i:Nat) a d,cs[i]? = some a->ds[i]? = some d->VRs H g w a d
 | [],ds=>by
  rw[VRss]
  exact⟨fun h=>by subst h; simp,fun h=>by simpa using h.1⟩
 | a :: as,ds=>by
  rw[VRss]
  constructor
  ·rintro ⟨d,ds',rfl,h1,h2⟩
   obtain ⟨h3,h4⟩:=VRss_iff.1 h2
   refine⟨by simp[h3],fun i x y hx hy=>?_⟩
   cases i with
   | zero=>simp at hx hy; subst hx; subst hy; exact h1
   | succ i=>exact h4 i x y (by simpa using hx) (by simpa using hy)
  ·rintro ⟨h1,h2⟩
   cases ds with
   | nil=>simp at h1
   | cons d ds'=>exact⟨d,ds',rfl,h2 0 a d rfl rfl,VRss_iff.2 ⟨by simpa using h1,fun i x y hx hy=>h2 (i+1) x y (by simpa using hx) (by simpa using hy)⟩⟩
theorem VRs.get {cs:List A} {ds:List Value} (h:VRs H g w cs ds) {i:Nat} {a:A} (ha:cs[i]? = some a):∃ d,ds[i]? = some d/\VR H g w a d:=by
 obtain ⟨h1,h2⟩:=VRs_iff.1 h
 have hi:i<ds.length:=by rw[h1]; exact(List.getElem?_eq_some_iff.1 ha).1
 exact⟨ds[i],List.getElem?_eq_getElem hi,h2 i a _ ha (List.getElem?_eq_getElem hi)⟩
theorem VRss.get {cs:List (List A)} {ds:List (List Value)} (h:VRss H g w cs ds) {i:Nat} {a:List A} (ha:cs[i]? = some a):∃ d,ds[i]? = some d/\VRs H g w a d:=by
 obtain ⟨h1,h2⟩:=VRss_iff.1 h
 have hi:i<ds.length:=by rw[h1]; exact(List.getElem?_eq_some_iff.1 ha).1
 exact⟨ds[i],List.getElem?_eq_getElem hi,h2 i a _ ha (List.getElem?_eq_getElem hi)⟩
theorem VRs.drop {cs:List A} {ds:List Value} (h:VRs H g w cs ds) (n:Nat):VRs H g w (cs.drop n) (ds.drop n):=by
 obtain ⟨h1,h2⟩:=VRs_iff.1 h
 exact VRs_iff.2 ⟨by simp[h1],fun i a d ha hd=>h2 (n+i) a d (by simpa using ha) (by simpa using hd)⟩
theorem VRs.take {cs:List A} {ds:List Value} (h:VRs H g w cs ds) (n:Nat):VRs H g w (cs.take n) (ds.take n):=by
 obtain ⟨h1,h2⟩:=VRs_iff.1 h
 refine VRs_iff.2 ⟨by simp[h1],fun i a d ha hd=>?_⟩
 rw[List.getElem?_take] at ha hd
 split at ha
 ·rename_i hlt; rw[if_pos hlt] at hd; exact h2 _ _ _ ha hd
 ·cases ha
theorem VRs.append {cs cs':List A} {ds ds':List Value} (h:VRs H g w cs ds) (h':VRs H g w cs' ds'):VRs H g w (cs++cs') (ds++ds'):=by
 obtain ⟨h1,h2⟩:=VRs_iff.1 h
 obtain ⟨h3,h4⟩:=VRs_iff.1 h'
 refine VRs_iff.2 ⟨by simp[h1,h3],fun i a d ha hd=>?_⟩
 rw[List.getElem?_append] at ha hd
 rw[h1] at hd
 split at ha
 ·rename_i hlt; rw[if_pos hlt] at hd; exact h2 _ _ _ ha hd
 ·rename_i hlt; rw[if_neg hlt] at hd; exact h4 _ _ _ ha hd
theorem VRss.drop {cs:List (List A)} {ds:List (List Value)} (h:VRss H g w cs ds) (n:Nat):VRss H g w (cs.drop n) (ds.drop n):=by
 obtain ⟨h1,h2⟩:=VRss_iff.1 h
 exact VRss_iff.2 ⟨by simp[h1],fun i a d ha hd=>h2 (n+i) a d (by simpa using ha) (by simpa using hd)⟩
theorem VRss.take {cs:List (List A)} {ds:List (List Value)} (h:VRss H g w cs ds) (n:Nat):VRss H g w (cs.take n) (ds.take n):=by
 obtain ⟨h1,h2⟩:=VRss_iff.1 h
 refine VRss_iff.2 ⟨by simp[h1],fun i a d ha hd=>?_⟩
 rw[List.getElem?_take] at ha hd
 split at ha
 ·rename_i hlt; rw[if_pos hlt] at hd; exact h2 _ _ _ ha hd
 ·cases ha
theorem VRss.append {cs cs':List (List A)} {ds ds':List (List Value)} (h:VRss H g w cs ds) (h':VRss H g w cs' ds'):VRss H g w (cs++cs') (ds++ds'):=by
 obtain ⟨h1,h2⟩:=VRss_iff.1 h
 obtain ⟨h3,h4⟩:=VRss_iff.1 h'
 refine VRss_iff.2 ⟨by simp[h1,h3],fun i a d ha hd=>?_⟩
 rw[List.getElem?_append] at ha hd
 rw[h1] at hd
 split at ha
 ·rename_i hlt; rw[if_pos hlt] at hd; exact h2 _ _ _ ha hd
 ·rename_i hlt; rw[if_neg hlt] at hd; exact h4 _ _ _ ha hd
theorem VRs.splice {cs xs:List A} {ds ys:List Value} (h:VRs H g w cs ds) (h':VRs H g w xs ys) (o:Nat):VRs H g w (splice cs o xs) (splice ds o ys):=by
 unfold Go.Proofs.Ytdmgdjnadbakfaa.splice
 rw[h'.length]
 exact((h.take o).append h').append (h.drop _)
theorem VRss.splice {cs xs:List (List A)} {ds ys:List (List Value)} (h:VRss H g w cs ds) (h':VRss H g w xs ys) (o:Nat):VRss H g w (splice cs o xs) (splice ds o ys):=by
 unfold Go.Proofs.Ytdmgdjnadbakfaa.splice
 rw[h'.length]
 exact((h.take o).append h').append (h.drop _)
theorem chunk_length {α:Type} (es:Nat):∀ (q:Nat) (xs:List α),(chunk es q xs).length=q
 | 0,_=>rfl
 | q+1,xs=>by rw[chunk,List.length_cons,chunk_length es q]
theorem chunk_lens {α:Type} {es:Nat}:∀ {q:Nat} {xs:List α},xs.length=q*es->∀ d∈chunk es q xs,d.length=es
 | 0,_,_,d,hd=>by cases hd
 | q+1,xs,h,d,hd=>by
  rw[Nat.add_mul,Nat.one_mul] at h
  rcases List.mem_cons.1 hd with rfl | hd
  ·simp; omega
  ·exact chunk_lens (by simp; omega) d hd
theorem chunk_flat {α:Type} {es:Nat}:∀ {q:Nat} {xs:List α},xs.length=q*es->(chunk es q xs).flatten=xs
 | 0,xs,h=>by
  have:xs=[]:=List.eq_nil_of_length_eq_zero (by simpa using h)
  subst this; rfl
 | q+1,xs,h=>by
  rw[Nat.add_mul,Nat.one_mul] at h
  rw[chunk,List.flatten_cons,chunk_flat (by simp; omega)]
  exact List.take_append_drop _ _
theorem VRs.chunk {es:Nat}:∀ (q:Nat) {cs:List A} {ds:List Value},VRs H g w cs ds->VRss H g w (chunk es q cs) (chunk es q ds)
 | 0,_,_,_=>by rw[Go.Proofs.Ytdmgdjnadbakfaa.chunk,Go.Proofs.Ytdmgdjnadbakfaa.chunk,VRss]
 | q+1,cs,ds,h=>by
  rw[Go.Proofs.Ytdmgdjnadbakfaa.chunk,Go.Proofs.Ytdmgdjnadbakfaa.chunk,VRss]
  exact⟨_,_,rfl,h.take es,VRs.chunk q (h.drop es)⟩
theorem VRss.flat:∀ {els:List (List A)} {ds:List (List Value)},VRss H g w els ds->VRs H g w els.flatten ds.flatten
 | [],_,h=>by rw[VRss] at h; subst h; rw[List.flatten_nil,VRs]; rfl
 | a :: els,_,h=>by
  rw[VRss] at h
  obtain ⟨d,ds',rfl,h1,h2⟩:=h
  rw[List.flatten_cons,List.flatten_cons]
  exact h1.append (VRss.flat h2)
theorem ofC_VR (x:Value):VR H g w (ofC x) x:=by
 unfold ofC
 split
 ·rw[VR]; exact⟨none,0,[],0,rfl,Nat.le_refl _,fun _=>rfl,by simp,by simp,by rw[VRss]⟩
 ·rw[VR]
theorem ofC_VRs (l:List Value):VRs H g w (l.map ofC) l :=
 VRs_iff.2 ⟨by simp,fun i a d ha hd=>by rw[List.getElem?_map,hd] at ha; cases ha; exact ofC_VR d⟩
theorem ofV_VR (x:Value):VR H g w (ofV x) x:=by
 unfold ofV
 split
 ·rename_i cs; rw[VR]; exact⟨cs,rfl,ofC_VRs _⟩
 ·exact ofC_VR _
mutual
theorem toV_VR:∀ (a:A) {v c:Value},a.toV=some v->VR H g w a c->c=v
 | .any,_,_,h,_=>by simp[A.toV] at h
 | .v x,_,_,h,hr=>by simp[A.toV] at h; rw[VR] at hr; rw[hr,h]
 | .ptr ..,_,_,h,_=>by simp[A.toV] at h
 | .ep ..,_,_,h,_=>by simp[A.toV] at h
 | .ip _,_,_,h,_=>by simp[A.toV] at h
 | .imm ..,_,_,h,_=>by simp[A.toV] at h
 | .sl ..,_,_,h,_=>by simp[A.toV] at h
 | .agg cs,_,_,h,hr=>by
  simp[A.toV] at h
  obtain ⟨l,hl,rfl⟩:=h
  rw[VR] at hr
  obtain ⟨ds,rfl,h2⟩:=hr
  have:=toVs_VR cs hl h2
  rw[<-this]
 | .tup _,_,_,h,_=>by simp[A.toV] at h
 | .fn (.func f) [] [],_,_,h,hr=>by
  simp[A.toV] at h
  subst h
  rw[VR] at hr
  obtain ⟨ds,es,rfl,h1,h2⟩:=hr
  rw[VRs] at h1 h2
  have e1:ds=#[]:=by cases ds; simp_all
  have e2:es=#[]:=by cases es; simp_all
  rw[e1,e2]
 | .fn (.func _) (_ :: _) _,_,_,h,_=>by simp[A.toV] at h
 | .fn (.func _) [] (_ :: _),_,_,h,_=>by simp[A.toV] at h
 | .fn (.method _) _ _,_,_,h,_=>by simp[A.toV] at h
 | .fn (.methodOf ..) _ _,_,_,h,_=>by simp[A.toV] at h
 | .fn (.via ..) _ _,_,_,h,_=>by simp[A.toV] at h
 | .fn (.yield _) _ _,_,_,h,_=>by simp[A.toV] at h
 | .ifc t x,_,_,h,hr=>by
  simp[A.toV] at h
  obtain ⟨v,hv,rfl⟩:=h
  rw[VR] at hr
  obtain ⟨d,rfl,h2⟩:=hr
  rw[toV_VR x hv h2]
theorem toVs_VR:∀ (cs:List A) {l ds:List Value},toVs cs=some l->VRs H g w cs ds->ds=l
 | [],_,_,h,hr=>by simp[toVs] at h; rw[VRs] at hr; rw[hr,<-h]
 | a :: as,_,_,h,hr=>by
  rw[toVs] at h
  cases hx:a.toV with
  | none=>rw[hx] at h; cases h
  | some x =>
   rw[hx] at h
   cases hl:toVs as with
   | none=>rw[hl] at h; cases h
   | some l =>
    rw[hl] at h
    cases h
    rw[VRs] at hr
    obtain ⟨d,ds',rfl,h1,h2⟩:=hr
    rw[toV_VR a hx h1,toVs_VR as hl h2]
end
theorem cell_one {a:A} {c:Value} (hc:a.cell=true) (h:VR H g w a c):c.oneCell'=true:=by
 cases a with
 | any=>simp[A.cell] at hc
 | v x=>rw[VR] at h; rw[h]; simpa [A.cell] using hc
 | ptr b o =>
  rw[VR] at h
  split at h
  ·obtain ⟨k,_,rfl⟩:=h; rfl
  ·exact h.elim
  ·exact h
  ·exact h.elim
 | ep b i o =>
  rw[VR] at h
  split at h
  ·obtain ⟨_,k,_,rfl⟩:=h; rfl
  ·exact h.elim
  ·exact h
  ·exact h.elim
 | ip cs=>rw[VR] at h; obtain ⟨_,_,_,rfl,_⟩:=h; rfl
 | imm els clip=>rw[VR] at h; obtain ⟨_,_,_,_,rfl,_⟩:=h; rfl
 | sl b o n clip =>
  rw[VR] at h
  split at h
  ·obtain ⟨_,_,_,rfl,_⟩:=h; rfl
  ·obtain ⟨_,_,_,rfl,_⟩:=h; rfl
  ·exact h.elim
  ·exact h
  ·exact h.elim
 | agg _=>simp[A.cell] at hc
 | tup _=>simp[A.cell] at hc
 | fn f a b=>rw[VR] at h; obtain ⟨_,_,rfl,_⟩:=h; rfl
 | ifc t x=>rw[VR] at h; obtain ⟨_,rfl,_⟩:=h; rfl
 | nq _=>simp[A.cell] at hc
 | yld b =>
  rw[VR] at h
  split at h
  ·obtain ⟨_,_,rfl⟩:=h; rfl
  ·exact h.elim
  ·exact h
  ·exact h.elim
 | mr b =>
  rw[VR] at h
  split at h
  ·obtain ⟨_,_,rfl⟩:=h; rfl
  ·exact h.elim
  ·exact h
  ·exact h.elim
 | mv k ks vs=>rw[VR] at h; obtain ⟨_,_,_,rfl,_⟩:=h; rfl
theorem cells_of_one {c:Value} (h:c.oneCell'=true):c.cells=#[c]:=by cases c<;>first | rfl | simp[Value.oneCell'] at h
theorem cells_VR {a:A} {c:Value} {cs:List A} (ha:a.cells? = some cs) (h:VR H g w a c):VRs H g w cs c.cells.toList/\(∀ x∈c.cells.toList,x.oneCell'=true)/\∀ x∈cs,x.cell=true:=by
 have one:∀ {x:A} {d:Value},x.cell=true->VR H g w x d->VRs H g w [x] d.cells.toList/\(∀ y∈d.cells.toList,y.oneCell'=true)/\∀ y∈[x],y.cell=true:=fun {x d} hx hv=>by
  have h1:=cell_one hx hv
  rw[cells_of_one h1]
  refine⟨?_,by simp[h1],by simp[hx]⟩
  rw[VRs]; exact⟨d,[],rfl,hv,by rw[VRs]⟩
 cases a with
 | any=>simp[A.cells?] at ha
 | tup _=>simp[A.cells?] at ha
 | agg as =>
  simp only[A.cells?,cond_eq_ite] at ha
  split at ha
  ·rename_i hall
   cases ha
   rw[VR] at h
   obtain ⟨ds,rfl,h2⟩:=h
   refine⟨h2,fun x hx=>?_,List.all_eq_true.1 hall⟩
   obtain ⟨i,hi,rfl⟩:=List.getElem_of_mem hx
   have hl:=h2.length
   obtain ⟨d,hd,hv⟩:=h2.get (i:=i) (List.getElem?_eq_getElem (by simp only[Value.cells] at hi; omega))
   have hd':(Value.agg ds).cells.toList[i]? = some d:=hd
   rw[List.getElem?_eq_getElem hi] at hd'
   cases hd'
   exact cell_one (List.all_eq_true.1 hall _ (List.getElem_mem _)) hv
  ·cases ha
 | v x =>
  simp only[A.cells?,cond_eq_ite] at ha
  split at ha
  ·rename_i hx; cases ha; exact one hx h
  ·cases ha
 | nq _=>simp[A.cells?] at ha
 | _=>simp only[A.cells?,Option.some.injEq] at ha; subst ha; exact one rfl h
theorem join_VR {t:TypeId} {cs:List A} {ds:List Value} {a:A} (hj:join P t cs=some a) (h:VRs H g w cs ds):∃ c,VR H g w a c/\(if isAggT P t=true then c=.agg ds.toArray else ds=[c]):=by
 unfold Go.Proofs.Ytdmgdjnadbakfaa.join at hj
 cases hA:isAggT P t
 ·rw[hA] at hj
  simp only[cond_false] at hj
  split at hj
  ·cases hj
   rw[VRs] at h
   obtain ⟨d,ds',rfl,h1,h2⟩:=h
   rw[VRs] at h2
   subst h2
   exact⟨d,h1,by simp⟩
  ·cases hj
 ·rw[hA] at hj
  simp only[cond_true,Option.some.injEq] at hj
  subst hj
  exact⟨.agg ds.toArray,by rw[VR]; exact⟨_,rfl,by simpa using h⟩,by simp⟩
theorem isAgg_run (t:TypeId) {d:TypeDesc} (hu:P.underlying t=some d) (w:World):(isAgg t).run P w=.ok (isAggT P t) w:=by
 unfold isAgg isAggT
 rw[Sem.run_bind,run_underlying hu w,hu]
 cases d<;>rfl
theorem desc_of_size {t:TypeId} {n:Nat} (h:sizeT P t=some n):∃ d,P.underlying t=some d:=by
 unfold sizeT at h
 cases hu:P.underlying t with
 | none=>rw[hu] at h; cases h
 | some d=>exact⟨d,rfl⟩
theorem under_of_size {t:TypeId} {n:Nat} (h:sizeT P t=some n):∃ i,P.info? t=some i/\i.size=n:=by
 obtain ⟨d,hu⟩:=desc_of_size h
 unfold sizeT at h
 rw[hu] at h
 cases hi:P.info? t with
 | none=>rw[hi] at h; cases h
 | some i=>rw[hi] at h; exact⟨i,rfl,by simpa using h⟩
theorem sizeOf_run {t:TypeId} {n:Nat} (h:sizeT P t=some n) (w:World):(sizeOf t).run P w=.ok n w:=by
 obtain ⟨i,hi,rfl⟩:=under_of_size h
 simp[sizeOf,typeInfo,hi]
theorem loadVar_run {t:TypeId} {n:Nat} (hs:sizeT P t=some n) {d:TypeDesc} (hu:P.underlying t=some d) {k off:Nat} {ds:List Value} (hl:ds.length=n) (hc:w.rangeAt k off ds) {c:Value} (h:if isAggT P t=true then c=.agg ds.toArray else ds=[c]) :
  (loadVar t ⟨k,off,none⟩).run P w=.ok c w:=by
 have hc':(loadCells ⟨k,off,none⟩ ds.length).run P w=.ok ds.toArray w :=
  run_loadCells_list (P:=P) w ⟨k,off,none⟩ ds (fun j v hv=>by rw[Addr.add_mid]; exact hc j v hv)
 unfold loadVar
 rw[Sem.run_bind,isAgg_run t hu w]
 cases hA:isAggT P t
 ·rw[hA] at h
  simp at h
  subst h
  have:=hc 0 c rfl
  simp only[Nat.add_zero] at this
  simp[load,Sem.run,this]
 ·rw[hA] at h
  simp at h
  subst h
  simp[sizeOf_run hs,<-hl,hc']
end Go.Proofs.Ytdmgdjnadbakfaa
