/-
 What is done at a loop's head; and regions, with runs taken together.
-/
import Derived.Test.YtdmgdjnadbakfaaEvEff
namespace Go.Proofs.Ytdmgdjnadbakfaa
open Go.RowKit
variable {H H':Heap} {g g':Gh} {w0 w w':World} {cx:Cx} {s:St} {a:Act} {N lo:Nat} {mb:Mb} {H0:Heap} {gs:Gh} {ws:World}
theorem frzC_VR (hr:Rel H g w0 w) {x:A} {c:Value} (h:VR H g w x c):VR H g w (frzC H x) c:=by
 unfold frzC
 split
 ·exact VR.back (fun _ _ h=>h) (snap_VR hr _ c h)
 ·rw[VR] at h ⊢
  obtain ⟨a,cap,ds,es,h1,h2,_,h4,h5,h6⟩:=h
  exact⟨a,cap,ds,es,h1,h2,fun h=>(by cases h),h4,h5,h6⟩
 ·exact h
theorem frzCs_VR (hr:Rel H g w0 w):∀ {cs:List A} {ds:List Value},VRs H g w cs ds->VRs H g w (cs.map (frzC H)) ds
 | [],_,h=>h
 | a :: as,_,h=>by
  rw[VRs] at h
  obtain ⟨d,ds',rfl,h1,h2⟩:=h
  rw[List.map_cons,VRs]
  exact⟨d,ds',rfl,frzC_VR hr h1,frzCs_VR hr h2⟩
theorem frz_VR (hr:Rel H g w0 w) {x:A} {c:Value} (h:VR H g w x c):VR H g w (frz H x) c:=by
 unfold frz
 split
 ·exact VR.back (fun _ _ h=>h) (snap_VR hr _ c h)
 ·rw[VR] at h ⊢
  obtain ⟨a,cap,ds,es,h1,h2,_,h4,h5,h6⟩:=h
  exact⟨a,cap,ds,es,h1,h2,fun h=>(by cases h),h4,h5,h6⟩
 ·rw[VR] at h ⊢
  obtain ⟨ds,h1,h2⟩:=h
  exact⟨ds,h1,frzCs_VR hr h2⟩
 ·exact h
theorem seed_VR (hr:Rel H g w0 w) (es:Nat) {x:A} {c:Value} (h:VR H g w x c):∃ g',Rel (seed1 es H x).2 g' w0 w/\Ext H g w (seed1 es H x).2 g' w/\VR (seed1 es H x).2 g' w (seed1 es H x).1 c/\H.length<=(seed1 es H x).2.length/\(∀ b,b<H.length->(seed1 es H x).2[b]? = H[b]?)/\g'.S=g.S:=by
 unfold seed1
 split
 ·rename_i els
  rw[bcond]
  split
  ·rename_i hal
   rw[VR] at h
   obtain ⟨a,cap,ds,es',e1,e2,e3,e4,e5,e6⟩:=h
   have hc:cap=els.length:=e3 rfl
   have hds:∀ d∈ds,d.length=es:=fun d hd=>by
    obtain ⟨i,hi,rfl⟩:=List.getElem_of_mem hd
    have hl:=e6.length
    obtain ⟨q1,q2⟩:=VRss_iff.1 e6
    have:=q2 i els[i] ds[i] (List.getElem?_eq_getElem (by omega)) (List.getElem?_eq_getElem hi)
    rw[this.length]
    exact Nat.eq_of_beq_eq_true (List.all_eq_true.1 hal _ (List.getElem_mem (by omega)))
   obtain ⟨h1,h2⟩:=hr.push (Below.refl _ w) (.row false es els) none ds (fun k hk=>by cases hk) (fun he=>⟨by rw[Gh.put_ga]; exact VRss.ext he _ _ e6,by rw[Gh.put_ga]; exact hds⟩)
   refine⟨_,h1,h2,?_,by simp,fun b hb=>List.getElem?_append_left hb,rfl⟩
   rw[VR,get_push]
   refine⟨by simp,a,cap,e1,e2,fun h=>(by cases h),fun hp=>?_,fun _ _ _ h=>by omega⟩
   obtain ⟨k,off,g1,g2⟩:=e5 hp
   refine⟨k,off,g1,?_⟩
   rw[Gh.put_ga,List.drop_zero,List.take_of_length_le (by rw[e6.length]; exact Nat.le_refl _)]
   exact g2.ext h2
  ·exact⟨g,hr,Ext.refl hr,h,Nat.le_refl _,fun _ _=>rfl,rfl⟩
 ·exact⟨g,hr,Ext.refl hr,h,Nat.le_refl _,fun _ _=>rfl,rfl⟩
theorem seedW_VR (hr:Rel H g w0 w) (es:Nat) {x:A} {c:Value} (h:VR H g w x c):∃ g',Rel (seedW es H x).2 g' w0 w/\Ext H g w (seedW es H x).2 g' w/\VR (seedW es H x).2 g' w (seedW es H x).1 c/\H.length<=(seedW es H x).2.length/\(∀ b,b<H.length->(seedW es H x).2[b]? = H[b]?)/\g'.S=g.S:=by
 unfold seedW
 split
 ·rw[VR] at h
  obtain ⟨a,cap,ds,es',e1,e2,e3,e4,e5,e6⟩:=h
  obtain ⟨h1,h2⟩:=hr.push (Below.refl _ w) (.row true es []) none [] (fun k hk=>by cases hk) (fun he=>⟨[],by rw[VRss],fun d hd=>(by cases hd),fun hp=>(by simp at hp)⟩)
  refine⟨_,h1,h2,?_,by simp,fun b hb=>List.getElem?_append_left hb,rfl⟩
  rw[VR,get_push]
  exact⟨by simp,a,cap,e1,by omega,fun h=>(by cases h),fun hp=>(by omega)⟩
 ·exact⟨g,hr,Ext.refl hr,h,Nat.le_refl _,fun _ _=>rfl,rfl⟩
theorem dead_VR (hr:Rel H g w0 w) {x:A} {c:Value} (h:VR H g w x c):∃ g',Rel (H++[.dead]) g' w0 w/\Ext H g w (H++[.dead]) g' w/\VR (H++[.dead]) g' w x c/\H.length<=(H++[Blk.dead]).length/\(∀ b,b<H.length->(H++[Blk.dead])[b]? = H[b]?)/\g'.S=g.S:=by
 obtain ⟨h1,h2⟩:=hr.push (Below.refl _ w) .dead none [] (fun k hk=>by cases hk) (fun he=>Gh.put_mu ..)
 exact⟨_,h1,h2,VR.ext h2 _ _ h,by simp,fun b hb=>List.getElem?_append_left hb,rfl⟩
theorem seedZ_VR (hr:Rel H g w0 w) (es:Nat) {x:A} {c:Value} (h:VR H g w x c):∃ g',Rel (seedZ es H x).2 g' w0 w/\Ext H g w (seedZ es H x).2 g' w/\VR (seedZ es H x).2 g' w (seedZ es H x).1 c/\H.length<=(seedZ es H x).2.length/\(∀ b,b<H.length->(seedZ es H x).2[b]? = H[b]?)/\g'.S=g.S:=by
 have h1:=seed_VR hr es h
 unfold seedZ
 split
 ·rename_i els
  unfold seed1 at h1
  simp only at h1
  rw[bcond] at h1 ⊢
  split
  ·rename_i hal
   rw[if_pos hal] at h1
   exact h1
  ·exact dead_VR hr h
 ·exact dead_VR hr h
theorem Good.slot (h:Good cx N mb lo H0 gs ws w0 s g a w) {t:Nat} {x:A} (hx:VR s.H g w x (a.tmps.getD t undef)):Good cx N mb lo H0 gs ws w0 ⟨(t,x) :: s.fr,s.H⟩ g a w :=
 ⟨⟨h.sr.rel,fun u=>by
  show VR s.H g w (look ((t,x) :: s.fr) u) _
  rw[look_put]; split
  ·rename_i e; rw[<-e]; exact hx
  ·exact h.sr.fr u,h.sr.gl⟩,h.ext,h.len,h.low,h.siz,h.dfr,h.mbw,h.st⟩
theorem Good.heap (h:Good cx N mb lo H0 gs ws w0 s g a w) (hr:Rel H' g' w0 w) (he:Ext s.H g w H' g' w) (hl:s.H.length<=H'.length) (hlo:∀ b,b<lo->b<s.H.length->H'[b]? = s.H[b]?) (hst:g'.S=g.S):Good cx N mb lo H0 gs ws w0 ⟨s.fr,H'⟩ g' a w :=
 ⟨⟨hr,fun t=>VR.ext he _ _ (h.sr.fr t),fun G vs hG=>(h.sr.gl G vs hG).ext he⟩,h.ext.trans he,Nat.le_trans h.len hl,fun b hb hb'=>(hlo b hb (Nat.lt_of_lt_of_le hb' h.len)).trans (h.low b hb hb'),h.siz,h.dfr.keptBy he.kept,Nat.le_trans h.mbw he.size,hst.trans h.st⟩
theorem setRow_self {k:Nat} {arr:Array Value} {ty:TypeId} (ha:w.heap[k]? = some (.cells arr ty (0,0))):w.setRow k arr=w:=by
 have e:(w.heap.modify k fun | .cells _ elem frozen=>.cells arr elem frozen | o=>o)=w.heap:=by
  refine Array.ext (by simp) fun i h1 h2=>?_
  rw[Array.getElem_modify]
  split
  ·rename_i hik
   subst hik
   have hv:=(Array.getElem?_eq_some_iff.1 ha).2
   rw[hv]
  ·rfl
 exact(congrArg (fun h=>({ w with heap:=h }:World)) e:_=_)
theorem Rel.box (hr:Rel H g w0 w) {b i:Nat} {cs:List A} (hb:H[b]? = some (.box cs)) {x:A} (hx:∀ k arr ty d,g.mu b=some k->w.heap[k]? = some (.cells arr ty (0,0))->arr[i]? = some d->VR H g w x d):Rel (H.set b (.box (cs.set i x))) g w0 w/\Ext H g w (H.set b (.box (cs.set i x))) g w:=by
 obtain ⟨k,arr,ty,h1,h2,h3⟩:=hr.blk b _ hb
 have key:Ext H g w (H.set b (.box (cs.set i x))) g (w.setRow k arr)->(w.setRow k arr).heap[k]? = some (.cells arr ty (0,0))->BlkR (H.set b (.box (cs.set i x))) g (w.setRow k arr) b (.box (cs.set i x)):=fun he hk=>by
  refine⟨k,arr,ty,h1,hk,?_⟩
  rw[setRow_self h2] at he ⊢
  refine VRs.ext he _ _ (VRs_iff.2 ⟨by simpa using h3.length,fun j y d hy hd=>?_⟩)
  rw[List.getElem?_set] at hy
  split at hy
  ·rename_i hij
   split at hy
   ·cases hy
    subst hij
    exact hx k arr ty d h1 h2 (by simpa using hd)
   ·cases hy
  ·exact(VRs_iff.1 h3).2 _ _ d hy hd
 have:=hr.write (arr':=arr) (B':=.box (cs.set i x)) h1 h2 hb (.inl ⟨cs,_,rfl,rfl⟩) key
 rwa [setRow_self h2] at this
def act1o (lo:Nat) (p:Nat×Nat×Nat) (s:St):St :=
 match p.2.1 with
 | 0=>match p.2.2 with
  | 0=>⟨(p.1,frz s.H (look s.fr p.1)) :: s.fr,s.H⟩
  | es+1=>bif Nat.ble 500000 es then (bif Nat.ble 1000000 es then ⟨(p.1,(seedZ (es - 1000000) s.H (look s.fr p.1)).1) :: s.fr,(seedZ (es - 1000000) s.H (look s.fr p.1)).2⟩ else ⟨(p.1,(seedW (es - 500000) s.H (look s.fr p.1)).1) :: s.fr,(seedW (es - 500000) s.H (look s.fr p.1)).2⟩) else ⟨(p.1,(seed1 es s.H (look s.fr p.1)).1) :: s.fr,(seed1 es s.H (look s.fr p.1)).2⟩
 | off+1=>match look s.fr p.1 with
  | .ptr b o=>match s.H[b]? with
   | some (.box cs)=>match cs[o+off]? with
    | some c=>bif decide (lo<=b) then match p.2.2 with
     | 0=>⟨s.fr,s.H.set b (.box (cs.set (o+off) (frz s.H c)))⟩
     | es+1=>⟨s.fr,(seed1 es s.H c).2.set b (.box (cs.set (o+off) (seed1 es s.H c).1))⟩
     else s
    | none=>s
   | _=>s
  | _=>s
theorem act1_o (lo:Nat) (p:Nat×Nat×Nat) (s:St):Proofs.Ytdmgdjnadbakfaa.act1 lo p s=act1o lo p s:=by
 obtain ⟨t,q,m⟩:=p
 cases q with
 | zero=>rfl
 | succ off =>
  simp only[Proofs.Ytdmgdjnadbakfaa.act1,act1o,actC]
  cases look s.fr t with
  | ptr b o =>
   simp only[]
   cases s.H[b]? with
   | none=>rfl
   | some B=>cases B with
    | box cs =>
     simp only[]
     cases cs[o+off]? with
     | none=>rfl
     | some c =>
      simp only[]
      cases decide (lo<=b) with
      | false=>rfl
      | true=>cases m<;>rfl
    | _=>rfl
  | _=>rfl
theorem seed1_len (es:Nat) (x:A):H.length<=(seed1 es H x).2.length:=by
 unfold seed1
 split
 ·rw[bcond]; split<;>simp
 ·exact Nat.le_refl _
theorem seedW_len (es:Nat) (x:A):H.length<=(seedW es H x).2.length:=by
 unfold seedW
 split<;>simp
theorem seedZ_len (es:Nat) (x:A):(seedZ es H x).2.length=H.length+1:=by
 unfold seedZ
 split
 ·rw[bcond]; split<;>simp
 ·simp
theorem act1_len (lo:Nat) (p:Nat×Nat×Nat) (s:St):s.H.length<=(Proofs.Ytdmgdjnadbakfaa.act1 lo p s).H.length:=by
 rw[act1_o]
 unfold act1o
 split
 ·split
  ·exact Nat.le_refl _
  ·rw[bcond]
   split
   ·rw[bcond]
    split
    ·exact Nat.le_trans (Nat.le_succ _) (Nat.le_of_eq (seedZ_len ..).symm)
    ·exact seedW_len ..
   ·exact seed1_len ..
 ·split
  ·split
   ·split
    ·rw[bcond]
     split
     ·split
      ·simp
      ·simpa using seed1_len ..
     ·exact Nat.le_refl _
    ·exact Nat.le_refl _
   ·exact Nat.le_refl _
  ·exact Nat.le_refl _
theorem actAll_rst (lo:Nat):∀ (ps:List (Nat×Nat×Nat)) (s:St),rstOf ps≠none->s.H.length+1<=(actAll lo ps s).H.length
 | [],s,h=>absurd rfl h
 | [p],s,h=>by
  obtain ⟨t,q,m⟩:=p
  show s.H.length+1<=(Proofs.Ytdmgdjnadbakfaa.act1 lo (t,q,m) s).H.length
  cases q with
  | succ q=>exact absurd rfl h
  | zero =>
   unfold rstOf at h
   simp only at h
   rw[bcond] at h
   split at h
   ·rename_i hm
    have hm:1000001<=m:=by simpa [Nat.ble_eq] using hm
    obtain ⟨m,rfl⟩:∃ e,m=e+1:=⟨m - 1,by omega⟩
    unfold Proofs.Ytdmgdjnadbakfaa.act1
    simp only
    rw[show Nat.ble 500000 m=true from Nat.ble_eq_true_of_le (by omega),show Nat.ble 1000000 m=true from Nat.ble_eq_true_of_le (by omega)]
    simp only[cond_true]
    rw[seedZ_len]
    exact Nat.le_refl _
   ·exact absurd rfl h
 | p :: q :: ps,s,h=>Nat.le_trans (Nat.succ_le_succ (act1_len lo p s)) (actAll_rst lo (q :: ps) _ h)
theorem Good.act1 (h:Good cx N mb lo H0 gs ws w0 s g a w) (p:Nat×Nat×Nat):∃ g',Good cx N mb lo H0 gs ws w0 (act1 lo p s) g' a w/\s.H.length<=(Proofs.Ytdmgdjnadbakfaa.act1 lo p s).H.length/\(p.2.2=0->(Proofs.Ytdmgdjnadbakfaa.act1 lo p s).H.length=s.H.length):=by
 rw[act1_o]
 unfold act1o
 have same:∃ g',Good cx N mb lo H0 gs ws w0 s g' a w/\s.H.length<=s.H.length/\(p.2.2=0->s.H.length=s.H.length):=⟨g,h,Nat.le_refl _,fun _=>rfl⟩
 split
 ·split
  ·exact⟨g,h.slot (frz_VR h.sr.rel (h.sr.fr _)),Nat.le_refl _,fun _=>rfl⟩
  ·rename_i es he'
   rw[bcond]
   split
   ·rw[bcond]
    split
    ·obtain ⟨g',h1,h2,h3,h4,h5,h6⟩:=seedZ_VR h.sr.rel (es - 1000000) (h.sr.fr p.1)
     exact⟨g',(h.heap h1 h2 h4 (fun b _ hb=>h5 b hb) h6).slot h3,h4,fun e=>by rw[he'] at e; cases e⟩
    obtain ⟨g',h1,h2,h3,h4,h5,h6⟩:=seedW_VR h.sr.rel (es - 500000) (h.sr.fr p.1)
    exact⟨g',(h.heap h1 h2 h4 (fun b _ hb=>h5 b hb) h6).slot h3,h4,fun e=>by rw[he'] at e; cases e⟩
   obtain ⟨g',h1,h2,h3,h4,h5,h6⟩:=seed_VR h.sr.rel es (h.sr.fr p.1)
   exact⟨g',(h.heap h1 h2 h4 (fun b _ hb=>h5 b hb) h6).slot h3,h4,fun e=>by rw[he'] at e; cases e⟩
 ·rename_i off _
  split
  ·rename_i b o _
   split
   ·rename_i cs hb
    split
    ·rename_i c hc
     rw[bcond]
     split
     ·rename_i hlo
      have hlo:lo<=b:=by simpa using hlo
      split
      ·obtain ⟨k,arr,ty,m1,m2,m3⟩:=h.sr.rel.blk b _ hb
       obtain ⟨h1,h2⟩:=h.sr.rel.box hb (i:=o+off) (x:=frz s.H c) (fun k' arr' ty' d n1 n2 n3=>by
        rw[m1] at n1; cases n1
        rw[m2] at n2; cases n2
        exact frz_VR h.sr.rel ((VRs_iff.1 m3).2 _ _ d hc (by simpa using n3)))
       exact⟨g,h.heap h1 h2 (by simp) (fun b' hb' _=>List.getElem?_set_ne (by omega)) rfl,by simp,fun _=>by simp⟩
      ·rename_i es he
       obtain ⟨k,arr,ty,m1,m2,m3⟩:=h.sr.rel.blk b _ hb
       have hl:=m3.length
       have hlt:=(List.getElem?_eq_some_iff.1 hc).1
       obtain ⟨d,hd⟩:∃ d,arr.toList[o+off]? = some d:=⟨_,List.getElem?_eq_getElem (by omega)⟩
       obtain ⟨g',h1,h2,h3,h4,h5,h6⟩:=seed_VR h.sr.rel es ((VRs_iff.1 m3).2 _ _ d hc hd)
       have hbl:=(List.getElem?_eq_some_iff.1 hb).1
       have hb':(seed1 es s.H c).2[b]? = some (.box cs):=(h5 b hbl).trans hb
       have hg2:=h.heap h1 h2 h4 (fun b _ hb=>h5 b hb) h6
       have hmu:g'.mu b=g.mu b:=by
        obtain ⟨B',n1,n2⟩:=h2.blk b _ hb
        rw[hb'] at n1; cases n1
        exact n2
       have key:∀ k arr ty d,g'.mu b=some k->w.heap[k]? = some (.cells arr ty (0,0))->arr[o+off]? = some d->VR (seed1 es s.H c).2 g' w (seed1 es s.H c).1 d:=by
        intro k' arr' ty' d' n1 n2 n3
        rw[hmu,m1] at n1; cases n1
        rw[m2] at n2; cases n2
        have e:d'=d:=by
         have:arr.toList[o+off]? = some d':=by simpa using n3
         rw[hd] at this; cases this; rfl
        rw[e]; exact h3
       obtain ⟨k1,k2⟩:=h1.box hb' (i:=o+off) (x:=(seed1 es s.H c).1) key
       exact⟨g',hg2.heap k1 k2 (by simp) (fun b' hb' _=>List.getElem?_set_ne (by omega)) rfl,by simpa using h4,fun e=>by rw[he] at e; cases e⟩
     ·exact same
    ·exact same
   ·exact same
  ·exact same
theorem Good.acts:∀ (ps:List (Nat×Nat×Nat)) {s:St} {g:Gh},Good cx N mb lo H0 gs ws w0 s g a w->∃ g',Good cx N mb lo H0 gs ws w0 (actAll lo ps s) g' a w/\s.H.length<=(actAll lo ps s).H.length
 | [],s,g,h=>⟨g,h,Nat.le_refl _⟩
 | p :: ps,s,g,h=>by
  obtain ⟨g',h1,h2,_⟩:=h.act1 p
  obtain ⟨g'',h3,h4⟩:=Good.acts ps h1
  exact⟨g'',h3,Nat.le_trans h2 h4⟩
theorem Good.kills {k:St->Option R} {r:R}:∀ (ps:List (Nat×Nat×Nat)) {s:St} {g:Gh},Good cx N mb lo H0 gs ws w0 s g a w->killAll lo ps s k=some r->∃ s' g',Good cx N mb lo H0 gs ws w0 s' g' a w/\k s'=some r
 | [],s,g,h,hk=>⟨s,g,h,hk⟩
 | p :: ps,s,g,h,hk=>by
  unfold killAll at hk
  obtain ⟨q,h1,hk⟩:=bnd hk
  obtain ⟨g',e1,e2,e3,e4,e5,e6⟩:=kill_VR h.sr.rel h1 (h.sr.fr p.1)
  exact Good.kills ps ((h.heap e1 e2 (Nat.le_of_eq e4.symm) e5 e6).slot e3) hk
variable {call:CallT} {f:Nat} {ops:Array Oper} {r:R}
theorem evOp_mono {o:Oper} {k k':St->Option R} {pan:A->St->Option R} (hk:∀ s,k s=some r->k' s=some r) (h:evOp cx call f lo o s k pan=some r):evOp cx call f lo o s k' pan=some r:=by
 have one:∀ {x},evOp1 cx f lo x s (fun a H=>k ({ s with H:=H }.put o.dst a))=some r->evOp1 cx f lo x s (fun a H=>k' ({ s with H:=H }.put o.dst a))=some r:=fun {x} h=>by
  rw[evOp1_val] at h ⊢
  obtain ⟨p,h1,h2⟩:=bnd h
  rw[h1]
  exact hk _ h2
 unfold evOp at h ⊢
 split
 ·rename_i c x y ho
  simp only[ho] at h
  obtain ⟨z,h1,h2⟩:=bnd h
  rw[h1]; exact hk _ h2
 ·rename_i x ho
  simp only[ho] at h
  exact h
 ·rename_i t' n' parts ho
  simp only[ho] at h ⊢
  rw[bcond] at h ⊢
  split
  ·rename_i hc
   rw[if_pos hc] at h
   obtain ⟨z,h1,h2⟩:=bnd h
   rw[h1]; exact hk _ h2
  ·rename_i hc
   rw[if_neg hc] at h
   exact one h
 ·rename_i t' n' parts ho
  simp only[ho] at h ⊢
  rw[bcond] at h ⊢
  split
  ·rename_i hc
   rw[if_pos hc] at h
   obtain ⟨z,h1,h2⟩:=bnd h
   rw[h1]; exact hk _ h2
  ·rename_i hc
   rw[if_neg hc] at h
   exact one h
 ·rename_i t' t'' x ho
  simp only[ho] at h ⊢
  rw[bcond] at h ⊢
  split
  ·rename_i hc
   rw[if_pos hc] at h
   obtain ⟨z,h1,h2⟩:=bnd h
   rw[h1]; exact hk _ h2
  ·rename_i hc
   rw[if_neg hc] at h
   exact one h
 ·rename_i c ho
  simp only[ho] at h ⊢
  rw[bcond] at h ⊢
  split
  ·rename_i hc
   rw[if_pos hc] at h
   rw[dynCall_eq] at h ⊢
   unfold orE at h ⊢
   split at h
   ·rename_i p hy
    obtain ⟨hrb,h⟩:=csome h
    obtain ⟨x,h3,h4⟩:=bnd h
    simp only[hrb,cond_true,h3,Option.bind_some]
    unfold outK at h4 ⊢
    split
    ·rename_i y hy; rw[hy] at h4; exact hk _ h4
    ·rename_i y hy; rw[hy] at h4; exact h4
   obtain ⟨p,h1,h2⟩:=bnd h
   simp only[h1,Option.bind_some]
   rw[bcond] at h2 ⊢
   split
   ·rename_i hi
    rw[if_pos hi] at h2
    obtain ⟨x,h3,h4⟩:=bnd h2
    rw[h3]; exact hk _ h4
   ·rename_i hi
    rw[if_neg hi] at h2
    obtain ⟨x,h3,h4⟩:=bnd h2
    rw[h3,Option.bind_some]
    unfold outK at h4 ⊢
    split
    ·rename_i y hy; rw[hy] at h4; exact hk _ h4
    ·rename_i y hy; rw[hy] at h4; exact h4
  ·rename_i hc
   rw[if_neg hc] at h
   exact one h
 ·rename_i h1 h2 h3 h4 h5 h6
  have:evOp1 cx f lo o s (fun a H=>k ({ s with H:=H }.put o.dst a))=some r:=by
   cases ho:o.op<;>first
    | (simp only[ho] at h; exact h)
    | exact absurd ho (h1 _ _ _)
    | exact absurd ho (h2 _)
    | exact absurd ho (h3 _ _ _)
    | exact absurd ho (h4 _ _ _)
    | exact absurd ho (h5 _ _ _)
    | exact absurd ho (h6 _)
  exact one this
theorem csomeB {b x:Bool} (h:(bif b then x else false)=true):b=true/\x=true:=by cases b<;>simp_all
theorem allQuiet_spec:∀ {os:List Oper},allQuiet cx f os=true->∀ o∈os,quiet cx f o=true
 | [],_,o,ho=>by cases ho
 | o :: os,h,o',ho'=>by
  unfold allQuiet at h
  obtain ⟨h1,h2⟩:=csomeB h
  rcases List.mem_cons.1 ho' with rfl | ho'
  ·exact h1
  ·exact allQuiet_spec h2 o' ho'
theorem evOpsG_eq {k:E->St->Option R}:∀ (q:Nat) (os:List Oper) (s:St),evOpsG cx call f lo ops q os s k=some r->evOps cx call f lo ops os s k=some r
 | 0,_,_,h=>by cases h
 | _+1,[],_,h=>h
 | q+1,o :: os,s,h=>by
  have ih:=fun s=>evOpsG_eq (k:=k) q os s
  unfold evOpsG at h
  unfold evOps
  cases hgd:o.guard with
  | none =>
   simp only[hgd] at h ⊢
   exact evOp_mono (fun s=>ih s) h
  | some x =>
   simp only[hgd] at h ⊢
   cases hgs:guardSlot ops o with
   | none=>rw[hgs] at h; cases h
   | some p =>
    obtain ⟨t,w⟩:=p
    simp only[hgs] at h ⊢
    rw[bcond] at h
    split at h
    ·rename_i hc
     rw[Bool.and_eq_true] at hc
     have hqq:=allQuiet_spec hc.2
     have hro:=(splitRun_spec (ops:=ops) t w (o :: os) []).2.out.1
     have hE:∀ (o:Oper) (os:List Oper) (s:St),(quiet cx f o=true/\(o.guard≠none∨∃ c a b,o.op=.pick c a b))->evOps cx call f lo ops (o :: os) s k=(opVal cx call f ops o s).bind fun x=>evOps cx call f lo ops os (s.put o.dst x) k:=by
      intro o os s ⟨h1,h2⟩
      rw[evOps]
      unfold opVal
      cases hgd:o.guard with
      | none =>
       simp only
       rcases h2 with h2 | ⟨c,a,b,hp⟩
       ·exact absurd hgd h2
       ·unfold evOp evV
        rw[hp]
      | some x =>
       simp only
       cases hgs:guardSlot ops o with
       | none=>rfl
       | some p =>
        obtain ⟨t,w⟩:=p
        simp only[h1,cond_true]
     obtain ⟨pre,rest,fr,e1,e2,e3,e4⟩:=grp_spec (E:=fun os s=>evOps cx call f lo ops os s k) hE (fun o c a b hp=>⟨by unfold quiet; rw[hp],.inr ⟨c,a,b,hp⟩⟩) (fun o' ho'=>⟨hqq o' ho',.inl (hro o' ho').2⟩) (fun g w h=>by cases h) (fun hlk fin l hl=>by
      obtain ⟨dl,k1,k2,k3⟩:=evVals_spec (E:=fun os s=>evOps cx call f lo ops os s k) hE (fun o c a b hp=>⟨by unfold quiet; rw[hp],.inr ⟨c,a,b,hp⟩⟩) q (some (t,w)) fin _ [] s l hl (fun o' ho'=>⟨hqq o' ho',.inl (hro o' ho').2⟩) (fun g' w' hg'=>by
       cases hg'; exact⟨hlk,fun o' ho'=>(hro o' ho').1⟩)
      exact⟨dl,k1,by simpa using k2,k3⟩) h
     have:=e4 rest
     rw[<-e1] at this
     have h3:=evOpsG_eq q rest _ e2
     have h4:evOps cx call f lo ops (o :: os) s k=some r:=this.trans h3
     rw[evOps,hgd] at h4
     simp only[hgs] at h4
     exact h4
    ·rw[bcond] at h ⊢
     split
     ·rename_i hq
      rw[if_pos hq] at h
      obtain ⟨x,h1,h2⟩:=bnd h
      rw[h1]; exact ih _ h2
     ·rename_i hq
      rw[if_neg hq] at h
      unfold gIf at h ⊢
      split
      ·rename_i b hb
       rw[hb] at h
       cases b<;>cases w<;>simp only[cond_true,cond_false] at h ⊢<;>first | exact ih _ h | exact evOp_mono (fun s=>ih s) h
      ·rename_i y hy; rw[hy] at h; exact ih _ h
      ·rename_i h1 h2
       split at h
       ·rename_i b hb; exact absurd hb (h1 b)
       ·rename_i y hy; exact absurd hy (h2 y)
       ·cases h
theorem evPre_mono {k k':St->Option R} (hk:∀ s,k s=some r->k' s=some r):∀ {os:List Oper} {s:St},evPre cx call f ops os s k=some r->evPre cx call f ops os s k'=some r
 | [],s,h=>hk _ h
 | o :: os,s,h=>by
  unfold evPre at h ⊢
  cases hgd:o.guard with
  | none =>
   simp only[hgd] at h ⊢
   obtain ⟨x,h1,h2⟩:=bnd h
   rw[h1]; exact evPre_mono hk h2
  | some q =>
   simp only[hgd] at h ⊢
   cases hgs:guardSlot ops o with
   | none=>rw[hgs] at h; cases h
   | some p =>
    simp only[hgs] at h ⊢
    obtain ⟨x,h1,h2⟩:=bnd h
    rw[h1]; exact evPre_mono hk h2
theorem evPreG_eq {k:St->Option R}:∀ (q:Nat) (os:List Oper) (s:St),evPreG cx call f ops q os s k=some r->evPre cx call f ops os s k=some r
 | 0,_,_,h=>by cases h
 | _+1,[],_,h=>h
 | q+1,o :: os,s,h=>by
  have ih:=fun s=>evPreG_eq (k:=k) q os s
  unfold evPreG at h
  have hE:∀ (o:Oper) (os:List Oper) (s:St),True->evPre cx call f ops (o :: os) s k=(opVal cx call f ops o s).bind fun x=>evPre cx call f ops os (s.put o.dst x) k:=by
   intro o os s _
   rw[evPre]
   unfold opVal
   cases hgd:o.guard with
   | none=>rfl
   | some x =>
    simp only
    cases hgs:guardSlot ops o with
    | none=>rfl
    | some p=>rfl
  cases hgd:o.guard with
  | none =>
   simp only[hgd] at h
   unfold evPre
   simp only[hgd]
   rw[evVk_eq] at h
   obtain ⟨x,h1,h2⟩:=bnd h
   rw[h1]; exact ih _ h2
  | some x =>
   simp only[hgd] at h
   cases hgs:guardSlot ops o with
   | none=>rw[hgs] at h; cases h
   | some p =>
    obtain ⟨t,w⟩:=p
    simp only[hgs] at h
    obtain ⟨_,h⟩:=csome h
    have hro:=(splitRun_spec (ops:=ops) t w (o :: os) []).2.out.1
    obtain ⟨pre,rest,fr,e1,e2,e3,e4⟩:=grp_spec (E:=fun os s=>evPre cx call f ops os s k) hE (fun _ _ _ _ _=>trivial) (fun _ _=>trivial) (fun g w h=>by cases h) (fun hlk fin l hl=>by
     obtain ⟨dl,k1,k2,k3⟩:=evVals_spec (E:=fun os s=>evPre cx call f ops os s k) hE (fun _ _ _ _ _=>trivial) q (some (t,w)) fin _ [] s l hl (fun _ _=>trivial) (fun g' w' hg'=>by
      cases hg'; exact⟨hlk,fun o' ho'=>(hro o' ho').1⟩)
     exact⟨dl,k1,by simpa using k2,k3⟩) h
    have:=e4 rest
    rw[<-e1] at this
    exact this.trans (evPreG_eq q rest _ e2)
end Go.Proofs.Ytdmgdjnadbakfaa
