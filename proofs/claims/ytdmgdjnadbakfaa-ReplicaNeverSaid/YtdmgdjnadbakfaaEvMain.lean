/-
 **The interpreter is sound**: what it answers of a call, the model's call answers.
-/
import Derived.Test.YtdmgdjnadbakfaaEvEff
import Derived.LoopNIn
import Derived.RecoverIn
namespace Go.Proofs.Ytdmgdjnadbakfaa
section
open Go.RowKit
variable {H H':ay} {g g':Gh} {w0 w w':World} {cx:Cx} {s:St} {a:Act} {N lo:Nat} {mb:Mb} {H0:ay} {gs:Gh} {ws:World}
theorem Ed (hr:Rel H g w0 w) {x:A} {c:Value} (h:VR H g w x c):VR H g w (Ec H x) c:=by
 unfold Ec
 split
 ·exact VR.back (fun _ _ h=>h) (px hr _ c h)
 ·rw[VR] at h ⊢
  obtain ⟨a,cap,ds,es,h1,h2,_,h4,h5,h6⟩:=h
  exact⟨a,cap,ds,es,h1,h2,fun h=>(by cases h),h4,h5,h6⟩
 ·exact h
theorem wQ (hr:Rel H g w0 w):∀ {cs:List A} {ds:List Value},bp H g w cs ds->bp H g w (cs.map (Ec H)) ds
 | [],_,h=>h
 | a :: as,_,h=>by
  rw[bp] at h
  obtain ⟨d,ds',rfl,h1,h2⟩:=h
  rw[List.map_cons,bp]
  exact⟨d,ds',rfl,Ed hr h1,wQ hr h2⟩
theorem Ct (hr:Rel H g w0 w) {x:A} {c:Value} (h:VR H g w x c):VR H g w (FC H x) c:=by
 unfold FC
 split
 ·exact VR.back (fun _ _ h=>h) (px hr _ c h)
 ·rw[VR] at h ⊢
  obtain ⟨a,cap,ds,es,h1,h2,_,h4,h5,h6⟩:=h
  exact⟨a,cap,ds,es,h1,h2,fun h=>(by cases h),h4,h5,h6⟩
 ·rw[VR] at h ⊢
  obtain ⟨ds,h1,h2⟩:=h
  exact⟨ds,h1,wQ hr h2⟩
 ·exact h
theorem vN (hr:Rel H g w0 w) (es:Nat) {x:A} {c:Value} (h:VR H g w x c):∃ g',Rel (fb es H x).2 g' w0 w/\Ext H g w (fb es H x).2 g' w/\VR (fb es H x).2 g' w (fb es H x).1 c/\H.length<=(fb es H x).2.length/\(∀ b,b<H.length->(fb es H x).2[b]? = H[b]?)/\g'.S=g.S:=by
 unfold fb
 split
 ·rename_i els
  rw[br]
  split
  ·rename_i hal
   rw[VR] at h
   obtain ⟨a,cap,ds,es',e1,e2,e3,e4,e5,e6⟩:=h
   have hc:cap=els.length:=e3 rfl
   have hds:∀ d∈ds,d.length=es:=fun d hd=>by
    obtain ⟨i,hi,rfl⟩:=List.getElem_of_mem hd
    have hl:=e6.length
    obtain ⟨q1,q2⟩:=cV.1 e6
    have:=q2 i els[i] ds[i] (List.getElem?_eq_getElem (by omega)) (List.getElem?_eq_getElem hi)
    rw[this.length]
    exact Nat.eq_of_beq_eq_true (List.all_eq_true.1 hal _ (List.getElem_mem (by omega)))
   obtain ⟨h1,h2⟩:=hr.push (Below.refl _ w) (.row false es els) none ds (fun k hk=>by cases hk) (fun he=>⟨by rw[Gh.gJ]; exact bn.ext he _ _ e6,by rw[Gh.gJ]; exact hds⟩)
   refine⟨_,h1,h2,?_,by simp,fun b hb=>List.getElem?_append_left hb,rfl⟩
   rw[VR,ei]
   refine⟨by simp,a,cap,e1,e2,fun h=>(by cases h),fun hp=>?_,fun _ _ _ h=>by omega⟩
   obtain ⟨k,off,g1,g2⟩:=e5 hp
   refine⟨k,off,g1,?_⟩
   rw[Gh.gJ,List.drop_zero,List.take_of_length_le (by rw[e6.length]; exact Nat.le_refl _)]
   exact g2.ext h2
  ·exact⟨g,hr,Ext.refl hr,h,Nat.le_refl _,fun _ _=>rfl,rfl⟩
 ·exact⟨g,hr,Ext.refl hr,h,Nat.le_refl _,fun _ _=>rfl,rfl⟩
theorem Dr (hr:Rel H g w0 w) (es:Nat) {x:A} {c:Value} (h:VR H g w x c):∃ g',Rel (lz es H x).2 g' w0 w/\Ext H g w (lz es H x).2 g' w/\VR (lz es H x).2 g' w (lz es H x).1 c/\H.length<=(lz es H x).2.length/\(∀ b,b<H.length->(lz es H x).2[b]? = H[b]?)/\g'.S=g.S:=by
 unfold lz
 split
 ·rw[VR] at h
  obtain ⟨a,cap,ds,es',e1,e2,e3,e4,e5,e6⟩:=h
  obtain ⟨h1,h2⟩:=hr.push (Below.refl _ w) (.row true es []) none [] (fun k hk=>by cases hk) (fun he=>⟨[],by rw[bn],fun d hd=>(by cases hd),fun hp=>(by simp at hp)⟩)
  refine⟨_,h1,h2,?_,by simp,fun b hb=>List.getElem?_append_left hb,rfl⟩
  rw[VR,ei]
  exact⟨by simp,a,cap,e1,by omega,fun h=>(by cases h),fun hp=>(by omega)⟩
 ·exact⟨g,hr,Ext.refl hr,h,Nat.le_refl _,fun _ _=>rfl,rfl⟩
theorem zE (hr:Rel H g w0 w) {x:A} {c:Value} (h:VR H g w x c):∃ g',Rel (H++[.dead]) g' w0 w/\Ext H g w (H++[.dead]) g' w/\VR (H++[.dead]) g' w x c/\H.length<=(H++[aD.dead]).length/\(∀ b,b<H.length->(H++[aD.dead])[b]? = H[b]?)/\g'.S=g.S:=by
 obtain ⟨h1,h2⟩:=hr.push (Below.refl _ w) .dead none [] (fun k hk=>by cases hk) (fun he=>Gh.bz ..)
 exact⟨_,h1,h2,VR.ext h2 _ _ h,by simp,fun b hb=>List.getElem?_append_left hb,rfl⟩
theorem Ds (hr:Rel H g w0 w) (es:Nat) {x:A} {c:Value} (h:VR H g w x c):∃ g',Rel (lA es H x).2 g' w0 w/\Ext H g w (lA es H x).2 g' w/\VR (lA es H x).2 g' w (lA es H x).1 c/\H.length<=(lA es H x).2.length/\(∀ b,b<H.length->(lA es H x).2[b]? = H[b]?)/\g'.S=g.S:=by
 have h1:=vN hr es h
 unfold lA
 split
 ·rename_i els
  unfold fb at h1
  simp only at h1
  rw[br] at h1 ⊢
  split
  ·rename_i hal
   rw[if_pos hal] at h1
   exact h1
  ·exact zE hr h
 ·exact zE hr h
theorem Good.slot (h:Good cx N mb lo H0 gs ws w0 s g a w) {t:Nat} {x:A} (hx:VR s.H g w x (a.tmps.getD t undef)):Good cx N mb lo H0 gs ws w0 ⟨(t,x) :: s.fr,s.H⟩ g a w :=
 ⟨⟨h.sr.rel,fun u=>by
  show VR s.H g w (look ((t,x) :: s.fr) u) _
  rw[ek]; split
  ·rename_i e; rw[<-e]; exact hx
  ·exact h.sr.fr u,h.sr.gl⟩,h.ext,h.len,h.low,h.siz,h.dfr,h.mbw,h.st⟩
theorem Good.heap (h:Good cx N mb lo H0 gs ws w0 s g a w) (hr:Rel H' g' w0 w) (he:Ext s.H g w H' g' w) (hl:s.H.length<=H'.length) (hlo:∀ b,b<lo->b<s.H.length->H'[b]? = s.H[b]?) (hst:g'.S=g.S):Good cx N mb lo H0 gs ws w0 ⟨s.fr,H'⟩ g' a w :=
 ⟨⟨hr,fun t=>VR.ext he _ _ (h.sr.fr t),fun G vs hG=>(h.sr.gl G vs hG).ext he⟩,h.ext.trans he,Nat.le_trans h.len hl,fun b hb hb'=>(hlo b hb (Nat.lt_of_lt_of_le hb' h.len)).trans (h.low b hb hb'),h.siz,h.dfr.lZ he.kept,Nat.le_trans h.mbw he.size,hst.trans h.st⟩
theorem setRow_self {k:Nat} {arr:Array Value} {ty:TypeId} (ha:w.heap[k]? = some (.cells arr ty (0,0))):w.setRow k arr=w:=by
 have e:(w.heap.modify k fun | .cells _ elem frozen=>.cells arr elem frozen | o=>o)=w.heap:=by
  refine Array.ext (by simp) fun i h1 h2=>?_
  rw[Array.getElem_modify]
  split
  ·rename_i hik
   subst hik
   have hv:=(Array.getElem?_eq_some_iff.1 ha).2
   rw[hv]
  ·rfl
 exact(congrArg (fun h=>({ w with heap:=h }:World)) e:_=_)
theorem Rel.box (hr:Rel H g w0 w) {b i:Nat} {cs:List A} (hb:H[b]? = some (.box cs)) {x:A} (hx:∀ k arr ty d,g.mu b=some k->w.heap[k]? = some (.cells arr ty (0,0))->arr[i]? = some d->VR H g w x d):Rel (H.set b (.box (cs.set i x))) g w0 w/\Ext H g w (H.set b (.box (cs.set i x))) g w:=by
 obtain ⟨k,arr,ty,h1,h2,h3⟩:=hr.blk b _ hb
 have key:Ext H g w (H.set b (.box (cs.set i x))) g (w.setRow k arr)->(w.setRow k arr).heap[k]? = some (.cells arr ty (0,0))->lF (H.set b (.box (cs.set i x))) g (w.setRow k arr) b (.box (cs.set i x)):=fun he hk=>by
  refine⟨k,arr,ty,h1,hk,?_⟩
  rw[setRow_self h2] at he ⊢
  refine bp.ext he _ _ (dE.2 ⟨by simpa using h3.length,fun j y d hy hd=>?_⟩)
  rw[List.getElem?_set] at hy
  split at hy
  ·rename_i hij
   split at hy
   ·cases hy
    subst hij
    exact hx k arr ty d h1 h2 (by simpa using hd)
   ·cases hy
  ·exact(dE.1 h3).2 _ _ d hy hd
 have:=hr.write (arr':=arr) (B':=.box (cs.set i x)) h1 h2 hb (.inl ⟨cs,_,rfl,rfl⟩) key
 rwa [setRow_self h2] at this
def zt (lo:Nat) (p:Nat×Nat×Nat) (s:St):St :=
 match p.2.1 with
 | 0=>match p.2.2 with
  | 0=>⟨(p.1,FC s.H (look s.fr p.1)) :: s.fr,s.H⟩
  | es+1=>bif Nat.ble 500000 es then (bif Nat.ble 1000000 es then ⟨(p.1,(lA (es - 1000000) s.H (look s.fr p.1)).1) :: s.fr,(lA (es - 1000000) s.H (look s.fr p.1)).2⟩ else ⟨(p.1,(lz (es - 500000) s.H (look s.fr p.1)).1) :: s.fr,(lz (es - 500000) s.H (look s.fr p.1)).2⟩) else ⟨(p.1,(fb es s.H (look s.fr p.1)).1) :: s.fr,(fb es s.H (look s.fr p.1)).2⟩
 | off+1=>match look s.fr p.1 with
  | .ptr b o=>match s.H[b]? with
   | some (.box cs)=>match cs[o+off]? with
    | some c=>bif decide (lo<=b) then match p.2.2 with
     | 0=>⟨s.fr,s.H.set b (.box (cs.set (o+off) (FC s.H c)))⟩
     | es+1=>⟨s.fr,(fb es s.H c).2.set b (.box (cs.set (o+off) (fb es s.H c).1))⟩
     else s
    | none=>s
   | _=>s
  | _=>s
theorem Cc (lo:Nat) (p:Nat×Nat×Nat) (s:St):Proofs.Ytdmgdjnadbakfaa.nY lo p s=zt lo p s:=by
 obtain ⟨t,q,m⟩:=p
 cases q with
 | zero=>rfl
 | succ off =>
  simp only[Proofs.Ytdmgdjnadbakfaa.nY,zt,aX]
  cases look s.fr t with
  | ptr b o =>
   simp only[]
   cases s.H[b]? with
   | none=>rfl
   | some B=>cases B with
    | box cs =>
     simp only[]
     cases cs[o+off]? with
     | none=>rfl
     | some c =>
      simp only[]
      cases decide (lo<=b) with
      | false=>rfl
      | true=>cases m<;>rfl
    | _=>rfl
  | _=>rfl
theorem uy (es:Nat) (x:A):H.length<=(fb es H x).2.length:=by
 unfold fb
 split
 ·rw[br]; split<;>simp
 ·exact Nat.le_refl _
theorem Bf (es:Nat) (x:A):H.length<=(lz es H x).2.length:=by
 unfold lz
 split<;>simp
theorem uz (es:Nat) (x:A):(lA es H x).2.length=H.length+1:=by
 unfold lA
 split
 ·rw[br]; split<;>simp
 ·simp
theorem Cb (lo:Nat) (p:Nat×Nat×Nat) (s:St):s.H.length<=(Proofs.Ytdmgdjnadbakfaa.nY lo p s).H.length:=by
 rw[Cc]
 unfold zt
 split
 ·split
  ·exact Nat.le_refl _
  ·rw[br]
   split
   ·rw[br]
    split
    ·exact Nat.le_trans (Nat.le_succ _) (Nat.le_of_eq (uz ..).symm)
    ·exact Bf ..
   ·exact uy ..
 ·split
  ·split
   ·split
    ·rw[br]
     split
     ·split
      ·simp
      ·simpa using uy ..
     ·exact Nat.le_refl _
    ·exact Nat.le_refl _
   ·exact Nat.le_refl _
  ·exact Nat.le_refl _
theorem qZ (lo:Nat):∀ (ps:List (Nat×Nat×Nat)) (s:St),xx ps≠none->s.H.length+1<=(eh lo ps s).H.length
 | [],s,h=>absurd rfl h
 | [p],s,h=>by
  obtain ⟨t,q,m⟩:=p
  show s.H.length+1<=(Proofs.Ytdmgdjnadbakfaa.nY lo (t,q,m) s).H.length
  cases q with
  | succ q=>exact absurd rfl h
  | zero =>
   unfold xx at h
   simp only at h
   rw[br] at h
   split at h
   ·rename_i hm
    have hm:1000001<=m:=by simpa [Nat.ble_eq] using hm
    obtain ⟨m,rfl⟩:∃ e,m=e+1:=⟨m - 1,by omega⟩
    unfold Proofs.Ytdmgdjnadbakfaa.nY
    simp only
    rw[show Nat.ble 500000 m=true from Nat.ble_eq_true_of_le (by omega),show Nat.ble 1000000 m=true from Nat.ble_eq_true_of_le (by omega)]
    simp only[cond_true]
    rw[uz]
    exact Nat.le_refl _
   ·exact absurd rfl h
 | p :: q :: ps,s,h=>Nat.le_trans (Nat.succ_le_succ (Cb lo p s)) (qZ lo (q :: ps) _ h)
theorem Good.nY (h:Good cx N mb lo H0 gs ws w0 s g a w) (p:Nat×Nat×Nat):∃ g',Good cx N mb lo H0 gs ws w0 (nY lo p s) g' a w/\s.H.length<=(Proofs.Ytdmgdjnadbakfaa.nY lo p s).H.length/\(p.2.2=0->(Proofs.Ytdmgdjnadbakfaa.nY lo p s).H.length=s.H.length):=by
 rw[Cc]
 unfold zt
 have same:∃ g',Good cx N mb lo H0 gs ws w0 s g' a w/\s.H.length<=s.H.length/\(p.2.2=0->s.H.length=s.H.length):=⟨g,h,Nat.le_refl _,fun _=>rfl⟩
 split
 ·split
  ·exact⟨g,h.slot (Ct h.sr.rel (h.sr.fr _)),Nat.le_refl _,fun _=>rfl⟩
  ·rename_i es he'
   rw[br]
   split
   ·rw[br]
    split
    ·obtain ⟨g',h1,h2,h3,h4,h5,h6⟩:=Ds h.sr.rel (es - 1000000) (h.sr.fr p.1)
     exact⟨g',(h.heap h1 h2 h4 (fun b _ hb=>h5 b hb) h6).slot h3,h4,fun e=>by rw[he'] at e; cases e⟩
    obtain ⟨g',h1,h2,h3,h4,h5,h6⟩:=Dr h.sr.rel (es - 500000) (h.sr.fr p.1)
    exact⟨g',(h.heap h1 h2 h4 (fun b _ hb=>h5 b hb) h6).slot h3,h4,fun e=>by rw[he'] at e; cases e⟩
   obtain ⟨g',h1,h2,h3,h4,h5,h6⟩:=vN h.sr.rel es (h.sr.fr p.1)
   exact⟨g',(h.heap h1 h2 h4 (fun b _ hb=>h5 b hb) h6).slot h3,h4,fun e=>by rw[he'] at e; cases e⟩
 ·rename_i off _
  split
  ·rename_i b o _
   split
   ·rename_i cs hb
    split
    ·rename_i c hc
     rw[br]
     split
     ·rename_i hlo
      have hlo:lo<=b:=by simpa using hlo
      split
      ·obtain ⟨k,arr,ty,m1,m2,m3⟩:=h.sr.rel.blk b _ hb
       obtain ⟨h1,h2⟩:=h.sr.rel.box hb (i:=o+off) (x:=FC s.H c) (fun k' arr' ty' d n1 n2 n3=>by
        rw[m1] at n1; cases n1
        rw[m2] at n2; cases n2
        exact Ct h.sr.rel ((dE.1 m3).2 _ _ d hc (by simpa using n3)))
       exact⟨g,h.heap h1 h2 (by simp) (fun b' hb' _=>List.getElem?_set_ne (by omega)) rfl,by simp,fun _=>by simp⟩
      ·rename_i es he
       obtain ⟨k,arr,ty,m1,m2,m3⟩:=h.sr.rel.blk b _ hb
       have hl:=m3.length
       have hlt:=(List.getElem?_eq_some_iff.1 hc).1
       obtain ⟨d,hd⟩:∃ d,arr.toList[o+off]? = some d:=⟨_,List.getElem?_eq_getElem (by omega)⟩
       obtain ⟨g',h1,h2,h3,h4,h5,h6⟩:=vN h.sr.rel es ((dE.1 m3).2 _ _ d hc hd)
       have hbl:=(List.getElem?_eq_some_iff.1 hb).1
       have hb':(fb es s.H c).2[b]? = some (.box cs):=(h5 b hbl).trans hb
       have hg2:=h.heap h1 h2 h4 (fun b _ hb=>h5 b hb) h6
       have hmu:g'.mu b=g.mu b:=by
        obtain ⟨B',n1,n2⟩:=h2.blk b _ hb
        rw[hb'] at n1; cases n1
        exact n2
       have key:∀ k arr ty d,g'.mu b=some k->w.heap[k]? = some (.cells arr ty (0,0))->arr[o+off]? = some d->VR (fb es s.H c).2 g' w (fb es s.H c).1 d:=by
        intro k' arr' ty' d' n1 n2 n3
        rw[hmu,m1] at n1; cases n1
        rw[m2] at n2; cases n2
        have e:d'=d:=by
         have:arr.toList[o+off]? = some d':=by simpa using n3
         rw[hd] at this; cases this; rfl
        rw[e]; exact h3
       obtain ⟨k1,k2⟩:=h1.box hb' (i:=o+off) (x:=(fb es s.H c).1) key
       exact⟨g',hg2.heap k1 k2 (by simp) (fun b' hb' _=>List.getElem?_set_ne (by omega)) rfl,by simpa using h4,fun e=>by rw[he] at e; cases e⟩
     ·exact same
    ·exact same
   ·exact same
  ·exact same
theorem Good.acts:∀ (ps:List (Nat×Nat×Nat)) {s:St} {g:Gh},Good cx N mb lo H0 gs ws w0 s g a w->∃ g',Good cx N mb lo H0 gs ws w0 (eh lo ps s) g' a w/\s.H.length<=(eh lo ps s).H.length
 | [],s,g,h=>⟨g,h,Nat.le_refl _⟩
 | p :: ps,s,g,h=>by
  obtain ⟨g',h1,h2,_⟩:=h.nY p
  obtain ⟨g'',h3,h4⟩:=Good.acts ps h1
  exact⟨g'',h3,Nat.le_trans h2 h4⟩
theorem Good.FE {k:St->Option R} {r:R}:∀ (ps:List (Nat×Nat×Nat)) {s:St} {g:Gh},Good cx N mb lo H0 gs ws w0 s g a w->qJ lo ps s k=some r->∃ s' g',Good cx N mb lo H0 gs ws w0 s' g' a w/\k s'=some r
 | [],s,g,h,hk=>⟨s,g,h,hk⟩
 | p :: ps,s,g,h,hk=>by
  unfold qJ at hk
  obtain ⟨q,h1,hk⟩:=bt hk
  obtain ⟨g',e1,e2,e3,e4,e5,e6⟩:=zV h.sr.rel h1 (h.sr.fr p.1)
  exact Good.FE ps ((h.heap e1 e2 (Nat.le_of_eq e4.symm) e5 e6).slot e3) hk
variable {call:aS} {f:Nat} {ops:Array Oper} {r:R}
theorem tQ {o:Oper} {k k':St->Option R} {pan:A->St->Option R} (hk:∀ s,k s=some r->k' s=some r) (h:rn cx call f lo o s k pan=some r):rn cx call f lo o s k' pan=some r:=by
 have one:∀ {x},bF cx f lo x s (fun a H=>k ({ s with H:=H }.put o.dst a))=some r->bF cx f lo x s (fun a H=>k' ({ s with H:=H }.put o.dst a))=some r:=fun {x} h=>by
  rw[gZ] at h ⊢
  obtain ⟨p,h1,h2⟩:=bt h
  rw[h1]
  exact hk _ h2
 unfold rn at h ⊢
 split
 ·rename_i c x y ho
  simp only[ho] at h
  obtain ⟨z,h1,h2⟩:=bt h
  rw[h1]; exact hk _ h2
 ·rename_i x ho
  simp only[ho] at h
  exact h
 ·rename_i t' n' parts ho
  simp only[ho] at h ⊢
  rw[br] at h ⊢
  split
  ·rename_i hc
   rw[if_pos hc] at h
   obtain ⟨z,h1,h2⟩:=bt h
   rw[h1]; exact hk _ h2
  ·rename_i hc
   rw[if_neg hc] at h
   exact one h
 ·rename_i t' n' parts ho
  simp only[ho] at h ⊢
  rw[br] at h ⊢
  split
  ·rename_i hc
   rw[if_pos hc] at h
   obtain ⟨z,h1,h2⟩:=bt h
   rw[h1]; exact hk _ h2
  ·rename_i hc
   rw[if_neg hc] at h
   exact one h
 ·rename_i t' t'' x ho
  simp only[ho] at h ⊢
  rw[br] at h ⊢
  split
  ·rename_i hc
   rw[if_pos hc] at h
   obtain ⟨z,h1,h2⟩:=bt h
   rw[h1]; exact hk _ h2
  ·rename_i hc
   rw[if_neg hc] at h
   exact one h
 ·rename_i c ho
  simp only[ho] at h ⊢
  rw[br] at h ⊢
  split
  ·rename_i hc
   rw[if_pos hc] at h
   rw[rk] at h ⊢
   unfold FQ at h ⊢
   split at h
   ·rename_i p hy
    obtain ⟨hrb,h⟩:=bf h
    obtain ⟨x,h3,h4⟩:=bt h
    simp only[hrb,cond_true,h3,Option.bind_some]
    unfold bJ at h4 ⊢
    split
    ·rename_i y hy; rw[hy] at h4; exact hk _ h4
    ·rename_i y hy; rw[hy] at h4; exact h4
   obtain ⟨p,h1,h2⟩:=bt h
   simp only[h1,Option.bind_some]
   rw[br] at h2 ⊢
   split
   ·rename_i hi
    rw[if_pos hi] at h2
    obtain ⟨x,h3,h4⟩:=bt h2
    rw[h3]; exact hk _ h4
   ·rename_i hi
    rw[if_neg hi] at h2
    obtain ⟨x,h3,h4⟩:=bt h2
    rw[h3,Option.bind_some]
    unfold bJ at h4 ⊢
    split
    ·rename_i y hy; rw[hy] at h4; exact hk _ h4
    ·rename_i y hy; rw[hy] at h4; exact h4
  ·rename_i hc
   rw[if_neg hc] at h
   exact one h
 ·rename_i h1 h2 h3 h4 h5 h6
  have:bF cx f lo o s (fun a H=>k ({ s with H:=H }.put o.dst a))=some r:=by
   cases ho:o.op<;>first
    | (simp only[ho] at h; exact h)
    | exact absurd ho (h1 _ _ _)
    | exact absurd ho (h2 _)
    | exact absurd ho (h3 _ _ _)
    | exact absurd ho (h4 _ _ _)
    | exact absurd ho (h5 _ _ _)
    | exact absurd ho (h6 _)
  exact one this
theorem Ch {b x:Bool} (h:(bif b then x else false)=true):b=true/\x=true:=by cases b<;>simp_all
theorem nS:∀ {os:List Oper},oM cx f os=true->∀ o∈os,quiet cx f o=true
 | [],_,o,ho=>by cases ho
 | o :: os,h,o',ho'=>by
  unfold oM at h
  obtain ⟨h1,h2⟩:=Ch h
  rcases List.mem_cons.1 ho' with rfl | ho'
  ·exact h1
  ·exact nS h2 o' ho'
theorem g7 {k:E->St->Option R}:∀ (q:Nat) (os:List Oper) (s:St),gj cx call f lo ops q os s k=some r->fA cx call f lo ops os s k=some r
 | 0,_,_,h=>by cases h
 | _+1,[],_,h=>h
 | q+1,o :: os,s,h=>by
  have ih:=fun s=>g7 (k:=k) q os s
  unfold gj at h
  unfold fA
  cases hgd:o.guard with
  | none =>
   simp only[hgd] at h ⊢
   exact tQ (fun s=>ih s) h
  | some x =>
   simp only[hgd] at h ⊢
   cases hgs:bT ops o with
   | none=>rw[hgs] at h; cases h
   | some p =>
    obtain ⟨t,w⟩:=p
    simp only[hgs] at h ⊢
    rw[br] at h
    split at h
    ·rename_i hc
     rw[Bool.and_eq_true] at hc
     have hqq:=nS hc.2
     have hro:=(eJ (ops:=ops) t w (o :: os) []).2.out.1
     have hE:∀ (o:Oper) (os:List Oper) (s:St),(quiet cx f o=true/\(o.guard≠none∨∃ c a b,o.op=.pick c a b))->fA cx call f lo ops (o :: os) s k=(mB cx call f ops o s).bind fun x=>fA cx call f lo ops os (s.put o.dst x) k:=by
      intro o os s ⟨h1,h2⟩
      rw[fA]
      unfold mB
      cases hgd:o.guard with
      | none =>
       simp only
       rcases h2 with h2 | ⟨c,a,b,hp⟩
       ·exact absurd hgd h2
       ·unfold rn gv
        rw[hp]
      | some x =>
       simp only
       cases hgs:bT ops o with
       | none=>rfl
       | some p =>
        obtain ⟨t,w⟩:=p
        simp only[h1,cond_true]
     obtain ⟨pre,rest,fr,e1,e2,e3,e4⟩:=rN (E:=fun os s=>fA cx call f lo ops os s k) hE (fun o c a b hp=>⟨by unfold quiet; rw[hp],.inr ⟨c,a,b,hp⟩⟩) (fun o' ho'=>⟨hqq o' ho',.inl (hro o' ho').2⟩) (fun g w h=>by cases h) (fun hlk fin l hl=>by
      obtain ⟨dl,k1,k2,k3⟩:=iE (E:=fun os s=>fA cx call f lo ops os s k) hE (fun o c a b hp=>⟨by unfold quiet; rw[hp],.inr ⟨c,a,b,hp⟩⟩) q (some (t,w)) fin _ [] s l hl (fun o' ho'=>⟨hqq o' ho',.inl (hro o' ho').2⟩) (fun g' w' hg'=>by
       cases hg'; exact⟨hlk,fun o' ho'=>(hro o' ho').1⟩)
      exact⟨dl,k1,by simpa using k2,k3⟩) h
     have:=e4 rest
     rw[<-e1] at this
     have h3:=g7 q rest _ e2
     have h4:fA cx call f lo ops (o :: os) s k=some r:=this.trans h3
     rw[fA,hgd] at h4
     simp only[hgs] at h4
     exact h4
    ·rw[br] at h ⊢
     split
     ·rename_i hq
      rw[if_pos hq] at h
      obtain ⟨x,h1,h2⟩:=bt h
      rw[h1]; exact ih _ h2
     ·rename_i hq
      rw[if_neg hq] at h
      unfold ky at h ⊢
      split
      ·rename_i b hb
       rw[hb] at h
       cases b<;>cases w<;>simp only[cond_true,cond_false] at h ⊢<;>first | exact ih _ h | exact tQ (fun s=>ih s) h
      ·rename_i y hy; rw[hy] at h; exact ih _ h
      ·rename_i h1 h2
       split at h
       ·rename_i b hb; exact absurd hb (h1 b)
       ·rename_i y hy; exact absurd hy (h2 y)
       ·cases h
theorem n5 {k k':St->Option R} (hk:∀ s,k s=some r->k' s=some r):∀ {os:List Oper} {s:St},ja cx call f ops os s k=some r->ja cx call f ops os s k'=some r
 | [],s,h=>hk _ h
 | o :: os,s,h=>by
  unfold ja at h ⊢
  cases hgd:o.guard with
  | none =>
   simp only[hgd] at h ⊢
   obtain ⟨x,h1,h2⟩:=bt h
   rw[h1]; exact n5 hk h2
  | some q =>
   simp only[hgd] at h ⊢
   cases hgs:bT ops o with
   | none=>rw[hgs] at h; cases h
   | some p =>
    simp only[hgs] at h ⊢
    obtain ⟨x,h1,h2⟩:=bt h
    rw[h1]; exact n5 hk h2
theorem pU {k:St->Option R}:∀ (q:Nat) (os:List Oper) (s:St),pT cx call f ops q os s k=some r->ja cx call f ops os s k=some r
 | 0,_,_,h=>by cases h
 | _+1,[],_,h=>h
 | q+1,o :: os,s,h=>by
  have ih:=fun s=>pU (k:=k) q os s
  unfold pT at h
  have hE:∀ (o:Oper) (os:List Oper) (s:St),True->ja cx call f ops (o :: os) s k=(mB cx call f ops o s).bind fun x=>ja cx call f ops os (s.put o.dst x) k:=by
   intro o os s _
   rw[ja]
   unfold mB
   cases hgd:o.guard with
   | none=>rfl
   | some x =>
    simp only
    cases hgs:bT ops o with
    | none=>rfl
    | some p=>rfl
  cases hgd:o.guard with
  | none =>
   simp only[hgd] at h
   unfold ja
   simp only[hgd]
   rw[qI] at h
   obtain ⟨x,h1,h2⟩:=bt h
   rw[h1]; exact ih _ h2
  | some x =>
   simp only[hgd] at h
   cases hgs:bT ops o with
   | none=>rw[hgs] at h; cases h
   | some p =>
    obtain ⟨t,w⟩:=p
    simp only[hgs] at h
    obtain ⟨_,h⟩:=bf h
    have hro:=(eJ (ops:=ops) t w (o :: os) []).2.out.1
    obtain ⟨pre,rest,fr,e1,e2,e3,e4⟩:=rN (E:=fun os s=>ja cx call f ops os s k) hE (fun _ _ _ _ _=>trivial) (fun _ _=>trivial) (fun g w h=>by cases h) (fun hlk fin l hl=>by
     obtain ⟨dl,k1,k2,k3⟩:=iE (E:=fun os s=>ja cx call f ops os s k) hE (fun _ _ _ _ _=>trivial) q (some (t,w)) fin _ [] s l hl (fun _ _=>trivial) (fun g' w' hg'=>by
      cases hg'; exact⟨hlk,fun o' ho'=>(hro o' ho').1⟩)
     exact⟨dl,k1,by simpa using k2,k3⟩) h
    have:=e4 rest
    rw[<-e1] at this
    exact this.trans (pU q rest _ e2)
end
section
open Go.RowKit
variable {H H':ay} {g g':Gh} {w0 w w':World} {cx:Cx} {s:St} {a:Act} {F:Fence} {n:Nat} {N lo:Nat} {mb:Mb} {H0:ay} {gs:Gh} {ws:World} {Bs:ay->Gh->World->Prop} {f:Nat} {ops:Array Oper}
theorem la {o:Oper} (h:tg o=true):o.guard=none:=by
 unfold tg at h; split at h
 ·assumption
 ·cases h
theorem wD {call:aS} {k:List (Nat×A)->St->Option R} {r:R}:∀ (L:List Nat) (seen:List (Nat×A)) (s:St),Kj cx call f ops L seen s k=some r ->
  ∃ (S:Nat->St) (x:Nat->A) (seen1:List (Nat×A)),S 0=s/\k seen1 (S L.length)=some r/\(∀ p∈seen,p∈seen1) ∧
   ∀ (p i:Nat),L[p]? = some i->∃ o,ops[i]? = some o/\o.guard=none/\(bG o=0∨(bG o=1/\(i,addrOf cx (S p) o.op)∈seen1)∨(bG o=2/\pe (partsOf cx (S p) o.op)=true))/\gv cx call f o (S p)=some (x p)/\S (p+1)=(S p).put o.dst (x p)
 | [],seen,s,h=>⟨fun _=>s,fun _=>.any,seen,rfl,h,fun _ h=>h,fun p i hp=>by simp at hp⟩
 | i :: L,seen,s,h=>by
  unfold Kj at h
  split at h
  ·cases h
  ·rename_i o ho
   obtain ⟨hc,h⟩:=bf h
   obtain ⟨hfl,h⟩:=bf h
   rw[Ny,Bool.and_eq_true,Bool.or_eq_true,Bool.or_eq_true] at hc
   rw[qI] at h
   obtain ⟨x0,h1,h⟩:=bt h
   obtain ⟨S,x,seen1,e1,e2,e3,e4⟩:=wD L _ _ h
   refine⟨fun p=>match p with | 0=>s | p+1=>S p,fun p=>match p with | 0=>x0 | p+1=>x p,seen1,rfl,e2,fun p hp=>e3 p (by
    cases Nat.beq (bG o) 1 with
    | true=>exact List.mem_cons_of_mem _ hp
    | false=>exact hp),fun p j hj=>?_⟩
   cases p with
   | zero =>
    simp at hj
    subst hj
    refine⟨o,ho,la hc.1,?_,h1,e1⟩
    rcases hc.2 with (hk | hk) | hk
    ·exact .inl (beq_spec hk)
    ·exact .inr (.inl ⟨beq_spec hk,e3 _ (by rw[hk]; exact List.mem_cons_self ..)⟩)
    ·exact .inr (.inr ⟨beq_spec hk,by rw[hk] at hfl; exact hfl⟩)
   | succ p=>exact e4 p j (by simpa using hj)
def tA (cx:Cx) (call:aS) (f lo:Nat) (ops:Array Oper) (c q:Nat) (seen:List (Nat×A)) (i:Nat) (s:St) (x:A) (s':St):Prop :=
 ∃ o H',ops[i]? = some o/\s'=({ s with H:=H' }:St).put o.dst x ∧
  ((i≠c/\o.guard=none/\((dP o=true/\ka ops i (dv cx s o.op) seen=true)∨vm o.op=false)/\bF cx f lo o s (fun a H=>some (a,H))=some (x,H')) ∨
   (i=c/\uC ops c (D5 cx o) seen=true/\call q (eR cx s o.op) s.H (DD cx o lo s.H)=some (.ret x,H')))
theorem wI {call:aS} {c q:Nat} {kp:A->ay->Option R} {k:St->Option R} {r:R} {seen:List (Nat×A)} (hq:∀ o,ops[c]? = some o->∀ (s:St) (lo':Nat) (k:A->ay->Option R) (kp:A->ay->Option R),dA cx call (iH cx s o.op) (eR cx s o.op) s.H lo' k kp=(call q (eR cx s o.op) s.H lo').bind fun r=>bJ r.1 (fun a=>k a r.2) (fun a=>kp a r.2)) :
  ∀ (L:List Nat) (s:St),Hi cx call f lo ops c kp L seen s k=some r ->
  ∃ (S:Nat->St) (x:Nat->A) (P:Nat),S 0=s/\P<=L.length/\(∀ p i,p<P->L[p]? = some i->tA cx call f lo ops c q seen i (S p) (x p) (S (p+1))) ∧
   ((P=L.length/\k (S P)=some r)∨(∃ o y H2,L[P]? = some c/\ops[c]? = some o/\call q (eR cx (S P) o.op) (S P).H (DD cx o lo (S P).H)=some (.pan y,H2)/\kp y H2=some r))
 | [],s,h=>⟨fun _=>s,fun _=>.any,0,rfl,Nat.le_refl _,fun p i hp _=>absurd hp (Nat.not_lt_zero _),.inl ⟨rfl,h⟩⟩
 | i :: L,s,h=>by
  unfold Hi at h
  split at h
  ·cases h
  rename_i o ho
  have go:∀ (x0:A) (H':ay),tA cx call f lo ops c q seen i s x0 (({ s with H:=H' }:St).put o.dst x0)->Hi cx call f lo ops c kp L seen (({ s with H:=H' }:St).put o.dst x0) k=some r ->
    ∃ (S:Nat->St) (x:Nat->A) (P:Nat),S 0=s/\P<=(i :: L).length/\(∀ p j,p<P->(i :: L)[p]? = some j->tA cx call f lo ops c q seen j (S p) (x p) (S (p+1))) ∧
     ((P=(i :: L).length/\k (S P)=some r)∨(∃ o y H2,(i :: L)[P]? = some c/\ops[c]? = some o/\call q (eR cx (S P) o.op) (S P).H (DD cx o lo (S P).H)=some (.pan y,H2)/\kp y H2=some r)):=fun x0 H' hst h=>by
   obtain ⟨S,x,P,e1,e2,e3,e4⟩:=wI hq L _ h
   refine⟨fun p=>match p with | 0=>s | p+1=>S p,fun p=>match p with | 0=>x0 | p+1=>x p,P+1,rfl,Nat.succ_le_succ e2,fun p j hp hj=>?_,?_⟩
   ·cases p with
    | zero =>
     simp at hj
     subst hj
     show tA cx call f lo ops c q seen i s x0 (S 0)
     rw[e1]; exact hst
    | succ p=>exact e3 p j (by omega) (by simpa using hj)
   ·rcases e4 with ⟨e4,e5⟩ | ⟨o,y,H2,e4,e5⟩
    ·exact .inl ⟨by rw[e4]; rfl,e5⟩
    ·exact .inr ⟨o,y,H2,by simpa using e4,e5⟩
  cases hic:Nat.beq i c with
  | true =>
   rw[hic] at h
   simp only[cond_true] at h
   obtain rfl:=Nat.eq_of_beq_eq_true hic
   obtain ⟨hsn,h⟩:=bf h
   rw[hq o ho] at h
   obtain ⟨⟨out,H2⟩,hcl,h⟩:=bt h
   cases out with
   | pan y=>exact⟨fun _=>s,fun _=>.any,0,rfl,Nat.zero_le _,fun p i hp _=>absurd hp (Nat.not_lt_zero _),.inr ⟨o,y,H2,rfl,ho,hcl,h⟩⟩
   | ret v=>exact go v H2 ⟨o,H2,ho,rfl,.inr ⟨rfl,hsn,hcl⟩⟩ h
  | false =>
   rw[hic] at h
   simp only[cond_false] at h
   obtain ⟨hc,h⟩:=bf h
   obtain ⟨hs,h⟩:=bf h
   rw[NA,Bool.and_eq_true,Bool.and_eq_true,Bool.or_eq_true,Bool.not_eq_true'] at hc
   rw[gZ] at h
   obtain ⟨⟨x0,H'⟩,h1,h⟩:=bt h
   refine go x0 H' ⟨o,H',ho,rfl,.inl ⟨fun e=>by subst e; simp at hic,la hc.1.1,?_,h1⟩⟩ h
   rcases hc.1.2 with hk | hk
   ·exact .inl ⟨hk,by rw[hk] at hs; exact hs⟩
   ·exact .inr hk
theorem yY {call:aS} (hcall:dW cx Bs call) (hb0:Bs H0 gs ws) (horc:jA cx) (hF:gq F) (hmx:cx.P.follows .mixedOrders=true) {k:E->St->Option R} {r:R} {Q:Exit->Act->World->Prop} {m:Nat} (gP:tj ops N=true) (chkt:fm ops m=true)
  (hg:Good cx N mb lo H0 gs ws w0 s g a w) (hd:∀ o∈ops.toList,∀ d,o.dst=some d->d<N)
  (O:List Nat) (M P pc:Nat) (S:Nat->St) (x:Nat->A) (hM:M<=P) (hpc:M<=pc) (hP:P<=O.length) (hO:∀ i:Nat,i<m->∃ p:Nat,O[p]? = some i) (hOs:∀ p i:Nat,O[p]? = some i->i<m) (hnd:∀ p q i:Nat,O[p]? = some i->O[q]? = some i->p=q)
  (hdep:∀ p q i j:Nat,O[p]? = some i->O[q]? = some j->fp ops i j=true->q<p) (hE:∀ p q i j:Nat,M<=q->q<p->O[p]? = some i->O[q]? = some j->fp ops i j=true)
  (h0:S 0=s) (hH:∀ p,p<=M->(S p).H=s.H) (hgd:∀ (p i:Nat) (o:Oper),O[p]? = some i->ops[i]? = some o->o.guard=none)
  (hlk:∀ (p i:Nat) (o:Oper),p<P->O[p]? = some i->ops[i]? = some o->∀ t,look (S (p+1)).fr t=if o.dst=some t then x p else look (S p).fr t)
  (Z:Prop) (hlen:∀ p,M<=p->p<P->(pc<=p->Z)->(S p).H.length<=(S (p+1)).H.length)
  (hpure:∀ (p i:Nat) (o:Oper),p<M->O[p]? = some i->ops[i]? = some o->∀ e,M+e<=P->(pc<M+e->Z)->(∀ q j:Nat,M<=q->q<M+e->O[q]? = some j->fw ops i j)->gv cx call f o ⟨(S p).fr,(S (M+e)).H⟩=some (x p))
  (heff:∀ (p i:Nat) (o:Oper),M<=p->p<P->O[p]? = some i->ops[i]? = some o->∀ (g':Gh) (W:World) (ev:Operand->Value),sQ cx (S p) g' w0 o.op ev W->(∀ (G:Nat) (vs:List Value),cx.glob G=some vs->bB (S p).H g' W G 0 vs)->Bs (S p).H g' W ->
   DV F n cx.P o ev W (fun v w'=>∃ g2,Rel (S (p+1)).H g2 w0 w'/\Ext (S p).H g' W (S (p+1)).H g2 w'/\(∀ b,b<lo->b<(S p).H.length->(S (p+1)).H[b]? = (S p).H[b]?)/\g2.S=g'.S/\VR (S (p+1)).H g2 w' (x p) v/\(p=pc->Z)) (fun _ _=>False))
  (hpan:∀ (i:Nat) (o:Oper),O[P]? = some i->ops[i]? = some o->∃ (H2:ay) (y:A),k (.pan y) ⟨[],H2⟩=some r/\∀ (g':Gh) (W:World) (ev:Operand->Value),sQ cx (S P) g' w0 o.op ev W->(∀ (G:Nat) (vs:List Value),cx.glob G=some vs->bB (S P).H g' W G 0 vs)->Bs (S P).H g' W ->
   DV F n cx.P o ev W (fun _ _=>False) (fun ch w'=>∃ c g2,ch=[{ v:=c,recovered:=false }]/\Rel H2 g2 w0 w'/\Ext (S P).H g' W H2 g2 w'/\(S P).H.length<=H2.length/\(∀ b,b<lo->b<(S P).H.length->H2[b]? = (S P).H[b]?)/\g2.S=g'.S/\VR H2 g2 w' y c))
  (hend:P=O.length->fA cx call f lo ops (ops.toList.drop m) (S P) k=some r)
  (hk:∀ s' g' a' w',Good cx N mb lo H0 gs ws w0 s' g' a' w'->k .normal s'=some r->Q .normal a' w')
  (hp:∀ x s' g' a' w' c,Good cx N mb lo H0 gs ws w0 s' g' a' w'->VR s'.H g' w' x c->k (.pan x) s'=some r->Q (.panic [{ v:=c,recovered:=false }]) a' w'):LW F n cx.P ops Q a w:=by
 have hr:=hg.sr.rel
 have hm2:m<=ops.size:=by
  simp only[fm,Bool.and_eq_true,decide_eq_true_eq] at chkt
  exact chkt.1.1
 have hdst:∀ {i o},ops[i]? = some o->cg ops i=o.dst:=fun {i o} ho=>by unfold cg; rw[ho]; rfl
 have hop:∀ {p i:Nat},O[p]? = some i->∃ o,ops[i]? = some o:=fun {p i} h=>⟨_,Array.getElem?_eq_getElem (Nat.lt_of_lt_of_le (hOs _ _ h) hm2)⟩
 have hdlt:∀ {i t},cg ops i=some t->∃ o,ops[i]? = some o/\o.dst=some t:=fun {i t} h=>by
  unfold cg at h
  cases ho:ops[i]? with
  | none=>rw[ho] at h; cases h
  | some o=>rw[ho] at h; exact⟨o,rfl,h⟩
 have hat:∀ p:Nat,p<O.length->∃ (i:Nat) (o:Oper),O[p]? = some i/\ops[i]? = some o:=fun p h=>by
  have h1:=List.getElem?_eq_getElem h
  obtain ⟨o,ho⟩:=hop h1
  exact⟨_,o,h1,ho⟩
 have lookA:∀ t q j:Nat,O[q]? = some j->cg ops j=some t->∀ p,q<p->p<=P->look (S p).fr t=x q:=by
  intro t q j hq hj p
  obtain ⟨oj,hoj,hdj⟩:=hdlt hj
  induction p with
  | zero=>intro h; omega
  | succ p ih =>
   intro h1 h2
   by_cases e:q=p
   ·subst e; rw[hlk q j oj (by omega) hq hoj,if_pos hdj]
   ·obtain ⟨i,o,hi,ho⟩:=hat p (by omega)
    obtain ⟨c4,_⟩:=mf gP ho
    rw[hlk p i o (by omega) hi ho,if_neg fun hdo=>c4 j t (fun e2=>e (hnd q p j hq (e2 ▸ hi))) hdo hj]
    exact ih (by omega) (by omega)
 have lookB:∀ t p:Nat,p<=P->(∀ q j:Nat,q<p->O[q]? = some j->cg ops j≠some t)->look (S p).fr t=look s.fr t:=by
  intro t p
  induction p with
  | zero=>intro _ _; rw[h0]
  | succ p ih =>
   intro h1 h2
   obtain ⟨i,o,hi,ho⟩:=hat p (by omega)
   rw[hlk p i o (by omega) hi ho,if_neg fun hdo=>h2 p i (by omega) hi (by rw[hdst ho]; exact hdo)]
   exact ih (by omega) fun q j hq hj=>h2 q j (by omega) hj
 have lenM:∀ e,M+e<=P->(pc<M+e->Z)->s.H.length<=(S (M+e)).H.length:=by
  intro e
  induction e with
  | zero=>intro _ _; rw[Nat.add_zero,hH M (Nat.le_refl _)]; exact Nat.le_refl _
  | succ e ih=>intro h hz; exact Nat.le_trans (ih (by omega) (fun h=>hz (by omega))) (hlen (M+e) (by omega) (by omega) (fun h=>hz (by omega)))
 refine sx (F:=F) ⟨hF.1,hF.2.1⟩ hmx N m hg.siz gP chkt (fun D a' W=>∃ (e:Nat) (g':Gh),M+e<=P/\(pc<M+e->Z)/\(∀ q j:Nat,M<=q->O[q]? = some j->(D j↔q<M+e))/\Rel (S (M+e)).H g' w0 W/\Ext s.H g w (S (M+e)).H g' W/\(∀ b,b<lo->b<s.H.length->(S (M+e)).H[b]? = s.H[b]?)/\g'.S=g.S ∧
   (∀ q j t:Nat,O[q]? = some j->cg ops j=some t->D j->VR (S (M+e)).H g' W (x q) (slot a' t))/\(∀ t,(∀ j,j<m->cg ops j=some t->¬ D j)->VR (S (M+e)).H g' W (look s.fr t) (slot a' t))) ?_ ?_ ?_
 ·intro D hD
  have hb:=Ext.below hr (Below.refl w.heap.size w).drew
  refine⟨0,g,hM,fun h=>by omega,fun q j hq _=>⟨fun h=>absurd h (hD j),fun h=>by omega⟩,?_,?_,fun b _ _=>?_,rfl,fun q j t _ _ h=>absurd h (hD j),fun t _=>?_⟩
  ·rw[Nat.add_zero,hH M (Nat.le_refl _)]; exact hr.eE (Below.refl _ _).drew
  ·rw[Nat.add_zero,hH M (Nat.le_refl _)]; exact hb
  ·rw[Nat.add_zero,hH M (Nat.le_refl _)]
  ·rw[Nat.add_zero,hH M (Nat.le_refl _)]; exact VR.ext hb _ _ (hg.sr.fr t)
 ·rintro D D' i o him ho hDm hDi hbef hcl hD' a' W ⟨e,g',heP,heZ,hDe,hrW,heW,hlow,hgS,hv1,hv2⟩ hsz hdf
  obtain ⟨p,hpi⟩:=hO i him
  have hpl:p<O.length:=(List.getElem?_eq_some_iff.1 hpi).1
  obtain ⟨c4,c5⟩:=mf gP ho
  rw[if_pos (by simp[Region.wanted,hgd p i o hpi ho])]
  have hbs:Bs (S (M+e)).H g' W:=hcall.up _ _ _ _ _ _ hb0 (hg.ext.trans heW)
  have hgl:∀ (G:Nat) (vs:List Value),cx.glob G=some vs->bB (S (M+e)).H g' W G 0 vs:=fun G vs hG=>(hg.sr.gl G vs hG).ext heW
  have hlook:p<=P->∀ t∈o.looksAt ops,VR (S (M+e)).H g' W (look (S p).fr t) (a'.tmps.getD t undef):=fun hpP t ht=>by
   by_cases hj:∃ j,cg ops j=some t/\fp ops i j=true
   ·obtain ⟨j,hjt,hjb⟩:=hj
    obtain ⟨oj,hoj,_⟩:=hdlt hjt
    obtain ⟨q,hq⟩:=hO j (Nat.lt_trans (np gP (fJ i j hjb)) him)
    have hqp:=hdep p q i j hpi hq hjb
    rw[lookA t q j hq hjt p hqp hpP]
    exact hv1 q j t hq hjt (hbef j hjb)
   ·have hno:∀ j,cg ops j=some t->fp ops i j=false:=fun j hjt=>by
     cases hb:fp ops i j with
     | false=>rfl
     | true=>exact absurd ⟨j,hjt,hb⟩ hj
    rw[lookB t p hpP fun q j hq hqj hjt=>by
     rcases c5 j t hjt ht with h | h | h
     ·subst h; have:=hnd p q i hpi hqj; omega
     ·rw[hno j hjt] at h; cases h
     ·have:=hdep q p j i hqj hpi h; omega]
    exact hv2 t fun j _ hjt hDj=>by
     rcases c5 j t hjt ht with h | h | h
     ·subst h; exact hDi hDj
     ·rw[hno j hjt] at h; cases h
     ·exact hDi (hcl j i hDj h)
  have hopr:p<=P->sQ cx ⟨(S p).fr,(S (M+e)).H⟩ g' w0 o.op a'.eval W:=fun hpP=>⟨hrW,fun y hy=>ox (fun t ht=>by
    refine hlook hpP t ?_
    subst ht
    unfold Oper.looksAt
    exact List.mem_append.2 (.inl (List.mem_filterMap.2 ⟨.tmp t,hy,rfl⟩))) hgl,fun _=>rfl⟩
  have fin:p<P->∀ (e':Nat) (g2:Gh) (W':World) (v:Value),M+e'<=P->(pc<M+e'->Z)->(∀ q j:Nat,M<=q->O[q]? = some j->(D' j↔q<M+e'))->Rel (S (M+e')).H g2 w0 W'->Ext (S (M+e)).H g' W (S (M+e')).H g2 W'->(∀ b,b<lo->b<s.H.length->(S (M+e')).H[b]? = s.H[b]?)->g2.S=g.S->VR (S (M+e')).H g2 W' (x p) v ->
    ∃ (e:Nat) (g':Gh),M+e<=P/\(pc<M+e->Z)/\(∀ q j:Nat,M<=q->O[q]? = some j->(D' j↔q<M+e))/\Rel (S (M+e)).H g' w0 W'/\Ext s.H g w (S (M+e)).H g' W'/\(∀ b,b<lo->b<s.H.length->(S (M+e)).H[b]? = s.H[b]?)/\g'.S=g.S ∧
     (∀ q j t:Nat,O[q]? = some j->cg ops j=some t->D' j->VR (S (M+e)).H g' W' (x q) (slot (a'.put o.dst v) t))/\(∀ t,(∀ j,j<m->cg ops j=some t->¬ D' j)->VR (S (M+e)).H g' W' (look s.fr t) (slot (a'.put o.dst v) t)):=by
   intro hpP e' g2 W' v h1 hz' h2 h3 h4 h5 h6 h7
   refine⟨e',g2,h1,hz',h2,h3,heW.trans h4,h5,h6,fun q j t hq hjt hDj=>?_,fun t ht=>?_⟩
   ·rcases (hD' j).1 hDj with rfl | hDj
    ·have hdt:o.dst=some t:=by rw[<-hdst ho]; exact hjt
     rw[hdt,fi (by rw[hsz]; exact hd o (by rw[<-Array.mem_def]; exact Array.mem_of_getElem? ho) t hdt),hnd q p j hq hpi]
     exact h7
    ·have hne:j≠i:=fun e=>hDi (e ▸ hDj)
     rw[dL (fun hdt=>c4 j t (Ne.symm hne) hdt hjt)]
     exact VR.ext h4 _ _ (hv1 q j t hq hjt hDj)
   ·rw[dL (fun hdt=>ht i him (by rw[hdst ho]; exact hdt) ((hD' i).2 (.inl rfl)))]
    exact VR.ext h4 _ _ (hv2 t (fun j hjm hjt hDj=>ht j hjm hjt ((hD' j).2 (.inr hDj))))
  by_cases hpM:p<M
  ·
   have hun:∀ q j:Nat,M<=q->q<M+e->O[q]? = some j->fw ops i j:=fun q j hq1 hq2 hq=>by
    unfold fw
    rw[Bool.or_eq_false_iff]
    constructor
    ·cases hb:fp ops i j with
     | false=>rfl
     | true=>have:=hdep p q i j hpi hq hb; omega
    ·cases hb:fp ops j i with
     | false=>rfl
     | true=>exact absurd (hcl j i ((hDe q j hq1 hq).2 hq2) hb) hDi
   have hev:=hpure p i o hpM hpi ho e heP heZ hun
   refine .inl ((mP hcall horc hev F n g' w0 W a'.eval hF (hopr (by omega)) hgl hbs).mono ?_)
   rintro v w' ⟨k1,k2,k3⟩
   refine fin (by omega) e g' w' v heP heZ (fun q j hq1 hq=>⟨fun h=>?_,fun h=>(hD' j).2 (.inr ((hDe q j hq1 hq).2 h))⟩) k2 k3 hlow hgS k1
   rcases (hD' j).1 h with rfl | h
   ·have:=hnd p q j hpi hq; omega
   ·exact(hDe q j hq1 hq).1 h
  ·
   have hpe:p=M+e:=by
    have h1:¬ p<M+e:=fun h=>hDi ((hDe p i (by omega) hpi).2 h)
    refine Nat.le_antisymm (Nat.le_of_not_lt fun h2=>?_) (by omega)
    obtain ⟨j,oj,hj,_⟩:=hat (M+e) (by omega)
    have:=(hDe (M+e) j (by omega) hj).1 (hbef j (hE p (M+e) i j (by omega) h2 hpi hj))
    omega
   subst hpe
   by_cases hpP:M+e<P
   ·refine(heff (M+e) i o (by omega) hpP hpi ho g' W a'.eval (hopr (by omega)) hgl hbs).elim (fun h=>.inl (h.mono ?_)) fun ⟨f',args,w',h1,h2⟩=>.inr ⟨f',args,w',h1,h2.mono fun e' w'' h=>?_⟩
    ·rintro v w' ⟨g2,k1,k2,k3,k4,k5,k6⟩
     refine fin hpP (e+1) g2 w' v (by omega) (fun _=>if he0:pc<M+e then heZ he0 else k6 (by omega)) (fun q j hq1 hq=>⟨fun h=>?_,fun h=>?_⟩) k1 k2 (fun b hb hb'=>?_) (k4.trans hgS) k5
     ·rcases (hD' j).1 h with rfl | h
      ·have:=hnd (M+e) q j hpi hq; omega
      ·have:=(hDe q j hq1 hq).1 h; omega
     ·refine(hD' j).2 ?_
      by_cases hq2:q=M+e
      ·subst hq2; rw[hq] at hpi; exact .inl (by cases hpi; rfl)
      ·exact .inr ((hDe q j hq1 hq).2 (by omega))
     ·rw[show M+(e+1)=M+e+1 from rfl,k3 b hb (Nat.lt_of_lt_of_le hb' (lenM e heP heZ))]; exact hlow b hb hb'
    ·cases e' with
     | returned v =>
      obtain ⟨g2,k1,k2,k3,k4,k5,k6⟩:=h
      refine fin hpP (e+1) g2 w'' v (by omega) (fun _=>if he0:pc<M+e then heZ he0 else k6 (by omega)) (fun q j hq1 hq=>⟨fun h=>?_,fun h=>?_⟩) k1 k2 (fun b hb hb'=>?_) (k4.trans hgS) k5
      ·rcases (hD' j).1 h with rfl | h
       ·have:=hnd (M+e) q j hpi hq; omega
       ·have:=(hDe q j hq1 hq).1 h; omega
      ·refine(hD' j).2 ?_
       by_cases hq2:q=M+e
       ·subst hq2; rw[hq] at hpi; exact .inl (by cases hpi; rfl)
       ·exact .inr ((hDe q j hq1 hq).2 (by omega))
      ·rw[show M+(e+1)=M+e+1 from rfl,k3 b hb (Nat.lt_of_lt_of_le hb' (lenM e heP heZ))]; exact hlow b hb hb'
     | panicked ch=>exact h.elim
     | outgrown=>exact h.elim
   ·obtain rfl:P=M+e:=by omega
    obtain ⟨H2,y,hky,hst⟩:=hpan i o hpi ho
    have pan:∀ (ch:List PanicEntry) (w':World),(∃ c g2,ch=[{ v:=c,recovered:=false }]/\Rel H2 g2 w0 w'/\Ext (S (M+e)).H g' W H2 g2 w'/\(S (M+e)).H.length<=H2.length/\(∀ b,b<lo->b<(S (M+e)).H.length->H2[b]? = (S (M+e)).H[b]?)/\g2.S=g'.S/\VR H2 g2 w' y c)->Q (.panic ch) a' w':=by
     rintro ch w' ⟨c,g2,rfl,k1,k2,k3,k4,k5,k6⟩
     have hx:=heW.trans k2
     refine hp y ⟨[],H2⟩ g2 a' w' c ⟨⟨k1,fun t=>by rw[show look [] t=.any from rfl,VR]; trivial,fun G vs hG=>(hg.sr.gl G vs hG).ext hx⟩,hg.ext.trans hx,Nat.le_trans hg.len (Nat.le_trans (lenM e heP heZ) k3),fun b hb hb'=>?_,hsz,?_,Nat.le_trans hg.mbw hx.size,k5.trans (hgS.trans hg.st)⟩ k6 hky
     ·have hb2:b<s.H.length:=Nat.lt_of_lt_of_le hb' hg.len
      show H2[b]? = _
      rw[k4 b hb (Nat.lt_of_lt_of_le hb2 (lenM e heP heZ)),hlow b hb hb2]
      exact hg.low b hb hb'
     ·rw[hdf]; exact hg.dfr.lZ hx.kept
    refine(hst g' W a'.eval (hopr (Nat.le_refl _)) hgl hbs).elim (fun h=>.inl (h.mono fun _ _ h=>h.elim)) fun ⟨f',args,w',h1,h2⟩=>.inr ⟨f',args,w',h1,h2.mono fun e' w'' h=>?_⟩
    cases e' with
    | returned v=>exact h.elim
    | panicked ch=>exact pan ch w'' h
    | outgrown=>exact h.elim
 ·rintro D a' W hall hDm ⟨e,g',heP,heZ,hDe,hrW,heW,hlow,hgS,hv1,hv2⟩ hdf hsz
  have hdone:M+e=O.length:=by
   refine Nat.le_antisymm (by omega) (Nat.le_of_not_lt fun hlt=>?_)
   obtain ⟨j,oj,hj,_⟩:=hat (M+e) hlt
   have:=(hDe (M+e) j (by omega) hj).1 (hall j (hOs _ _ hj))
   omega
  obtain rfl:P=M+e:=by omega
  refine fB (f:=f) (ops:=ops) hcall hb0 horc hF hk hp _ (S (M+e)) g' a' W (fun o ho=>hd o (List.mem_of_mem_drop ho)) ⟨⟨hrW,fun t=>?_,fun G vs hG=>(hg.sr.gl G vs hG).ext heW⟩,hg.ext.trans heW,Nat.le_trans hg.len (lenM e heP heZ),fun b hb hb'=>?_,hsz,by rw[hdf]; exact hg.dfr.lZ heW.kept,Nat.le_trans hg.mbw heW.size,hgS.trans hg.st⟩ (hend hdone)
  ·by_cases ht:∃ q j:Nat,O[q]? = some j/\cg ops j=some t
   ·obtain ⟨q,j,hq,hjt⟩:=ht
    rw[lookA t q j hq hjt (M+e) (by have:=(List.getElem?_eq_some_iff.1 hq).1; omega) (Nat.le_refl _)]
    exact hv1 q j t hq hjt (hall j (hOs q j hq))
   ·rw[lookB t (M+e) (Nat.le_refl _) fun q j _ hq hjt=>ht ⟨q,j,hq,hjt⟩]
    exact hv2 t fun j hj hjt=>absurd (let ⟨q,hq⟩:=hO j hj; ⟨q,j,hq,hjt⟩) ht
  ·have hb2:b<s.H.length:=Nat.lt_of_lt_of_le hb' hg.len
   rw[hlow b hb hb2]; exact hg.low b hb hb'
theorem w7 {o:Oper} (h:vo cx o=true):∃ c q,o.op=.call c/\c.callee=.value (.func q)/\cW cx.P q=true/\cx.isOrc q=false/\(cx.cut q≠0∨cx.fre q=true)/\D5 cx o=cx.cut q/\(∀ lo H,DD cx o lo H=bif cx.fre q then H.length else lo):=by
 unfold vo at h
 split at h
 ·rename_i c ho
  split at h
  ·rename_i q hq
   simp only[Bool.and_eq_true,Bool.not_eq_true',Bool.or_eq_true] at h
   refine⟨c,q,ho,hq,h.1.1,h.1.2,h.2.imp (fun h e=>by rw[e] at h; cases h) id,by unfold D5; rw[ho]; simp only[hq],fun lo H=>by unfold DD; rw[ho]; simp only[hq]⟩
  ·cases h
 ·cases h
theorem qn:∀ {L ps:List Nat},uV ops ps L=true->(∀ k∈ps,∀ i∈L,fp ops i k=true)/\L.Pairwise fun k i=>fp ops i k=true
 | [],ps,_=>⟨fun _ _ _ h=>(by cases h),.nil⟩
 | t :: L,ps,h=>by
  unfold uV at h
  have h1:ps.all (fun p=>fp ops t p)=true:=by cases hh:ps.all (fun p=>fp ops t p)<;>simp_all
  rw[h1] at h
  obtain ⟨h2,h3⟩:=qn (L:=L) (ps:=t :: ps) h
  refine⟨fun k hk i hi=>?_,.cons (fun i hi=>h2 t (by simp) i hi) h3⟩
  rcases List.mem_cons.1 hi with rfl | hi
  ·exact List.all_eq_true.1 h1 k hk
  ·exact h2 k (by simp[hk]) i hi
theorem qE (p:Nat->Bool) (n:Nat):((List.range n).filter p).Pairwise (· < ·):=List.Pairwise.filter _ List.pairwise_lt_range
theorem vK {α:Type} {R:α->α->Prop} {L:List α} (h:L.Pairwise R) {p q:Nat} {x y:α} (hp:L[p]? = some x) (hq:L[q]? = some y) (hpq:p<q):R x y:=by
 obtain ⟨h1,rfl⟩:=List.getElem?_eq_some_iff.1 hp
 obtain ⟨h2,rfl⟩:=List.getElem?_eq_some_iff.1 hq
 exact List.pairwise_iff_getElem.1 h p q h1 h2 hpq
theorem oB {c m:Nat}:∀ {l:List (Nat×A)},uC ops c m l=true->∀ p∈l,fp ops c p.1=false->∀ b,blk? p.2=some b->m<=b
 | [],_,p,hp,_,_,_=>by cases hp
 | q :: l,h,p,hp,hb,b,hbl=>by
  unfold uC at h
  cases hq:fp ops c q.1 with
  | true =>
   rw[hq] at h
   rcases List.mem_cons.1 hp with rfl | hp
   ·rw[hq] at hb; cases hb
   ·exact oB h p hp hb b hbl
  | false =>
   rw[hq] at h
   simp only[cond_false] at h
   cases hm:cJ m q.2 with
   | false=>rw[hm] at h; cases h
   | true =>
    rw[hm] at h
    rcases List.mem_cons.1 hp with rfl | hp
    ·unfold cJ at hm
     rw[hbl] at hm
     exact Nat.le_of_ble_eq_true hm
    ·exact oB h p hp hb b hbl
theorem wH {call:aS} (hcall:dW cx Bs call) (hb0:Bs H0 gs ws) (horc:jA cx) (hF:gq F) (hmx:cx.P.follows .mixedOrders=true) {c:Nat} {k:E->St->Option R} {r:R} {Q:Exit->Act->World->Prop}
  (hg:Good cx N mb lo H0 gs ws w0 s g a w) (hd:∀ o∈ops.toList,∀ d,o.dst=some d->d<N) (h:zN cx call f lo N ops c s k=some r)
  (hk:∀ s' g' a' w',Good cx N mb lo H0 gs ws w0 s' g' a' w'->k .normal s'=some r->Q .normal a' w')
  (hp:∀ x s' g' a' w' c,Good cx N mb lo H0 gs ws w0 s' g' a' w'->VR s'.H g' w' x c->k (.pan x) s'=some r->Q (.panic [{ v:=c,recovered:=false }]) a' w'):LW F n cx.P ops Q a w:=by
 unfold zN at h
 split at h
 ·cases h
 rename_i oc hoc
 obtain ⟨m,hm0,h⟩:=bt h
 have hmt:fm ops m=true:=by
  unfold qc at hm0
  exact List.find?_some hm0
 have hm2:m<=ops.size:=by
  simp only[fm,Bool.and_eq_true,decide_eq_true_eq] at hmt
  exact hmt.1.1
 obtain ⟨hchk,h⟩:=bf h
 simp only[FU,Bool.and_eq_true] at hchk
 obtain ⟨⟨⟨⟨⟨hcg,hcut⟩,gP⟩,hch⟩,hcl⟩,hTm⟩:=hchk
 obtain ⟨SL,xL,seen,hS0,h,_,hL⟩:=wD _ _ _ h
 obtain ⟨cc,q,hop,hcal,hcb,hno,hc0,hcm,hloC⟩:=w7 hcut
 let L1:=Aq ops c m
 let T:=pP ops c m
 let M:=L1.length
 have hlt:∀ {i j},fp ops i j=true->j<i:=fun {i j} hb=>np gP (fJ i j hb)
 have memL:∀ {i},i∈L1↔i<m/\i ∉ T:=fun {i}=>by
  simp only[L1,Aq,List.mem_filter,List.mem_range,List.all_eq_true,Bool.not_eq_true']
  refine and_congr_right fun _=>⟨fun h hi=>?_,fun h j hj=>?_⟩
  ·have:=h i hi; simp at this
  ·cases hb:Nat.beq i j with
   | false=>rfl
   | true=>exact absurd (Nat.eq_of_beq_eq_true hb ▸ hj) h
 have hTm:∀ i∈T,i<m:=fun i hi=>Nat.le_of_ble_eq_true (List.all_eq_true.1 hTm i hi)
 have hcl:∀ i∈L1,∀ j∈T,fp ops i j=false:=fun i hi j hj=>by
  have:=List.all_eq_true.1 (List.all_eq_true.1 hcl i hi) j hj
  simpa using this
 have hcT:c∈T:=by
  show c∈Jn ops c m++c :: _
  simp
 have pwL:L1.Pairwise (· < ·):=qE _ _
 have hch2:=(qn hch).2
 have pwT:T.Pairwise (· < ·):=hch2.imp fun h=>hlt h
 obtain ⟨pt,hpt,hpt2⟩:=List.getElem_of_mem hcT
 have hptc:T[pt]? = some c:=by rw[List.getElem?_eq_getElem hpt,hpt2]
 let O:=L1++T
 have oL:∀ {p:Nat},p<M->O[p]? = L1[p]?:=fun {p} hp=>List.getElem?_append_left hp
 have oT:∀ {p:Nat},M<=p->O[p]? = T[p - M]?:=fun {p} hp=>List.getElem?_append_right hp
 have hOl:O.length=M+T.length:=List.length_append
 have kinds:∀ {p i:Nat},O[p]? = some i->(p<M/\L1[p]? = some i/\i<m/\i ∉ T)∨(M<=p/\T[p - M]? = some i/\i∈T):=fun {p i} hp=>by
  rcases Nat.lt_or_ge p M with h1 | h1
  ·rw[oL h1] at hp
   exact .inl ⟨h1,hp,memL.1 (List.mem_of_getElem? hp)⟩
  ·rw[oT h1] at hp
   exact .inr ⟨h1,hp,List.mem_of_getElem? hp⟩
 have hO:∀ i:Nat,i<m->∃ p:Nat,O[p]? = some i:=fun i hi=>by
  have:i∈O:=by
   show i∈L1++T
   rw[List.mem_append]
   by_cases e:i∈T
   ·exact .inr e
   ·exact .inl (memL.2 ⟨hi,e⟩)
  obtain ⟨p,hp,he⟩:=List.getElem_of_mem this
  exact⟨p,by rw[List.getElem?_eq_getElem hp,he]⟩
 have hOs:∀ p i:Nat,O[p]? = some i->i<m:=fun p i hp=>by
  rcases kinds hp with ⟨_,_,h,_⟩ | ⟨_,_,h⟩
  ·exact h
  ·exact hTm i h
 have pos:∀ {L:List Nat} {p q i j:Nat},L.Pairwise (· < ·)->L[p]? = some i->L[q]? = some j->j<i->q<p:=fun {L p q i j} pw hp hq hji=>by
  refine Nat.lt_of_not_le fun hle=>?_
  rcases Nat.lt_or_eq_of_le hle with h | h
  ·have:=vK pw hp hq h; omega
  ·subst h; rw[hp] at hq; cases hq; omega
 have inj:∀ {L:List Nat} {p q i:Nat},L.Pairwise (· < ·)->L[p]? = some i->L[q]? = some i->p=q:=fun {L p q i} pw hp hq=>by
  rcases Nat.lt_trichotomy p q with h | h | h
  ·have:=vK pw hp hq h; omega
  ·exact h
  ·have:=vK pw hq hp h; omega
 have hnd:∀ p q i:Nat,O[p]? = some i->O[q]? = some i->p=q:=fun p q i hp hq=>by
  rcases kinds hp with ⟨a1,a2,_,a3⟩ | ⟨a1,a2,a3⟩<;>rcases kinds hq with ⟨b1,b2,_,b3⟩ | ⟨b1,b2,b3⟩
  ·exact inj pwL a2 b2
  ·exact absurd b3 a3
  ·exact absurd a3 b3
  ·have:=inj pwT a2 b2; omega
 have hdep:∀ p q i j:Nat,O[p]? = some i->O[q]? = some j->fp ops i j=true->q<p:=fun p q i j hp hq hb=>by
  have hji:=hlt hb
  rcases kinds hp with ⟨a1,a2,_,a3⟩ | ⟨a1,a2,a3⟩<;>rcases kinds hq with ⟨b1,b2,_,b3⟩ | ⟨b1,b2,b3⟩
  ·exact pos pwL a2 b2 hji
  ·rw[hcl i (List.mem_of_getElem? a2) j b3] at hb; cases hb
  ·omega
  ·have:=pos pwT a2 b2 hji; omega
 have hE:∀ p q i j:Nat,M<=q->q<p->O[p]? = some i->O[q]? = some j->fp ops i j=true:=fun p q i j hq0 hqp hp hq=>by
  rw[oT (by omega)] at hp; rw[oT hq0] at hq
  exact vK hch2 hq hp (by omega)
 have gL:∀ {p i:Nat} {o:Oper},L1[p]? = some i->ops[i]? = some o->o.guard=none/\(bG o=0∨(bG o=1/\(i,addrOf cx (SL p) o.op)∈seen)∨(bG o=2/\pe (partsOf cx (SL p) o.op)=true))/\gv cx call f o (SL p)=some (xL p)/\SL (p+1)=(SL p).put o.dst (xL p):=fun {p i o} hp ho=>by
  obtain ⟨o',e1,e2⟩:=hL p i hp
  rw[ho] at e1; cases e1
  exact e2
 have hSH:∀ p,p<=M->(SL p).H=s.H:=fun p=>by
  induction p with
  | zero=>intro _; rw[hS0]
  | succ p ih =>
   intro hp
   obtain ⟨i,hi⟩:∃ i,L1[p]? = some i:=⟨_,List.getElem?_eq_getElem (by show p<M; omega)⟩
   obtain ⟨o,ho⟩:∃ o,ops[i]? = some o:=⟨_,Array.getElem?_eq_getElem (Nat.lt_of_lt_of_le (memL.1 (List.mem_of_getElem? hi)).1 hm2)⟩
   rw[(gL hi ho).2.2.2,fW]; exact ih (by omega)
 obtain ⟨ST,xT,PT,hT0,hPT,hT,hTe⟩:=wI (q:=q) (fun o ho s lo' k kp=>by
  rw[hoc] at ho; cases ho
  have hfv:iH cx s oc.op=.fn (.func q) [] []:=by unfold iH; rw[hop]; simp only[hcal]; rfl
  rw[hfv]
  simp only[dA,hcb,hno,cond_true,cond_false,List.nil_append,List.append_nil]) _ _ h
 have hPT:PT<=T.length:=hPT
 have hT:∀ p i,p<PT->T[p]? = some i->tA cx call f lo ops c q seen i (ST p) (xT p) (ST (p+1)):=hT
 have hT0:ST 0=SL M:=hT0
 let S:Nat->St:=fun p=>if p<=M then SL p else ST (p - M)
 let x:Nat->A:=fun p=>if p<M then xL p else xT (p - M)
 let pc:=M+pt
 have sL:∀ {p},p<=M->S p=SL p:=fun {p} hp=>if_pos hp
 have sT:∀ {p},M<=p->S p=ST (p - M):=fun {p} hp=>by
  by_cases h:p<=M
  ·obtain rfl:p=M:=by omega
   rw[sL (Nat.le_refl _),Nat.sub_self,hT0]
  ·exact if_neg h
 have xL':∀ {p},p<M->x p=xL p:=fun {p} hp=>if_pos hp
 have xT':∀ {p},M<=p->x p=xT (p - M):=fun {p} hp=>if_neg (by omega)
 have tT:∀ {p i:Nat},M<=p->p<M+PT->O[p]? = some i->tA cx call f lo ops c q seen i (S p) (x p) (S (p+1)):=fun {p i} hp hp2 h1=>by
  rw[oT hp] at h1
  have:=hT _ i (by omega) h1
  rw[sT hp,xT' hp,sT (show M<=p+1 by omega),show p+1 - M=p - M+1 by omega]
  exact this
 have oC:∀ {p:Nat},O[p]? = some c->p=pc:=fun {p} hp=>hnd p pc c hp (by rw[oT (Nat.le_add_right _ _),show M+pt - M=pt by omega]; exact hptc)
 have oC':O[pc]? = some c:=by rw[oT (Nat.le_add_right _ _),show M+pt - M=pt by omega]; exact hptc
 let Z:Prop:=(S pc).H.length<=(S (pc+1)).H.length/\∀ b,b<(S pc).H.length->cx.cut q<=b->(S (pc+1)).H[b]? = (S pc).H[b]?
 have stepB:∀ {p i:Nat},M<=p->p<M+PT->(pc<=p->Z)->O[p]? = some i->(S p).H.length<=(S (p+1)).H.length/\∀ b,b<(S p).H.length->(∀ j a,(j,a)∈seen->blk? a=some b->fw ops j i->False)∨(S (p+1)).H[b]? = (S p).H[b]?:=fun {p i} hp hp2 hz h1=>by
  obtain ⟨o,H',ho,hs',⟨hic,_,e1,e2⟩ | ⟨rfl,hsn,e2⟩⟩:=tT hp hp2 h1
  ·rw[hs',fW]
   rcases e1 with ⟨e1,e4⟩ | e1
   ·obtain ⟨t1,t2⟩:=pQ e1 e2
    refine⟨t1,fun b hb=>?_⟩
    by_cases hc:∀ c,blk? (dv cx (S p) o.op)=some c->b≠c
    ·exact .inr (t2 b hb hc)
    ·refine .inl fun j y hj hy hun=>hc fun c hcc e5=>?_
     subst e5
     have:=gM e4 (j,y) hj (by unfold fw at hun ⊢; rw[Bool.or_comm]; exact hun)
     unfold apart at this
     simp only[hy,hcc,Nat.beq_refl] at this
     cases this
   ·obtain ⟨y,hy⟩:=rp e2 e1
    cases hy
    exact⟨Nat.le_refl _,fun b _=>.inr rfl⟩
  ·obtain rfl:=oC h1
   have hz:=hz (Nat.le_refl _)
   refine⟨hz.1,fun b hbl=>?_⟩
   by_cases hb:cx.cut q<=b
   ·exact .inr (hz.2 b hbl hb)
   ·rw[hoc] at ho; cases ho
    rw[hcm] at hsn
    refine .inl fun j y hj hy hun=>hb (oB hsn (j,y) hj ?_ b hy)
    unfold fw at hun
    rw[Bool.or_eq_false_iff] at hun
    exact hun.2
 have atO:∀ p,p<O.length->∃ i,O[p]? = some i:=fun p hp=>⟨_,List.getElem?_eq_getElem hp⟩
 have lenE:∀ e,M+e<=M+PT->(pc<M+e->Z)->s.H.length<=(S (M+e)).H.length:=by
  intro e
  induction e with
  | zero=>intro _ _; rw[Nat.add_zero,sL (Nat.le_refl _),hSH M (Nat.le_refl _)]; exact Nat.le_refl _
  | succ e ih =>
   intro he hz
   obtain ⟨i,hi⟩:=atO (M+e) (by omega)
   exact Nat.le_trans (ih (by omega) fun h=>hz (by omega)) (stepB (by omega) (by omega) (fun h=>hz (by omega)) hi).1
 have post:∀ (st:St) (out:Out) (H2:ay),call q (eR cx st oc.op) st.H (DD cx oc lo st.H)=some (out,H2)->∀ (g':Gh) (W:World) (ev:Operand->Value),sQ cx st g' w0 oc.op ev W->(∀ (G:Nat) (vs:List Value),cx.glob G=some vs->bB st.H g' W G 0 vs)->Bs st.H g' W->∃ args w',(execOp ev oc).run cx.P W=.ok (.enter q args) w'/\CallsIn F (n - 1) cx.P q args w' (gw st.H g' w0 W (DD cx oc lo st.H) (out,H2)):=fun st out H2 hcl2 g' W ev ho hgl hbs=>by
  have hce:callee? cx st oc.op=some (q,eR cx st oc.op):=by
   unfold callee? eR
   rw[hop]
   simp only[hcal,bW,hcb,cond_true,List.nil_append,List.append_nil]
  obtain ⟨_,cargs,hrun,hv⟩:=jV ho hce
  have hci:CallsIn F.plain (n - 1) cx.P q cargs.toArray W _:=hcall.fn q _ st.H (DD cx oc lo st.H) (out,H2) (iD hcb) hcl2 F.plain (n - 1) g' w0 W cargs hF rfl hbs ho.rel hgl hv
  exact⟨_,_,hrun,hci⟩
 have hlo':∀ (st:St) b,b<lo->b<st.H.length->b<DD cx oc lo st.H:=fun st b h1 h2=>by
  rw[hloC]
  cases cx.fre q with
  | true=>exact h2
  | false=>exact h1
 have hgL:∀ {p i:Nat} {o:Oper},p<M->O[p]? = some i->ops[i]? = some o->L1[p]? = some i:=fun {p i o} hp h1 _=>by rw[<-oL hp]; exact h1
 have hgd:∀ (p i:Nat) (o:Oper),O[p]? = some i->ops[i]? = some o->o.guard=none:=fun p i o hpi ho=>la (List.all_eq_true.1 hcg o (List.mem_of_getElem? (i:=i) (by rw[List.getElem?_take,if_pos (hOs p i hpi),Array.getElem?_toList]; exact ho)))
 refine yY (f:=f) hcall hb0 horc hF hmx gP hmt hg hd O M (M+PT) pc S x (Nat.le_add_right _ _) (Nat.le_add_right _ _) (by omega) hO hOs hnd hdep hE (by rw[sL (Nat.zero_le _),hS0]) (fun p hp=>by rw[sL hp]; exact hSH p hp) hgd (fun p i o hp h1 ho t=>?_) Z (fun p h1 h2 hz=>?_) (fun p i o hp h1 ho e he hze hun=>?_) (fun p i o h1 h2 hpi ho g' W ev hopr hgl hbs=>?_) (fun i o hi ho=>?_) (fun hPe=>?_) hk hp
 ·rcases Nat.lt_or_ge p M with h2 | h2
  ·rw[sL (by omega),sL (by omega),xL' h2,(gL (hgL h2 h1 ho) ho).2.2.2,fM]
  ·obtain ⟨o',H',ho',hs',_⟩:=tT h2 hp h1
   rw[ho] at ho'; cases ho'
   rw[hs',fM]
 ·obtain ⟨i,hi⟩:=atO p (by omega)
  exact(stepB h1 h2 hz hi).1
 ·obtain ⟨_,e1,e2,_⟩:=gL (hgL hp h1 ho) ho
  rw[sL (by omega),xL' hp]
  have hsi:(⟨(SL p).fr,(SL p).H⟩:St)=SL p:=rfl
  rcases e1 with e1 | ⟨e1,e3⟩ | ⟨e1,e3⟩
  ·rw[ry e1 (H':=(SL p).H)]; exact e2
  ·rw[<-vh e1 (H:=(SL p).H) (fun b hb=>?_)]
   ·exact e2
   ·obtain ⟨B,hB⟩:=tS (s:=SL p) e1 e2 hb
    rw[hSH p (by omega)] at hB ⊢
    have hbl:=(List.getElem?_eq_some_iff.1 hB).1
    clear hsi
    induction e with
    | zero=>rw[Nat.add_zero,sL (Nat.le_refl _),hSH M (Nat.le_refl _)]
    | succ e ih =>
     obtain ⟨j,hj⟩:=atO (M+e) (by omega)
     rcases (stepB (by omega) (by omega) (fun h=>hze (by omega)) hj).2 b (Nat.lt_of_lt_of_le hbl (lenE e (by omega) (fun h=>hze (by omega)))) with h4 | h4
     ·exact(h4 i _ e3 hb (hun (M+e) j (by omega) (by omega) hj)).elim
     ·rw[show M+(e+1)=M+e+1 from rfl,h4]
      exact ih (by omega) (fun h=>hze (by omega)) fun q' j' h5 h6 h7=>hun q' j' h5 (by omega) h7
  ·rw[<-wJ e1 e3]; exact e2
 ·obtain ⟨o',H',ho',hs',⟨hic,_,e1,e2⟩ | ⟨hic,hsn,e2⟩⟩:=tT h1 h2 hpi
  ·rw[ho] at ho'; cases ho'
   obtain ⟨c',w',x',H3,g2,k1,k2,k3,k4,k5,k6,k7,k8⟩:=jW hopr e2
   cases k2
   refine .inl (jO k1 ⟨g2,?_,?_,?_,k8,?_,fun e=>(hic (by rw[e,oC'] at hpi; cases hpi; rfl)).elim⟩)
   ·rw[hs',fW]; exact k3
   ·rw[hs',fW]; exact k4
   ·rw[hs',fW]; exact fun b hb hb'=>by first | exact k7 b hb hb' | exact k6 b hb hb'
   ·rw[hs',fW]; first | exact k5 | exact k6
  ·subst hic
   rw[ho] at ho'; cases ho'
   rw[hoc] at ho; cases ho
   obtain rfl:=oC hpi
   obtain ⟨args,w',e1,e3⟩:=post (S pc) _ H' e2 g' W ev hopr hgl hbs
   refine .inr ⟨q,args,w',e1,e3.mono ?_⟩
   rintro e w'' ⟨g2,k1,k2,k3,k4,k6,k5⟩
   rw[hs',fW]
   cases e with
   | returned c' =>
    refine⟨g2,k1,k2,fun b hb hb'=>k4 b (hlo' _ b hb hb') hb',k6,k5,fun _=>⟨by rw[hs',fW]; exact k3,fun b hb hcb'=>?_⟩⟩
    rw[hs',fW]
    cases hfr:cx.fre q with
    | true =>
     refine k4 b ?_ hb
     rw[hloC,hfr]
     exact hb
    | false=>exact(hcall.ct q _ _ _ _ (iD hcb) (hc0.resolve_right (by rw[hfr]; simp)) (by omega) e2).2 b hcb'
   | panicked _=>exact k5.elim
   | outgrown=>exact k5.elim
 ·rcases hTe with ⟨hTe,_⟩ | ⟨o',y,H2,e0,e1,e2,e3⟩
  ·rw[oT (Nat.le_add_right _ _),show M+PT - M=PT by omega,hTe,List.getElem?_eq_none (Nat.le_refl _)] at hi
   cases hi
  ·rw[oT (Nat.le_add_right _ _),show M+PT - M=PT by omega,e0] at hi
   cases hi
   rw[hoc] at ho e1; cases ho; cases e1
   refine⟨H2,y,e3,fun g' W ev hopr hgl hbs=>?_⟩
   rw[sT (Nat.le_add_right _ _),show M+PT - M=PT by omega] at hopr hgl hbs ⊢
   obtain ⟨args,w',e1,e4⟩:=post (ST PT) _ H2 e2 g' W ev hopr hgl hbs
   refine .inr ⟨q,args,w',e1,e4.mono ?_⟩
   rintro e w'' ⟨g2,k1,k2,k3,k4,k6,k5⟩
   cases e with
   | returned _=>exact k5.elim
   | panicked ch =>
    obtain ⟨c',rfl,hv⟩:=k5
    exact⟨c',g2,rfl,k1,k2,k3,fun b hb hb'=>k4 b (hlo' _ b hb hb') hb',k6,hv⟩
   | outgrown=>exact k5.elim
 ·rcases hTe with ⟨hTe,hkT⟩ | ⟨o',y,H2,e0,_⟩
  ·rw[sT (Nat.le_add_right _ _),show M+PT - M=PT by omega]
   exact g7 _ _ _ hkT
  ·have hl:PT=T.length:=by omega
   have e0':T[PT]? = some c:=e0
   rw[hl,List.getElem?_eq_none (Nat.le_refl _)] at e0'
   cases e0'
end
section
open Go.RowKit
variable {H H':ay} {g g':Gh} {w0 w w':World} {cx:Cx} {s:St} {a:Act} {N lo:Nat} {mb:Mb} {H0:ay} {gs:Gh} {ws:World}
theorem Rel.rng (hr:Rel H g w0 w) {b l:Nat} {st:cp} {r0:Loop} (hB:H[b]? = some (.rng st)) (B':aD) (ko:Option Nat) (o':Obj) (hk:g.mu b=some l) (hw:w.heap[l]? = some (.loop r0))
  (hcase:(∃ st',B'=.rng st'/\ko=some l/\o'=.loop (iQ (g.lr b) st'))∨(B'=.dead/\ko=none)) :
  Rel (H.set b B') (g.put b ko (g.ga b)) w0 (w.putObj l o')/\Ext H g w (H.set b B') (g.put b ko (g.ga b)) (w.putObj l o'):=by
 have hlt:b<H.length:=(List.getElem?_eq_some_iff.1 hB).1
 have hll:l<w.heap.size:=(hr.dom b l hk).2.2
 have hoth:∀ j,j≠l->(w.putObj l o').heap[j]? = w.heap[j]?:=fun j hj=>World.putObj_heap_other hj
 have hsz:(w.putObj l o').heap.size=w.heap.size:=by simp
 have hkol:∀ k,ko=some k->k=l:=fun k hk'=>by
  rcases hcase with ⟨_,_,h,_⟩ | ⟨_,h⟩<;>rw[h] at hk'<;>cases hk'; rfl
 have he:Ext H g w (H.set b B') (g.put b ko (g.ga b)) (w.putObj l o'):=by
  refine⟨fun k o v hs hc=>?_,fun c C hC=>?_,fun k x h=>(hoth k (fun e=>by subst e; rw[hw] at h; cases h)).trans h,by rw[hsz]; exact Nat.le_refl _,fun k marr cl hs hm=>?_,fun k _ hn=>hoth k (fun e=>hn b (e ▸ hk)),fun c k h=>?_⟩
  rotate_right 1
  ·by_cases e:c=b
   ·subst e; rw[Gh.bz] at h; exact .inl ⟨c,(hkol k h) ▸ hk⟩
   ·exact .inl ⟨c,by rwa [Gh.aJ _ _ _ e] at h⟩
  ·have hne:k≠l:=fun e=>by
    subst e
    obtain ⟨o1,ho,hc1⟩:=cells_of_cell hc
    rw[hw] at ho; cases ho; cases hc1
   refine⟨(World.cell?_of_block (a:=⟨k,o,none⟩) (hoth k hne)).trans hc,hs.1,fun c hck=>?_⟩
   by_cases e:c=b
   ·subst e; rw[Gh.bz] at hck; exact absurd (hkol k hck) hne
   ·rw[Gh.aJ _ _ _ e] at hck
    obtain ⟨es,els,h1,h2⟩:=hs.2 c hck
    exact⟨es,els,by rw[List.getElem?_set_ne (Ne.symm e)]; exact h1,h2⟩
  ·by_cases e:c=b
   ·subst e
    rw[hB] at hC; cases hC
    refine⟨B',by rw[List.getElem?_set_self hlt],?_⟩
    rcases hcase with ⟨st',rfl,rfl,_⟩ | ⟨rfl,_⟩
    ·exact⟨by rw[Gh.bz,hk],rfl⟩
    ·trivial
   ·refine⟨C,by rw[List.getElem?_set_ne (Ne.symm e)]; exact hC,?_⟩
    have hne:∀ k,g.mu c=some k->k≠l:=fun k hk' e2=>e (hr.inj c b k hk' (e2 ▸ hk))
    cases C with
    | box _=>exact Gh.aJ _ _ _ e
    | row wr es' els'=>cases wr with
     | true=>exact⟨rfl,rfl,Gh.aJ _ _ _ e⟩
     | false=>exact⟨rfl,⟨[],by rw[Gh.fa _ _ _ e]; simp⟩,(hr.blk c _ hC).len,Nat.le_refl _,fun _=>⟨Gh.aJ _ _ _ e,fun k arr ty hk' ha=>⟨arr,(hoth k (hne k hk')).trans ha,Nat.le_refl _⟩⟩⟩
    | rng _=>exact⟨Gh.aJ _ _ _ e,rfl⟩
    | mp _ _ _=>exact Gh.aJ _ _ _ e
    | dead=>trivial
    | hole=>trivial
  ·have hne:k≠l:=fun e=>by subst e; rw[hw] at hm; cases hm
   refine⟨(hoth k hne).trans hm,hs.1,fun c hck=>?_⟩
   by_cases e:c=b
   ·subst e; rw[Gh.bz] at hck; exact absurd (hkol k hck) hne
   ·rw[Gh.aJ _ _ _ e] at hck
    obtain ⟨es,els,h1,h2⟩:=hs.2 c hck
    exact⟨es,els,by rw[List.getElem?_set_ne (Ne.symm e)]; exact h1,h2⟩
 refine⟨⟨hr.below.trans ((Below.refl w0.heap.size w).grown (grownBy_putObj' w l _) (hr.below.size) (fun k e=>by cases e; exact(hr.dom b l hk).2.1)),fun c k hck=>?_,fun c d k h1 h2=>?_,hr.yV he,hr.xi he,fun c C hC=>?_⟩,he⟩
 ·by_cases e:c=b
  ·subst e
   rw[Gh.bz] at hck
   rw[hkol k hck]
   exact⟨by simpa using hlt,(hr.dom c l hk).2.1,by rw[hsz]; exact hll⟩
  ·rw[Gh.aJ _ _ _ e] at hck
   have:=hr.dom c k hck
   exact⟨by simpa using this.1,this.2.1,by rw[hsz]; exact this.2.2⟩
 ·by_cases e:c=b
  ·by_cases e':d=b
   ·rw[e,e']
   ·subst e
    rw[Gh.bz] at h1
    rw[Gh.aJ _ _ _ e'] at h2
    rw[hkol k h1] at h2
    exact hr.inj _ _ l hk h2
  ·by_cases e':d=b
   ·subst e'
    rw[Gh.bz] at h2
    rw[Gh.aJ _ _ _ e] at h1
    rw[hkol k h2] at h1
    exact hr.inj _ _ l h1 hk
   ·rw[Gh.aJ _ _ _ e] at h1
    rw[Gh.aJ _ _ _ e'] at h2
    exact hr.inj c d k h1 h2
 ·by_cases e:c=b
  ·subst e
   rw[List.getElem?_set_self hlt] at hC; cases hC
   rcases hcase with ⟨st',rfl,rfl,rfl⟩ | ⟨rfl,rfl⟩
   ·exact⟨l,Gh.bz _ _ _ _,World.putObj_heap_same hll⟩
   ·exact Gh.bz _ _ _ _
  ·rw[List.getElem?_set_ne (Ne.symm e)] at hC
   have h:=hr.blk c C hC
   have hne:∀ k,g.mu c=some k->k≠l:=fun k hk' e2=>e (hr.inj c b k hk' (e2 ▸ hk))
   cases C with
   | box cs=>obtain ⟨k,arr,ty,h1,h2,h3⟩:=h; exact⟨k,arr,ty,(Gh.aJ _ _ _ e).trans h1,(hoth k (hne k h1)).trans h2,bp.ext he _ _ h3⟩
   | row wr es' els'=>cases wr with
    | true =>
     obtain ⟨ds,h1,h2,h3⟩:=h
     exact⟨ds,bn.ext he _ _ h1,h2,fun hp=>let ⟨k,arr,ty,e1,e2,e3⟩:=h3 hp; ⟨k,arr,ty,(Gh.aJ _ _ _ e).trans e1,(hoth k (hne k e1)).trans e2,e3⟩⟩
    | false =>
     obtain ⟨h1,h2⟩:=h
     refine⟨?_,?_⟩
     ·rw[Gh.fa _ _ _ e]; exact bn.ext he _ _ h1
     ·rw[Gh.fa _ _ _ e]; exact h2
   | rng st=>obtain ⟨k,h1,h2⟩:=h; exact⟨k,(Gh.aJ _ _ _ e).trans h1,(hoth k (hne k h1)).trans h2⟩
   | mp _ _ _=>obtain ⟨k,arr,cl,h1,h2,h3,h4⟩:=h; exact⟨k,arr,cl,(Gh.aJ _ _ _ e).trans h1,(hoth k (hne k h1)).trans h2,h3,bp.ext he _ _ h4⟩
   | dead=>exact(Gh.aJ _ _ _ e).trans h
   | hole=>exact(Gh.aJ _ _ _ e).trans h
def Gh.zW (g:Gh) (b:Nat) (r:Loop):Gh:={ g with lr:=fun c=>if c=b then r else g.lr c }
theorem Rel.zW (hr:Rel H g w0 w) (r:Loop):Rel H (g.zW H.length r) w0 w/\Ext H g w H (g.zW H.length r) w:=by
 have hlr:∀ {c:Nat} {B:aD},H[c]? = some B->(g.zW H.length r).lr c=g.lr c:=fun {c B} h=>by
  have:=(List.getElem?_eq_some_iff.1 h).1
  simp only[Gh.zW]; rw[if_neg (by omega)]
 have he:Ext H g w H (g.zW H.length r) w:=by
  refine⟨fun k o v hs hc=>⟨hc,hs⟩,fun b B hB=>⟨B,hB,?_⟩,fun _ _ h=>h,Nat.le_refl _,fun k arr cl hs hm=>⟨hm,hs⟩,fun _ _ _=>rfl,fun b k h=>.inl ⟨b,h⟩⟩
  cases B with
  | box _=>rfl
  | row wr es els=>cases wr with
   | true=>exact⟨rfl,rfl,rfl⟩
   | false=>exact⟨rfl,⟨[],by simp[Gh.zW]⟩,(hr.blk b _ hB).len,Nat.le_refl _,fun _=>⟨rfl,fun k arr ty _ ha=>⟨arr,ha,Nat.le_refl _⟩⟩⟩
  | rng _=>exact⟨rfl,hlr hB⟩
  | mp _ _ _=>rfl
  | dead=>trivial
  | hole=>trivial
 refine⟨⟨hr.below,hr.dom,hr.inj,hr.out,hr.own,fun b B hB=>?_⟩,he⟩
 have h:=hr.blk b B hB
 cases B with
 | box cs=>obtain ⟨k,arr,ty,h1,h2,h3⟩:=h; exact⟨k,arr,ty,h1,h2,bp.ext he _ _ h3⟩
 | row wr es els=>cases wr with
  | true=>obtain ⟨ds,h1,h2,h3⟩:=h; exact⟨ds,bn.ext he _ _ h1,h2,h3⟩
  | false=>exact⟨bn.ext he _ _ h.1,h.2⟩
 | rng st=>obtain ⟨k,h1,h2⟩:=h; exact⟨k,h1,by rw[hlr hB]; exact h2⟩
 | mp _ _ _=>obtain ⟨k,arr,cl,h1,h2,h3,h4⟩:=h; exact⟨k,arr,cl,h1,h2,h3,bp.ext he _ _ h4⟩
 | dead=>exact h
 | hole=>exact h
theorem Rel.begin (hr:Rel H g w0 w) (r:Loop) (hr0:iQ r .ready=r) :
  Rel (H++[.rng .ready]) ((g.zW H.length r).put H.length (some (w.heap.size+1)) []) w0 ((w.alloc (.deferred (some []))).alloc (.loop r)) ∧
  Ext H g w (H++[.rng .ready]) ((g.zW H.length r).put H.length (some (w.heap.size+1)) []) ((w.alloc (.deferred (some []))).alloc (.loop r)):=by
 have hb1:Below w.heap.size w (w.alloc (.deferred (some []))):=(Below.refl _ w).alloc (Nat.le_refl _) _
 have r1:=hr.eE hb1
 have e1:=Ext.below hr hb1
 obtain ⟨r2,e2⟩:=r1.zW r
 have hs:(w.alloc (.deferred (some []))).heap.size=w.heap.size+1:=by simp
 have hb2:Below (w.alloc (.deferred (some []))).heap.size (w.alloc (.deferred (some []))) ((w.alloc (.deferred (some []))).alloc (.loop r)):=(Below.refl _ _).alloc (Nat.le_refl _) _
 obtain ⟨r3,e3⟩:=r2.push hb2 (.rng .ready) (some (w.heap.size+1)) [] (fun k hk=>by cases hk; exact⟨hs.symm,by simp⟩) (fun _=>⟨w.heap.size+1,Gh.bz _ _ _ _,by
  have:=World.alloc_heap_new (w.alloc (.deferred (some []))) (.loop r)
  rw[hs] at this
  rw[this]
  have:((g.zW H.length r).put H.length (some (w.heap.size+1)) []).lr H.length=r:=by simp[Gh.put,Gh.zW]
  rw[this,hr0]⟩)
 exact⟨r3,e1.trans (e2.trans e3)⟩
def ER (s:St) (g:Gh) (w:World):E->Exit->Prop
 | .normal,.normal=>True
 | .exit i,.exit j=>i=j
 | .goto i,.goto j=>i=j
 | .ret,.ret=>True
 | .pan x,.panic ch=>∃ c,ch=[{ v:=c,recovered:=false }]/\VR s.H g w x c
 | _,_=>False
def tt (cx:Cx) (lo N:Nat) (Bs:ay->Gh->World->Prop) (F1:St->(E->St->Option R)->Option R) (c:Code):Prop :=
 ∀ (F:Fence) (n:Nat) (mb:Mb) (w0:World) (r:R) (H0:ay) (gs:Gh) (ws:World) (k:E->St->Option R) (Q:Exit->Act->World->Prop) (s:St) (g:Gh) (a:Act) (w:World),gq F->Bs H0 gs ws->Good cx N mb lo H0 gs ws w0 s g a w->F1 s k=some r ->
  (∀ e e' s' g' a' w',Good cx N mb lo H0 gs ws w0 s' g' a' w'->ER s' g' w' e e'->k e s'=some r->Q e' a' w')->c.wpIn F n cx.P Q a w
theorem q9 {N:Nat}:∀ {ps:List Nat},wg N ps=true->∀ p∈ps,p<N
 | [],_,p,hp=>by cases hp
 | q :: ps,h,p,hp=>by
  unfold wg at h
  obtain ⟨h1,h2⟩:=Ch h
  rcases List.mem_cons.1 hp with rfl | hp
  ·simpa [Nat.blt_eq] using h1
  ·exact q9 h2 p hp
theorem Al:∀ (ps:List Nat) (as:List A) (cs:List Value) (fr:List (Nat×A)) (ts:Array Value),(∀ t,VR H g w (look fr t) (ts.getD t undef))->bp H g w as cs->as.length=ps.length->(∀ p∈ps,p<ts.size) ->
  (∀ t,VR H g w (look (Ak ps as fr) t) (((ps.zip cs).foldl (fun ts p=>ts.setIfInBounds p.1 p.2) ts).getD t undef))/\((ps.zip cs).foldl (fun ts p=>ts.setIfInBounds p.1 p.2) ts).size=ts.size
 | [],as,cs,fr,ts,h,_,hl,_=>by
  have:as=[]:=List.eq_nil_of_length_eq_zero hl
  subst this
  exact⟨h,rfl⟩
 | p :: ps,[],cs,fr,ts,h,_,hl,_=>by cases hl
 | p :: ps,x :: as,cs,fr,ts,h,hv,hl,hlt=>by
  rw[bp] at hv
  obtain ⟨d,ds,rfl,h1,h2⟩:=hv
  have hp:=hlt p (by simp)
  have:=Al ps as ds ((p,x) :: fr) (ts.setIfInBounds p d) (fun t=>by
   rw[ek]
   by_cases e:p=t
   ·subst e
    rw[if_pos rfl,Array.getD_eq_getD_getElem?,Array.getElem?_setIfInBounds_self_of_lt hp]
    exact h1
   ·rw[if_neg e,Array.getD_eq_getD_getElem?,Array.getElem?_setIfInBounds_ne e,<-Array.getD_eq_getD_getElem?]
    exact h t) h2 (by simpa using hl) (fun q hq=>by simpa using hlt q (by simp[hq]))
  exact⟨this.1,by simpa using this.2⟩
theorem xp {β:Type} {H:ay} {b:Nat} {x:Option β} {r:β} (h:Bm H b x=some r):H[b]? = some (.rng .ready)/\x=some r:=by
 unfold Bm at h
 split at h
 ·rename_i e; exact⟨e,h⟩
 ·cases h
theorem oQ {β:Type} {H:ay} {b:Nat} {x:Option β} {r:β} (h:zA H b x=some r):H[b]? = some (.rng .busy)/\x=some r:=by
 unfold zA at h
 split at h
 ·rename_i e; exact⟨e,h⟩
 ·cases h
theorem Ext.GV (he:Ext H g w H' g' w') {b:Nat} {st st':cp} (h:H[b]? = some (.rng st)) (h':H'[b]? = some (.rng st')):g'.mu b=g.mu b/\g'.lr b=g.lr b:=by
 obtain ⟨B',hB',ht⟩:=he.blk b _ h
 rw[h'] at hB'
 cases hB'
 exact ht
theorem xu {Bs:ay->Gh->World->Prop} {F1 F2:St->(E->St->Option R)->Option R} {ps:Array Nat} {asg body:Code} (h1:tt cx lo N Bs F1 asg) (h2:tt cx lo N Bs F2 body) {b lo' l:Nat} {fr:List (Nat×A)} {args:List A} {cargs:List Value} {r:R} {rec0:Loop}
  (hps:wg N ps.toList=true) (hlob:lo<=b) (e1:rec0.params=ps) (e2:rec0.assign=asg) (e3:rec0.body=body) (hsz:rec0.tmps.size=N)
  (h:roundOf F1 F2 lo b ps.toList fr args H lo'=some r) {F:Fence} {n:Nat} (hF:gq F) (hr:Rel H g w0 w) (hbs:Bs H g w) (hgl:∀ (G:Nat) (vs:List Value),cx.glob G=some vs->bB H g w G 0 vs)
  (hfr:∀ t,VR H g w (look fr t) (rec0.tmps.getD t undef)) (hlr:g.lr b=rec0) (hv:bp H g w args cargs) (hmu:g.mu b=some l):YieldAt F n cx.P l cargs.toArray w (gw H g w0 w lo' r):=by
 unfold roundOf at h
 obtain ⟨hc,h⟩:=bf h
 rw[Bool.and_eq_true] at hc
 have hlo:lo'<=lo:=by simpa [Nat.ble_eq] using hc.2
 have hlen:args.length=ps.toList.length:=by simpa using hc.1
 obtain ⟨hB,h⟩:=xp h
 have hrecAt:∀ {H2:ay} {g2:Gh} {w2:World} {st:cp},Rel H2 g2 w0 w2->Ext H g w H2 g2 w2->H2[b]? = some (.rng st)->g2.mu b=some l/\g2.lr b=rec0/\w2.heap[l]? = some (.loop (iQ rec0 st)):=fun {H2 g2 w2 st} hr2 he2 hB2=>by
  obtain ⟨m1,m2⟩:=he2.GV hB hB2
  obtain ⟨k,k1,k2⟩:=hr2.blk b _ hB2
  rw[m1,hmu] at k1; cases k1
  rw[m2,hlr] at k2
  exact⟨m1.trans hmu,m2.trans hlr,k2⟩
 obtain ⟨_,_,hw⟩:=hrecAt hr (Ext.refl hr) hB
 have hcl:=hv.length
 have hy:=run_yield (P:=cx.P) (args:=cargs.toArray) hw (by show cargs.toArray.size=rec0.params.size; rw[e1]; simp at hlen ⊢; omega)
 refine⟨_,_,_,_,hy,roundIn_of_wpIn (hF.2.1 _) ?_⟩
 show rec0.assign.wpIn _ _ _ _ _ _
 rw[e2]
 have hfold:(((iQ rec0 .ready).params.zip cargs.toArray).foldl (fun tmps (t,a)=>tmps.setIfInBounds t a) (iQ rec0 .ready).tmps)=(ps.toList.zip cargs).foldl (fun ts p=>ts.setIfInBounds p.1 p.2) rec0.tmps:=by
  show ((rec0.params.zip cargs.toArray).foldl _ rec0.tmps)=_
  rw[e1,<-Array.foldl_toList,Array.toList_zip]
 have hp:=Al ps.toList args cargs fr rec0.tmps hfr hv hlen (fun p hp=>by rw[hsz]; exact q9 hps p hp)
 refine h1 (F.inRound l) n ⟨w.heap.size,[],false⟩ w0 r H g w _ _ ⟨Ak ps.toList args fr,H⟩ g _ w hF hbs ⟨⟨hr,fun t=>by
  show VR H g w _ (Array.getD (((iQ rec0 .ready).params.zip cargs.toArray).foldl (fun tmps (t,a)=>tmps.setIfInBounds t a) (iQ rec0 .ready).tmps) t undef)
  rw[hfold]; exact hp.1 t,hgl⟩,Ext.refl hr,Nat.le_refl _,fun _ _ _=>rfl,by
  show Array.size (((iQ rec0 .ready).params.zip cargs.toArray).foldl (fun tmps (t,a)=>tmps.setIfInBounds t a) (iQ rec0 .ready).tmps)=N
  rw[hfold,hp.2,hsz],gW.start _ _ _ _,Nat.le_refl _,rfl⟩ h ?_
 intro e e' s2 g2 a2 w2 hg2 he h
 cases e with
 | exit i=>cases h
 | goto i=>cases h
 | ret=>cases h
 | pan x=>cases h
 | normal =>
  cases e' with
  | normal =>
   obtain ⟨hB2,h⟩:=xp h
   obtain ⟨m2,l2,hw2⟩:=hrecAt hg2.sr.rel hg2.ext hB2
   have hbr:=run_beginRound (P:=cx.P) hw2 rfl
   obtain ⟨q1,q2⟩:=hg2.sr.rel.rng hB2 (.rng .busy) (some l) (.loop (iQ rec0 .busy)) m2 hw2 (.inl ⟨.busy,rfl,rfl,by rw[l2]⟩)
   refine⟨_,hbr,?_⟩
   have hg3:=hg2.step (dst:=none) (x:=.any) (c:=undef) q1 q2 (by simp) (m6 s2.H _ hlob) rfl (by rw[VR]; trivial) (fun d hd=>by cases hd)
   show rec0.body.wpIn _ _ _ _ _ _
   rw[e3]
   refine h2 (F.inRound l) n ⟨w.heap.size,[],false⟩ w0 r H g w _ _ ⟨s2.fr,s2.H.set b (.rng .busy)⟩ _ a2 _ hF hbs hg3 h ?_
   intro e e' s3 g3 a3 w3 hg he h
   have fin:∀ (st:cp) (jump:Option Code) (v:Bool),s3.H[b]? = some (.rng .busy)->jump.isNone=v->iQ rec0 st={ iQ rec0 .busy with state:=if jump.isNone then .ready else .done,pending:=jump }->r=(.ret (.v (.bool v)),s3.H.set b (.rng st)) ->
     ∃ x W,(Instr.endRound l jump).run cx.P w3=.ok x W/\gw H g w0 w lo' r (.returned x) W:=fun st jump v hB3 hjv hst hrr=>by
    obtain ⟨m3,l3,hw3⟩:=hrecAt hg.sr.rel hg.ext hB3
    have her:=run_endRound (P:=cx.P) jump hw3
    obtain ⟨p1,p2⟩:=hg.sr.rel.rng hB3 (.rng st) (some l) (.loop (iQ rec0 st)) m3 hw3 (.inl ⟨st,rfl,rfl,by rw[l3]⟩)
    subst hrr
    rw[<-hst] at her
    refine⟨_,_,her,_,p1,hg.ext.trans p2,by simpa using hg.len,fun c hc hc'=>?_,hg.st,?_⟩
    ·show (s3.H.set b (.rng st))[c]? = _
     rw[List.getElem?_set_ne (by omega)]
     exact hg.low c (by omega) hc'
    ·show VR _ _ _ (.v (.bool v)) (.bool jump.isNone)
     rw[VR,hjv]
   cases e with
   | normal=>cases e'<;>first
     | (obtain ⟨hB3,h⟩:=oQ h; exact fin .ready none true hB3 rfl rfl (by cases h; rfl))
     | exact he.elim
   | exit i=>cases e'<;>first
     | (obtain rfl:i=_:=he; obtain ⟨hB3,h⟩:=oQ h; exact fin (.done (.exit i)) (some (.exit i)) false hB3 rfl rfl (by cases h; rfl))
     | exact he.elim
   | goto i=>cases e'<;>first
     | (obtain rfl:i=_:=he; obtain ⟨hB3,h⟩:=oQ h; exact fin (.done (.goto i)) (some (.goto i)) false hB3 rfl rfl (by cases h; rfl))
     | exact he.elim
   | ret=>cases e'<;>first
     | (obtain ⟨hB3,h⟩:=oQ h; exact fin (.done .ret) (some .ret) false hB3 rfl rfl (by cases h; rfl))
     | exact he.elim
   | pan x=>cases h
  | _=>exact he.elim
end
section
open Go.RowKit
variable {F:Fence} {n:Nat} {P:Program}
theorem m5 {fn:Func} {tmps:Array Value} {R:Ending->World->Prop} {B:Nat} {ds:List Deferred}:∀ (ms:List Deferred) (u:FrameMode) (W:World),u≠.run->Marks B W ms ->
  (∀ W',cb B W W'->(∀ (k:Nat) (o:Loop),W.heap[k]? = some (.loop o)->W'.heap[k]? = some (.loop o))->LeavesInM F n P fn tmps R ds u W')->LeavesInM F n P fn tmps R (ms++ds) u W:=by
 intro ms u
 induction ms with
 | nil=>intro W _ _ h; exact h W (cb.refl _ _) (fun _ _ h=>h)
 | cons d ms ih =>
  rintro W hu ⟨rs,e,h2,h3⟩ h
  match rs,e,h2,h3 with
  | r :: rs,e,h2,h3 =>
   cases e
   obtain ⟨hB,hr⟩:=h3 r (by simp)
   refine⟨hu,.inl ⟨r,_,rfl,run_takeDeferred hr,ih _ hu ⟨rs,rfl,(List.nodup_cons.1 h2).2,fun q hq=>⟨(h3 q (by simp[hq])).1,?_⟩⟩ fun W' hc hl=>?_⟩⟩
   ·have hne:q≠r:=fun e=>(List.nodup_cons.1 h2).1 (e ▸ hq)
    exact(World.putObj_heap_other hne).trans (h3 q (by simp[hq])).2
   ·exact h W' ((cb.putObj _ hB hr rfl).trans hc) (fun k o hk=>hl k o ((World.putObj_heap_other (fun e=>by subst e; rw[hr] at hk; cases hk)).trans hk))
theorem Oper.zg {o:Oper} {a:Act} {w:World} {K K':Act->World->Prop} {Q Q':Exit->Act->World->Prop} (hK:∀ a w,K a w->K' a w) (hQ:∀ e a w,e≠.normal->Q e a w->Q' e a w) (h:o.wpIn F n P a w K Q):o.wpIn F n P a w K' Q':=by
 unfold Oper.wpIn at *
 refine⟨h.1,?_⟩
 have hh:=h.2
 have lo:LetsOut Q->LetsOut Q':=fun ⟨a,w,h⟩=>⟨a,w,hQ _ _ _ (by simp) h⟩
 generalize (o.semAt F.round a.eval).run P w=r at *
 cases r with
 | ok x w' =>
  cases x<;>simp only[Oper.uponIn] at hh ⊢<;>first
   | exact hK _ _ hh
   | exact⟨hh.1,CallsIn.mono hh.2 (fun e w'' he=>by cases e<;>first | exact hK _ _ he | exact hQ _ _ _ (by simp) he | exact lo he)⟩
   | exact⟨hh.1,RowsIn.mono hh.2 (fun _ _ he=>hK _ _ he)⟩
   | exact⟨hh.1,RoundIn.mono hh.2 (fun e w'' he=>by cases e<;>first | exact hK _ _ he | exact hQ _ _ _ (by simp) he | exact lo he)⟩
   | exact hh.elim
 | halt x w'=>cases x<;>simp only[Oper.uponIn] at hh ⊢<;>first | exact hQ _ _ _ (by simp) hh | exact hh.elim
theorem ml {ops:Array Oper} {Q Q':Exit->Act->World->Prop} {os':List Oper} (hQ:∀ e a w,e≠.normal->Q e a w->Q' e a w) (hn:∀ a w,Q .normal a w->wpListIn F n P ops Q' os' a w):∀ (os:List Oper) (a:Act) (w:World),wpListIn F n P ops Q os a w->wpListIn F n P ops Q' (os++os') a w
 | [],a,w,h=>hn a w h
 | o :: os,a,w,h=>by
  rw[List.cons_append]
  unfold wpListIn at h ⊢
  split
  ·rename_i hw; rw[if_pos hw] at h; exact Oper.zg (ml hQ hn os) hQ h
  ·rename_i hw; rw[if_neg hw] at h; exact⟨h.1,ml hQ hn os _ _ h.2⟩
theorem nc {o:Oper} {d:Nat} (h:me o=some d):o.dst=some d/\o.guard=none/\∀ (ev:Operand->Value) (w:World),(execOp ev o).run P w=.ok .recover w:=by
 unfold me at h
 split at h
 ·rename_i c ho
  split at h
  ·rename_i hcal hargs
   cases hg:tg o with
   | false=>rw[hg] at h; cases h
   | true =>
    rw[hg] at h
    refine⟨h,by unfold tg at hg; split at hg<;>simp_all,fun ev w=>?_⟩
    unfold execOp
    rw[ho]
    simp[resolve,hcal,invoke,builtin]
  ·cases h
 ·cases h
theorem qf {Q:Exit->Act->List Frame->World->Prop} {a:Act} {cs cs':List Frame} {w:World} {id d:Nat} {ops:Array Oper} {o:Oper} {os:List Oper} {v:Value} (hl:ops.toList=o :: os) (hd:me o=some d) (hFa:∀ f,F.fn f) (hro:F.round=none)
  (hrec:recoverD cs=some (v,cs')∨(recoverD cs=none/\cs'=cs/\v=.nilIface)) (h:wpListIn F n P ops (fun e a' w'=>Q e a' cs' w') os (a.put (some d) v) w):(Code.region id ops false).wpSIn F n P Q a cs w:=by
 obtain ⟨hdst,hgd,hrun⟩:=nc (P:=P) hd
 have ho:ops[0]? = some o:=by rw[<-Array.getElem?_toList,hl]; rfl
 have hlen:cs'.length=cs.length:=by
  rcases hrec with h1 | ⟨_,rfl,_⟩
  ·exact recoverD_length h1
  ·rfl
 intro b k hb hr hFb hroom
 have hw:Region.wanted o (yielded ops a.tmps)=true:=by simp[Region.wanted,hgd]
 have hsz:List.range ops.size=0 :: List.range' 1 os.length:=by
  rw[<-Array.length_toList,hl,List.length_cons,List.range_eq_range',List.range'_succ]
 have h':wpOpsIn F n P ops (fun e a' w'=>Q e a' cs' w') (List.range' 1 os.length) (a.put (some d) v) w:=by
  rw[wpOpsIn_eq_wpListIn os 1 (fun j=>by rw[<-Array.getElem?_toList,hl,Nat.add_comm 1 j,List.getElem?_cons_succ])]
  exact h
 obtain ⟨e,a',w',q,harr⟩:=wp_opsIn _ _ _ h' b k cs' (hr.trans hro.symm) hFb (hlen ▸ hroom)
 have i0:(lone (b.atR a (.code (.region id ops false) :: k)) cs w).fenced P F:=fenced_calm hFb hroom rfl
 have i1:(lone (b.atR a (.inRegion ops (0 :: List.range' 1 os.length) :: k)) cs w).fenced P F:=fenced_oper hFb hroom ho (fun f _=>hFa f)
 refine⟨e,a',cs',w',hlen,q,.of_steps (.head i0 (hsz ▸ stepR_region) (.one i1 (step_lone_go ?_))) harr⟩
 have hg:=stepGR_op (P:=P) (b:=b) (k:=k) (cs:=cs) (w:=w) (rest:=List.range' 1 os.length) ho hw
 rw[hr,Oper.semAt_none] at hg
 have hfin:∀ v,(b.atR a (.inRegion ops (0 :: List.range' 1 os.length) :: k)).finish v=b.atR (a.put o.dst v) (.inRegion ops (List.range' 1 os.length) :: k):=by
  intro v; rw[Frame.finish_atR,ho]; rfl
 have hk:(b.atR a (.inRegion ops (0 :: List.range' 1 os.length) :: k)).kind=.deferred:=hb
 have htr:=tryRecover_deferred hk cs
 rw[hg,<-hdst,<-hfin]
 simp only[Frame.atR,hr] at htr ⊢
 rcases hrec with h1 | ⟨h1,rfl,rfl⟩
 ·simp[stepG.apply,hrun,htr,h1]
 ·simp[stepG.apply,hrun,htr,h1]
theorem lb {ops:Array Oper} {i d j:Nat} {o:Oper} (ho:ops[i]? = some o):(jZ ops i d)[j]? = if j=i then some { o with op:=.move (.tmp d) } else ops[j]?:=by
 unfold jZ
 rw[ho]
 simp only
 have hi:=(Array.getElem?_eq_some_iff.1 ho).1
 by_cases e:j=i
 ·subst e; rw[if_pos rfl]; simp[hi]
 ·rw[if_neg e,Array.getElem?_setIfInBounds_ne (Ne.symm e)]
theorem sd {ops:Array Oper} {i d:Nat}:(jZ ops i d).size=ops.size:=by
 unfold jZ; split<;>simp
theorem xg {ops:Array Oper} {i d:Nat} {o:Oper} (ho:ops[i]? = some o) (t:Nat):Region.linearise .any (jZ ops i d) t=Region.linearise .any ops t:=by
 have key:∀ (fuel t:Nat) (listed:Array Bool) (acc:List Nat),Region.linearise.go .any (jZ ops i d) fuel t listed acc=Region.linearise.go .any ops fuel t listed acc:=by
  intro fuel
  induction fuel with
  | zero=>intro t listed acc; rfl
  | succ fuel ih =>
   intro t listed acc
   unfold Region.linearise.go
   simp only[sd,ih]
   have e:∀ j,((jZ ops i d)[j]?).map (fun (o:Oper)=>o.after.all fun e=>!Region.binds .any e || listed.getD e.on false)=(ops[j]?).map (fun (o:Oper)=>o.after.all fun e=>!Region.binds .any e || listed.getD e.on false):=fun j=>by
    rw[lb ho]
    split
    ·rename_i h; subst h; rw[ho]; rfl
    ·rfl
   simp only[e]
 unfold Region.linearise
 rw[sd,key]
theorem CA {ops:Array Oper}:∀ (fuel t:Nat) (listed:Array Bool) (L1:List Nat) (j:Nat) (L2:List Nat),Region.linearise.go .any ops fuel t listed []=L1++j :: L2->∀ (o:Oper) (e:Edge),ops[j]? = some o->e∈o.after->Region.binds .any e=true->listed.getD e.on false=true∨e.on∈L1
 | 0,t,listed,L1,j,L2,h,o,e,ho,he,hb=>by
  simp[Region.linearise.go] at h
 | fuel+1,t,listed,L1,j,L2,h,o,e,ho,he,hb=>by
  simp only[Region.linearise.go] at h
  change (match (Region.ready .any ops listed)[t % (Region.ready .any ops listed).length]? with
   | some i=>Region.linearise.go .any ops fuel (t / (Region.ready .any ops listed).length) (listed.setIfInBounds i true) [i]
   | none=>[].reverse)=_ at h
  split at h
  ·rename_i i hi
   rw[linearise_go_acc,List.reverse_singleton,List.singleton_append] at h
   have hrd:=(mem_ready.1 (List.mem_of_getElem? hi))
   cases L1 with
   | nil =>
    simp only[List.nil_append,List.cons.injEq] at h
    obtain ⟨rfl,_⟩:=h
    obtain ⟨_,o',ho',hall⟩:=hrd
    rw[ho] at ho'; cases ho'
    exact .inl (hall e he hb)
   | cons x L1 =>
    simp only[List.cons_append,List.cons.injEq] at h
    obtain ⟨rfl,h⟩:=h
    rcases CA fuel _ _ L1 j L2 h o e ho he hb with h1 | h1
    ·by_cases hx:e.on=i
     ·exact .inr (by rw[hx]; exact List.mem_cons_self ..)
     ·rw[getD_set_ne false (Ne.symm hx)] at h1; exact .inl h1
    ·exact .inr (List.mem_cons_of_mem _ h1)
  ·simp at h
theorem CB {ops:Array Oper} {i0:Nat} {o0:Oper} (ho:ops[i0]? = some o0) (hn:∀ e∈o0.after,Region.binds .any e=true->False):∀ (fuel t:Nat) (listed:Array Bool),listed.size=ops.size->Ay ops listed<=fuel->listed.getD i0 true=false->i0∈Region.linearise.go .any ops fuel t listed []
 | 0,t,listed,hs,hu,hl=>by
  exfalso
  have hi:=(Array.getElem?_eq_some_iff.1 ho).1
  have hmem:i0∈(List.range ops.size).filter (fun i=>!listed.getD i true):=List.mem_filter.2 ⟨List.mem_range.2 hi,by rw[hl]; rfl⟩
  have:=List.length_pos_of_mem hmem
  unfold Ay at hu; omega
 | fuel+1,t,listed,hs,hu,hl=>by
  have hrd:i0∈Region.ready .any ops listed:=mem_ready.2 ⟨hl,o0,ho,fun e he hb=>(hn e he hb).elim⟩
  have hlen:=List.length_pos_of_mem hrd
  simp only[Region.linearise.go]
  change i0∈(match (Region.ready .any ops listed)[t % (Region.ready .any ops listed).length]? with
   | some i=>Region.linearise.go .any ops fuel (t / (Region.ready .any ops listed).length) (listed.setIfInBounds i true) [i]
   | none=>[].reverse)
  have hlt:t % (Region.ready .any ops listed).length<(Region.ready .any ops listed).length:=Nat.mod_lt _ hlen
  rw[List.getElem?_eq_getElem hlt]
  simp only
  rw[linearise_go_acc,List.reverse_singleton,List.singleton_append]
  generalize hi:(Region.ready .any ops listed)[t % (Region.ready .any ops listed).length]=i
  have him:i∈Region.ready .any ops listed:=by rw[<-hi]; exact List.getElem_mem _
  obtain ⟨hun,o,hoi,_⟩:=mem_ready.1 him
  have his:i<ops.size:=(Array.getElem?_eq_some_iff.1 hoi).1
  by_cases e:i=i0
  ·rw[e]; exact List.mem_cons_self ..
  ·refine List.mem_cons_of_mem _ (CB ho hn fuel _ _ (by simpa using hs) ?_ (by rw[getD_set_ne true e]; exact hl))
   have:=filter_lt (fun k=>!listed.getD k true) (fun k=>!(listed.setIfInBounds i true).getD k true) (List.range ops.size) (fun x hx hq=>by
    by_cases e:i=x
    ·subst e; rw[hun]; rfl
    ·rw[getD_set_ne true e] at hq; exact hq) ⟨i,List.mem_range.2 his,by rw[hun]; rfl,by simp[hs,his]⟩
   unfold Ay at hu ⊢
   omega
theorem CC {ops:Array Oper} {i0:Nat}:∀ (fuel t:Nat) (listed:Array Bool),listed.getD i0 true=true->i0 ∉ Region.linearise.go .any ops fuel t listed []
 | 0,t,listed,h,hm=>by simp[Region.linearise.go] at hm
 | fuel+1,t,listed,h,hm=>by
  simp only[Region.linearise.go] at hm
  change i0∈(match (Region.ready .any ops listed)[t % (Region.ready .any ops listed).length]? with
   | some i=>Region.linearise.go .any ops fuel (t / (Region.ready .any ops listed).length) (listed.setIfInBounds i true) [i]
   | none=>[].reverse) at hm
  split at hm
  ·rename_i i hi
   rw[linearise_go_acc,List.reverse_singleton,List.singleton_append] at hm
   obtain ⟨hun,_⟩:=mem_ready.1 (List.mem_of_getElem? hi)
   have hne:i≠i0:=fun e=>by rw[e,h] at hun; cases hun
   rcases List.mem_cons.1 hm with hm | hm
   ·exact hne hm.symm
   ·exact CC fuel _ _ (by rw[getD_set_ne true hne]; exact h) hm
  ·simp at hm
theorem zR {ops:Array Oper} {i0:Nat}:∀ (fuel t:Nat) (listed:Array Bool) (L1 L2:List Nat),listed.size=ops.size->Region.linearise.go .any ops fuel t listed []=L1++i0 :: L2->i0 ∉ L2
 | 0,t,listed,L1,L2,_,h=>by simp[Region.linearise.go] at h
 | fuel+1,t,listed,L1,L2,hs,h=>by
  simp only[Region.linearise.go] at h
  change (match (Region.ready .any ops listed)[t % (Region.ready .any ops listed).length]? with
   | some i=>Region.linearise.go .any ops fuel (t / (Region.ready .any ops listed).length) (listed.setIfInBounds i true) [i]
   | none=>[].reverse)=_ at h
  split at h
  ·rename_i i hi
   rw[linearise_go_acc,List.reverse_singleton,List.singleton_append] at h
   cases L1 with
   | nil =>
    simp only[List.nil_append,List.cons.injEq] at h
    obtain ⟨rfl,h⟩:=h
    rw[<-h]
    obtain ⟨_,o,ho,_⟩:=mem_ready.1 (List.mem_of_getElem? hi)
    have:=(Array.getElem?_eq_some_iff.1 ho).1
    exact CC fuel _ _ (by simp[hs,this])
   | cons x L1 =>
    simp only[List.cons_append,List.cons.injEq] at h
    exact zR fuel _ _ L1 L2 (by simpa using hs) h.2
  ·simp at h
theorem zS {ops:Array Oper}:∀ (fuel t:Nat) (listed:Array Bool) (j:Nat),j∈Region.linearise.go .any ops fuel t listed []->∃ o,ops[j]? = some o
 | 0,t,listed,j,h=>by simp[Region.linearise.go] at h
 | fuel+1,t,listed,j,h=>by
  simp only[Region.linearise.go] at h
  change j∈(match (Region.ready .any ops listed)[t % (Region.ready .any ops listed).length]? with
   | some i=>Region.linearise.go .any ops fuel (t / (Region.ready .any ops listed).length) (listed.setIfInBounds i true) [i]
   | none=>[].reverse) at h
  split at h
  ·rename_i i hi
   rw[linearise_go_acc,List.reverse_singleton,List.singleton_append] at h
   obtain ⟨_,o,ho,_⟩:=mem_ready.1 (List.mem_of_getElem? hi)
   rcases List.mem_cons.1 h with h | h
   ·exact⟨o,by rw[h]; exact ho⟩
   ·exact zS fuel _ _ j h
  ·simp at h
theorem tr {ops:Array Oper} {i d:Nat} {o:Oper} (ho:ops[i]? = some o) (tm:Array Value):yielded (jZ ops i d) tm=yielded ops tm:=by
 funext j
 have e:((jZ ops i d)[j]?).bind (·.dst)=(ops[j]?).bind (·.dst):=by
  rw[lb ho]
  by_cases h:j=i
  ·subst h; rw[if_pos rfl,ho]; rfl
  ·rw[if_neg h]
 unfold yielded
 rw[e]
theorem iq {ops:Array Oper} {Q:Exit->Act->World->Prop} {i d:Nat} {o:Oper} (ho:ops[i]? = some o):∀ (L:List Nat) (a:Act) (w:World),i ∉ L->wpOpsIn F n P (jZ ops i d) Q L a w->wpOpsIn F n P ops Q L a w
 | [],a,w,_,h=>h
 | j :: L,a,w,hn,h=>by
  have hj:j≠i:=fun e=>hn (by rw[e]; exact List.mem_cons_self ..)
  have hL:i ∉ L:=fun e=>hn (List.mem_cons_of_mem _ e)
  unfold wpOpsIn at h ⊢
  rw[lb ho,if_neg hj,tr ho] at h
  cases hoj:ops[j]? with
  | none=>rw[hoj] at h; exact iq ho L a w hL h
  | some oj =>
   rw[hoj] at h
   simp only at h ⊢
   split
   ·rename_i hw; rw[if_pos hw] at h; exact Oper.wpIn_mono (fun a w h=>iq ho L a w hL h) h
   ·rename_i hw; rw[if_neg hw] at h; exact⟨h.1,iq ho L _ _ hL h.2⟩
theorem CM {o:Oper} {d:Nat} (h:jf d o=true):o.guard=none/\(∃ e,o.dst=some e/\e≠d)/\∀ (a:Act) (v:Value),execOp (a.put (some d) v).eval o=execOp a.eval o:=by
 unfold jf at h
 simp only[Bool.and_eq_true] at h
 obtain ⟨⟨h1,h2⟩,h3⟩:=h
 refine⟨la h1,?_,fun a v=>?_⟩
 ·cases hd:o.dst with
  | none=>rw[hd] at h3; cases h3
  | some e=>rw[hd] at h3; exact⟨e,rfl,fun e2=>by subst e2; simp at h3⟩
 ·split at h2
  ·rename_i t x ho
   have hx:x≠d:=fun e=>by subst e; simp at h2
   unfold execOp
   rw[ho]
   simp only[Act.eval_put (a:=a) (dst:=some d) (v:=v) (x:=.tmp x) (fun e he=>by cases he; intro h; cases h; exact hx rfl)]
  ·cases h2
theorem CL {o:Oper} {d:Nat} (h:jf d o=true) (ev:Operand->Value) (w:World):(∃ y w',(execOp ev o).run P w=.ok (.value y) w')∨(∃ x w',(execOp ev o).run P w=.halt x w'):=by
 unfold jf at h
 simp only[Bool.and_eq_true] at h
 obtain ⟨⟨h1,h2⟩,h3⟩:=h
 split at h2
 ·rename_i t x ho
  unfold execOp
  rw[ho]
  simp only
  cases hr:(Instr.loadAt t (ev (.tmp x))).run P w with
  | ok y w'=>exact .inl ⟨y,w',by simp[hr]⟩
  | halt y w'=>exact .inr ⟨y,w',by simp[hr]⟩
 ·cases h2
theorem Ap {Q:Exit->Act->List Frame->World->Prop} {ops:Array Oper} {i0 d:Nat} {o0:Oper} {v:Value} {cs cs':List Frame} (ho:ops[i0]? = some o0) (hd:me o0=some d) (hFa:∀ f,F.fn f) (hro:F.round=none) (hrec:recoverD cs=some (v,cs')∨(recoverD cs=none/\cs'=cs/\v=.nilIface)) {L2:List Nat} (hL2:i0 ∉ L2):∀ (L1:List Nat) (a:Act) (w:World),(∀ j∈L1,∃ o,ops[j]? = some o/\jf d o=true)->d<a.tmps.size ->
  wpOpsIn F n P (jZ ops i0 d) (fun e a' w'=>match e with | .panic _=>False | e=>Q e a' cs' w') (L1++i0 :: L2) (a.put (some d) v) w->∀ (b:Frame) (k:List Item),b.kind=.deferred->b.roundOf=none->F.fn b.fn->F.room (cs.length+1+n) ->
  ∃ e a' cs2 w',cs2.length=cs.length/\Q e a' cs2 w'/\ArrivesIn (Machine.fenced P F) P (lone (b.atR a (.inRegion ops (L1++i0 :: L2) :: k)) cs w) b k cs2 e a' w'
 | [],a,w,hld,hds,h,b,k,hb,hr,hFb,hroom=>by
  obtain ⟨hdst,hgd,hrun⟩:=nc (P:=P) hd
  have hlen:cs'.length=cs.length:=by
   rcases hrec with h1 | ⟨_,rfl,_⟩
   ·exact recoverD_length h1
   ·rfl
  rw[List.nil_append] at h ⊢
  unfold wpOpsIn at h
  rw[lb ho,if_pos rfl] at h
  simp only at h
  rw[if_pos (by simp[Region.wanted,hgd])] at h
  replace h:=h.2
  rw[hro,Oper.semAt_none] at h
  have hev:(execOp (a.put (some d) v).eval { o0 with op:=.move (.tmp d) }).run P w=.ok (.value v) w:=by
   have:(a.put (some d) v).eval (.tmp d)=v:=fi hds
   simp[execOp,this]
  rw[hev,Oper.uponIn_value] at h
  have hpp:(a.put (some d) v).put o0.dst v=a.put (some d) v:=by
   rw[hdst]
   unfold Act.put
   simp
  rw[hpp] at h
  have h':=iq ho L2 _ w hL2 h
  obtain ⟨e,a',w',q,harr⟩:=wp_opsIn _ _ _ h' b k cs' (hr.trans hro.symm) hFb (hlen ▸ hroom)
  have hw:Region.wanted o0 (yielded ops a.tmps)=true:=by simp[Region.wanted,hgd]
  have i1:(lone (b.atR a (.inRegion ops (i0 :: L2) :: k)) cs w).fenced P F:=fenced_oper hFb hroom ho (fun f _=>hFa f)
  have q':Q e a' cs' w':=by cases e<;>first | exact q | exact q.elim
  refine⟨e,a',cs',w',hlen,q',.of_steps (.one i1 (step_lone_go ?_)) harr⟩
  have hg:=stepGR_op (P:=P) (b:=b) (k:=k) (cs:=cs) (w:=w) (rest:=L2) ho hw
  rw[hr,Oper.semAt_none] at hg
  have hfin:∀ v,(b.atR a (.inRegion ops (i0 :: L2) :: k)).finish v=b.atR (a.put o0.dst v) (.inRegion ops L2 :: k):=by
   intro v; rw[Frame.finish_atR,ho]; rfl
  have hk:(b.atR a (.inRegion ops (i0 :: L2) :: k)).kind=.deferred:=hb
  have htr:=tryRecover_deferred hk cs
  rw[hg,<-hdst,<-hfin]
  simp only[Frame.atR,hr] at htr ⊢
  rcases hrec with h1 | ⟨h1,rfl,rfl⟩
  ·simp[stepG.apply,hrun,htr,h1]
  ·simp[stepG.apply,hrun,htr,h1]
 | j :: L1,a,w,hld,hds,h,b,k,hb,hr,hFb,hroom=>by
  obtain ⟨oj,hoj,hlo⟩:=hld j (List.mem_cons_self ..)
  obtain ⟨hgd,⟨e0,hde,hne⟩,hsame⟩:=CM hlo
  have hji:j≠i0:=fun e=>by
   subst e
   rw[ho] at hoj; cases hoj
   unfold me at hd
   unfold jf at hlo
   split at hd
   ·rename_i c hc; rw[hc] at hlo; simp at hlo
   ·cases hd
  rw[List.cons_append] at h ⊢
  unfold wpOpsIn at h
  rw[lb ho,if_neg hji,hoj] at h
  simp only at h
  rw[if_pos (by simp[Region.wanted,hgd])] at h
  replace h:=h.2
  rw[hro,Oper.semAt_none,hsame] at h
  have hw:Region.wanted oj (yielded ops a.tmps)=true:=by simp[Region.wanted,hgd]
  rcases CL (P:=P) hlo a.eval w with ⟨y,w1,hrun⟩ | ⟨x,w1,hrun⟩
  ·rw[hrun,Oper.uponIn_value,hde,Act.put_comm a v y (fun e he=>by cases he; intro h; cases h; exact hne rfl),<-hde] at h
   obtain ⟨e,a',cs2,w2,hl2,q,harr⟩:=Ap ho hd hFa hro hrec hL2 L1 (a.put oj.dst y) w1 (fun j hj=>hld j (List.mem_cons_of_mem _ hj)) (by rw[Act.pq]; exact hds) h b k hb hr hFb hroom
   have i1:(lone (b.atR a (.inRegion ops (j :: (L1++i0 :: L2)) :: k)) cs w).fenced P F:=fenced_oper hFb hroom hoj (fun f _=>hFa f)
   refine⟨e,a',cs2,w2,hl2,q,.of_steps (.one i1 (step_lone_go ?_)) harr⟩
   have hg:=stepGR_op (P:=P) (b:=b) (k:=k) (cs:=cs) (w:=w) (rest:=L1++i0 :: L2) hoj hw
   rw[hr,Oper.semAt_none] at hg
   have hfin:∀ v,(b.atR a (.inRegion ops (j :: (L1++i0 :: L2)) :: k)).finish v=b.atR (a.put oj.dst v) (.inRegion ops (L1++i0 :: L2) :: k):=by
    intro v; rw[Frame.finish_atR,hoj]; rfl
   rw[hg,<-hfin]
   simp[stepG.apply,hrun]
  ·rw[hrun] at h
   cases x<;>exact h.elim
theorem pD {Q:Exit->Act->List Frame->World->Prop} {a:Act} {cs cs':List Frame} {w:World} {id i0 d:Nat} {ops:Array Oper} {o0:Oper} {v:Value} (hm:P.follows .mixedOrders=true) (ho:ops[i0]? = some o0) (hd:me o0=some d) (hna:o0.after=#[]) (hok:FT ops i0 d=true) (hFa:∀ f,F.fn f) (hro:F.round=none) (hds:d<a.tmps.size)
  (hrec:recoverD cs=some (v,cs')∨(recoverD cs=none/\cs'=cs/\v=.nilIface)) (h:LW F n P (jZ ops i0 d) (fun e a' w'=>match e with | .panic _=>False | e=>Q e a' cs' w') (a.put (some d) v) w):(Code.region id ops true).wpSIn F n P Q a cs w:=by
 intro b k hb hr hFb hroom
 have h:=h (w.tape w.drawn (.order b.fn id))
 have hs:∀ (ops:Array Oper) t,Region.schedule (P.follows .mixedOrders) ops t=Region.linearise.go .any ops ops.size t (Array.replicate ops.size false) []:=fun ops t=>by
  simp only[Region.schedule,hm,Bool.true_or,if_true]; rfl
 have hsz:(Array.replicate ops.size false).size=ops.size:=by simp
 have hrep:∀ i,(Array.replicate ops.size false).getD i false=false:=fun i=>by
  by_cases hi:i<ops.size<;>simp[hi]
 have hi0:=(Array.getElem?_eq_some_iff.1 ho).1
 have i0l:(lone (b.atR a (.code (.region id ops true) :: k)) cs w).fenced P F:=fenced_calm hFb hroom rfl
 have hL:=hs ops (w.tape w.drawn (.order b.fn id))
 have hL':Region.schedule (P.follows .mixedOrders) (jZ ops i0 d) (w.tape w.drawn (.order b.fn id))=Region.schedule (P.follows .mixedOrders) ops (w.tape w.drawn (.order b.fn id)):=by
  have:=xg (d:=d) ho (w.tape w.drawn (.order b.fn id))
  simp only[Region.schedule,hm,Bool.true_or,if_true]
  exact this
 rw[hL'] at h
 have hmem:i0∈Region.schedule (P.follows .mixedOrders) ops (w.tape w.drawn (.order b.fn id)):=by
  rw[hL]
  refine CB ho (fun e he _=>by rw[hna] at he; simp at he) _ _ _ hsz ?_ (by simp[hi0])
  unfold Ay
  exact Nat.le_trans (List.length_filter_le _ _) (by simp)
 obtain ⟨L1,L2,hLe,hn1⟩:=List.eq_append_cons_of_mem hmem
 have hn2:i0 ∉ L2:=zR _ _ _ L1 L2 hsz (hL ▸ hLe)
 have hgo:Region.linearise.go .any ops ops.size (w.tape w.drawn (.order b.fn id)) (Array.replicate ops.size false) []=L1++i0 :: L2:=hL ▸ hLe
 have hload:∀ (p:Nat) (j:Nat),L1[p]? = some j->∃ o,ops[j]? = some o/\jf d o=true:=by
  intro p
  induction p using Nat.strongRecOn with
  | _ p ih =>
   intro j hp
   have hjm:j∈L1:=List.mem_of_getElem? hp
   obtain ⟨o,hoj⟩:=zS _ _ _ j (hgo ▸ List.mem_append_left _ hjm)
   have hjs:=(Array.getElem?_eq_some_iff.1 hoj).1
   have hck:=List.all_eq_true.1 hok j (List.mem_range.2 hjs)
   rw[hoj] at hck
   simp only[Bool.or_eq_true] at hck
   rcases hck with h1 | h1 | h1
   ·exact absurd (Nat.eq_of_beq_eq_true h1 ▸ hjm) hn1
   ·exact⟨o,hoj,h1⟩
   ·exfalso
    obtain ⟨q,hq1,hq2⟩:=Array.any_eq_true.1 h1
    rw[Bool.and_eq_true,Bool.not_eq_true'] at hq2
    obtain ⟨hp1,hpe⟩:=List.getElem?_eq_some_iff.1 hp
    have hsplit:L1++i0 :: L2=L1.take p++j :: (L1.drop (p+1)++i0 :: L2):=by
     rw[<-List.cons_append,<-hpe,<-List.drop_eq_getElem_cons hp1,<-List.append_assoc,List.take_append_drop]
    rcases CA _ _ _ (L1.take p) j _ (hgo.trans hsplit) o o.after[q] hoj (Array.getElem_mem _) hq2.1 with h2 | h2
    ·rw[hrep] at h2; cases h2
    ·obtain ⟨x,hx,hxe⟩:=List.getElem_of_mem h2
     rw[List.getElem_take] at hxe
     have hxp:x<p:=by rw[List.length_take] at hx; omega
     obtain ⟨o',ho',hl'⟩:=ih x hxp o.after[q].on (by rw[<-hxe]; exact List.getElem?_eq_getElem _)
     unfold w8 at hq2
     rw[ho'] at hq2
     simp only at hq2
     rw[hl'] at hq2
     exact absurd hq2.2 (by simp)
 rw[hLe] at h
 obtain ⟨e,a',cs2,w2,hl,q,harr⟩:=Ap ho hd hFa hro hrec hn2 L1 a _ (fun j hj=>by
  obtain ⟨p,hp,hpe⟩:=List.getElem_of_mem hj
  exact hload p j (by rw[<-hpe]; exact List.getElem?_eq_getElem hp)) hds h b k hb hr hFb hroom
 refine⟨e,a',cs2,w2,hl,q,.of_steps (.one i0l ?_) harr⟩
 rw[<-hLe]
 exact stepR_region_draw
end
section
open Go.RowKit
variable {H H':ay} {g g':Gh} {w0 w w':World} {cx:Cx} {s:St} {a:Act} {F:Fence} {n:Nat} {N lo:Nat} {mb:Mb} {H0:ay} {gs:Gh} {ws:World}
theorem kX (fr:List (Nat×A)) (keep:List Nat) (t:Nat):look (keep.map fun t=>(t,look fr t)) t=look fr t∨look (keep.map fun t=>(t,look fr t)) t=.any:=by
 induction keep with
 | nil=>exact .inr rfl
 | cons u ks ih =>
  rw[List.map_cons,ek]
  split
  ·rename_i e; rw[e]; exact .inl rfl
  ·exact ih
theorem vy (fr:List (Nat×A)) (keep:List Nat) (t:Nat) (ht:look (keep.map fun t=>(t,look fr t)) t≠.any):t∈keep:=by
 induction keep with
 | nil=>exact absurd rfl ht
 | cons u ks ih =>
  rw[List.map_cons,ek] at ht
  split at ht
  ·rename_i e; subst e; simp
  ·exact List.mem_cons_of_mem _ (ih ht)
theorem Good.dK (hg:Good cx N mb lo H0 gs ws w0 s g a w) {keep:List Nat}:Good cx N mb lo H0 gs ws w0 (dK keep s) g a w :=
 ⟨⟨hg.sr.rel,fun t=>by
  show VR s.H g w (look (keep.map fun t=>(t,look s.fr t)) t) _
  rcases kX s.fr keep t with h | h
  ·rw[h]; exact hg.sr.fr t
  ·rw[h,VR]; trivial,hg.sr.gl⟩,hg.ext,hg.len,hg.low,hg.siz,hg.dfr,hg.mbw,hg.st⟩
theorem Good.Da (hg:Good cx N mb lo H0 gs ws w0 s g a w) {keep:List Nat} {L:Nat} (hL:H0.length<=L) (hLs:L<=s.H.length) {k:St->Option R} {r:R} (h:xh keep L s k=some r):∃ s' g',k s'=some r/\Good cx N mb lo H0 gs ws w0 s' g' a w/\s'.H.length=L:=by
 unfold xh at h
 obtain ⟨H',h1,h⟩:=bt h
 obtain ⟨h2,h⟩:=bf h
 have kX:=kX s.fr keep
 have vy:=vy s.fr keep
 unfold trim at h1
 rw[br] at h1
 split at h1
 ·rename_i hl
  have hl:s.H.length=L:=by simpa using hl
  cases h1
  refine⟨_,g,h,⟨⟨hg.sr.rel,fun t=>?_,hg.sr.gl⟩,hg.ext,hg.len,hg.low,hg.siz,hg.dfr,hg.mbw,hg.st⟩,hl⟩
  rcases kX t with h | h
  ·rw[h]; exact hg.sr.fr t
  ·rw[h,VR]; trivial
 ·rename_i hl
  obtain ⟨hall,h1⟩:=bf h1
  cases h1
  have hl:¬ s.H.length=L:=by simpa using hl
  have hk:keep.all (fun t=>A.under L (look s.fr t))=true:=by
   have hb:Nat.beq s.H.length L=false:=by
    cases hb:Nat.beq s.H.length L with
    | true=>exact absurd (Nat.eq_of_beq_eq_true hb) hl
    | false=>rfl
   rw[hb] at h2
   exact m0 _ _ _ h2
  have hu:∀ (b:Nat) B,b<L->s.H[b]? = some B->B.under L=true:=fun b B hb hB=>by
   refine List.all_eq_true.1 hall B (List.mem_of_getElem? (i:=b) ?_)
   rw[List.getElem?_take,if_pos hb]; exact hB
  obtain ⟨r1,ag⟩:=hg.sr.rel.cut hLs hu
  refine⟨_,g.cut L,h,⟨⟨r1,fun t=>?_,fun G vs hG=>(hg.sr.gl G vs hG).to ag⟩,hg.ext.cut hL,by rw[List.length_take]; omega,fun b hb hb'=>by rw[List.getElem?_take,if_pos (by omega)]; exact hg.low b hb hb',hg.siz,hg.dfr,hg.mbw,hg.st⟩,by rw[List.length_take]; omega⟩
  rcases kX t with h | h
  ·rw[h]
   by_cases hany:look s.fr t=.any
   ·rw[hany,VR]; trivial
   ·have htk:=vy t (by rw[h]; exact hany)
    exact VR.to ag _ _ (List.all_eq_true.1 hk t htk) (hg.sr.fr t)
  ·rw[h,VR]; trivial
theorem rI (lo:Nat):∀ (ps:List (Nat×Nat×Nat)) {s:St} {g:Gh},Good cx N mb lo H0 gs ws w0 s g a w->∃ g',Good cx N mb lo H0 gs ws w0 (eh lo (yw ps) s) g' a w/\(eh lo (yw ps) s).H.length=s.H.length
 | [],s,g,h=>⟨g,h,rfl⟩
 | p :: ps,s,g,h=>by
  unfold yw
  split
  ·rename_i he
   obtain ⟨g',h1,_,h2⟩:=h.nY p
   obtain ⟨g'',h3,h4⟩:=rI lo ps h1
   exact⟨g'',h3,h4.trans (h2 he)⟩
  ·exact rI lo ps h
theorem Good.norm (hg:Good cx N mb lo H0 gs ws w0 s g a w) {keep:List Nat} {acts:List (Nat×Nat×Nat)} {n L:Nat} (hL:H0.length<=n) (hnL:n<=L) (hr:xx acts≠none->n+1<=L) (hLs:L<=s.H.length) {k:St->Option R} {r:R} (h:CZ lo keep acts L s k=some r):∃ s' g',k s'=some r/\Good cx N mb lo H0 gs ws w0 s' g' a w/\s'.H.length=L:=by
 obtain ⟨g',h1,h2⟩:=rI lo acts hg
 unfold CZ at h
 split at h
 ·exact h1.Da (by omega) (by omega) h
 ·rename_i p hp
  have hr:n+1<=L:=hr (by rw[hp]; exact Option.some_ne_none p)
  unfold FN at h
  rw[br] at h
  split at h
  ·obtain ⟨s2,g2,h3,h4,h5⟩:=h1.Da (L:=L - 1) (by omega) (by omega) h
   obtain ⟨h6,h3⟩:=bf h3
   obtain ⟨g3,h7,_,_⟩:=h4.nY p
   exact⟨_,g3,h3,h7.dK,Nat.eq_of_beq_eq_true h6⟩
  ·exact h1.Da (by omega) (by omega) h
theorem p4 {p:Prop} {a b:Code} (h:p∨(jb a&&jb b)=true):(p∨jb a=true)/\(p∨jb b=true):=by
 rcases h with h | h
 ·exact⟨.inl h,.inl h⟩
 ·rw[Bool.and_eq_true] at h; exact⟨.inr h.1,.inr h.2⟩
def qG (cx:Cx) (rg:aS->aS):Prop:=∀ (Bs:ay->Gh->World->Prop) (base:aS),oI cx Bs base->dW cx Bs (rg base)
theorem AX {P:Program} {x:A} {v:Value} {gf:Nat} {cap:List A} (h:AW P x=some (gf,cap)) (hv:VR H g w x v):cW P gf=true/\∃ es:Array Value,v=.func (.func gf) #[] es/\bp H g w cap es.toList:=by
 unfold AW at h
 split at h
 ·obtain ⟨h1,h⟩:=bf h
  cases h
  rw[VR] at hv
  obtain ⟨ds,es,e1,e2,e3⟩:=hv
  rw[bp] at e2
  have:ds=#[]:=by apply Array.ext'; simpa using e2
  subst this
  exact⟨h1,es,e1,e3⟩
 ·cases h
theorem oS {P:Program} {k:Nat} (hk:cW P k=true) (args:Array Value) (w:World):(callFunc k args).run P w=.ok (.enter k args) w:=by
 unfold cW at hk
 cases hf:P.funcs[k]? with
 | none=>rw[hf] at hk; cases hk
 | some fn =>
  rw[hf] at hk
  simp only[Bool.and_eq_true,Bool.not_eq_true'] at hk
  have h1:¬ fn.body=none:=by intro hb; rw[hb] at hk; simp at hk
  have h2:¬ fn.name = "runtime.NumGoroutine" := by simpa using hk.2
  simp[callFunc,program,Sem.run,hf,h1,h2]
theorem gu {P:Program} {b:Frame} {a:Act} {k:List Item} {cs:List Frame} {w:World} {c:Code}:step P (lone (b.atR a (.code (.scope c) :: k)) cs w)=.next (lone (b.atR a (.code c :: .inScope c :: k)) cs w) :=
 step_lone_go (by simp[stepG,stepG.exec,Frame.atR])
theorem tn {P:Program} {b:Frame} {a:Act} {k:List Item} {cs:List Frame} {w:World} {c:Code}:step P (lone (b.atR a (.inScope c :: k)) cs w)=.next (lone (b.atR a k) cs w) :=
 step_lone_go (by simp[stepG,stepG.exec,Frame.atR])
theorem zh {F:Fence} {n:Nat} {P:Program} {a:Act} {w:World} {Q:Exit->Act->World->Prop} {c:Code} (h:c.wpIn F n P (fun e a w=>match e with | .goto _=>False | e=>Q e a w) a w):(Code.scope c).wpIn F n P Q a w:=by
 intro b k cs hro hb hr
 have h0:(lone (b.atR a (.code (.scope c) :: k)) cs w).fenced P F:=fenced_calm hb hr rfl
 obtain ⟨e,a₁,w₁,hq,harr⟩:=h b (.inScope c :: k) cs hro hb hr
 cases e with
 | normal=>exact⟨.normal,a₁,w₁,hq,.head h0 gu (StepsIn.trans harr (.one (fenced_calm hb hr rfl) tn))⟩
 | exit id' =>
  have hx:exitTo id' (.inScope c :: k)=exitTo id' k:=by simp[exitTo]
  exact⟨.exit id',a₁,w₁,hq,fun k' hk=>.head h0 gu (harr.1 k' (by rw[hx]; exact hk)),
   fun hr' hk=>let ⟨k₁,h1,h2⟩:=harr.2 hr' (by rw[hx]; exact hk); ⟨k₁,h1,.head h0 gu h2⟩⟩
 | goto l=>exact hq.elim
 | ret=>exact⟨_,a₁,w₁,hq,.of_steps (.one h0 gu) harr⟩
 | panic ch=>exact⟨_,a₁,w₁,hq,.of_steps (.one h0 gu) harr⟩
 | outgrown=>exact⟨_,a₁,w₁,hq,.of_steps (.one h0 gu) harr⟩
theorem oZ {Bs:ay->Gh->World->Prop} {call:aS} (hcall:dW cx Bs call) (hb0:Bs H0 gs ws) (horc:jA cx) {F:Fence} {n:Nat} (hF:gq F) (hmx:cx.P.follows .mixedOrders=true) {f:Nat} {ops:Array Oper} {k:E->St->Option R} {r:R} {Q:Exit->Act->World->Prop}
  (hg:Good cx N mb lo H0 gs ws w0 s g a w) (h:ve cx call f lo N ops s k=some r)
  (hk:∀ s' g' a' w',Good cx N mb lo H0 gs ws w0 s' g' a' w'->k .normal s'=some r->Q .normal a' w')
  (hp:∀ x s' g' a' w' c,Good cx N mb lo H0 gs ws w0 s' g' a' w'->VR s'.H g' w' x c->k (.pan x) s'=some r->Q (.panic [{ v:=c,recovered:=false }]) a' w'):LW F n cx.P ops Q a w:=by
 unfold ve at h
 obtain ⟨hd,h⟩:=bf h
 have hd':∀ o∈ops.toList,∀ d,o.dst=some d->d<N:=fun o ho d hod=>by
  have:=List.all_eq_true.1 hd o ho
  rw[hod] at this; simpa using this
 cases hci:Gi cx ops with
 | some c =>
  rw[hci] at h
  exact(wH (f:=f) hcall hb0 horc hF hmx hg hd' h hk hp)
 | none =>
 rw[hci] at h
 replace h:=bf h
 obtain ⟨gP,h⟩:=h
 replace h:=bt h
 obtain ⟨m,hm,h⟩:=h
 have hmt:fm ops m=true:=by
  unfold qc at hm
  exact List.find?_some hm
 rw[br] at h
 split at h
 ·have htk:∀ j o,(ops.toList.take m)[j]? = some o->ops[0+j]? = some o:=fun j o ho=>by
   rw[List.getElem?_take] at ho
   split at ho
   ·rw[Nat.zero_add]; rw[Array.getElem?_toList] at ho; exact ho
   ·cases ho
  have hm2:m<=ops.size:=by
   simp only[fm,Bool.and_eq_true,decide_eq_true_eq] at hmt
   exact hmt.1.1
  have htl:(ops.toList.take m).length=m:=by rw[List.length_take]; simp; omega
  rw[br] at h
  split at h
  ·rename_i hch
   exact(nV (f:=f) (m:=m) hcall hb0 horc hF hmx gP hmt (fun i j h1 h2 h3 h4 _ _=>yi hch h1 h2 h3 h4) Hr.none hg hd' (fun s h=>g7 _ _ _ h) h hk hp)
  obtain ⟨hch,h⟩:=bf h
  obtain ⟨fl,H1,h,hfl,_,hno⟩:=nZ (ops:=ops) (m:=m) (ops.toList.take m) 0 s.H _ htk (by omega) h
  have hnf:∀ {i},i<m->cX i fl=none->rT cx f ops i=false:=fun {i} hi hn=>hno i hn (Nat.zero_le _) (by omega)
  exact(nV (f:=f) (m:=m) hcall hb0 horc hF hmx gP hmt (fun i j h1 h2 h3 h4 h5 h6=>wq hch h1 h2 h3 h4 (hnf (by omega) h5) (hnf h1 h6)) hfl hg hd' (fun s h=>g7 _ _ _ h) h hk hp)
 exact(vc (f:=f) (m:=m) hcall hb0 horc hF hmx gP hmt hg hd' (n5 (fun s h=>g7 _ _ _ h) (pU _ _ _ h)) hk hp)
theorem dD {Bs:ay->Gh->World->Prop} {call:aS} {rg:aS->aS} (hcall:dW cx Bs call) (hrg:qG cx rg) (horc:jA cx) (hmx:cx.P.follows .mixedOrders=true) {nf f:Nat}:∀ (c:Code) (F:Fence) (n:Nat) (mb:Mb) (w0:World) (r:R) (H0:ay) (gs:Gh) (ws:World) (k:E->St->Option R) (Q:Exit->Act->World->Prop) (s:St) (g:Gh) (a:Act) (w:World),gq F->((F.round=none/\mb.free=true)∨jb c=true)->Bs H0 gs ws->Good cx N mb lo H0 gs ws w0 s g a w->nW cx call rg nf f lo N c s k=some r ->
  (∀ e e' s' g' a' w',Good cx N mb lo H0 gs ws w0 s' g' a' w'->ER s' g' w' e e'->k e s'=some r->Q e' a' w')->c.wpIn F n cx.P Q a w
 | .skip,F,n,mb,w0,r,H0,gs,ws,k,Q,s,g,a,w,hF,hro,hb0,hg,h,hk=>wpIn_skip (hk .normal .normal _ _ _ _ hg trivial h)
 | .label l,F,n,mb,w0,r,H0,gs,ws,k,Q,s,g,a,w,hF,hro,hb0,hg,h,hk=>wpIn_label (hk .normal .normal _ _ _ _ hg trivial h)
 | .region id ops draw,F,n,mb,w0,r,H0,gs,ws,k,Q,s,g,a,w,hF,hro,hb0,hg,h,hk=>by
  rw[nW] at h
  obtain ⟨s,g1,hg,h⟩:=Good.FE _ hg h
  replace h:=bf h
  obtain ⟨hd,h⟩:=h
  have hd':∀ o∈ops.toList,∀ d,o.dst=some d->d<N:=fun o ho d hod=>by
   have:=List.all_eq_true.1 hd o ho
   rw[hod] at this; simpa using this
  cases draw with
  | false =>
   exact wpIn_region_list (fB (f:=f) (ops:=ops) hcall hb0 horc hF (fun s' g' a' w' hg' h'=>hk .normal .normal _ _ _ _ hg' trivial h') (fun x s' g' a' w' c hg' hv h'=>hk (.pan x) (.panic _) _ _ _ _ hg' ⟨c,rfl,hv⟩ h') _ s g1 a w hd' hg (g7 _ _ _ h))
  | true =>
   simp only[cond_true] at h
   refine(oZ (f:=f) hcall hb0 horc hF hmx hg (k:=k) ?_ (fun s' g' a' w' hg' h'=>hk .normal .normal _ _ _ _ hg' trivial h') (fun x s' g' a' w' c hg' hv h'=>hk (.pan x) (.panic _) _ _ _ _ hg' ⟨c,rfl,hv⟩ h')).wpIn
   unfold ve
   rw[hd]
   exact h
 | .seq x y,F,n,mb,w0,r,H0,gs,ws,k,Q,s,g,a,w,hF,hro,hb0,hg,h,hk=>by
  rw[nW] at h
  cases hj:cx.join f (vq x) with
  | cons j js =>
   rw[hj] at h
   obtain ⟨r0,h0,h⟩:=bt (show ((nW cx call rg nf f lo N x s (FD (j :: js))).bind fun r=>Js r fun l H=>E3 (j :: js) l fun fr=>nW cx call rg nf f lo N y ⟨fr,H⟩ k)=some r from h)
   refine wpIn_seq (dD hcall hrg horc hmx x F n mb w0 r0 H0 gs ws _ _ s g a w hF (p4 hro).1 hb0 hg h0 fun e e' s' g' a' w' hg' he h'=>?_)
   cases e with
   | normal =>
    have hr:(Out.ret (.tup ((j :: js).map (look s'.fr))),s'.H)=r0:=Option.some.inj h'
    subst hr
    have h2:E3 (j :: js) ((j :: js).map (look s'.fr)) (fun fr=>nW cx call rg nf f lo N y ⟨fr,s'.H⟩ k)=some r:=h
    rw[Ax] at h2
    cases e'<;>first
     | exact dD hcall hrg horc hmx y F n mb w0 r H0 gs ws k Q (dK (j :: js) s') g' a' w' hF (p4 hro).2 hb0 hg'.dK h2 hk
     | exact he.elim
   | _=>cases h'
  | nil =>
  rw[hj] at h
  replace h:nW cx call rg nf f lo N x s (fun e s'=>match e with | .normal=>nW cx call rg nf f lo N y s' k | e=>k e s')=some r:=h
  refine wpIn_seq (dD hcall hrg horc hmx x F n mb w0 r H0 gs ws _ _ s g a w hF (p4 hro).1 hb0 hg h fun e e' s' g' a' w' hg' he h'=>?_)
  cases e with
  | normal=>cases e'<;>first
    | exact dD hcall hrg horc hmx y F n mb w0 r H0 gs ws k Q s' g' a' w' hF (p4 hro).2 hb0 hg' h' hk
    | exact he.elim
  | exit i=>cases e'<;>first
    | exact hk _ _ _ _ _ _ hg' he h'
    | exact he.elim
  | goto i=>cases e'<;>first
    | exact hk _ _ _ _ _ _ hg' he h'
    | exact he.elim
  | ret=>cases e'<;>first
    | exact hk _ _ _ _ _ _ hg' he h'
    | exact he.elim
  | pan x=>cases e'<;>first
    | exact hk _ _ _ _ _ _ hg' he h'
    | exact he.elim
 | .cond c x y,F,n,mb,w0,r,H0,gs,ws,k,Q,s,g,a,w,hF,hro,hb0,hg,h,hk=>by
  rw[nW] at h
  obtain ⟨b,hv,h⟩:=AJ h (ox (x:=c) (fun t _=>hg.sr.fr t) hg.sr.gl)
  refine wpIn_cond hv ?_
  cases b
  ·exact dD hcall hrg horc hmx y F n mb w0 r H0 gs ws k Q s g a w hF (p4 hro).2 hb0 hg h hk
  ·exact dD hcall hrg horc hmx x F n mb w0 r H0 gs ws k Q s g a w hF (p4 hro).1 hb0 hg h hk
 | .block id c,F,n,mb,w0,r,H0,gs,ws,k,Q,s,g,a,w,hF,hro,hb0,hg,h,hk=>by
  rw[nW] at h
  refine wpIn_block (dD hcall hrg horc hmx c F n mb w0 r H0 gs ws _ _ s g a w hF hro hb0 hg h fun e e' s' g' a' w' hg' he h'=>?_)
  cases e with
  | exit i=>cases e' with
   | exit j =>
    obtain rfl:i=j:=he
    simp only[Exit.inBlock]
    simp only[br] at h'
    split at h'
    ·rename_i hij
     rw[if_pos (by simpa using hij)]
     exact hk .normal .normal _ _ _ _ hg' trivial h'
    ·rename_i hij
     rw[if_neg (by simpa using hij)]
     exact hk (.exit i) (.exit i) _ _ _ _ hg' rfl h'
   | _=>exact he.elim
  | normal=>cases e'<;>first
    | exact hk _ .normal _ _ _ _ hg' he h'
    | exact he.elim
  | goto i=>cases e'<;>first
    | exact hk _ (.goto _) _ _ _ _ hg' he h'
    | exact he.elim
  | ret=>cases e'<;>first
    | exact hk _ .ret _ _ _ _ hg' he h'
    | exact he.elim
  | pan x=>cases e'<;>first
    | exact hk _ (.panic _) _ _ _ _ hg' he h'
    | exact he.elim
 | .scope c,F,n,mb,w0,r,H0,gs,ws,k,Q,s,g,a,w,hF,hro,hb0,hg,h,hk=>by
  rw[nW] at h
  have hro':(F.round=none/\mb.free=true)∨jb c=true:=by
   rcases hro with h1 | h1
   ·exact .inl h1
   ·cases h1
  refine zh (dD hcall hrg horc hmx c F n mb w0 r H0 gs ws _ _ s g a w hF hro' hb0 hg h fun e e' s' g' a' w' hg' he h'=>?_)
  cases e with
  | exit i=>cases e'<;>first
    | exact hk _ (.exit _) _ _ _ _ hg' he h'
    | exact he.elim
  | normal=>cases e'<;>first
    | exact hk _ .normal _ _ _ _ hg' he h'
    | exact he.elim
  | goto i=>cases h'
  | ret=>cases e'<;>first
    | exact hk _ .ret _ _ _ _ hg' he h'
    | exact he.elim
  | pan x=>cases e'<;>first
    | exact hk _ (.panic _) _ _ _ _ hg' he h'
    | exact he.elim
 | .loop c,F,n,mb,w0,r,H0,gs,ws,k,Q,s,g,a,w,hF,hro,hb0,hg,h,hk=>by
  rw[nW] at h
  unfold Dx at h
  have hrst:=qZ lo (cx.acts f (bU c)) (dK (cx.keep f (bU c)) s)
  obtain ⟨g0,hg0,hl0⟩:=hg.dK (keep:=cx.keep f (bU c)) |>.acts (cx.acts f (bU c))
  have rounds:∀ (m:Nat) (s':St) (g':Gh) (a':Act) (w':World),Good cx N mb lo H0 gs ws w0 s' g' a' w'->(eh lo (cx.acts f (bU c)) (dK (cx.keep f (bU c)) s)).H.length<=s'.H.length->iter lo (cx.keep f (bU c)) (cx.acts f (bU c)) (eh lo (cx.acts f (bU c)) (dK (cx.keep f (bU c)) s)).H.length (fun s k=>nW cx call rg nf f lo N c s k) (fun i s=>k (.exit i) s) (fun l s=>k (.goto l) s) (fun s=>k .ret s) (fun a s=>k (.pan a) s) m s'=some r->Code.roundsIn F n cx.P c Q m a' w':=by
   intro m
   induction m with
   | zero=>intro s' g' a' w' _ _ h; cases h
   | succ m ih =>
    intro s1 g1 a' w' hg1 hl h
    rw[iter] at h
    rw[roundsIn_succ]
    refine dD hcall hrg horc hmx c F n mb w0 r s1.H g1 w' _ _ s1 g1 a' w' hF hro (hcall.up _ _ _ _ _ _ hb0 hg1.ext) ⟨hg1.sr,Ext.refl hg1.sr.rel,Nat.le_refl _,fun _ _ _=>rfl,hg1.siz,hg1.dfr,hg1.mbw,rfl⟩ h fun e e' s2 g2 a2 w2 hg2 he h2=>?_
    have hg3:Good cx N mb lo H0 gs ws w0 s2 g2 a2 w2:=⟨hg2.sr,hg1.ext.trans hg2.ext,Nat.le_trans hg1.len hg2.len,fun b hb hb'=>(hg2.low b hb (Nat.lt_of_lt_of_le hb' hg1.len)).trans (hg1.low b hb hb'),hg2.siz,hg2.dfr,hg2.mbw,hg2.st.trans hg1.st⟩
    have hlen2:(eh lo (cx.acts f (bU c)) (dK (cx.keep f (bU c)) s)).H.length<=s2.H.length:=by have:=hg2.len; omega
    have hg4:Good cx N mb lo H0 gs ws w0 (dK (cx.keep f (bU c)) s2) g2 a2 w2:=hg3.dK
    cases e with
    | normal=>cases e'<;>first
      | (obtain ⟨s3,g3,h3,hg5,hl5⟩:=hg3.norm hg.len hl0 hrst hlen2 h2
         exact ih s3 g3 a2 w2 hg5 (by omega) h3)
      | exact he.elim
    | exit i=>cases e'<;>first
      | exact hk (.exit i) (.exit _) _ _ _ _ hg4 he h2
      | exact he.elim
    | goto i=>cases e'<;>first
      | exact hk (.goto i) (.goto _) _ _ _ _ hg4 he h2
      | exact he.elim
    | ret=>cases e'<;>first
      | exact hk .ret .ret _ _ _ _ hg4 he h2
      | exact he.elim
    | pan x=>cases e'<;>first
      | exact hk (.pan x) (.panic _) _ _ _ _ hg4 he h2
      | exact he.elim
  exact wpIn_loop_rounds nf (rounds nf (dK (cx.keep f (bU c)) (eh lo (cx.acts f (bU c)) (dK (cx.keep f (bU c)) s))) g0 a w hg0.dK (Nat.le_refl _) h)
 | .exit id,F,n,mb,w0,r,H0,gs,ws,k,Q,s,g,a,w,hF,hro,hb0,hg,h,hk=>wpIn_exit (hk (.exit id) (.exit id) _ _ _ _ hg rfl h)
 | .goto l,F,n,mb,w0,r,H0,gs,ws,k,Q,s,g,a,w,hF,hro,hb0,hg,h,hk=>wpIn_goto (hk (.goto l) (.goto l) _ _ _ _ hg rfl h)
 | .ret,F,n,mb,w0,r,H0,gs,ws,k,Q,s,g,a,w,hF,hro,hb0,hg,h,hk=>wpIn_ret (hk .ret .ret _ _ _ _ hg trivial h)
 | .rangeFunc gop ps asg body,F,n,mb,w0,r,H0,gs,ws,k,Q,s,g,a,w,hF,hro,hb0,hg,h,hk=>by
  rw[nW] at h
  unfold nj at h
  obtain ⟨g,hg,_⟩:=hg.acts (cx.acts f (za body))
  generalize eh lo (cx.acts f (za body)) s=s at h hg
  obtain ⟨⟨gf,cap⟩,hfn,h⟩:=bt h
  obtain ⟨gP,h⟩:=bf h
  obtain ⟨⟨out,H2⟩,hcl,h⟩:=bt h
  simp only[Bool.and_eq_true] at gP
  obtain ⟨⟨⟨c2,c3⟩,c4⟩,c1⟩:=gP
  have hlo:lo<=s.H.length:=by simpa [Nat.ble_eq] using c1
  obtain ⟨hro,hfree⟩:F.round=none/\mb.free=true:=hro.elim id (fun h=>by cases h)
  obtain ⟨hcb,es,hgv,hcv⟩:=AX hfn (ox (x:=gop) (fun t _=>hg.sr.fr t) hg.sr.gl)
  refine wpIn_rangeFunc ?_
  intro fn hfnF
  rw[hro]
  obtain ⟨rec0,hrec⟩:∃ rec0:Loop,rec0={ state:=.ready,pending:=none,fn:=fn,tmps:=a.tmps,params:=ps,assign:=asg,body:=body,defers:=w.heap.size }:=⟨_,rfl⟩
  have hrr:iQ rec0 .ready=rec0:=by rw[hrec]; rfl
  obtain ⟨W1,hW1⟩:∃ W1,(w.alloc (.deferred (some []))).alloc (.loop rec0)=W1:=⟨_,rfl⟩
  obtain ⟨hr1,he1⟩:=hg.sr.rel.begin rec0 hrr
  rw[hW1] at hr1 he1
  obtain ⟨g1,hg1⟩:∃ g1,(g.zW s.H.length rec0).put s.H.length (some (w.heap.size+1)) []=g1:=⟨_,rfl⟩
  have hmu1:g1.mu s.H.length=some (w.heap.size+1):=by rw[<-hg1]; exact Gh.bz _ _ _ _
  have hlr1:g1.lr s.H.length=rec0:=by rw[<-hg1]; simp[Gh.put,Gh.zW]
  have hst1:g1.S=g.S:=by rw[<-hg1]; rfl
  rw[hg1] at hr1 he1
  have hB1:(s.H++[aD.rng .ready])[s.H.length]? = some (.rng .ready):=by simp
  have hsz1:W1.heap.size=w.heap.size+2:=by rw[<-hW1]; simp
  have hD1:W1.heap[w.heap.size]? = some (.deferred (some [])):=by
   rw[<-hW1]; exact(Below.heap_alloc _ _ _ (by simp)).trans (World.alloc_heap_new w _)
  have hfr1:∀ t,VR s.H g w (look (dK (cx.keep f (za body)) s).fr t) (a.tmps.getD t undef):=fun t=>(hg.dK (keep:=cx.keep f (za body))).sr.fr t
  have hy:oI cx (fun H g w=>Bs H g w/\Ext (s.H++[.rng .ready]) g1 W1 H g w) (nM cx.P.funcs.size call s.H.length (roundOf (fun s k=>nW cx call rg nf f lo N asg s k) (fun s k=>nW cx call rg nf f lo N body s k) lo s.H.length ps.toList (dK (cx.keep f (za body)) s).fr)):=by
   refine⟨fun H g w H' g' w' hb he=>⟨hcall.up _ _ _ _ _ _ hb.1 he,hb.2.trans he⟩,fun b args H lo' r' hy F' n' l g' w0' w' cargs hF' hb hr' hgl' hv' hmu'=>?_⟩
   unfold nM at hy
   rw[br] at hy
   split at hy
   ·rename_i hbb
    have hbb:b=s.H.length:=by have:=Nat.eq_of_beq_eq_true hbb; omega
    subst hbb
    have hB':∃ st,H[s.H.length]? = some (.rng st):=by
     obtain ⟨B',hB',ht⟩:=hb.2.blk _ _ hB1
     cases B' with
     | rng st=>exact⟨st,hB'⟩
     | dead=>have h1:=hr'.blk _ _ hB'; rw[show g'.mu s.H.length=none from h1] at hmu'; cases hmu'
     | box _=>exact ht.elim
     | mp _ _ _=>exact ht.elim
     | hole=>exact ht.elim
     | row wr _ _=>cases wr<;>exact ht.elim
    obtain ⟨st',hB'⟩:=hB'
    obtain ⟨m1,m2⟩:=hb.2.GV hB1 hB'
    have hex:=he1.trans hb.2
    exact xu (rec0:=rec0) (Bs:=Bs)
     (fun F n mb w0 r H0 gs ws k Q s g a w hF hb0 hg h hk=>dD hcall hrg horc hmx asg F n mb w0 r H0 gs ws k Q s g a w hF (.inr c3) hb0 hg h hk)
     (fun F n mb w0 r H0 gs ws k Q s g a w hF hb0 hg h hk=>dD hcall hrg horc hmx body F n mb w0 r H0 gs ws k Q s g a w hF (.inr c4) hb0 hg h hk)
     c2 hlo (by rw[hrec]) (by rw[hrec]) (by rw[hrec]) (by rw[hrec]; exact hg.siz) hy hF' hr' hb.1 hgl' (fun t=>by rw[hrec]; exact VR.ext hex _ _ (hfr1 t)) (m2.trans hlr1) hv' hmu'
   ·exact hcall.yl b args H lo' r' hy F' n' l g' w0' w' cargs hF' hb.1 hr' hgl' hv' hmu'
  have hv1:bp (s.H++[.rng .ready]) g1 W1 (.yld s.H.length :: cap) (.func (.yield (w.heap.size+1)) #[] #[] :: es.toList):=by
   rw[bp]
   refine⟨_,_,rfl,?_,bp.ext he1 _ _ hcv⟩
   rw[VR,hB1]
   exact⟨_,hmu1,rfl⟩
  have hgl1:∀ (G:Nat) (vs:List Value),cx.glob G=some vs->bB (s.H++[.rng .ready]) g1 W1 G 0 vs:=fun G vs hG=>(hg.sr.gl G vs hG).ext he1
  have hci:=(hrg _ _ hy).fn gf _ _ lo (out,H2) (iD hcb) hcl F (n - 1) g1 w0 W1 _ hF hro ⟨hcall.up _ _ _ _ _ _ hb0 (hg.ext.trans he1),Ext.refl hr1⟩ hr1 hgl1 hv1
  refine⟨w.heap.size+1,[{ target:=.collected w.heap.size,args:=#[] }],W1,{ target:=.fn (.func gf) es,args:=#[.func (.yield (w.heap.size+1)) #[] #[]] },W1,gf,
   #[.func (.yield (w.heap.size + 1)) #[] #[]] ++ es, W1, ?_, ?_, ?_, ?_, fun h => (by rw [hF.1] at h; cases h), ?_⟩
  ·rw[<-hW1,hrec]; exact run_enterLoop_outer _ _ _ _ _
  ·simp only[resolve,hgv]
   simp[go_sem]
  ·intro f' _; exact hF.2.1 f'
  ·simp[invoke,oS hcb]
  ·have ea:(Value.func (.yield (w.heap.size+1)) #[] #[] :: es.toList).toArray=#[.func (.yield (w.heap.size+1)) #[] #[]]++es:=by apply Array.ext'; simp
   rw[<-ea]
   refine hci.mono ?_
   rintro e W2 ⟨g2,e1,e2,e3,e4,e6,e5⟩
   cases out with
   | pan x=>cases h
   | ret x =>
    cases e with
    | panicked _=>exact e5.elim
    | outgrown=>exact e5.elim
    | returned c =>
     have fin:∀ (st:cp) (e:E),st≠.busy->H2[s.H.length]? = some (.rng st)->k e ⟨s.fr,H2.set s.H.length .dead⟩=some r ->
       ∃ W3,(Instr.endLoop (w.heap.size+1)).run cx.P W2=.ok (iQ rec0 st).pending W3/\∃ g3,Good cx N mb lo H0 gs ws w0 ⟨s.fr,H2.set s.H.length .dead⟩ g3 { a with defers:={ target:=.collected w.heap.size,args:=#[] } :: a.defers } W3:=fun st e hnb hB2 h=>by
      obtain ⟨m1,m2⟩:=e2.GV hB1 hB2
      obtain ⟨l2,hl2,hw2⟩:=e1.blk _ _ hB2
      rw[m1,hmu1] at hl2; cases hl2
      rw[m2,hlr1] at hw2
      have hel:=run_endLoop (P:=cx.P) hw2 (by cases st<;>first | (intro h; cases h; done) | exact absurd rfl hnb)
      obtain ⟨p1,p2⟩:=e1.rng hB2 .dead none (.loop { iQ rec0 st with state:=.exhausted }) (m1.trans hmu1) hw2 (.inr ⟨rfl,rfl⟩)
      have hex:=he1.trans (e2.trans p2)
      have hlen:s.H.length<=H2.length:=by have:(s.H++[aD.rng .ready]).length<=H2.length:=e3; simp at this; omega
      refine⟨_,hel,_,⟨p1,fun t=>VR.ext hex _ _ (hg.sr.fr t),fun G vs hG=>(hg.sr.gl G vs hG).ext hex⟩,hg.ext.trans hex,by simp; exact Nat.le_trans hg.len hlen,fun c hc hc'=>?_,hg.siz,?_,Nat.le_trans hg.mbw hex.size,?_⟩
      ·have hcs:c<s.H.length:=Nat.lt_of_lt_of_le hc' hg.len
       show (H2.set s.H.length .dead)[c]? = _
       rw[List.getElem?_set_ne (by omega),e4 c hc (by simp; omega),List.getElem?_append_left hcs]
       exact hg.low c hc hc'
      ·obtain ⟨ms,q1,q2,q3⟩:=hg.dfr
       refine⟨_ :: ms,by show _ :: a.defers=_; rw[q1]; rfl,Marks.cons (q2.lZ hex.kept) hg.mbw ((e2.trans p2).kept _ _ hD1) (fun r hr=>?_),fun h=>by rw[hfree] at h; cases h⟩
       have:=q2.lt hr
       omega
      ·show g2.S=gs.S
       rw[e6,hst1]; exact hg.st
     replace h:zb s.H.length H2 (fun e H=>k e ⟨s.fr,H⟩)=some r:=h
     unfold zb mg at h
     split at h
     ·rename_i hB2
      obtain ⟨W3,hel,g3,hg3⟩:=fin .ready .normal (by simp) hB2 h
      exact⟨none,W3,hel,hk .normal .normal _ _ _ _ hg3 trivial h⟩
     ·rename_i i hB2
      obtain ⟨W3,hel,g3,hg3⟩:=fin (.done (.exit i)) (.exit i) (by simp) hB2 h
      exact⟨some (.exit i),W3,hel,wpIn_exit (hk (.exit i) (.exit i) _ _ _ _ hg3 rfl h)⟩
     ·rename_i i hB2
      obtain ⟨W3,hel,g3,hg3⟩:=fin (.done (.goto i)) (.goto i) (by simp) hB2 h
      exact⟨some (.goto i),W3,hel,wpIn_goto (hk (.goto i) (.goto i) _ _ _ _ hg3 rfl h)⟩
     ·rename_i hB2
      obtain ⟨W3,hel,g3,hg3⟩:=fin (.done .ret) .ret (by simp) hB2 h
      exact⟨some .ret,W3,hel,wpIn_ret (hk .ret .ret _ _ _ _ hg3 trivial h)⟩
     ·cases h
 | .refuse _,F,n,mb,w0,r,H0,gs,ws,k,Q,s,g,a,w,hF,hro,hb0,hg,h,hk=>by cases h
theorem yG (args:List A) (t:Nat):look (frame args) t=(args[t]?).getD .any:=by
 have gen:∀ (args:List A) (i t:Nat),look ((args.zipIdx i).map fun p=>(p.2,p.1)) t=if i<=t then (args[t - i]?).getD .any else .any:=by
  intro args
  induction args with
  | nil=>intro i t; simp[look]
  | cons x r ih =>
   intro i t
   rw[List.zipIdx_cons,List.map_cons,ek,ih]
   by_cases e:i=t
   ·subst e; simp
   ·rw[if_neg e]
    by_cases hlt:i<t
    ·rw[if_pos (by omega),if_pos (by omega)]
     rw[show t - i=(t - (i+1))+1 by omega,List.getElem?_cons_succ]
    ·rw[if_neg (by omega),if_neg (by omega)]
 have:=gen args 0 t
 simpa [frame] using this
theorem tf {P:Program} {t:TypeId} {c d:Value} (h:(Instr.loadAt t c).run P w=.ok d w):(do loadVar t (<-asAddr c):Sem Value).run P w=.ok d w:=by
 unfold Instr.loadAt at h
 cases c with
 | pointer p=>cases p with
  | some p=>simpa [Instr.sureAddr,asAddr] using h
  | none=>simp[Instr.sureAddr,stuck,Sem.run,Result.andThen] at h
 | _=>simp[Instr.sureAddr,stuck,Sem.run,Result.andThen] at h
def GC (tmps:Array Value):ResultVar->Sem Value
 | .tmp t=>pure (tmps.getD t undef)
 | .cell a t=>do loadVar t (<-asAddr (tmps.getD a undef))
theorem pa (hs:SR cx s g w0 a w) {r:ResultVar} {x:A} (h:ru cx s r=some x):∃ c,(GC a.tmps r).run cx.P w=.ok c w/\VR s.H g w x c:=by
 cases r with
 | tmp t=>cases h; exact⟨_,rfl,hs.fr t⟩
 | cell b t =>
  obtain ⟨d,h1,h2⟩:=qm hs.rel h (hs.fr b)
  exact⟨d,tf h1,h2⟩
theorem pb (hs:SR cx s g w0 a w):∀ {rs:List ResultVar} {xs:List A},n6 cx s rs=some xs->∃ cs:List Value,(rs.mapM (GC a.tmps)).run cx.P w=.ok cs w/\bp s.H g w xs cs/\cs.length=rs.length
 | [],xs,h=>by simp only[n6,Option.some.injEq] at h; subst h; exact⟨[],by simp,by rw[bp],rfl⟩
 | r :: rs,xs,h=>by
  rw[n6] at h
  obtain ⟨y,hy,h⟩:=bt h
  obtain ⟨ys,hys,h⟩:=bt h
  cases h
  obtain ⟨c,h1,h2⟩:=pa hs hy
  obtain ⟨cs,h3,h4,h5⟩:=pb hs hys
  refine⟨c :: cs,?_,by rw[bp]; exact⟨c,cs,rfl,h2,h4⟩,by simp[h5]⟩
  rw[List.mapM_cons,Sem.run_bind,h1]
  simp only[Result.andThen_ok,Sem.run_bind,h3,Sem.run_pure]
theorem yZ (fn:Func) (tmps:Array Value):results fn tmps=(do let vs <-fn.results.mapM (GC tmps); pure (if h:vs.size=1 then vs[0] else .tuple vs)):=by
 unfold results
 congr 1
theorem wG (hs:SR cx s g w0 a w) {fn:Func} {x:A} (h:zM cx fn s=some x):∃ c,(results fn a.tmps).run cx.P w=.ok c w/\VR s.H g w x c:=by
 rw[yZ,Array.mapM_eq_mapM_toList]
 unfold zM at h
 split at h
 ·rename_i r hr
  obtain ⟨c,h1,h2⟩:=pa hs h
  refine⟨c,?_,h2⟩
  rw[hr]
  simp[h1]
 ·rename_i hne
  obtain ⟨xs,hxs,h⟩:=bt h
  cases h
  obtain ⟨cs,h1,h2,h3⟩:=pb hs hxs
  refine⟨.tuple cs.toArray,?_,by rw[VR]; exact⟨_,rfl,by simpa using h2⟩⟩
  have hn1:cs.length≠1:=fun h1'=>by
   obtain ⟨r,hr⟩:=List.length_eq_one_iff.1 (show fn.results.toList.length=1 by omega)
   exact hne r hr
  simp[h1,hn1]
theorem re {k m:Nat} (h:k<m):Nat.ble m k=false:=by
 cases hb:Nat.ble m k with
 | false=>rfl
 | true=>rw[Nat.ble_eq] at hb; omega
theorem Good.calm (hg:Good cx N mb lo H0 gs ws w0 s g a w) {B:Nat} (hB:ws.heap.size<=B) (hb:w0.heap.size<=B) (hc:cb B w w') (hl:∀ (k:Nat) (o:Loop),w.heap[k]? = some (.loop o)->w'.heap[k]? = some (.loop o)) (fr:Bool):Good cx N ⟨0,a.defers,fr⟩ lo H0 gs ws w0 s g a w' :=
 have h0:=hg.sr.rel.wo hc
 ⟨⟨hg.sr.rel.calm hb hc hl,fun t=>VR.eZ h0 _ _ (hg.sr.fr t),fun G vs hG=>(hg.sr.gl G vs hG).eZ h0⟩,hg.ext.calm hg.sr.rel hB hc,hg.len,hg.low,hg.siz,gW.start _ _ _ _,Nat.zero_le _,hg.st⟩
theorem wk {fn:Func} {f:Nat} {r:R} (hg:Good cx N mb lo H0 gs ws w0 s g a w) (h:(nj (eh lo (cx.acts f 3000000) s) fun s=>lU cx fn s)=some r):∃ v,(results fn a.tmps).run cx.P w=.ok v w/\gw H0 gs w0 ws lo r (.returned v) w:=by
 obtain ⟨g1,hg',_⟩:=Good.acts (cx.acts f 3000000) hg
 replace h:lU cx fn (eh lo (cx.acts f 3000000) s)=some r:=h
 generalize eh lo (cx.acts f 3000000) s=s' at hg' h
 obtain ⟨x,hx,hrx⟩:=bt ((AV cx fn s').symm.trans h)
 cases hrx
 obtain ⟨v,h1,h2⟩:=wG hg'.sr hx
 exact⟨v,h1,g1,hg'.sr.rel,hg'.ext,hg'.len,hg'.low,hg'.st,h2⟩
theorem rG {args:List A} {cargs:List Value} {m:Nat} (hv:bp H g w args cargs):∀ t,VR H g w (look (frame args) t) ((cargs.toArray++Array.replicate m undef).getD t undef):=fun t=>by
 rw[yG,Array.getD_eq_getD_getElem?]
 cases ha:args[t]? with
 | none=>rw[Option.getD_none,VR]; trivial
 | some x =>
  obtain ⟨d,hd,hvd⟩:=hv.get ha
  rw[Array.getElem?_append_left (by simpa using (List.getElem?_eq_some_iff.1 hd).1)]
  simp[hd]
  exact hvd
theorem xq:∀ {l:List Oper} {b i d:Nat},recAt b l=some (i,d)->b<=i
 | [],b,i,d,h=>by cases h
 | o :: os,b,i,d,h=>by
  unfold recAt at h
  split at h
  ·cases h; exact Nat.le_refl _
  ·have:=xq h; omega
theorem sw:∀ {l:List Oper} {b i d:Nat},recAt b l=some (i,d)->∃ o,l[i - b]? = some o/\me o=some d
 | [],b,i,d,h=>by cases h
 | o :: os,b,i,d,h=>by
  unfold recAt at h
  split at h
  ·rename_i d' hd
   cases h
   exact⟨o,by rw[Nat.sub_self]; rfl,hd⟩
  ·obtain ⟨o',h1,h2⟩:=sw h
   have hb:b+1<=i:=xq h
   refine⟨o',?_,h2⟩
   rw[show i - b=i - (b+1)+1 by omega]
   exact h1
theorem wF {Bs:ay->Gh->World->Prop} {call:aS} {rg:aS->aS} (hcall:dW cx Bs call) (hrg:qG cx rg) (horc:jA cx) (hmx:cx.P.follows .mixedOrders=true) {nf q lo:Nat} {cap:List A} {v:A} {H:ay} {k:ay->Option R} {r:R} (h:wE cx call rg nf lo q cap v H k=some r) {F:Fence} {n:Nat} {g:Gh} {w0 w:World} {ccap:List Value} {u:FrameMode} {cv:Value}
  (hF:gq F) (hro:F.round=none) (hbs:Bs H g w) (hr:Rel H g w0 w) (hgl:∀ (G:Nat) (vs:List Value),cx.glob G=some vs->bB H g w G 0 vs) (hv:bp H g w cap ccap) (hcv:VR H g w v cv) (hu:u=.panicking [{ v:=cv,recovered:=false }]∨(u=.returning/\cv=.nilIface)) :
  CallsDIn F n cx.P q ccap.toArray u w fun e u' w'=>(∃ x,e=.returned x)/\settle u'=.returning/\∃ H' g',Rel H' g' w0 w'/\Ext H g w H' g' w'/\H.length<=H'.length/\(∀ b,b<lo->b<H.length->H'[b]? = H[b]?)/\g'.S=g.S/\k H'=some r:=by
 unfold wE at h
 obtain ⟨fn,hfn,h⟩:=bt h
 obtain ⟨c,hc,h⟩:=bt h
 split at h
 ·rename_i id ops rest
  split at h
  ·rename_i o os hops
   obtain ⟨d,hd,h⟩:=bt h
   obtain ⟨hchk,h⟩:=bf h
   simp only[Nz,Bool.and_eq_true,decide_eq_true_eq] at hchk
   obtain ⟨⟨⟨hle,hdo⟩,hnr⟩,hre⟩:=hchk
   have hres:fn.results=#[]:=by
    have:fn.results.toList=[]:=by simpa using hre
    apply Array.ext'; simpa using this
   have hl:=hv.length
   have hdst:o.dst=some d:=(nc (P:=cx.P) hd).1
   have hd':∀ o∈ops.toList,∀ d,o.dst=some d->d<fn.ntmps:=fun o ho d hod=>by
    have:=List.all_eq_true.1 hdo o ho
    rw[hod] at this; simpa using this
   refine callsDIn_of_wpSIn hfn hc (hF.2.1 q) fun c₀ cs hu0=>?_
   obtain ⟨u',hset,hrec⟩:∃ u',settle u'=.returning/\(recoverD (c₀ :: cs)=some (cv,{ c₀ with mode:=u' } :: cs)∨(recoverD (c₀ :: cs)=none/\({ c₀ with mode:=u' } :: cs:List Frame)=c₀ :: cs/\cv=.nilIface)):=by
    rcases hu with hu | ⟨hu,hcn⟩
    ·refine⟨.panicking [{ v:=cv,recovered:=true }],rfl,.inl ?_⟩
     have e:=hu0.trans hu
     simp only[recoverD,e]
    ·refine⟨.returning,rfl,.inr ⟨?_,?_,hcn⟩⟩
     ·have e:=hu0.trans hu
      simp only[recoverD,e]
     ·have:({ c₀ with mode:=.returning }:Frame)=c₀:=by rw[<-hu,<-hu0]
      rw[this]
   refine wpSIn_seq (qf hops hd (fun f=>hF.2.1 f) hro hrec ?_)
   have hsz:(ccap.toArray++Array.replicate (fn.ntmps - ccap.toArray.size) undef).size=fn.ntmps:=by simp; omega
   have hdl:d<fn.ntmps:=hd' o (by rw[hops]; simp) d hdst
   have hg0:Good cx fn.ntmps ⟨0,[],false⟩ lo H g w w0 ⟨(d,v) :: frame cap,H⟩ g (({ tmps:=ccap.toArray++Array.replicate (fn.ntmps - ccap.toArray.size) undef,defers:=[] }:Act).put (some d) cv) w:=by
    refine⟨⟨hr,fun t=>?_,hgl⟩,Ext.refl hr,Nat.le_refl _,fun _ _ _=>rfl,by rw[Act.pq]; exact hsz,gW.start _ _ _ _,Nat.zero_le _,rfl⟩
    show VR H g w (look ((d,v) :: frame cap) t) (slot _ t)
    rw[ek]
    split
    ·rename_i e; subst e; rw[fi (by rw[hsz]; exact hdl)]; exact hcv
    ·rename_i e; rw[dL (fun e2=>e (by cases e2; rfl))]; exact rG hv t
   refine fB (f:=q) (ops:=ops) hcall hbs horc hF (fun s' g' a' w' hg' h'=>?_) (fun x s' g' a' w' c hg' hvx h'=>by cases h') os _ g _ w (fun o' ho'=>hd' o' (by rw[hops]; simp[ho'])) hg0 h
   refine wpSIn_of_wpIn hro ?_
   refine dD hcall hrg horc hmx rest F n ⟨0,[],false⟩ w0 r H g w _ _ s' g' a' w' hF (.inr hnr) hbs hg' h' fun e e' s2 g2 a2 w2 hg2 he h2=>?_
   have hdf:a2.defers=[]:=by
    obtain ⟨ms,q1,_,q3⟩:=hg2.dfr
    rw[q1,q3 rfl]; rfl
   have fin:∀ x:Value,k s2.H=some r->(∃ y:Value,Ending.returned x=.returned y)/\settle u'=.returning/\∃ H' g',Rel H' g' w0 w2/\Ext H g w H' g' w2/\H.length<=H'.length/\(∀ b,b<lo->b<H.length->H'[b]? = H[b]?)/\g'.S=g.S/\k H'=some r:=fun x hk=>⟨⟨x,rfl⟩,hset,s2.H,g2,hg2.sr.rel,hg2.ext,hg2.len,hg2.low,hg2.st,hk⟩
   have hrs:(results fn a2.tmps).run cx.P w2=.ok (.tuple #[]) w2:=by simp[results,hres]
   cases e with
   | normal=>cases e'<;>first
     | exact⟨hdf,u',rfl,_,hrs,fin _ h2⟩
     | exact he.elim
   | ret=>cases e'<;>first
     | exact⟨hdf,u',rfl,_,hrs,fin _ h2⟩
     | exact he.elim
   | pan x=>cases h2
   | exit i=>cases h2
   | goto i=>cases h2
  ·cases h
 ·rename_i id ops
  obtain ⟨⟨i0,d⟩,hra,h⟩:=bt h
  obtain ⟨hchk,h⟩:=bf h
  simp only[NB,Bool.and_eq_true,decide_eq_true_eq] at hchk
  obtain ⟨⟨⟨⟨hle,hdl⟩,hok⟩,hna0⟩,hre⟩:=hchk
  obtain ⟨o0,ho0,hd⟩:=sw hra
  rw[Nat.sub_zero,Array.getElem?_toList] at ho0
  have hna:o0.after=#[]:=by
   rw[ho0] at hna0
   have:o0.after.toList=[]:=by simpa using hna0
   apply Array.ext'; simpa using this
  have hres:fn.results=#[]:=by
   have:fn.results.toList=[]:=by simpa using hre
   apply Array.ext'; simpa using this
  have hl:=hv.length
  have hsz:(ccap.toArray++Array.replicate (fn.ntmps - ccap.toArray.size) undef).size=fn.ntmps:=by simp; omega
  refine callsDIn_of_wpSIn hfn hc (hF.2.1 q) fun c₀ cs hu0=>?_
  obtain ⟨u',hset,hrec⟩:∃ u',settle u'=.returning/\(recoverD (c₀ :: cs)=some (cv,{ c₀ with mode:=u' } :: cs)∨(recoverD (c₀ :: cs)=none/\({ c₀ with mode:=u' } :: cs:List Frame)=c₀ :: cs/\cv=.nilIface)):=by
   rcases hu with hu | ⟨hu,hcn⟩
   ·refine⟨.panicking [{ v:=cv,recovered:=true }],rfl,.inl ?_⟩
    have e:=hu0.trans hu
    simp only[recoverD,e]
   ·refine⟨.returning,rfl,.inr ⟨?_,?_,hcn⟩⟩
    ·have e:=hu0.trans hu
     simp only[recoverD,e]
    ·have:({ c₀ with mode:=.returning }:Frame)=c₀:=by rw[<-hu,<-hu0]
     rw[this]
  refine pD hmx ho0 hd hna hok (fun f=>hF.2.1 f) hro (by rw[hsz]; exact hdl) hrec ?_
  have hg0:Good cx fn.ntmps ⟨0,[],false⟩ lo H g w w0 ⟨(d,v) :: frame cap,H⟩ g (({ tmps:=ccap.toArray++Array.replicate (fn.ntmps - ccap.toArray.size) undef,defers:=[] }:Act).put (some d) cv) w:=by
   refine⟨⟨hr,fun t=>?_,hgl⟩,Ext.refl hr,Nat.le_refl _,fun _ _ _=>rfl,by rw[Act.pq]; exact hsz,gW.start _ _ _ _,Nat.zero_le _,rfl⟩
   show VR H g w (look ((d,v) :: frame cap) t) (slot _ t)
   rw[ek]
   split
   ·rename_i e; subst e; rw[fi (by rw[hsz]; exact hdl)]; exact hcv
   ·rename_i e; rw[dL (fun e2=>e (by cases e2; rfl))]; exact rG hv t
  refine oZ hcall hbs horc hF hmx hg0 h (fun s2 g2 a2 w2 hg2 h2=>?_) (fun x s' g' a' w' c hg' hvx h'=>by cases h')
  have hdf:a2.defers=[]:=by
   obtain ⟨ms,q1,_,q3⟩:=hg2.dfr
   rw[q1,q3 rfl]; rfl
  have fin:∀ x:Value,k s2.H=some r->(∃ y:Value,Ending.returned x=.returned y)/\settle u'=.returning/\∃ H' g',Rel H' g' w0 w2/\Ext H g w H' g' w2/\H.length<=H'.length/\(∀ b,b<lo->b<H.length->H'[b]? = H[b]?)/\g'.S=g.S/\k H'=some r:=fun x hk=>⟨⟨x,rfl⟩,hset,s2.H,g2,hg2.sr.rel,hg2.ext,hg2.len,hg2.low,hg2.st,hk⟩
  have hrs:(results fn a2.tmps).run cx.P w2=.ok (.tuple #[]) w2:=by simp[results,hres]
  exact⟨hdf,u',rfl,_,hrs,fin _ h2⟩
 ·cases h
theorem rW:∀ {os init:List Oper} {o:Oper},xb os=some (init,o)->os=init++[o]
 | [],_,_,h=>by cases h
 | [x],_,_,h=>by
  simp only[xb,Option.some.injEq,Prod.mk.injEq] at h
  rw[<-h.1,<-h.2]; rfl
 | x :: y :: os,init,o,h=>by
  unfold xb at h
  simp only[Option.map_eq_some_iff] at h
  obtain ⟨⟨i,o'⟩,h1,h2⟩:=h
  cases h2
  rw[rW h1]; rfl
theorem yj {o:Oper} {q:Nat} {cap:List A} (h:Ck cx s o=some (q,cap)) (hs:SR cx s g w0 a w):o.guard=none/\o.dst=none/\cW cx.P q=true/\∃ es:Array Value,bp s.H g w cap es.toList/\(execOp a.eval o).run cx.P w=.ok (.defer { target:=.fn (.func q) es,args:=#[] }) w:=by
 unfold Ck at h
 split at h
 ·rename_i c ho
  split at h
  ·rename_i gop hcal hargs
   split at h
   ·rename_i q' cap' hop
    obtain ⟨hc,h⟩:=bf h
    cases h
    simp only[Nw,Bool.and_eq_true] at hc
    have hvr:=ox (cx:=cx) (x:=gop) (fun t _=>hs.fr t) hs.gl
    rw[hop,VR] at hvr
    obtain ⟨ds,es,e1,e2,e3⟩:=hvr
    rw[bp] at e2
    have hds:ds=#[]:=by apply Array.ext'; simpa using e2
    subst hds
    have hca:c.args=#[]:=by apply Array.ext'; simpa using hargs
    refine⟨la hc.1.2,by simpa using hc.2,hc.1.1,es,e3,?_⟩
    unfold execOp
    rw[ho]
    simp[resolve,hcal,e1,Deferred.ofValue,hca]
   ·cases h
  ·cases h
 ·cases h
theorem nT {Bs:ay->Gh->World->Prop} {call:aS} {rg:aS->aS} (hcall:dW cx Bs call) (hrg:qG cx rg) (horc:jA cx) (hmx:cx.P.follows .mixedOrders=true) {n f lo:Nat} {args:List A} {H:ay} {r:R} (h:aB cx call rg n f args H lo=some r) {F:Fence} {d:Nat} {g:Gh} {w0 w:World} {cargs:List Value} (hF:gq F) (hro:F.round=none) (hbs:Bs H g w) (hr:Rel H g w0 w)
  (hgl:∀ (G:Nat) (vs:List Value),cx.glob G=some vs->bB H g w G 0 vs) (hv:bp H g w args cargs):CallsIn F d cx.P f cargs.toArray w (gw H g w0 w lo r):=by
 rw[aB] at h
 obtain ⟨fn,hfn,h⟩:=bt h
 obtain ⟨c,hc,h⟩:=bt h
 obtain ⟨hle,h⟩:=bf h
 have hle:=of_decide_eq_true hle
 have hl:=hv.length
 refine callsIn_of_wp_marks hfn hc (hF.2.1 f) ?_ hro
 have hsz:(cargs.toArray++Array.replicate (fn.ntmps - cargs.toArray.size) undef).size=fn.ntmps:=by simp; omega
 have hfr:=rG (m:=fn.ntmps - cargs.toArray.size) hv
 have hbase:w0.heap.size<=w.heap.size:=hr.below.size
 have hg0:∀ b,Good cx fn.ntmps ⟨w.heap.size,[],b⟩ lo H g w w0 ⟨frame args,H⟩ g { tmps:=cargs.toArray++Array.replicate (fn.ntmps - cargs.toArray.size) undef,defers:=[] } w:=fun b=>⟨⟨hr,hfr,hgl⟩,Ext.refl hr,Nat.le_refl _,fun _ _ _=>rfl,hsz,gW.start _ _ _ _,Nat.le_refl _,rfl⟩
 cases hdf:wZ c with
 | false =>
  rw[hdf] at h
  refine dD (cx:=cx) (N:=fn.ntmps) (lo:=lo) (nf:=n) (f:=f) hcall hrg horc hmx c F d ⟨w.heap.size,[],true⟩ w0 r H g w _ _ ⟨frame args,H⟩ g _ w hF (.inl ⟨hro,rfl⟩) hbs (hg0 true) h fun e e' s' g' a' w' hg' he h'=>?_
  obtain ⟨ms,q1,q2,_⟩:=hg'.dfr
  have hret:(nj (eh lo (cx.acts f 3000000) s') fun s=>lU cx fn s)=some r->LeavesInM F d cx.P fn a'.tmps (gw H g w0 w lo r) a'.defers .returning w':=fun h'=>by
   rw[q1]
   refine m5 ms .returning w' (by simp) q2 fun W' hcm hlm=>?_
   obtain ⟨v,h1,h2⟩:=wk (hg'.calm (Nat.le_refl _) hbase hcm hlm true) h'
   exact⟨v,h1,h2⟩
  cases e with
  | normal=>cases e'<;>first
    | exact hret h'
    | exact he.elim
  | ret=>cases e'<;>first
    | exact hret h'
    | exact he.elim
  | pan x=>cases e'<;>first
    | (obtain ⟨c',rfl,hvr⟩:=he
       cases h'
       show LeavesInM F d cx.P fn a'.tmps _ a'.defers (.panicking _) w'
       rw[q1]
       refine m5 ms _ w' (by simp) q2 fun W' hcm hlm=>?_
       have hg2:=hg'.calm (Nat.le_refl _) hbase hcm hlm true
       exact⟨g',hg2.sr.rel,hg2.ext,hg2.len,hg2.low,hg2.st,c',rfl,VR.eZ (hg'.sr.rel.wo hcm) _ _ hvr⟩)
    | exact he.elim
  | exit i=>cases h'
  | goto i=>cases h'
 | true =>
  rw[hdf] at h
  replace h:vb cx call rg n f lo fn c args H=some r:=h
  unfold vb at h
  split at h
  ·rename_i c0 id ops rest _
   obtain ⟨hchk,h⟩:=bf h
   rw[Nx,Bool.and_eq_true] at hchk
   have hd':∀ o∈ops.toList,∀ d,o.dst=some d->d<fn.ntmps:=fun o ho d hod=>by
    have:=List.all_eq_true.1 hchk.1 o ho
    rw[hod] at this; simpa using this
   have hem:∀ {s':St} {g':Gh} {a':Act} {w':World},Good cx fn.ntmps ⟨w.heap.size,[],false⟩ lo H g w w0 s' g' a' w'->a'.defers=[]:=fun hg'=>by
    obtain ⟨ms,q1,_,q3⟩:=hg'.dfr
    rw[q1,q3 rfl]; rfl
   refine wpIn_seq (dD hcall hrg horc hmx c0 F d ⟨w.heap.size,[],false⟩ w0 r H g w _ _ ⟨frame args,H⟩ g _ w hF (.inr hchk.2) hbs (hg0 false) h fun e e' s1 g1 a1 w1 hg1 he h=>?_)
   cases e with
   | normal =>
    cases e' with
    | normal =>
     obtain ⟨⟨init,dop⟩,hla,h⟩:=bt h
     have hsp:=rW hla
     refine wpIn_seq (wpIn_region_list ?_)
     rw[hsp]
     refine ml (Q:=fun e a w2=>e=.normal/\wpListIn F d cx.P ops _ [dop] a w2) (fun e a w2 he h=>absurd h.1 he) (fun a w2 h=>h.2) init a1 w1 ?_
     refine fB (f:=f) (ops:=ops) hcall hbs horc hF (fun s2 g2 a2 w2 hg2 h=>⟨rfl,?_⟩) (fun x s' g' a' w' c hg' hvx h=>by cases h) init s1 g1 a1 w1 (fun o ho=>hd' o (by rw[hsp]; simp[ho])) hg1 h
     obtain ⟨⟨q,cap⟩,hcl,h⟩:=bt h
     obtain ⟨k1,k2,hcb,es,hes,hrun⟩:=yj (o:=dop) hcl hg2.sr
     unfold wpListIn
     rw[if_pos (by simp[Region.wanted,k1])]
     refine⟨fun f _=>hF.2.1 f,?_⟩
     rw[hro,Oper.semAt_none,hrun,Oper.uponIn_defer,k2,hem hg2]
     obtain ⟨dd,hdd⟩:∃ dd:Deferred,dd={ target:=.fn (.func q) es,args:=#[] }:=⟨_,rfl⟩
     rw[<-hdd]
     refine dD hcall hrg horc hmx rest F d ⟨w.heap.size,[dd],true⟩ w0 r s2.H g2 w2 _ _ s2 g2 { a2 with defers:=[dd] } w2 hF (.inl ⟨hro,rfl⟩) (hcall.up _ _ _ _ _ _ hbs hg2.ext) ⟨⟨hg2.sr.rel,hg2.sr.fr,hg2.sr.gl⟩,Ext.refl hg2.sr.rel,Nat.le_refl _,fun _ _ _=>rfl,hg2.siz,gW.start _ _ _ _,hg2.mbw,rfl⟩ h fun e e' s3 g3 a3 w3 hg30 he h=>?_
     have hg3:Good cx fn.ntmps ⟨w.heap.size,[dd],true⟩ lo H g w w0 s3 g3 a3 w3:=⟨hg30.sr,hg2.ext.trans hg30.ext,Nat.le_trans hg2.len hg30.len,fun b hb hb'=>(hg30.low b hb (Nat.lt_of_lt_of_le hb' hg2.len)).trans (hg2.low b hb hb'),hg30.siz,hg30.dfr,hg30.mbw,hg30.st.trans hg2.st⟩
     obtain ⟨ms,q1,q2,_⟩:=hg3.dfr
     replace q1:a3.defers=ms++[dd]:=q1
     have key:∀ (u:FrameMode) (x:A) (cv:Value),(u=.panicking [{ v:=cv,recovered:=false }]∨(u=.returning/\cv=.nilIface))->VR s3.H g3 w3 x cv->wE cx call rg n lo q cap x s3.H (fun H=>nj (eh lo (cx.acts f 3000000) ⟨s3.fr,H⟩) fun s=>lU cx fn s)=some r->LeavesInM F d cx.P fn a3.tmps (gw H g w0 w lo r) a3.defers u w3:=fun u x cv hu hx h=>by
      rw[q1]
      have hrunu:u≠.run:=by rcases hu with rfl | ⟨rfl,_⟩<;>simp
      refine m5 ms u w3 hrunu q2 fun W' hcm hlm=>?_
      have hg4:=hg3.calm (Nat.le_refl _) hbase hcm hlm true
      have h0:=hg3.sr.rel.wo hcm
      refine⟨hrunu,.inr ⟨fun hs=>(by rw[hF.1] at hs; cases hs),.func q,es,q,es,by rw[hdd],?_,fun f _=>hF.2.1 f,?_⟩⟩
      ·rw[hdd]
       have:=oS hcb (#[]++es) W'
       simpa [invoke] using this
      ·have hcap:bp s3.H g3 W' cap es.toList:=bp.eZ h0 _ _ (bp.ext hg30.ext _ _ hes)
       have hrc:CallsDIn F.plain (d - 1) cx.P q es.toList.toArray u W' _:=wF (F:=F.plain) (n:=d - 1) hcall hrg horc hmx h hF rfl (hcall.up _ _ _ _ _ _ hbs hg4.ext) hg4.sr.rel hg4.sr.gl hcap (VR.eZ h0 _ _ hx) hu
       rw[show es.toList.toArray=es by simp] at hrc
       have hrc':CallsDIn F (d - 1) cx.P q es u W' _:=hrc
       refine hrc'.mono ?_
       rintro e u' w4 ⟨⟨v,rfl⟩,hset,H',g',j1,j2,j3,j4,j5,hk⟩
       show LeavesInM F d cx.P fn a3.tmps _ [] (settle u') w4
       rw[hset]
       have hx2:=hg4.ext.trans j2
       obtain ⟨v',l1,l2⟩:=wk (a:=a3) (mb:=⟨0,a3.defers,true⟩) (s:=⟨s3.fr,H'⟩) ⟨⟨j1,fun t=>VR.ext j2 _ _ (hg4.sr.fr t),fun G vs hG=>(hg4.sr.gl G vs hG).ext j2⟩,hx2,Nat.le_trans hg4.len j3,fun b hb hb'=>(j4 b hb (Nat.lt_of_lt_of_le hb' hg4.len)).trans (hg4.low b hb hb'),hg4.siz,gW.start _ _ _ _,Nat.zero_le _,j5.trans hg4.st⟩ hk
       exact⟨v',l1,l2⟩
     have hni:VR s3.H g3 w3 (.v .nilIface) .nilIface:=by rw[VR]
     cases e with
     | normal=>cases e' with
      | normal=>exact key .returning (.v .nilIface) .nilIface (.inr ⟨rfl,rfl⟩) hni h
      | _=>exact he.elim
     | ret=>cases e' with
      | ret=>exact key .returning (.v .nilIface) .nilIface (.inr ⟨rfl,rfl⟩) hni h
      | _=>exact he.elim
     | pan x=>cases e' with
      | panic ch =>
       obtain ⟨c',rfl,hvr⟩:=he
       exact key _ x c' (.inl rfl) hvr h
      | _=>exact he.elim
     | exit i=>cases h
     | goto i=>cases h
    | _=>exact he.elim
   | _=>cases h
  ·cases h
theorem wh {p:aD->Bool} {H:ay} {m:Nat} (h:(H.take m).all p=true) (b:Nat) (B:aD) (hb:b<m) (hB:H[b]? = some B):p B=true :=
 List.all_eq_true.1 h B (List.mem_of_getElem? (i:=b) (by rw[List.getElem?_take,if_pos hb]; exact hB))
theorem oV {m:Nat} {f:ay->Option R} {args:List A} {H:ay} {r:R} (h:nw m f args H=some r):aZ m args=true/\(H.take m).all (aD.under m)=true/\∃ o H1,f (H.take m)=some (o,H1)/\m<=H1.length/\(H1.take m).all (aD.under m)=true/\lq m o=true/\r=(o,H1.take m++H.drop m):=by
 unfold nw at h
 obtain ⟨h1,h⟩:=bf h
 obtain ⟨⟨o,H1⟩,h2,h⟩:=bt h
 obtain ⟨h3,h⟩:=bf h
 rw[Bool.and_eq_true] at h1
 simp only[Bool.and_eq_true] at h3
 cases h
 exact⟨h1.1,h1.2,o,H1,h2,Nat.le_of_ble_eq_true h3.1.1,h3.1.2,h3.2,rfl⟩
theorem Ci {k:Nat} {H:ay}:cutAt cx k H<=H.length:=by
 unfold cutAt
 cases hb:Nat.ble (cx.cut k) H.length with
 | true=>exact Nat.le_of_ble_eq_true hb
 | false=>exact Nat.le_refl _
theorem nU (horc:jA cx) (hmx:cx.P.follows .mixedOrders=true):∀ n,qG cx (aA cx n)
 | 0=>fun Bs base hy=>⟨⟨hy.up,fun b args H lo r h=>hy.yl b args H lo r (by
   rw[aA,br,if_pos (by rw[Nat.ble_eq]; omega)] at h; exact h)⟩,(fun k args H lo r hk h=>by rw[aA,re hk] at h; cases h),fun k args H lo r hk _ _ h=>by rw[aA,re hk] at h; cases h⟩
 | n+1=>fun Bs base hy=>by
  refine⟨⟨hy.up,fun b args H lo r h=>hy.yl b args H lo r (by
   rw[aA,br,if_pos (by rw[Nat.ble_eq]; omega)] at h; exact h)⟩,?_,fun k args H lo r hk h0 hm h=>?_⟩
  rotate_left 1
  ·rw[aA,re hk] at h
   replace h:(bif fK cx k H then nw (cutAt cx k H) (fun H=>aB cx (aA cx n DE) (aA cx n) n k args H lo) args H else bif fU cx k H then jG cx k args H else aB cx (aA cx n base) (aA cx n) n k args H lo)=some r:=h
   have hc:fK cx k H=true:=by
    unfold fK
    have:Nat.beq (cx.cut k) 0=false:=by
     cases hb:Nat.beq (cx.cut k) 0 with
     | false=>rfl
     | true=>exact absurd (Nat.eq_of_beq_eq_true hb) h0
    rw[this,Nat.ble_eq_true_of_le hm]; rfl
   have hcm:cutAt cx k H=cx.cut k:=by unfold cutAt; rw[Nat.ble_eq_true_of_le hm]; rfl
   simp only[hc,cond_true,hcm] at h
   obtain ⟨_,_,o,H1,_,hm1,_,_,rfl⟩:=oV h
   refine⟨by simp only[List.length_append,List.length_take,List.length_drop]; omega,fun b hb=>?_⟩
   rw[List.getElem?_append_right (by rw[List.length_take]; omega),List.length_take,List.getElem?_drop,Nat.min_eq_left hm1]
   congr 1; omega
  intro f args H lo r hkc h F d g w0 w cargs hF hro hbs hr hgl hv
  have hrg:=nU horc hmx n
  have hcall:=hrg Bs base hy
  rw[aA,re hkc] at h
  replace h:(bif fK cx f H then nw (cutAt cx f H) (fun H=>aB cx (aA cx n DE) (aA cx n) n f args H lo) args H else bif fU cx f H then jG cx f args H else aB cx (aA cx n base) (aA cx n) n f args H lo)=some r:=h
  cases hc:fK cx f H with
  | false =>
   rw[hc] at h
   cases hd:fU cx f H with
   | false=>rw[hd] at h; exact nT hcall hrg horc hmx h hF hro hbs hr hgl hv
   | true =>
    rw[hd] at h
    replace h:jG cx f args H=some r:=h
    unfold jG at h
    obtain ⟨y,hy,h⟩:=bt h
    obtain ⟨hv1,h⟩:=bf h
    cases h
    have hdp:cx.deep f=true:=by
     unfold fU at hd
     cases hq:cx.deep f with
     | true=>rfl
     | false=>rw[hq] at hd; cases hd
    have hcallok:=horc f _ y (.inr (.inr hdp)) hy g.S w cargs hr.out (fun G vs hG j v hj=>let ⟨e1,e2⟩:=hgl G vs hG j v hj; ⟨e1,e2.1,fun b hb=>by cases hb⟩) (uD hr 6 _ _ hv)
    refine(gY hF hcallok).mono ?_
    rintro e w' ⟨c',rfl,hb,hvr⟩
    refine⟨g,hr.eE hb,Ext.below hr hb,Nat.le_refl _,fun _ _ _=>rfl,rfl,?_⟩
    cases y with
    | v x=>rw[VR] at hvr; show VR H g w' (.v x) c'; rw[VR]; exact hvr
    | _=>cases hv1
  | true =>
   simp only[hc,cond_true] at h
   obtain ⟨hu1,hu2,o,H1,h9,hm1,hu3,hu4,rfl⟩:=oV h
   have hm:=Ci (cx:=cx) (k:=f) (H:=H)
   obtain ⟨hr',ag⟩:=hr.qz hm (wh hu2)
   have hno:oI cx (fun _ _ _=>True) DE:=⟨fun _ _ _ _ _ _ _ _=>trivial,fun _ _ _ _ _ h=>by cases h⟩
   refine(nT (hrg _ _ hno) hrg horc hmx h9 hF hro trivial hr' (fun G vs hG=>(hgl G vs hG).to ag) (bp.to ag _ _ hu1 hv)).mono ?_
   rintro e w' ⟨g1,k1,k2,k3,k4,k6,k5⟩
   obtain ⟨g2,e1,e2,e3,ag2⟩:=hr.join hm k1 k2 hm1 k6 (wh hu3)
   refine⟨g2,e1,e2,by simp only[List.length_append,List.length_take,List.length_drop]; omega,fun b hb hb'=>?_,e3,?_⟩
   ·by_cases hbm:b<cutAt cx f H
    ·rw[List.getElem?_append_left (by rw[List.length_take]; omega),List.getElem?_take,if_pos hbm,k4 b hb (by rw[List.length_take]; omega),List.getElem?_take,if_pos hbm]
    ·rw[List.getElem?_append_right (by rw[List.length_take]; omega),List.length_take,List.getElem?_drop,Nat.min_eq_left hm1]
     congr 1; omega
   ·cases o with
    | ret x=>cases e with
     | returned c=>exact VR.to ag2 _ _ hu4 k5
     | panicked _=>exact k5
     | outgrown=>exact k5
    | pan x=>cases e with
     | panicked ch=>obtain ⟨c,rfl,hv⟩:=k5; exact⟨c,rfl,VR.to ag2 _ _ hu4 hv⟩
     | returned _=>exact k5
     | outgrown=>exact k5
theorem AU {n k:Nat} {args:List A} {H:ay} {lo:Nat} {r:R} (h:aO cx n k args H lo=some r):k<cx.P.funcs.size:=by
 refine Nat.lt_of_not_le fun hle=>?_
 have hb:Nat.ble cx.P.funcs.size k=true:=by rw[Nat.ble_eq]; exact hle
 unfold aO at h
 cases n with
 | zero=>rw[aA,hb] at h; cases h
 | succ n=>rw[aA,hb] at h; cases h
theorem uQ (horc:jA cx) (hmx:cx.P.follows .mixedOrders=true) {n k:Nat} {args:List A} {x:A} {H':ay} (h:aO cx n k args [] 0=some (.ret x,H')):iU cx.P cx.glob k args (aF H' x):=by
 intro S w cargs hS hgl hv
 have hr:Rel [] (G0 S) w w:=⟨Below.refl _ _,fun b k h=>(by cases h),fun b c k h=>(by cases h),hS,fun b k o h=>(by cases h),fun b B h=>(by simp at h)⟩
 have hno:oI cx (fun _ _ _=>True) DE:=⟨fun _ _ _ _ _ _ _ _=>trivial,fun _ _ _ _ _ h=>by cases h⟩
 have hkc:=AU h
 have hc:=(nU horc hmx n _ _ hno).fn k args [] 0 _ hkc h Fence.wide 0 (G0 S) w w cargs zf rfl trivial hr hgl hv
 refine(callsIn_wide.1 hc).mono ?_
 rintro e w' ⟨g',e1,e2,_,_,e5,e6⟩
 cases e with
 | returned c =>
  refine⟨c,rfl,e1.below,?_⟩
  exact VR.eZ (H:=[]) (g:=G0 g'.S) ⟨fun k o v hs hc=>⟨hc,by have:=hs.1; rw[show (G0 g'.S).S=g'.S from rfl,e5] at this; exact this,fun b hb=>(by cases hb)⟩,fun b B hB=>(by simp at hB),fun k arr cl hs hm=>⟨hm,by have:=hs.1; rw[show (G0 g'.S).S=g'.S from rfl,e5] at this; exact this,fun b hb=>(by cases hb)⟩⟩ _ _ (Du e1 x c e6)
 | panicked _=>exact e6.elim
 | outgrown=>exact e6.elim
end
end Go.Proofs.Ytdmgdjnadbakfaa
