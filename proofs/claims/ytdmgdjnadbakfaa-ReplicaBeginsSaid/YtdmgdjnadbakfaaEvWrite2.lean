/-
 Slices made, appended to, copied into: as the model's.
-/
import Derived.Test.YtdmgdjnadbakfaaEvWrite
import Derived.Laws.MakeOwn
namespace Go.Proofs.Ytdmgdjnadbakfaa
open Go.RowKit
variable {P:Program} {H:Heap} {g:Gh} {w0 w:World}
theorem elemT_spec {t e:TypeId} (h:elemT P t=some e):P.underlying t=some (.slice e):=by
 unfold elemT at h
 split at h
 ·rename_i hu; cases h; exact hu
 ·cases h
theorem made_flat (z:Array Value) (len:Nat) (hz:0<z.size):(madeCells z (len*z.size)).toList=(List.replicate len z.toList).flatten:=by
 have hl:∀ d∈List.replicate len z.toList,d.length=z.size:=fun d hd=>by rw[(List.mem_replicate.1 hd).2]; simp
 apply List.ext_getElem?
 intro j
 by_cases hj:j<len*z.size
 ·have hq:j / z.size<len:=Nat.div_lt_of_lt_mul (by rw[Nat.mul_comm]; exact hj)
  have e:=flat_get hl (j:=j / z.size) (d:=z.toList) (by rw[List.getElem?_replicate,if_pos hq]) (j % z.size) (Nat.mod_lt _ hz)
  rw[show j / z.size*z.size+j % z.size=j by rw[Nat.mul_comm]; exact Nat.div_add_mod _ _] at e
  rw[e]
  have hm:=Nat.mod_lt j hz
  have:(madeCells z (len*z.size))[j]? = some (z[j % z.size]!):=by simp[madeCells,hj]
  rw[Array.getElem?_toList,this]
  simp[hm]
 ·rw[List.getElem?_eq_none (by simp[madeCells]; omega),List.getElem?_eq_none (by rw[flat_length hl]; simp; omega)]
theorem fill_els {es:Nat}:∀ {parts:List (Nat×A)} {vparts:List (Nat×Value)} {els els':List (List A)} {ds:List (List Value)} {arr:Array Value},setEls els parts=some els'->arr.toList=ds.flatten->VRss H g w els ds->(∀ d∈ds,d.length=es) ->
  (∀ p∈parts,p.1<els.length/\∃ xs,p.2.cells? = some xs/\xs.length=es)->PartsR H g w parts vparts->∃ arr' ds',Instr.fill (fun i=>some (i*es,es)) arr vparts=some arr'/\arr'.toList=ds'.flatten/\VRss H g w els' ds'/\(∀ d∈ds',d.length=es)
 | [],vparts,els,els',ds,arr,h,ha,hv,hl,_,hp=>by
  simp only[setEls,Option.some.injEq] at h
  subst h
  have:vparts=[]:=List.eq_nil_of_length_eq_zero (by simpa using hp.1)
  subst this
  exact⟨arr,ds,rfl,ha,hv,hl⟩
 | (i,x) :: r,vparts,els,els',ds,arr,h,ha,hv,hl,hc,hp=>by
  cases vparts with
  | nil=>simp[PartsR] at hp
  | cons q vr =>
   obtain ⟨q',hq,e1,hx⟩:=hp.2 0 (i,x) rfl
   simp at hq
   subst hq
   obtain ⟨hi,xs,hxs,hxl⟩:=hc (i,x) (by simp)
   simp only[setEls,hxs,Option.bind_some] at h
   obtain ⟨hvs,_,_⟩:=cells_VR hxs hx
   have hvl:=hvs.length
   have hel:=hv.length
   obtain ⟨qi,qv⟩:=q
   simp only at e1 hi
   subst e1
   have hsz:qv.cells.size=es:=by simpa [hxl] using hvl
   obtain ⟨d,hd,_⟩:=hv.get (i:=qi) (List.getElem?_eq_getElem hi)
   have hdl:d.length=es:=hl d (List.mem_of_getElem? hd)
   have hfl:=flat_length hl
   have hfit:qi*es+qv.cells.size<=arr.size:=by
    have e2:arr.size=ds.length*es:=by rw[<-hfl,<-ha]; simp
    have:=Nat.mul_le_mul_right es (show qi+1<=ds.length by omega)
    rw[Nat.add_mul] at this; omega
   have hsp:qv.cells.toList=splice d 0 qv.cells.toList:=by
    unfold splice
    rw[List.take_zero,List.nil_append,List.drop_of_length_le (by simp; omega),List.append_nil]
   have hset:(qv.cells.zipIdx.foldl (fun cs (c,j)=>cs.setIfInBounds (qi*es+j) c) arr).toList=(ds.set qi qv.cells.toList).flatten:=by
    have:=set_splice qv.cells.toList (qi*es) arr (by simpa using hfit)
    rw[flat_set hl hd 0 qv.cells.toList (by simp; omega) hsp,<-ha,Nat.add_zero,<-this,<-Array.foldl_toList]
    simp
   obtain ⟨arr',ds',h1,h2,h3,h4⟩:=fill_els (els:=els.set qi xs) (ds:=ds.set qi qv.cells.toList) (arr:=qv.cells.zipIdx.foldl (fun cs (c,j)=>cs.setIfInBounds (qi*es+j) c) arr) (vparts:=vr) h hset
    (by
     obtain ⟨g1,g2⟩:=VRss_iff.1 hv
     refine VRss_iff.2 ⟨by simp[g1],fun j a' d' ha' hd'=>?_⟩
     by_cases e:j=qi
     ·subst e
      rw[List.getElem?_set_self (by omega)] at ha'
      rw[List.getElem?_set_self (by omega)] at hd'
      cases ha'; cases hd'; exact hvs
     ·rw[List.getElem?_set_ne (Ne.symm e)] at ha' hd'
      exact g2 j a' d' ha' hd')
    (fun d' hd'=>by
     rcases List.mem_or_eq_of_mem_set hd' with h' | rfl
     ·exact hl d' h'
     ·simpa using hsz)
    (fun p hpm=>by have:=hc p (by simp[hpm]); simpa using this) ⟨by simpa using hp.1,fun j p' hj=>by have:=hp.2 (j+1) p' (by simpa using hj); simpa using this⟩
   refine⟨arr',ds',?_,h2,h3,h4⟩
   unfold Instr.fill
   simp only
   rw[if_neg (by simp[hsz]; omega)]
   exact h1
theorem aBuildSlice_run {t:TypeId} {len:Nat} {parts:List (Nat×A)} {vparts:Array (Nat×Value)} {y:A} (h:aBuildSlice P t len parts=some y) (hp:PartsR H g w parts vparts.toList) :
  ∃ e es els arr' ds,y=.imm els true/\elemT P t=some e/\sizeT P e=some es/\es≠0/\(Instr.buildSlice t len vparts).run P w=.ok (.slice (some ⟨w.heap.size,0,none⟩) len len) (w.alloc (.cells arr' e))/\els.length=len/\arr'.toList=ds.flatten/\VRss H g w els ds/\∀ d∈ds,d.length=es:=by
 unfold aBuildSlice at h
 replace h:=bnd h
 obtain ⟨e,he,h⟩:=h
 have hu:=elemT_spec he
 replace h:=bnd h
 obtain ⟨es,hes,h⟩:=h
 replace h:=bnd h
 obtain ⟨z,hz,h⟩:=h
 replace h:=cnone h
 obtain ⟨h0,h⟩:=h
 replace h:=csome h
 obtain ⟨hc,h⟩:=h
 simp only[Bool.or_eq_false_iff,Bool.not_eq_false',beq_iff_eq,decide_eq_true_eq,beq_eq_false_iff_ne] at h0
 obtain ⟨⟨h0,h1⟩,h2⟩:=h0
 obtain ⟨it,v,hi,hv,rfl⟩:=zeroT_spec hz
 obtain ⟨it',hi',hsz⟩:=under_of_size hes
 rw[hi] at hi'; cases hi'
 have hvs:v.cells.size=es:=by simpa using h1
 cases hse:setEls (List.replicate len (v.cells.toList.map ofC)) parts with
 | none=>rw[hse] at h; cases h
 | some els =>
  rw[hse] at h
  cases h
  have hz0:0<v.cells.size:=by omega
  have hall:∀ p∈parts,p.1<(List.replicate len (v.cells.toList.map ofC)).length/\∃ xs,p.2.cells? = some xs/\xs.length=es:=fun p hpm=>by
   have:=List.all_eq_true.1 hc p hpm
   simp only[Bool.and_eq_true,decide_eq_true_eq] at this
   refine⟨by simpa using this.1,?_⟩
   have h3:=this.2
   split at h3
   ·rename_i xs hx; exact⟨xs,hx,by simpa using h3⟩
   ·cases h3
  have hrep:VRss H g w (List.replicate len (v.cells.toList.map ofC)) (List.replicate len v.cells.toList):=VRss_iff.2 ⟨by simp,fun i a d ha hd=>by
   rw[List.getElem?_replicate] at ha hd
   split at ha
   ·rename_i hlt; rw[if_pos hlt] at hd; cases ha; cases hd; exact ofC_VRs _
   ·cases ha⟩
  obtain ⟨arr',ds',f1,f2,f3,f4⟩:=fill_els (es:=es) (arr:=madeCells v.cells (len*es)) hse (by rw[<-hvs]; exact made_flat _ _ hz0) hrep (fun d hd=>by rw[(List.mem_replicate.1 hd).2]; simpa using hvs) hall hp
  have hb:Below w.heap.size w (w.alloc (.cells arr' e)):=(Below.refl _ w).alloc (Nat.le_refl _) _
  have hlen:els.length=len:=by
   have gen:∀ (parts:List (Nat×A)) (els els':List (List A)),setEls els parts=some els'->els'.length=els.length:=by
    intro parts
    induction parts with
    | nil=>intro els els' h; simp only[setEls,Option.some.injEq] at h; rw[h]
    | cons p r ih =>
     intro els els' h
     obtain ⟨i,x⟩:=p
     simp only[setEls] at h
     obtain ⟨xs,_,h⟩:=bnd h
     rw[ih _ _ h]; simp
   rw[gen _ _ _ hse]; simp
  refine⟨e,es,els,arr',ds',rfl,he,hes,h0,?_,hlen,f2,f3,f4⟩
  unfold Instr.buildSlice
  have hsz':(sizeOf e).run P w=.ok es w:=sizeOf_run hes w
  have hbig:¬ (16777216<len*es):=by omega
  by_cases hle:len*es=0
  ·rw[hle] at f1
   rw[show madeCells v.cells 0=#[] by simp[madeCells]] at f1
   simp[run_underlying hu,hsz',hle,show Array.range 0=#[] from rfl,f1,newRow,newObj]
   rfl
  ·unfold madeCells at f1
   simp[run_underlying hu,hsz',hle,hbig,zeroValue,typeInfo,hi,hv,f1,newRow,newObj]
   rfl
theorem aBuildSlice_sound (hr:Rel H g w0 w) {t:TypeId} {len:Nat} {parts:List (Nat×A)} {vparts:Array (Nat×Value)} {y:A} (h:aBuildSlice P t len parts=some y) (hp:PartsR H g w parts vparts.toList) :
  ∃ d w',(Instr.buildSlice t len vparts).run P w=.ok d w'/\Below w.heap.size w w'/\VR H g w' y d:=by
 obtain ⟨e,es,els,arr',ds',rfl,_,_,_,hrun,hlen,f2,f3,f4⟩:=aBuildSlice_run h hp
 have hb:Below w.heap.size w (w.alloc (.cells arr' e)):=(Below.refl _ w).alloc (Nat.le_refl _) _
 refine⟨_,_,hrun,hb,?_⟩
 rw[VR]
 have he:=Ext.below hr hb
 refine⟨_,len,ds',es,by rw[hlen],by omega,fun _=>hlen.symm,f4,fun _=>⟨w.heap.size,0,rfl,?_⟩,VRss.ext he _ _ f3⟩
 exact fresh_cells hr (heap_alloc_new w _) fun j v hj=>by rw[<-f2] at hj; simpa using hj
theorem aBuildRow_sound (hr:Rel H g w0 w) {t:TypeId} {len:Nat} {parts:List (Nat×A)} {vparts:Array (Nat×Value)} {y:A} {H':Heap} (lo:Nat) (h:aBuildRow P t len parts H=some (y,H')) (hp:PartsR H g w parts vparts.toList) :
  Step H g w0 w lo ((Instr.buildSlice t len vparts).run P w) y H':=by
 unfold aBuildRow at h
 obtain ⟨e0,h1,h⟩:=bnd h
 obtain ⟨es0,h2,h⟩:=bnd h
 obtain ⟨y0,h3,h⟩:=bnd h
 obtain ⟨e,es,els,arr',ds',rfl,g1,g2,g3,hrun,hlen,f2,f3,f4⟩:=aBuildSlice_run h3 hp
 rw[h1] at g1; cases g1
 rw[h2] at g2; cases g2
 simp only[Option.some.injEq,Prod.mk.injEq] at h
 obtain ⟨rfl,rfl⟩:=h
 have hb:Below w.heap.size w (w.alloc (.cells arr' e0)):=(Below.refl _ w).alloc (Nat.le_refl _) _
 obtain ⟨k1,k2⟩:=hr.push hb (.row true es0 els) (some w.heap.size) [] (fun k hk=>by cases hk; exact⟨rfl,by show w.heap.size<(w.heap.push _).size; rw[Array.size_push]; exact Nat.lt_succ_self _⟩) (fun he=>⟨ds',VRss.ext he _ _ f3,f4,fun _=>⟨w.heap.size,arr',e0,Gh.put_mu _ _ _ _,heap_alloc_new w _,fun j v hj=>by rw[<-f2] at hj; simpa using hj⟩⟩)
 refine⟨_,_,_,hrun,k1,k2,?_,by simp,fun b _ hb=>List.getElem?_append_left hb,rfl⟩
 rw[VR,get_push]
 exact⟨by simp,_,len,by rw[hlen],by omega,fun _=>hlen.symm,fun _=>⟨w.heap.size,Gh.put_mu _ _ _ _,by simp⟩⟩
theorem uncl_VR {x:A} {c:Value} (h:VR H g w x c):VR H g w (uncl x) c:=by
 cases x with
 | imm els cl =>
  simp only[uncl]
  rw[VR] at h ⊢
  obtain ⟨a,cap,ds,es,h1,h2,_,h4,h5,h6⟩:=h
  exact⟨a,cap,ds,es,h1,h2,fun h=>(by cases h),h4,h5,h6⟩
 | _=>exact h
theorem uncls_VR:∀ {cs:List A} {ds:List Value},VRs H g w cs ds->VRs H g w (cs.map uncl) ds
 | [],_,h=>h
 | a :: as,_,h=>by
  rw[VRs] at h
  obtain ⟨d,ds',rfl,h1,h2⟩:=h
  rw[List.map_cons,VRs]
  exact⟨d,ds',rfl,uncl_VR h1,uncls_VR h2⟩
theorem aMakeImm_sound (hr:Rel H g w0 w) {t:TypeId} {n c y:A} {cn cc:Value} {H':Heap} (h:aMakeImm P t n c H=some (y,H')) (hn:VR H g w n cn) (hc:VR H g w c cc):H'=H/\∃ d w',(Instr.makeSlice t cn cc).run P w=.ok d w'/\Below w.heap.size w w'/\VR H g w' y d:=by
 unfold aMakeImm at h
 obtain ⟨e,he,h⟩:=bnd h
 have hu:=elemT_spec he
 obtain ⟨es,hes,h⟩:=bnd h
 obtain ⟨by_,hby,h⟩:=bnd h
 obtain ⟨z,hz,h⟩:=bnd h
 obtain ⟨ni,hni,h⟩:=bnd h
 obtain ⟨ci,hci,h⟩:=bnd h
 obtain ⟨h0,h⟩:=cnone h
 simp only[Bool.or_eq_false_iff,Bool.not_eq_false',beq_iff_eq,decide_eq_true_eq,beq_eq_false_iff_ne] at h0
 obtain ⟨⟨⟨⟨h0,h1⟩,h2⟩,h3⟩,h4⟩:=h0
 cases h
 obtain ⟨it,v,hi,hv,rfl⟩:=zeroT_spec hz
 obtain ⟨it',hi',hsz⟩:=under_of_size hes
 rw[hi] at hi'; cases hi'
 have hvs:v.cells.size=es:=by simpa using h1
 have hbv:it.bytes=by_:=by unfold bytesT at hby; rw[hi] at hby; simpa using hby
 obtain ⟨kn,zn,rfl,hn0,rfl⟩:=idx_VR hni hn
 obtain ⟨kc,zc,rfl,hc0,rfl⟩:=idx_VR hci hc
 unfold limit at h2 h3
 have hbz:(it.bytes:Int)*zc<=281474976710656:=by
  have:((zc.toNat*by_:Nat):Int)<=140737488355328:=by omega
  rw[Int.natCast_mul,Int.toNat_of_nonneg hc0,Int.mul_comm,<-hbv] at this
  omega
 have hrun:=run_make (P:=P) w t e it v hu hi hv kn kc zn zc hn0 (by omega) hbz (by omega)
 have hb:Below w.heap.size w (w.alloc (.cells (madeCells v.cells (zc.toNat*it.size)) e)):=(Below.refl _ w).alloc (Nat.le_refl _) _
 rw[hsz] at hrun hb
 have hz0:0<v.cells.size:=by omega
 refine⟨rfl,_,_,hrun,hb,?_⟩
 rw[VR]
 refine⟨_,zc.toNat,List.replicate zn.toNat v.cells.toList,es,by simp,by simp; omega,fun h=>(by cases h),fun d hd=>by rw[(List.mem_replicate.1 hd).2]; simpa using hvs,fun _=>⟨w.heap.size,0,rfl,?_⟩,VRss_iff.2 ⟨by simp,fun i a d ha hd=>?_⟩⟩
 ·exact fresh_cells hr (heap_alloc_new w _) fun j x hj=>by rw[<-Array.getElem?_toList,<-hvs,made_flat _ _ hz0,<-h4]; exact hj
 ·rw[List.getElem?_replicate] at ha hd
  split at ha
  ·rename_i hlt; rw[if_pos hlt] at hd; cases ha; cases hd; exact uncls_VR (ofC_VRs _)
  ·cases ha
theorem aMakeSliceK_sound {ck:Bool} (hr:Rel H g w0 w) {t:TypeId} {n c y:A} {cn cc:Value} {H':Heap} (lo:Nat) (h:aMakeSliceK ck P t n c H=some (y,H')) (hn:VR H g w n cn) (hc:VR H g w c cc):Step H g w0 w lo ((Instr.makeSlice t cn cc).run P w) y H':=by
 unfold aMakeSliceK at h
 replace h:=bnd h
 obtain ⟨e,he,h⟩:=h
 have hu:=elemT_spec he
 replace h:=bnd h
 obtain ⟨es,hes,h⟩:=h
 replace h:=bnd h
 obtain ⟨by_,hby,h⟩:=h
 replace h:=bnd h
 obtain ⟨z,hz,h⟩:=h
 replace h:=bnd h
 obtain ⟨ni,hni,h⟩:=h
 replace h:=bnd h
 obtain ⟨ci,hci,h⟩:=h
 replace h:=cnone h
 obtain ⟨h0,h⟩:=h
 simp only[Bool.or_eq_false_iff,Bool.not_eq_false',beq_iff_eq,decide_eq_true_eq,beq_eq_false_iff_ne] at h0
 obtain ⟨⟨⟨⟨h0,h1⟩,h2⟩,h3⟩,h4⟩:=h0
 obtain ⟨it,v,hi,hv,rfl⟩:=zeroT_spec hz
 obtain ⟨it',hi',hsz⟩:=under_of_size hes
 rw[hi] at hi'; cases hi'
 have hvs:v.cells.size=es:=by simpa using h1
 have hbv:it.bytes=by_:=by unfold bytesT at hby; rw[hi] at hby; simpa using hby
 obtain ⟨kn,zn,rfl,hn0,rfl⟩:=idx_VR hni hn
 obtain ⟨kc,zc,rfl,hc0,rfl⟩:=idx_VR hci hc
 unfold limit at h2 h3
 have hbz:(it.bytes:Int)*zc<=281474976710656:=by
  have:((zc.toNat*by_:Nat):Int)<=140737488355328:=by omega
  rw[Int.natCast_mul,Int.toNat_of_nonneg hc0,Int.mul_comm,<-hbv] at this
  omega
 have hrun:=run_make (P:=P) w t e it v hu hi hv kn kc zn zc hn0 (by omega) hbz (by omega)
 have hb:Below w.heap.size w (w.alloc (.cells (madeCells v.cells (zc.toNat*it.size)) e)):=(Below.refl _ w).alloc (Nat.le_refl _) _
 rw[hsz] at hrun hb
 have hz0:0<v.cells.size:=by omega
 rw[bcond] at h
 split at h
 ·rename_i hnc
  have hnc:zn.toNat=zc.toNat:=by simpa using hnc
  cases h
  obtain ⟨r1,r2⟩:=hr.push hb (.row true es (List.replicate zn.toNat ((v.cells.toList.map ofC).map uncl))) (some w.heap.size) [] (fun k hk=>by cases hk; exact⟨rfl,by simp⟩) (fun he'=>by
   refine⟨List.replicate zn.toNat v.cells.toList,VRss_iff.2 ⟨by simp,fun i a d ha hd=>?_⟩,fun d hd=>by rw[(List.mem_replicate.1 hd).2]; simpa using hvs,fun _=>⟨w.heap.size,_,e,Gh.put_mu _ _ _ _,heap_alloc_new w _,fun j x hj=>?_⟩⟩
   ·rw[List.getElem?_replicate] at ha hd
    split at ha
    ·rename_i hlt; rw[if_pos hlt] at hd; cases ha; cases hd; exact uncls_VR (ofC_VRs _)
    ·cases ha
   ·rw[<-Array.getElem?_toList,<-hvs,made_flat _ _ hz0,<-hnc]; exact hj)
  refine⟨_,_,_,hrun,r1,r2,?_,by simp,lo_push _ _ _,rfl⟩
  rw[VR,get_push]
  refine⟨by simp,_,zc.toNat,rfl,by omega,fun _=>by omega,fun _=>⟨w.heap.size,Gh.put_mu _ _ _ _,by simp⟩⟩
 ·rw[bcond] at h
  split at h
  ·rename_i hn00
   have hn00:zn.toNat=0:=by simpa using hn00
   cases h
   obtain ⟨r1,r2⟩:=hr.push hb (.row false es []) (some w.heap.size) [] (fun k hk=>by cases hk; exact⟨rfl,by simp⟩) (fun he'=>by
    refine⟨?_,?_⟩
    ·rw[Gh.put_ga,VRss]
    ·rw[Gh.put_ga]; simp)
   refine⟨_,_,_,hrun,r1,r2,?_,by simp,lo_push _ _ _,rfl⟩
   rw[VR,get_push]
   refine⟨by simp,_,zc.toNat,by rw[hn00],by omega,fun h=>(by cases h),fun h=>absurd h (by simp),fun _ _ _ _=>⟨w.heap.size,_,e,Gh.put_mu _ _ _ _,rfl,heap_alloc_new w _,by rw[size_madeCells]; exact Nat.le_refl _⟩⟩
  ·cases h
theorem aMakeSlice_sound (hr:Rel H g w0 w) {t:TypeId} {n c y:A} {cn cc:Value} {H':Heap} (lo:Nat) (h:aMakeSlice P t n c H=some (y,H')) (hn:VR H g w n cn) (hc:VR H g w c cc):Step H g w0 w lo ((Instr.makeSlice t cn cc).run P w) y H':=aMakeSliceK_sound hr lo h hn hc
end Go.Proofs.Ytdmgdjnadbakfaa
