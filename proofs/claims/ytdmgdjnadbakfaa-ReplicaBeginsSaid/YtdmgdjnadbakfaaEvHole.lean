/-
 Blocks that are not there yet: holes in the heap, and what fills them.
-/
import Derived.Test.YtdmgdjnadbakfaaEvSeg
namespace Go.Proofs.Ytdmgdjnadbakfaa
set_option linter.unusedSimpArgs false
set_option linter.unusedVariables false
open Go.RowKit
variable {P:Program} {H H':Heap} {g g':Gh} {w0 w w':World} {cx:Cx} {s:St} {z:Nat->Bool} {f lo:Nat}
def maskH (z:Nat->Bool) (H:Heap):Heap:=H.mapIdx fun b B=>bif z b then .hole else B
theorem maskH_get (z:Nat->Bool) (H:Heap) (b:Nat):(maskH z H)[b]? = (H[b]?).map fun B=>bif z b then .hole else B:=by simp[maskH,List.getElem?_mapIdx]
theorem maskH_len (z:Nat->Bool) (H:Heap):(maskH z H).length=H.length:=by simp[maskH]
theorem maskH_off {b:Nat} (h:z b=false):(maskH z H)[b]? = H[b]?:=by rw[maskH_get,h]; cases H[b]?<;>rfl
theorem maskH_on {b:Nat} {B:Blk} (h:z b=true) (hB:H[b]? = some B):(maskH z H)[b]? = some .hole:=by rw[maskH_get,h,hB]; rfl
theorem maskH_push {B:Blk} (h:z H.length=false):maskH z (H++[B])=maskH z H++[B]:=by
 refine List.ext_getElem? fun b=>?_
 rw[maskH_get]
 by_cases hb:b<H.length
 ·rw[List.getElem?_append_left hb,List.getElem?_append_left (by rw[maskH_len]; exact hb),maskH_get]
 ·by_cases e:b=H.length
  ·subst e
   rw[List.getElem?_append_right (Nat.le_refl _),List.getElem?_append_right (by rw[maskH_len]; exact Nat.le_refl _),maskH_len,h]
   simp
  ·rw[List.getElem?_eq_none (by simp; omega),List.getElem?_eq_none (by simp[maskH_len]; omega)]
   rfl
theorem maskH_set {b:Nat} {B:Blk} (h:z b=false):maskH z (H.set b B)=(maskH z H).set b B:=by
 refine List.ext_getElem? fun c=>?_
 rw[maskH_get,List.getElem?_set,List.getElem?_set,maskH_len]
 by_cases e:b=c
 ·subst e
  rw[if_pos rfl,if_pos rfl,h]
  split<;>rfl
 ·rw[if_neg e,if_neg e,maskH_get]
theorem maskH_fill {z':Nat->Bool} {b:Nat} {B:Blk} (hB:H[b]? = some B) (h1:z' b=false) (h2:∀ c,c≠b->z' c=z c):maskH z' H=(maskH z H).set b B:=by
 refine List.ext_getElem? fun c=>?_
 rw[maskH_get,List.getElem?_set,maskH_len]
 by_cases e:b=c
 ·subst e
  rw[if_pos rfl,if_pos (List.getElem?_eq_some_iff.1 hB).1,h1,hB]
  rfl
 ·rw[if_neg e,maskH_get,h2 c (Ne.symm e)]
theorem maskH_none (h:∀ b,z b=false):maskH z H=H:=by
 refine List.ext_getElem? fun c=>?_
 rw[maskH_get,h]
 cases H[c]?<;>rfl
theorem VR_nohole {a:A} {c:Value} {b:Nat} (h:VR H g w a c) (hb:blk? a=some b):∃ B,H[b]? = some B/\B≠.hole:=by
 cases a with
 | ptr b' o =>
  cases hb
  rw[VR] at h
  cases hq:H[b]? with
  | none=>rw[hq] at h; exact h.elim
  | some B=>rw[hq] at h; exact⟨B,rfl,fun e=>by subst e; exact h.elim⟩
 | ep b' i o =>
  cases hb
  rw[VR] at h
  cases hq:H[b]? with
  | none=>rw[hq] at h; exact h.elim
  | some B=>rw[hq] at h; exact⟨B,rfl,fun e=>by subst e; exact h.elim⟩
 | sl b' o n cl =>
  cases hb
  rw[VR] at h
  cases hq:H[b]? with
  | none=>rw[hq] at h; exact h.elim
  | some B=>rw[hq] at h; exact⟨B,rfl,fun e=>by subst e; exact h.elim⟩
 | mr b' =>
  cases hb
  rw[VR] at h
  cases hq:H[b]? with
  | none=>rw[hq] at h; exact h.elim
  | some B=>rw[hq] at h; exact⟨B,rfl,fun e=>by subst e; exact h.elim⟩
 | _=>cases hb
theorem VR_mask {a:A} {c:Value} {b:Nat} (h:VR (maskH z H) g w a c) (hb:blk? a=some b):z b=false:=by
 obtain ⟨B,h1,h2⟩:=VR_nohole h hb
 cases hz:z b with
 | false=>rfl
 | true =>
  rw[maskH_get,hz] at h1
  cases hq:H[b]? with
  | none=>rw[hq] at h1; cases h1
  | some B'=>rw[hq] at h1; cases h1; exact absurd rfl h2
theorem Rel.holes:∀ (q:Nat) {H:Heap} {g:Gh},Rel H g w0 w->∃ g',Rel (H++List.replicate q .hole) g' w0 w/\Ext H g w (H++List.replicate q .hole) g' w/\g'.S=g.S
 | 0,H,g,hr=>⟨g,by simpa using hr,by simpa using Ext.refl hr,rfl⟩
 | q+1,H,g,hr=>by
  obtain ⟨h1,h2⟩:=hr.push (Below.refl _ w) .hole none [] (fun k hk=>by cases hk) (fun _=>Gh.put_mu _ _ _ _)
  obtain ⟨g',e1,e2,e3⟩:=Rel.holes q h1
  have e:H++List.replicate (q+1) Blk.hole=H++[.hole]++List.replicate q .hole:=by rw[List.replicate_succ,List.append_assoc]; rfl
  rw[e]
  exact⟨g',e1,h2.trans e2,e3⟩
theorem Rel.fill (hr:Rel H g w0 w) {w':World} (hb:Below w.heap.size w w') {b:Nat} (hB0:H[b]? = some .hole) {cs:List A} {arr:Array Value} {ty:TypeId} (hw:w'.heap[w.heap.size]? = some (.cells arr ty (0,0)))
  (hv:Ext H g w (H.set b (.box cs)) (g.put b (some w.heap.size) []) w'->VRs (H.set b (.box cs)) (g.put b (some w.heap.size) []) w' cs arr.toList) :
  Rel (H.set b (.box cs)) (g.put b (some w.heap.size) []) w0 w'/\Ext H g w (H.set b (.box cs)) (g.put b (some w.heap.size) []) w':=by
 have hsz:w.heap.size<w'.heap.size:=(Array.getElem?_eq_some_iff.1 hw).1
 have hbl:b<H.length:=(List.getElem?_eq_some_iff.1 hB0).1
 have hget:∀ c,c≠b->(H.set b (.box cs))[c]? = H[c]?:=fun c hc=>List.getElem?_set_ne (Ne.symm hc)
 have hgetb:(H.set b (Blk.box cs))[b]? = some (.box cs):=by rw[List.getElem?_set_self (by simpa using hbl)]
 have hmub:g.mu b=none:=hr.blk b _ hB0
 have he:Ext H g w (H.set b (.box cs)) (g.put b (some w.heap.size) []) w':=by
  refine⟨fun k o v hs hc=>?_,fun c B' hB'=>?_,fun k o ho=>(hb.block k (Array.getElem?_eq_some_iff.1 ho).1).trans ho,hb.size,fun k marr cl hs hm=>?_,fun k hk _=>hb.block k hk,fun c k h=>?_⟩
  rotate_right 1
  ·by_cases e:c=b
   ·subst e; rw[Gh.put_mu] at h; cases h; exact .inr (Nat.le_refl _)
   ·exact .inl ⟨c,by rwa [Gh.put_mu' _ _ _ e] at h⟩
  ·have hlt:=World.block_lt_of_cell? w ⟨k,o,none⟩ hc
   refine⟨(hb.cell (p:=⟨k,o,none⟩) hlt).trans hc,hs.1,fun c hck=>?_⟩
   have hne:c≠b:=fun e=>by subst e; rw[Gh.put_mu] at hck; cases hck; exact absurd hlt (Nat.lt_irrefl _)
   rw[Gh.put_mu' _ _ _ hne] at hck
   obtain ⟨es,els,h3,h4⟩:=hs.2 c hck
   exact⟨es,els,by rw[hget c hne]; exact h3,h4⟩
  ·by_cases e:c=b
   ·subst e
    rw[hB0] at hB'; cases hB'
    exact⟨_,hgetb,trivial⟩
   ·refine⟨B',by rw[hget c e]; exact hB',?_⟩
    cases B' with
    | box _=>exact Gh.put_mu' _ _ _ e
    | row wr es els=>cases wr with
     | true=>exact⟨rfl,rfl,Gh.put_mu' _ _ _ e⟩
     | false=>exact⟨rfl,⟨[],by rw[Gh.put_ga' _ _ _ e]; simp⟩,(hr.blk c _ hB').len,Nat.le_refl _,fun _=>⟨Gh.put_mu' _ _ _ e,fun k arr ty hk' ha=>⟨arr,heap_below hb ha,Nat.le_refl _⟩⟩⟩
    | rng _=>exact⟨Gh.put_mu' _ _ _ e,rfl⟩
    | mp _ _ _=>exact Gh.put_mu' _ _ _ e
    | dead=>trivial
    | hole=>trivial
  ·have hlt:=(Array.getElem?_eq_some_iff.1 hm).1
   refine⟨(hb.block k hlt).trans hm,hs.1,fun c hck=>?_⟩
   have hne:c≠b:=fun e=>by subst e; rw[Gh.put_mu] at hck; cases hck; exact absurd hlt (Nat.lt_irrefl _)
   rw[Gh.put_mu' _ _ _ hne] at hck
   obtain ⟨es,els,h3,h4⟩:=hs.2 c hck
   exact⟨es,els,by rw[hget c hne]; exact h3,h4⟩
 refine⟨⟨hr.below.trans (hb.mono hr.below.size),fun c k hck=>?_,fun c d k h1 h2=>?_,hr.outE he,hr.ownE he,fun c B' hB'=>?_⟩,he⟩
 ·by_cases e:c=b
  ·subst e; rw[Gh.put_mu] at hck; cases hck
   exact⟨by simpa using hbl,hr.below.size,hsz⟩
  ·rw[Gh.put_mu' _ _ _ e] at hck
   obtain ⟨h1,h2,h3⟩:=hr.dom c k hck
   exact⟨by simpa using h1,h2,Nat.lt_of_lt_of_le h3 hb.size⟩
 ·by_cases e:c=b
  ·by_cases e':d=b
   ·rw[e,e']
   ·subst e
    rw[Gh.put_mu] at h1; cases h1
    rw[Gh.put_mu' _ _ _ e'] at h2
    exact absurd (hr.dom d _ h2).2.2 (Nat.lt_irrefl _)
  ·by_cases e':d=b
   ·subst e'
    rw[Gh.put_mu] at h2; cases h2
    rw[Gh.put_mu' _ _ _ e] at h1
    exact absurd (hr.dom c _ h1).2.2 (Nat.lt_irrefl _)
   ·rw[Gh.put_mu' _ _ _ e] at h1
    rw[Gh.put_mu' _ _ _ e'] at h2
    exact hr.inj c d k h1 h2
 ·by_cases e:c=b
  ·subst e
   rw[hgetb] at hB'; cases hB'
   exact⟨w.heap.size,arr,ty,Gh.put_mu _ _ _ _,hw,hv he⟩
  ·rw[hget c e] at hB'
   have h:=hr.blk c B' hB'
   cases B' with
   | box cs=>obtain ⟨k,arr,ty,h1,h2,h3⟩:=h; exact⟨k,arr,ty,(Gh.put_mu' _ _ _ e).trans h1,heap_below hb h2,VRs.ext he _ _ h3⟩
   | row wr es els=>cases wr with
    | true =>
     obtain ⟨ds,h1,h2,h3⟩:=h
     exact⟨ds,VRss.ext he _ _ h1,h2,fun hp=>let ⟨k,arr,ty,e1,e2,e3⟩:=h3 hp; ⟨k,arr,ty,(Gh.put_mu' _ _ _ e).trans e1,heap_below hb e2,e3⟩⟩
    | false =>
     obtain ⟨h1,h2⟩:=h
     refine⟨?_,?_⟩
     ·rw[Gh.put_ga' _ _ _ e]; exact VRss.ext he _ _ h1
     ·rw[Gh.put_ga' _ _ _ e]; exact h2
   | rng st=>obtain ⟨k,h1,h2⟩:=h; exact⟨k,(Gh.put_mu' _ _ _ e).trans h1,heap_below hb h2⟩
   | mp _ _ _=>obtain ⟨k,arr,cl,h1,h2,h3,h4⟩:=h; exact⟨k,arr,cl,(Gh.put_mu' _ _ _ e).trans h1,heap_below hb h2,h3,VRs.ext he _ _ h4⟩
   | dead=>exact(Gh.put_mu' _ _ _ e).trans h
   | hole=>exact(Gh.put_mu' _ _ _ e).trans h
theorem alloc_fill (hr:Rel H g w0 w) {t:TypeId} {b:Nat} {cs:List A} (hB0:H[b]? = some .hole) (hz:zeroT P t=some cs) :
  ∃ d w' g',(Instr.alloc t true (.tuple #[])).run P w=.ok d w'/\Rel (H.set b (.box cs)) g' w0 w'/\Ext H g w (H.set b (.box cs)) g' w'/\VR (H.set b (.box cs)) g' w' (.ptr b 0) d/\g'.S=g.S:=by
 obtain ⟨i,z,hi,hzz,rfl⟩:=zeroT_spec hz
 have hb:Below w.heap.size w (w.alloc (.cells z.cells t)):=(Below.refl _ w).alloc (Nat.le_refl _) _
 obtain ⟨h1,h2⟩:=hr.fill hb hB0 (cs:=z.cells.toList.map ofC) (heap_alloc_new w _) (fun he=>ofC_VRs _)
 refine⟨.pointer (some ⟨w.heap.size,0,none⟩),_,_,by simp[Instr.alloc,zeroValue,typeInfo,hi,hzz,newVar,newRow,newObj]; rfl,h1,h2,?_,rfl⟩
 rw[VR,List.getElem?_set_self (by simpa using (List.getElem?_eq_some_iff.1 hB0).1)]
 exact⟨w.heap.size,Gh.put_mu _ _ _ _,rfl⟩
def rowF (H:Heap) (b:Nat):Option (List (List A)):=match H[b]? with | some (.row false _ els)=>some els | _=>none
theorem rowF_none {H:Heap} {b:Nat} {C:Blk} (h:H[b]? = some C) (hC:∀ es els,C≠Blk.row false es els):rowF H b=none:=by
 unfold rowF
 rw[h]
 cases C with
 | row wr es els=>cases wr with
  | true=>rfl
  | false=>exact absurd rfl (hC es els)
 | _=>rfl
theorem snapG_rowF {H H':Heap} (h:∀ b,rowF H b=rowF H' b):∀ q,snapG q H=snapG q H'
 | 0=>rfl
 | q+1=>by
  funext b o m
  have hb:=h b
  have gen:∀ K:Heap,snapG (q+1) K b o m=match rowF K b with | some els=>.imm (snapWss (snapG q K) ((els.drop o).take m)) false | none=>.any:=fun K=>by
   unfold snapG rowF
   cases K[b]? with
   | none=>rfl
   | some B=>cases B with
    | row wr es els=>cases wr<;>rfl
    | _=>rfl
  rw[gen H,gen H',hb,snapG_rowF h q]
theorem snap_rowF {H H':Heap} (h:∀ b,rowF H b=rowF H' b):snap H=snap H':=by
 funext a
 unfold snap
 rw[snapG_rowF h 4]
theorem frzA_rowF {H H':Heap} (h:∀ b,rowF H b=rowF H' b):frzA H=frzA H':=by
 funext a
 unfold frzA frz1
 rw[snap_rowF h]
def mk2 (z:Nat->Bool) (r:A×Heap):A×Heap:=(r.1,maskH z r.2)
theorem bind_mask {α β γ:Type} {q:Option α} {F:α->Option β} {G:α->Option γ} {h:γ->β} (hh:∀ a,F a=(G a).map h):q.bind F=(q.bind G).map h:=by
 cases q with
 | none=>rfl
 | some a=>exact hh a
theorem aStore_mask {t:TypeId} {a x:A} (hb:∀ b,blk? a=some b->z b=false):aStore P t a x (maskH z H) lo=(aStore P t a x H lo).map (maskH z):=by
 unfold aStore
 cases sizeT P t with
 | none=>rfl
 | some n =>
  cases x.cells? with
  | none=>rfl
  | some xs =>
   simp only[Option.bind_some]
   cases (n==0 || !(xs.length==n)) with
   | true=>rfl
   | false =>
    simp only[cond_false]
    cases a with
    | ptr b o =>
     have hz:=hb b rfl
     simp only[maskH_off hz]
     split
     ·rename_i cs _
      cases (decide (lo<=b)&&decide (o+n<=cs.length)) with
      | false=>rfl
      | true=>simp only[cond_true,Option.map_some,maskH_set hz]
     ·rfl
    | ep b i o =>
     have hz:=hb b rfl
     simp only[maskH_off hz]
     split
     ·rename_i es els _
      split
      ·rename_i cs _
       cases (decide (lo<=b)&&decide (o+n<=cs.length)) with
       | true=>simp only[cond_true,Option.map_some,maskH_set hz]
       | false =>
        simp only[cond_false]
        cases (decide (lo<=b)&&Nat.beq o 0&&Nat.beq (n / es*es) n&&decide (i+n / es<=els.length)) with
        | true=>simp only[cond_true,Option.map_some,maskH_set hz]
        | false=>rfl
      ·rfl
     ·rfl
    | _=>rfl
theorem rowOf_mask {t:TypeId} {cs:List A} (hz:z H.length=false):rowOf P t cs (maskH z H)=(rowOf P t cs H).map (mk2 z):=by
 unfold rowOf
 split
 ·cases sizeT P _ with
  | none=>rfl
  | some es =>
   simp only[Option.bind_some]
   rename_i n e _
   cases (Nat.beq es 0 || Nat.beq n 0 || !Nat.beq cs.length (n*es)) with
   | true=>rfl
   | false=>simp only[cond_false,Option.map_some,mk2,maskH_push hz,maskH_len]
 ·rfl
theorem allocT_mask {t:TypeId} {c:Bool} (hz:z H.length=false):allocT c P t (maskH z H)=(allocT c P t H).map (mk2 z):=by
 unfold allocT
 cases c with
 | true =>
  simp only[cond_true]
  unfold aAllocR
  cases zeroT P t with
  | none=>rfl
  | some cs=>exact rowOf_mask hz
 | false =>
  simp only[cond_false]
  unfold aAlloc
  cases zeroT P t with
  | none=>rfl
  | some cs=>simp only[Option.map_some,mk2,maskH_push hz,maskH_len]
theorem boxT_mask {t:TypeId} {x:A} {c:Bool} (hz:z H.length=false):boxT c P t x (maskH z H)=(boxT c P t x H).map (mk2 z):=by
 unfold boxT
 cases c with
 | true =>
  simp only[cond_true]
  unfold aBoxR
  cases x.cells? with
  | none=>rfl
  | some cs=>exact rowOf_mask hz
 | false =>
  simp only[cond_false]
  unfold aBox
  cases x.cells? with
  | none=>rfl
  | some cs=>simp only[Option.map_some,mk2,maskH_push hz,maskH_len]
theorem aMakeSlice_mask {t:TypeId} {n c:A} (hz:z H.length=false):aMakeSlice P t n c (maskH z H)=(aMakeSlice P t n c H).map (mk2 z):=by
 unfold aMakeSlice aMakeSliceK
 refine bind_mask fun e=>bind_mask fun es=>bind_mask fun by_=>bind_mask fun zz=>bind_mask fun n=>bind_mask fun c=>?_
 cases (es==0 || !(zz.length==es) || !decide (c*by_<=limit) || !decide (c<=limit) || !decide (n<=c)) with
 | true=>rfl
 | false =>
  simp only[cond_false]
  cases n==c with
  | true=>simp only[cond_true,Option.map_some,mk2,maskH_push hz,maskH_len]
  | false=>cases n==0 with
   | true=>simp only[cond_true,cond_false,Option.map_some,mk2,maskH_push hz,maskH_len]
   | false=>rfl
theorem makeT_mask {t:TypeId} {n c:A} {b:Bool} (hz:z H.length=false):makeT b P t n c (maskH z H)=(makeT b P t n c H).map (mk2 z):=by
 unfold makeT
 cases b with
 | false=>exact aMakeSlice_mask hz
 | true =>
  simp only[cond_true]
  unfold aMakeImm
  refine bind_mask fun e=>bind_mask fun es=>bind_mask fun by_=>bind_mask fun zz=>bind_mask fun n=>bind_mask fun c=>?_
  cases (es==0 || !(zz.length==es) || !decide (c*by_<=limit) || !decide (c<=limit) || !(n==c))<;>rfl
theorem els_mask {a:A} (hb:∀ b,blk? a=some b->z b=false):els? (maskH z H) a=els? H a:=by
 cases a with
 | sl b o n c=>simp only[els?,maskH_off (hb b rfl)]
 | v x=>cases x<;>rfl
 | _=>rfl
theorem aCopy_mask {t:TypeId} {x y:A} (hx:∀ b,blk? x=some b->z b=false) (hy:∀ b,blk? y=some b->z b=false):aCopy P t x y (maskH z H) lo=(aCopy P t x y H lo).map (mk2 z):=by
 unfold aCopy
 rw[els_mask hy]
 refine bind_mask fun e=>bind_mask fun es=>bind_mask fun ys=>?_
 cases (es==0 || !(ys.all fun cs=>cs.length==es&&cs.all A.cell)) with
 | true=>rfl
 | false =>
  simp only[cond_false]
  cases x with
  | sl b o n c =>
   have hz:=hx b rfl
   simp only[maskH_off hz]
   split
   ·rename_i es' els _
    cases (decide (lo<=b)&&es'==es) with
    | true=>simp only[cond_true,Option.map_some,mk2,maskH_set hz]
    | false=>rfl
   ·rfl
  | _=>rfl
theorem elsZ_mask {t2:TypeId} {by_:Nat} {zz:List A} {a:A} (hb:∀ b,blk? a=some b->z b=false):elsZ P (maskH z H) t2 by_ zz a=elsZ P H t2 by_ zz a:=by
 unfold elsZ
 rw[els_mask hb]
theorem aAppend_mask {t t2:TypeId} {wr:Bool} {x y:A} (hz:z H.length=false) (hx:∀ b,blk? x=some b->z b=false) (hy:∀ b,blk? y=some b->z b=false):aAppend P t t2 wr x y (maskH z H) lo=(aAppend P t t2 wr x y H lo).map (mk2 z):=by
 unfold aAppend
 simp only[elsZ_mask hy]
 refine bind_mask fun e=>bind_mask fun es=>bind_mask fun by_=>bind_mask fun zz=>bind_mask fun ys=>?_
 cases (es==0 || by_==0 || !(zz.length==es) || !(ys.all fun cs=>cs.length==es&&cs.all A.cell)) with
 | true=>rfl
 | false =>
  simp only[cond_false]
  cases x with
  | imm xs cl=>cases cl with
   | false=>rfl
   | true =>
    simp only[]
    cases !decide ((xs.length+ys.length)*by_<=limit) with
    | true=>rfl
    | false =>
     simp only[cond_false]
     cases wr&&xs.isEmpty with
     | true=>simp only[cond_true,Option.map_some,mk2,maskH_push hz,maskH_len]
     | false =>
      simp only[cond_false]
      cases (xs.all fun cs=>cs.length==es&&cs.all A.cell) with
      | true=>simp only[cond_true,Option.map_some,mk2,maskH_push hz,maskH_len]
      | false=>rfl
  | sl b o n c =>
   have hzb:=hx b rfl
   simp only[maskH_off hzb]
   split
   ·rename_i es' els _
    cases (!decide ((n+ys.length)*by_<=limit) || !(es'==es) || !decide (o+n<=els.length)) with
    | true=>rfl
    | false =>
     simp only[cond_false]
     cases c with
     | true=>simp only[cond_true,Option.map_some,mk2,maskH_push hz,maskH_len]
     | false =>
      simp only[cond_false]
      cases (decide (lo<=b)&&o==0&&n==els.length) with
      | true=>simp only[cond_true,Option.map_some,mk2,maskH_set hzb]
      | false=>rfl
   ·rfl
  | _=>rfl
theorem stV_mask {a x:A} (hrow:∀ b,rowF (maskH z H) b=rowF H b):stV a (maskH z H) x=stV a H x:=by
 unfold stV
 rw[frzA_rowF hrow]
theorem eff_mask {o:Oper} {fr:List (Nat×A)} (he:isEff o=true) (hz:z H.length=false) (hrow:∀ b,rowF (maskH z H) b=rowF H b) (hop:∀ y∈o.op.operands.toList,∀ b,blk? (opd cx ⟨fr,H⟩ y)=some b->z b=false) :
  evOp1 cx f lo o ⟨fr,maskH z H⟩ (fun a H=>some (a,H))=(evOp1 cx f lo o ⟨fr,H⟩ (fun a H=>some (a,H))).map (mk2 z):=by
 have ho:∀ x,opd cx ⟨fr,maskH z H⟩ x=opd cx ⟨fr,H⟩ x:=fun x=>by cases x<;>rfl
 have bm:∀ (q:Option (A×Heap)),(q.map (mk2 z)).bind (fun r=>some (r.1,r.2))=(q.bind fun r=>some (r.1,r.2)).map (mk2 z):=fun q=>by cases q<;>rfl
 unfold isEff at he
 split at he
 ·rename_i t ad v h
  unfold evOp1
  simp only[h,ho]
  rw[stV_mask hrow,aStore_mask (hop ad (by rw[h]; simp[Op.operands]))]
  cases aStore cx.P t (opd cx ⟨fr,H⟩ ad) (stV (opd cx ⟨fr,H⟩ ad) H (opd cx ⟨fr,H⟩ v)) H lo<;>rfl
 ·rename_i t h
  unfold evOp1
  simp only[h,ho]
  rw[allocT_mask hz,bm]
 ·rename_i t v h
  unfold evOp1
  simp only[h,ho]
  rw[boxT_mask hz,bm]
 ·rename_i t l c h
  unfold evOp1
  simp only[h,ho]
  rw[makeT_mask hz,bm]
 ·rename_i c h
  unfold evOp1
  simp only[h]
  have hopc:∀ y∈c.args.toList,∀ b,blk? (opd cx ⟨fr,H⟩ y)=some b->z b=false:=fun y hy=>hop y (by rw[h]; simp[Op.operands,Call.operands]; exact .inr (by simpa using hy))
  split at he
  ·rename_i hca
   unfold evBI
   simp only[hca]
   split
   all_goals first | (rename_i hh _ _; cases hh; done) | (rename_i hh _ _; injection hh with hh; cases hh; done) | skip
   ·rename_i x y t t2 _ hargs _
    simp only[ho]
    rw[aAppend_mask hz (hopc x (by rw[hargs]; simp)) (hopc y (by rw[hargs]; simp)),bm]
   all_goals first | rfl | (rename_i hh _; injection hh with hh; cases hh; done)
  ·rename_i hca
   unfold evBI
   simp only[hca]
   split
   all_goals first | (rename_i hh _ _; cases hh; done) | (rename_i hh _ _; injection hh with hh; cases hh; done) | skip
   ·rename_i x y t t2 _ hargs _
    simp only[ho]
    rw[aCopy_mask (hopc x (by rw[hargs]; simp)) (hopc y (by rw[hargs]; simp)),bm]
   all_goals first | rfl | (rename_i hh _; injection hh with hh; cases hh; done)
  ·cases he
 ·cases he
end Go.Proofs.Ytdmgdjnadbakfaa
