/-
 The interpreter's operations that make or write blocks of the call's own.
-/
import Derived.Test.YtdmgdjnadbakfaaEvRead3
namespace Go.Proofs.Ytdmgdjnadbakfaa
open Go.RowKit
variable {P:Program} {H:Heap} {g:Gh} {w0 w:World}
def Gh.put (g:Gh) (b:Nat) (k:Option Nat) (γ:List (List Value)):Gh:={ g with mu:=fun c=>if c=b then k else g.mu c,ga:=fun c=>if c=b then γ else g.ga c }
theorem Gh.put_mu (g:Gh) (b:Nat) (k:Option Nat) (γ:List (List Value)):(g.put b k γ).mu b=k:=by simp[Gh.put]
theorem Gh.put_ga (g:Gh) (b:Nat) (k:Option Nat) (γ:List (List Value)):(g.put b k γ).ga b=γ:=by simp[Gh.put]
theorem Gh.put_mu' (g:Gh) {b c:Nat} (k:Option Nat) (γ:List (List Value)) (h:c≠b):(g.put b k γ).mu c=g.mu c:=by simp[Gh.put,h]
theorem Gh.put_ga' (g:Gh) {b c:Nat} (k:Option Nat) (γ:List (List Value)) (h:c≠b):(g.put b k γ).ga c=g.ga c:=by simp[Gh.put,h]
def Step (H:Heap) (g:Gh) (w0 w:World) (lo:Nat) (r:Result Value) (y:A) (H':Heap):Prop :=
 ∃ d w' g',r=.ok d w'/\Rel H' g' w0 w'/\Ext H g w H' g' w'/\VR H' g' w' y d/\H.length<=H'.length/\(∀ b,b<lo->b<H.length->H'[b]? = H[b]?)/\g'.S=g.S
theorem heap_below {k:Nat} {o:Obj} {w w':World} (hb:Below w.heap.size w w') (h:w.heap[k]? = some o):w'.heap[k]? = some o:=(hb.block k (Array.getElem?_eq_some_iff.1 h).1).trans h
theorem Rel.push (hr:Rel H g w0 w) {w':World} (hb:Below w.heap.size w w') (B:Blk) (ko:Option Nat) (γ:List (List Value)) (hk:∀ k,ko=some k->k=w.heap.size/\w.heap.size<w'.heap.size)
  (hB:Ext H g w (H++[B]) (g.put H.length ko γ) w'->BlkR (H++[B]) (g.put H.length ko γ) w' H.length B):Rel (H++[B]) (g.put H.length ko γ) w0 w'/\Ext H g w (H++[B]) (g.put H.length ko γ) w':=by
 have old:∀ {b k},(g.put H.length ko γ).mu b=some k->k<w.heap.size->b≠H.length/\g.mu b=some k:=fun {b k} h hlt=>by
  by_cases e:b=H.length
  ·subst e; rw[Gh.put_mu] at h; have:=(hk k h).1; omega
  ·exact⟨e,by rwa [Gh.put_mu' _ _ _ e] at h⟩
 have he:Ext H g w (H++[B]) (g.put H.length ko γ) w':=by
  refine⟨fun k o v hs hc=>?_,fun b B' hB'=>⟨B',?_,?_⟩,fun k o ho=>(hb.block k (Array.getElem?_eq_some_iff.1 ho).1).trans ho,hb.size,fun k arr cl hs hm=>?_,fun k hk' _=>hb.block k hk',fun b k h=>?_⟩
  rotate_right 1
  ·by_cases e:b=H.length
   ·subst e; rw[Gh.put_mu] at h; exact .inr (Nat.le_of_eq (hk k h).1.symm)
   ·exact .inl ⟨b,by rwa [Gh.put_mu' _ _ _ e] at h⟩
  ·have hlt:=World.block_lt_of_cell? w ⟨k,o,none⟩ hc
   refine⟨(hb.cell (p:=⟨k,o,none⟩) hlt).trans hc,hs.1,fun b hbk=>?_⟩
   obtain ⟨_,h2⟩:=old hbk hlt
   obtain ⟨es,els,h3,h4⟩:=hs.2 b h2
   exact⟨es,els,by rw[List.getElem?_append_left (List.getElem?_eq_some_iff.1 h3).1]; exact h3,h4⟩
  ·rw[List.getElem?_append_left (List.getElem?_eq_some_iff.1 hB').1]; exact hB'
  ·have hne:b≠H.length:=by have:=(List.getElem?_eq_some_iff.1 hB').1; omega
   cases B' with
   | box _=>exact Gh.put_mu' _ _ _ hne
   | row wr es els=>cases wr with
    | true=>exact⟨rfl,rfl,Gh.put_mu' _ _ _ hne⟩
    | false=>exact⟨rfl,⟨[],by rw[Gh.put_ga' _ _ _ hne]; simp⟩,(hr.blk b _ hB').len,Nat.le_refl _,fun _=>⟨Gh.put_mu' _ _ _ hne,fun k arr ty hk' ha=>⟨arr,heap_below hb ha,Nat.le_refl _⟩⟩⟩
   | rng _=>exact⟨Gh.put_mu' _ _ _ hne,rfl⟩
   | mp _ _ _=>exact Gh.put_mu' _ _ _ hne
   | dead=>trivial
   | hole=>trivial
  ·have hlt:=(Array.getElem?_eq_some_iff.1 hm).1
   refine⟨(hb.block k hlt).trans hm,hs.1,fun b hbk=>?_⟩
   obtain ⟨_,h2⟩:=old hbk hlt
   obtain ⟨es,els,h3,h4⟩:=hs.2 b h2
   exact⟨es,els,by rw[List.getElem?_append_left (List.getElem?_eq_some_iff.1 h3).1]; exact h3,h4⟩
 refine⟨⟨hr.below.trans (hb.mono hr.below.size),fun b k hbk=>?_,fun b c k h1 h2=>?_,hr.outE he,hr.ownE he,fun b B' hB'=>?_⟩,he⟩
 ·by_cases e:b=H.length
  ·subst e; rw[Gh.put_mu] at hbk
   obtain ⟨rfl,h2⟩:=hk k hbk
   exact⟨by simp,hr.below.size,h2⟩
  ·rw[Gh.put_mu' _ _ _ e] at hbk
   obtain ⟨h1,h2,h3⟩:=hr.dom b k hbk
   exact⟨by simp; omega,h2,Nat.lt_of_lt_of_le h3 hb.size⟩
 ·by_cases e:b=H.length
  ·by_cases e':c=H.length
   ·rw[e,e']
   ·subst e
    rw[Gh.put_mu] at h1
    rw[Gh.put_mu' _ _ _ e'] at h2
    have:=(hk k h1).1; have:=(hr.dom c k h2).2.2; omega
  ·by_cases e':c=H.length
   ·subst e'
    rw[Gh.put_mu] at h2
    rw[Gh.put_mu' _ _ _ e] at h1
    have:=(hk k h2).1; have:=(hr.dom b k h1).2.2; omega
   ·rw[Gh.put_mu' _ _ _ e] at h1
    rw[Gh.put_mu' _ _ _ e'] at h2
    exact hr.inj b c k h1 h2
 ·by_cases e:b=H.length
  ·subst e
   rw[List.getElem?_append_right (Nat.le_refl _)] at hB'
   simp at hB'
   subst hB'
   exact hB he
  ·have hlt:b<H.length:=by have:=(List.getElem?_eq_some_iff.1 hB').1; simp at this; omega
   rw[List.getElem?_append_left hlt] at hB'
   have h:=hr.blk b B' hB'
   cases B' with
   | box cs=>obtain ⟨k,arr,ty,h1,h2,h3⟩:=h; exact⟨k,arr,ty,(Gh.put_mu' _ _ _ e).trans h1,heap_below hb h2,VRs.ext he _ _ h3⟩
   | row wr es els=>cases wr with
    | true =>
     obtain ⟨ds,h1,h2,h3⟩:=h
     exact⟨ds,VRss.ext he _ _ h1,h2,fun hp=>let ⟨k,arr,ty,e1,e2,e3⟩:=h3 hp; ⟨k,arr,ty,(Gh.put_mu' _ _ _ e).trans e1,heap_below hb e2,e3⟩⟩
    | false =>
     obtain ⟨h1,h2⟩:=h
     refine⟨?_,?_⟩
     ·rw[Gh.put_ga' _ _ _ e]; exact VRss.ext he _ _ h1
     ·rw[Gh.put_ga' _ _ _ e]; exact h2
   | rng st=>obtain ⟨k,h1,h2⟩:=h; exact⟨k,(Gh.put_mu' _ _ _ e).trans h1,heap_below hb h2⟩
   | mp _ _ _=>obtain ⟨k,arr,cl,h1,h2,h3,h4⟩:=h; exact⟨k,arr,cl,(Gh.put_mu' _ _ _ e).trans h1,heap_below hb h2,h3,VRs.ext he _ _ h4⟩
   | dead=>exact(Gh.put_mu' _ _ _ e).trans h
   | hole=>exact(Gh.put_mu' _ _ _ e).trans h
theorem get_push (H:Heap) (B:Blk):(H++[B])[H.length]? = some B:=by simp
theorem lo_push (H:Heap) (B:Blk) (lo:Nat):∀ b,b<lo->b<H.length->(H++[B])[b]? = H[b]?:=fun _ _ h=>List.getElem?_append_left h
theorem aBox_sound (hr:Rel H g w0 w) {t:TypeId} {x y:A} {H':Heap} {c:Value} (lo:Nat) (h:aBox x H=some (y,H')) (hx:VR H g w x c):Step H g w0 w lo ((Instr.box t c).run P w) y H':=by
 unfold aBox at h
 cases hc:x.cells? with
 | none=>rw[hc] at h; cases h
 | some cs =>
  rw[hc] at h
  cases h
  obtain ⟨hv,_,_⟩:=cells_VR hc hx
  have hb:Below w.heap.size w (w.alloc (.cells c.cells t)):=(Below.refl _ w).alloc (Nat.le_refl _) _
  obtain ⟨h1,h2⟩:=hr.push hb (.box cs) (some w.heap.size) [] (fun k hk=>by cases hk; exact⟨rfl,by simp⟩) (fun he=>⟨w.heap.size,c.cells,t,Gh.put_mu _ _ _ _,heap_alloc_new w _,VRs.ext he _ _ hv⟩)
  refine⟨.pointer (some ⟨w.heap.size,0,none⟩),_,_,by simp[Instr.box,newVar,newRow,newObj]; rfl,h1,h2,?_,by simp,lo_push _ _ _,rfl⟩
  rw[VR,get_push]; exact⟨w.heap.size,Gh.put_mu _ _ _ _,rfl⟩
theorem aAlloc_sound (hr:Rel H g w0 w) {t:TypeId} {y:A} {H':Heap} (lo:Nat) (h:aAlloc P t H=some (y,H')):Step H g w0 w lo ((Instr.alloc t true (.tuple #[])).run P w) y H':=by
 unfold aAlloc at h
 cases hz:zeroT P t with
 | none=>rw[hz] at h; cases h
 | some cs =>
  rw[hz] at h
  cases h
  obtain ⟨i,z,hi,hzz,rfl⟩:=zeroT_spec hz
  have hb:Below w.heap.size w (w.alloc (.cells z.cells t)):=(Below.refl _ w).alloc (Nat.le_refl _) _
  obtain ⟨h1,h2⟩:=hr.push hb (.box (z.cells.toList.map ofC)) (some w.heap.size) [] (fun k hk=>by cases hk; exact⟨rfl,by simp⟩) (fun he=>⟨w.heap.size,z.cells,t,Gh.put_mu _ _ _ _,heap_alloc_new w _,ofC_VRs _⟩)
  refine⟨.pointer (some ⟨w.heap.size,0,none⟩),_,_,by simp[Instr.alloc,zeroValue,typeInfo,hi,hzz,newVar,newRow,newObj]; rfl,h1,h2,?_,by simp,lo_push _ _ _,rfl⟩
  rw[VR,get_push]; exact⟨w.heap.size,Gh.put_mu _ _ _ _,rfl⟩
theorem rowOf_push (hr:Rel H g w0 w) {t:TypeId} {cs:List A} {y:A} {H':Heap} {arr:Array Value} {ty:TypeId} (h:rowOf P t cs H=some (y,H')) (hv:VRs H g w cs arr.toList) :
  Rel H' (g.put H.length (some w.heap.size) []) w0 (w.alloc (.cells arr ty))/\Ext H g w H' (g.put H.length (some w.heap.size) []) (w.alloc (.cells arr ty))/\VR H' (g.put H.length (some w.heap.size) []) (w.alloc (.cells arr ty)) y (.pointer (some ⟨w.heap.size,0,none⟩))/\H.length<=H'.length/\∀ lo b,b<lo->b<H.length->H'[b]? = H[b]?:=by
 unfold rowOf at h
 split at h
 ·rename_i n e hu
  replace h:=bnd h
  obtain ⟨es,hes,h⟩:=h
  replace h:=cnone h
  obtain ⟨h0,h⟩:=h
  cases h
  simp only[Bool.or_eq_false_iff,Bool.not_eq_false',Nat.beq_eq] at h0
  obtain ⟨⟨h1,h2⟩,h3⟩:=h0
  have h2:n≠0:=fun e=>by rw[e] at h2; cases h2
  have hb:Below w.heap.size w (w.alloc (.cells arr ty)):=(Below.refl _ w).alloc (Nat.le_refl _) _
  have hal:arr.toList.length=n*es:=by rw[hv.length,h3]
  obtain ⟨r1,r2⟩:=hr.push hb (.row true es (chunk es n cs)) (some w.heap.size) [] (fun k hk=>by cases hk; exact⟨rfl,by simp⟩) (fun he=>⟨chunk es n arr.toList,(VRs.ext he _ _ hv).chunk n,chunk_lens hal,fun _=>⟨w.heap.size,arr,ty,Gh.put_mu _ _ _ _,heap_alloc_new w _,fun j v hj=>by
   rw[chunk_flat hal] at hj; simpa using hj⟩⟩)
  refine⟨r1,r2,?_,by simp,fun lo=>lo_push _ _ _⟩
  rw[VR,get_push]
  exact⟨by rw[chunk_length]; omega,w.heap.size,Gh.put_mu _ _ _ _,by simp⟩
 ·cases h
theorem aBoxR_sound (hr:Rel H g w0 w) {t:TypeId} {x y:A} {H':Heap} {c:Value} (lo:Nat) (h:aBoxR P t x H=some (y,H')) (hx:VR H g w x c):Step H g w0 w lo ((Instr.box t c).run P w) y H':=by
 unfold aBoxR at h
 cases hc:x.cells? with
 | none=>rw[hc] at h; cases h
 | some cs =>
  rw[hc] at h
  obtain ⟨hv,_,_⟩:=cells_VR hc hx
  obtain ⟨r1,r2,r3,r4,r5⟩:=rowOf_push (P:=P) hr (ty:=t) h hv
  exact⟨.pointer (some ⟨w.heap.size,0,none⟩),_,_,by simp[Instr.box,newVar,newRow,newObj]; rfl,r1,r2,r3,r4,r5 lo,rfl⟩
theorem aAllocR_sound (hr:Rel H g w0 w) {t:TypeId} {y:A} {H':Heap} (lo:Nat) (h:aAllocR P t H=some (y,H')):Step H g w0 w lo ((Instr.alloc t true (.tuple #[])).run P w) y H':=by
 unfold aAllocR at h
 cases hz:zeroT P t with
 | none=>rw[hz] at h; cases h
 | some cs =>
  rw[hz] at h
  obtain ⟨i,z,hi,hzz,rfl⟩:=zeroT_spec hz
  obtain ⟨r1,r2,r3,r4,r5⟩:=rowOf_push (P:=P) hr (arr:=z.cells) (ty:=t) h (ofC_VRs _)
  exact⟨.pointer (some ⟨w.heap.size,0,none⟩),_,_,by simp[Instr.alloc,zeroValue,typeInfo,hi,hzz,newVar,newRow,newObj]; rfl,r1,r2,r3,r4,r5 lo,rfl⟩
theorem Rel.write (hr:Rel H g w0 w) {b k:Nat} {arr arr':Array Value} {ty:TypeId} (hk:g.mu b=some k) (ha:w.heap[k]? = some (.cells arr ty (0,0))) {B B':Blk} (hB:H[b]? = some B)
  (hkind:(∃ cs cs',B=.box cs/\B'=.box cs')∨∃ es els els',B=.row true es els/\B'=.row true es els'/\els'.length=els.length)
  (hB':Ext H g w (H.set b B') g (w.setRow k arr')->(w.setRow k arr').heap[k]? = some (.cells arr' ty (0,0))->BlkR (H.set b B') g (w.setRow k arr') b B'):Rel (H.set b B') g w0 (w.setRow k arr')/\Ext H g w (H.set b B') g (w.setRow k arr'):=by
 have hlt:b<H.length:=(List.getElem?_eq_some_iff.1 hB).1
 have hnew:(w.setRow k arr').heap[k]? = some (.cells arr' ty (0,0)):=setRow_heap w k arr arr' ty (0,0) ha
 have hoth:∀ j,j≠k->(w.setRow k arr').heap[j]? = w.heap[j]?:=fun j hj=>setRow_other w k j arr' hj
 have hnot:∀ {o:Nat},¬ Stab H g k o:=fun {o} hs=>by
  obtain ⟨es,els,h1,_⟩:=hs.2 b hk
  rw[hB] at h1
  rcases hkind with ⟨cs,cs',rfl,_⟩ | ⟨es',els1,els',rfl,_⟩<;>cases h1
 have he:Ext H g w (H.set b B') g (w.setRow k arr'):=by
  refine⟨fun k' o v hs hc=>?_,fun c C hC=>?_,fun k' o ho=>(hoth k' (fun e=>by subst e; rw[ha] at ho; cases ho)).trans ho,by simp[World.setRow],fun k' marr cl hs hm=>?_,fun k' _ hn=>hoth k' (fun e=>hn b (e ▸ hk)),fun c k' h=>.inl ⟨c,h⟩⟩
  ·have hne:k'≠k:=fun e=>hnot (e ▸ hs)
   refine⟨(World.cell?_of_block (a:=⟨k',o,none⟩) (hoth k' hne)).trans hc,hs.1,fun c hck=>?_⟩
   obtain ⟨es,els,h1,h2⟩:=hs.2 c hck
   have hcb:c≠b:=fun e=>by subst e; rw[hk] at hck; exact hne (by cases hck; rfl)
   exact⟨es,els,by rw[List.getElem?_set_ne (Ne.symm hcb)]; exact h1,h2⟩
  ·by_cases e:c=b
   ·subst e
    rw[hB] at hC; cases hC
    refine⟨B',by rw[List.getElem?_set_self hlt],?_⟩
    rcases hkind with ⟨cs,cs',rfl,rfl⟩ | ⟨es,els,els',rfl,rfl,hl⟩
    ·rfl
    ·exact⟨rfl,hl,rfl⟩
   ·refine⟨C,by rw[List.getElem?_set_ne (Ne.symm e)]; exact hC,?_⟩
    cases C with
    | box _=>rfl
    | row wr es els=>cases wr with
     | true=>exact⟨rfl,rfl,rfl⟩
     | false=>exact⟨rfl,⟨[],by simp⟩,(hr.blk c _ hC).len,Nat.le_refl _,fun _=>⟨rfl,fun k' arr1 ty1 hk1 ha1=>⟨arr1,(hoth k' (fun e2=>e (hr.inj c b k (e2 ▸ hk1) hk))).trans ha1,Nat.le_refl _⟩⟩⟩
    | rng _=>exact⟨rfl,rfl⟩
    | mp _ _ _=>rfl
    | dead=>trivial
    | hole=>trivial
  ·have hne:k'≠k:=fun e=>by subst e; rw[ha] at hm; cases hm
   refine⟨(hoth k' hne).trans hm,hs.1,fun c hck=>?_⟩
   obtain ⟨es,els,h1,h2⟩:=hs.2 c hck
   have hcb:c≠b:=fun e=>by subst e; rw[hk] at hck; exact hne (by cases hck; rfl)
   exact⟨es,els,by rw[List.getElem?_set_ne (Ne.symm hcb)]; exact h1,h2⟩
 have hsz:(w.setRow k arr').heap.size=w.heap.size:=by simp[World.setRow]
 have hkb:=(hr.dom b k hk).2.1
 refine⟨⟨hr.below.trans ⟨rfl,rfl,rfl,by rw[hsz]; exact Nat.le_refl _,fun j hj=>hoth j (by omega)⟩,fun c j hcj=>⟨by simpa using (hr.dom c j hcj).1,(hr.dom c j hcj).2.1,by rw[hsz]; exact(hr.dom c j hcj).2.2⟩,hr.inj,hr.outE he,hr.ownE he,fun c C hC=>?_⟩,he⟩
 by_cases e:c=b
 ·subst e
  rw[List.getElem?_set_self hlt] at hC; cases hC
  exact hB' he hnew
 ·rw[List.getElem?_set_ne (Ne.symm e)] at hC
  have h:=hr.blk c C hC
  have hmu:∀ {j},g.mu c=some j->j≠k:=fun {j} hj e2=>e (hr.inj c b k (e2 ▸ hj) hk)
  cases C with
  | box cs=>obtain ⟨j,arr1,ty1,h1,h2,h3⟩:=h; exact⟨j,arr1,ty1,h1,(hoth j (hmu h1)).trans h2,VRs.ext he _ _ h3⟩
  | row wr es els=>cases wr with
   | true =>
    obtain ⟨ds,h1,h2,h3⟩:=h
    exact⟨ds,VRss.ext he _ _ h1,h2,fun hp=>let ⟨j,arr1,ty1,e1,e2,e3⟩:=h3 hp; ⟨j,arr1,ty1,e1,(hoth j (hmu e1)).trans e2,e3⟩⟩
   | false=>exact⟨VRss.ext he _ _ h.1,h.2⟩
  | rng st=>obtain ⟨j,h1,h2⟩:=h; exact⟨j,h1,(hoth j (hmu h1)).trans h2⟩
  | mp _ _ _=>obtain ⟨j,arr1,cl,h1,h2,h3,h4⟩:=h; exact⟨j,arr1,cl,h1,(hoth j (hmu h1)).trans h2,h3,VRs.ext he _ _ h4⟩
  | dead=>exact h
  | hole=>exact h
theorem lo_set (H:Heap) (B:Blk) {lo b:Nat} (hb:lo<=b):∀ c,c<lo->c<H.length->(H.set b B)[c]? = H[c]?:=fun _ hc _=>List.getElem?_set_ne (by omega)
theorem storeVar_run {t:TypeId} {n k o:Nat} {c:Value} {arr:Array Value} {ty:TypeId} (hs:sizeT P t=some n) (hn:c.cells.size=n) (ha:w.heap[k]? = some (.cells arr ty (0,0))) (hfit:o+n<=arr.size) (h1:∀ x∈c.cells.toList,x.oneCell'=true) :
  (Instr.storeAt t (.pointer (some ⟨k,o,none⟩)) c).run P w=.ok () (w.setRow k (splice arr.toList o c.cells.toList).toArray):=by
 have:=run_storeCells_at P k o ty c.cells.toList 0 arr w ha (by simpa [hn] using hfit) h1
 simp only[Nat.add_zero] at this
 simp only[Instr.storeAt,Instr.sureAddr,Sem.run_bind,Sem.run_pure,Result.andThen_ok,storeVar,sizeOf_run hs]
 rw[if_neg (by simp[hn])]
 rw[this]
 simp[splice]
theorem splice_length {α:Type} (cs xs:List α) (o:Nat) (h:o+xs.length<=cs.length):(splice cs o xs).length=cs.length:=by
 simp[splice]; omega
theorem splice_get {α:Type} (cs xs:List α) (o j:Nat) (h:o+xs.length<=cs.length):(splice cs o xs)[j]? = if o<=j/\j<o+xs.length then xs[j - o]? else cs[j]?:=by
 unfold splice
 rw[List.append_assoc,List.getElem?_append,List.length_take,Nat.min_eq_left (by omega)]
 by_cases h1:j<o
 ·rw[if_pos h1,if_neg (by omega),List.getElem?_take,if_pos h1]
 ·rw[if_neg h1,List.getElem?_append]
  by_cases h2:j<o+xs.length
  ·rw[if_pos (by omega),if_pos (by omega)]
  ·rw[if_neg (by omega),if_neg (by omega),List.getElem?_drop]
   congr 1; omega
theorem splice_app {α:Type} (x l xs:List α) (n:Nat):splice (x++l) (x.length+n) xs=x++splice l n xs:=by
 unfold splice
 rw[Nat.add_assoc,List.take_length_add_append,List.drop_length_add_append]
 simp
theorem flat_set {es:Nat}:∀ {ds:List (List Value)} {i:Nat} {d d':List Value},(∀ d∈ds,d.length=es)->ds[i]? = some d->∀ o xs,o+xs.length<=es->d'=splice d o xs->(ds.set i d').flatten=splice ds.flatten (i*es+o) xs
 | [],i,d,d',_,h,_,_,_,_=>by simp at h
 | x :: r,i,d,d',hl,h,o,xs,hf,hd=>by
  have hx:=hl x (by simp)
  cases i with
  | zero =>
   simp at h; subst h; subst hd
   simp only[List.set_cons_zero,List.flatten_cons,Nat.zero_mul,Nat.zero_add,splice]
   rw[List.take_append_of_le_length (by omega),List.drop_append_of_le_length (by omega)]
   simp
  | succ i =>
   have ih:=flat_set (ds:=r) (i:=i) (d:=d) (d':=d') (fun d hd=>hl d (by simp[hd])) (by simpa using h) o xs hf hd
   have e:(i+1)*es+o=x.length+(i*es+o):=by rw[hx,Nat.add_mul]; omega
   rw[List.set_cons_succ,List.flatten_cons,List.flatten_cons,ih,e,splice_app]
theorem take_flat_length {es:Nat} {ds:List (List Value)} (hl:∀ d∈ds,d.length=es) {m:Nat} (hm:m<=ds.length):(ds.take m).flatten.length=m*es:=by
 rw[flat_length (fun d hd=>hl d (List.mem_of_mem_take hd)),List.length_take,Nat.min_eq_left hm]
theorem flat_splice {es:Nat}:∀ {ds:List (List Value)} (o:Nat) {xs:List (List Value)},(∀ d∈ds,d.length=es)->(∀ d∈xs,d.length=es)->o+xs.length<=ds.length->(splice ds o xs).flatten=splice ds.flatten (o*es) xs.flatten
 | ds,0,xs,hl,hx,h=>by
  have:ds=ds.take xs.length++ds.drop xs.length:=(List.take_append_drop _ _).symm
  have h1:(ds.take xs.length).flatten.length=xs.length*es:=take_flat_length hl (by omega)
  simp only[splice,List.take_zero,List.nil_append,Nat.zero_add,Nat.zero_mul,List.flatten_append]
  congr 1
  have e:ds.flatten=(ds.take xs.length).flatten++(ds.drop xs.length).flatten:=by rw[<-List.flatten_append,List.take_append_drop]
  rw[e,List.drop_append,h1,flat_length hx]
  simp[h1]
 | [],o+1,xs,hl,hx,h=>by simp at h
 | d :: r,o+1,xs,hl,hx,h=>by
  have ih:=flat_splice (ds:=r) o (xs:=xs) (fun d hd=>hl d (by simp[hd])) hx (by simp at h; omega)
  have e1:splice (d :: r) (o+1) xs=d :: splice r o xs:=by
   simp only[splice,List.take_succ_cons,List.cons_append]
   rw[show o+1+xs.length=o+xs.length+1 by omega,List.drop_succ_cons]
  rw[e1,List.flatten_cons,ih,List.flatten_cons]
  have e2:(o+1)*es=d.length+o*es:=by rw[hl d (by simp),Nat.add_mul]; omega
  rw[e2,splice_app]
theorem aStore_sound (hr:Rel H g w0 w) {t:TypeId} {a x:A} {H':Heap} {lo:Nat} {ca cx:Value} (h:aStore P t a x H lo=some H') (ha:VR H g w a ca) (hx:VR H g w x cx) :
  ∃ w',(Instr.storeAt t ca cx).run P w=.ok () w'/\Rel H' g w0 w'/\Ext H g w H' g w'/\H.length<=H'.length/\∀ b,b<lo->b<H.length->H'[b]? = H[b]?:=by
 unfold aStore at h
 replace h:=bnd h
 obtain ⟨n,hn,h⟩:=h
 replace h:=bnd h
 obtain ⟨xs,hxs,h⟩:=h
 replace h:=cnone h
 obtain ⟨h0,h⟩:=h
 simp only[Bool.or_eq_false_iff,Bool.not_eq_false',beq_iff_eq] at h0
 obtain ⟨hvs,h1,_⟩:=cells_VR hxs hx
 have hsz:cx.cells.size=n:=by have:=hvs.length; simp at this; omega
 split at h
 ·rename_i b o
  split at h
  ·rename_i cs hb
   replace h:=csome h
   obtain ⟨hc,h⟩:=h
   simp only[Bool.and_eq_true,decide_eq_true_eq] at hc
   cases h
   rw[VR,hb] at ha
   obtain ⟨k,hk,rfl⟩:=ha
   obtain ⟨k',arr,ty,hk',har,hv⟩:=hr.blk b _ hb
   rw[hk] at hk'; cases hk'
   have hal:arr.size=cs.length:=by simpa using hv.length
   have hrun:=storeVar_run (P:=P) hn hsz har (o:=o) (by omega) h1
   obtain ⟨r1,r2⟩:=hr.write hk har (arr':=(splice arr.toList o cx.cells.toList).toArray) (B':=.box (splice cs o xs)) hb (.inl ⟨_,_,rfl,rfl⟩) (fun he hnew=>⟨k,_,ty,hk,hnew,VRs.ext he _ _ (by simpa using hv.splice hvs o)⟩)
   exact⟨_,hrun,r1,r2,by simp,lo_set _ _ hc.1⟩
  ·cases h
 ·rename_i b i o
  split at h
  ·rename_i es els hb
   split at h
   ·rename_i cs hi
    rw[VR,hb] at ha
    obtain ⟨hlt,k,hk,rfl⟩:=ha
    obtain ⟨ds,hv,hl,hrow⟩:=hr.blk b _ hb
    obtain ⟨k',arr,ty,hk',har,hcell⟩:=hrow (by omega)
    rw[hk] at hk'; cases hk'
    obtain ⟨d,hd,hvd⟩:=hv.get hi
    have hdl:d.length=es:=hl d (List.mem_of_getElem? hd)
    have hcl:cs.length=es:=by rw[<-hvd.length]; exact hdl
    have hfl:=flat_length hl
    have hvl:=hv.length
    have hbound:i*es+es<=ds.length*es:=by
     have:=Nat.mul_le_mul_right es (show i+1<=ds.length by omega)
     rw[Nat.add_mul] at this; omega
    have hal:ds.flatten.length<=arr.size:=by
     by_cases hz:ds.flatten.length=0
     ·omega
     ·have:=hcell (ds.flatten.length - 1) _ (List.getElem?_eq_getElem (by omega))
      have:=(Array.getElem?_eq_some_iff.1 this).1
      omega
    have hxl:cx.cells.toList.length=n:=by simpa using hsz
    rw[bcond] at h
    split at h
    rotate_left
    ·replace h:=csome h
     obtain ⟨hc,h⟩:=h
     simp only[Bool.and_eq_true,decide_eq_true_eq,Nat.beq_eq] at hc
     obtain ⟨⟨⟨hlo,rfl⟩,hq⟩,hfit⟩:=hc
     cases h
     have hxq:cx.cells.toList.length=n / es*es:=by omega
     have hq2:i*es+n / es*es<=ds.length*es:=by
      have:=Nat.mul_le_mul_right es (show i+n / es<=ds.length by omega)
      rwa [Nat.add_mul] at this
     have hrun:=storeVar_run (P:=P) hn hsz har (o:=i*es+0) (by omega) h1
     have hcl2:=chunk_lens (es:=es) hxq
     obtain ⟨r1,r2⟩:=hr.write hk har (arr':=(splice arr.toList (i*es+0) cx.cells.toList).toArray) (B':=.row true es (splice els i (chunk es (n / es) xs))) hb (.inr ⟨es,els,_,rfl,rfl,by rw[splice_length _ _ _ (by rw[chunk_length]; omega)]⟩) (fun he hnew=>by
      refine⟨splice ds i (chunk es (n / es) cx.cells.toList),?_,?_,fun _=>⟨k,_,ty,hk,hnew,fun j v hj=>?_⟩⟩
      ·have hv2:=VRss.ext he _ _ hv
       have hx2:=VRss.ext he _ _ (hvs.chunk (es:=es) (n / es))
       exact hv2.splice hx2 i
      ·intro d' hd'
       unfold splice at hd'
       rcases List.mem_append.1 hd' with hd' | hd'
       ·rcases List.mem_append.1 hd' with hd' | hd'
        ·exact hl d' (List.mem_of_mem_take hd')
        ·exact hcl2 d' hd'
       ·exact hl d' (List.mem_of_mem_drop hd')
      ·rw[flat_splice i hl hcl2 (by rw[chunk_length]; omega),chunk_flat hxq] at hj
       rw[splice_get _ _ _ _ (by omega)] at hj
       have:(splice arr.toList (i*es+0) cx.cells.toList).toArray[j]? = (splice arr.toList (i*es+0) cx.cells.toList)[j]?:=by simp
       rw[this,splice_get _ _ _ _ (by simp; omega)]
       simp only[Nat.add_zero]
       split
       ·rename_i hin; rw[if_pos hin] at hj; exact hj
       ·rename_i hin; rw[if_neg hin] at hj
        have:=hcell j v hj
        simpa using this)
     exact⟨_,hrun,r1,r2,by simp,lo_set _ _ hlo⟩
    rename_i hc
    simp only[Bool.and_eq_true,decide_eq_true_eq] at hc
    cases h
    have hrun:=storeVar_run (P:=P) hn hsz har (o:=i*es+o) (by omega) h1
    obtain ⟨r1,r2⟩:=hr.write hk har (arr':=(splice arr.toList (i*es+o) cx.cells.toList).toArray) (B':=.row true es (els.set i (splice cs o xs))) hb (.inr ⟨es,els,_,rfl,rfl,by simp⟩) (fun he hnew=>by
     refine⟨ds.set i (splice d o cx.cells.toList),?_,?_,fun _=>⟨k,_,ty,hk,hnew,fun j v hj=>?_⟩⟩
     ·have hv2:=VRss.ext he _ _ hv
      have hvd2:=VRs.ext he _ _ (hvd.splice hvs o)
      obtain ⟨g1,g2⟩:=VRss_iff.1 hv2
      refine VRss_iff.2 ⟨by simp[g1],fun j a' d' ha' hd'=>?_⟩
      by_cases e:j=i
      ·subst e
       rw[List.getElem?_set_self (by omega)] at ha'
       rw[List.getElem?_set_self (by omega)] at hd'
       cases ha'; cases hd'; exact hvd2
      ·rw[List.getElem?_set_ne (Ne.symm e)] at ha' hd'
       exact g2 j a' d' ha' hd'
     ·intro d' hd'
      rcases List.mem_or_eq_of_mem_set hd' with h' | rfl
      ·exact hl d' h'
      ·rw[splice_length _ _ _ (by omega)]; exact hdl
     ·rw[flat_set hl hd o cx.cells.toList (by omega) rfl] at hj
      rw[splice_get _ _ _ _ (by omega)] at hj
      have:(splice arr.toList (i*es+o) cx.cells.toList).toArray[j]? = (splice arr.toList (i*es+o) cx.cells.toList)[j]?:=by simp
      rw[this,splice_get _ _ _ _ (by simp; omega)]
      split
      ·rename_i hin; rw[if_pos hin] at hj; exact hj
      ·rename_i hin; rw[if_neg hin] at hj
       have:=hcell j v hj
       simpa using this)
    exact⟨_,hrun,r1,r2,by simp,lo_set _ _ hc.1⟩
   ·cases h
  ·cases h
 ·cases h
end Go.Proofs.Ytdmgdjnadbakfaa
