/-
 The interpreter's maps, as the model's.
-/
import Derived.Test.YtdmgdjnadbakfaaEvAppend
namespace Go.Proofs.Ytdmgdjnadbakfaa
open Go.RowKit
set_option linter.unusedSimpArgs false
variable {P:Program} {H H':Heap} {g g':Gh} {w0 w w':World}
theorem keyK_spec {t:TypeId} {k:IntKind} {vt:TypeId} (h:keyK P t=some (k,vt)):∃ kt,P.underlying t=some (.map kt vt)/\P.underlying kt=some (.int k):=by
 unfold keyK at h
 split at h
 ·rename_i kt vt' hu
  split at h
  ·rename_i k' hk; cases h; exact⟨kt,hu,hk⟩
  ·cases h
 ·cases h
theorem keyOf_spec {k:IntKind} {x:A} {a:Int} {c:Value} (h:keyOf k x=some a) (hx:VR H g w x c):c=.int k a:=by
 unfold keyOf at h
 split at h
 ·rename_i j n
  obtain ⟨h1,h2⟩:=csome h
  cases h2
  have:=of_decide_eq_true h1
  subst this
  rw[VR] at hx; exact hx
 ·cases h
def posM (a:Int):List Int->Option Nat
 | []=>none
 | x :: ks=>if a=x then some 0 else (posM a ks).map (·+1)
theorem posM_lt {a:Int}:∀ {ks:List Int} {j:Nat},posM a ks=some j->j<ks.length/\ks[j]? = some a
 | [],_,h=>by cases h
 | x :: ks,j,h=>by
  rw[posM] at h
  split at h
  ·rename_i e; cases h; exact⟨by simp,by simp[e]⟩
  ·rw[Option.map_eq_some_iff] at h
   obtain ⟨i,h1,rfl⟩:=h
   obtain ⟨e1,e2⟩:=posM_lt h1
   exact⟨by simp; omega,by simpa using e2⟩
theorem assocM_pos {a:Int}:∀ {ks:List Int} {vs:List A},ks.length=vs.length->assocM a ks vs=(posM a ks).bind fun j=>vs[j]?
 | [],[],_=>rfl
 | [],_ :: _,h=>by simp at h
 | _ :: _,[],h=>by simp at h
 | x :: ks,v :: vs,h=>by
  rw[assocM,posM,bcond]
  by_cases e:a=x
  ·rw[if_pos e,if_pos (by simpa using e)]; rfl
  ·rw[if_neg e,if_neg (by simpa using e),assocM_pos (by simpa using h),Option.bind_map]
   rfl
theorem putM_pos {a:Int} {y:A}:∀ {ks:List Int} {vs:List A},ks.length=vs.length->putM a y ks vs=match posM a ks with | some j=>(ks,vs.set j y) | none=>(ks++[a],vs++[y])
 | [],[],_=>rfl
 | [],_ :: _,h=>by simp at h
 | _ :: _,[],h=>by simp at h
 | x :: ks,v :: vs,h=>by
  rw[putM,posM,bcond]
  by_cases e:a=x
  ·rw[if_pos e,if_pos (by simpa using e)]; rfl
  ·rw[if_neg e,if_neg (by simpa using e),putM_pos (by simpa using h)]
   cases posM a ks with
   | none=>rfl
   | some j=>rfl
theorem findNow_pos {k:IntKind} {a:Int}:∀ (es:List MapEntry) (ks:List Int) (i:Nat),es.map (·.key)=ks.map (Value.int k)->Instr.findNow (.int k) (.int k a) es i=some ((posM a ks).bind fun j=>(es[j]?).map fun e=>(i+j,e.val))
 | [],[],i,_=>rfl
 | [],_ :: _,_,h=>by simp at h
 | _ :: _,[],_,h=>by simp at h
 | e :: es,x :: ks,i,h=>by
  simp only[List.map_cons,List.cons.injEq] at h
  obtain ⟨h1,h2⟩:=h
  have hs:Instr.sameNow (.int k) (.int k a) e.key=some (a==x):=by rw[h1]; simp[Instr.sameNow]
  rw[Instr.findNow,hs,posM]
  by_cases ex:a=x
  ·subst ex
   simp
  ·rw[show (a==x)=false by simpa using ex,if_neg ex]
   simp only[]
   rw[findNow_pos es ks (i+1) h2]
   cases posM a ks with
   | none=>rfl
   | some j =>
    simp only[Option.map_some,Option.bind_some,List.getElem?_cons_succ]
    rw[show i+1+j=i+(j+1) by omega]
theorem checkKey_int {kt:TypeId} {k:IntKind} (hk:P.underlying kt=some (.int k)) (a:Int) (b:Bool):(Instr.checkKey b 10000 kt (.int k a)).run P w=.ok () w:=by
 rw[show (10000:Nat)=9999+1 from rfl,Instr.checkKey]
 simp[run_underlying hk]
theorem findKey_int {kt:TypeId} {k:IntKind} (hk:P.underlying kt=some (.int k)) {es:List MapEntry} {ks:List Int} (h:es.map (·.key)=ks.map (Value.int k)) (a:Int):(Instr.findKey kt (.int k a) es).run P w=.ok ((posM a ks).bind fun j=>(es[j]?).map fun e=>(j,e.val)) w:=by
 unfold Instr.findKey
 simp only[Sem.run_bind,run_underlying hk,Result.andThen_ok,findNow_pos es ks 0 h,Nat.zero_add]
 rfl
theorem aMakeMap_sound (hr:Rel H g w0 w) {t:TypeId} {y:A} {H':Heap} (lo:Nat) (h:aMakeMap P t H=some (y,H')):Step H g w0 w lo ((Instr.makeMap t none).run P w) y H':=by
 unfold aMakeMap at h
 cases hk:keyK P t with
 | none=>rw[hk] at h; cases h
 | some p =>
  rw[hk] at h
  cases h
  have hb:Below w.heap.size w (w.alloc (.map #[] 0)):=(Below.refl _ w).alloc (Nat.le_refl _) _
  obtain ⟨h1,h2⟩:=hr.push hb (.mp p.1 [] []) (some w.heap.size) [] (fun k hk=>by cases hk; exact⟨rfl,by simp⟩) (fun he=>⟨w.heap.size,#[],0,Gh.put_mu _ _ _ _,World.alloc_heap_new w _,rfl,by rw[VRs]; rfl⟩)
  refine⟨.map (some w.heap.size),_,_,by simp[Instr.makeMap,newObj]; rfl,h1,h2,?_,by simp,lo_push _ _ _,rfl⟩
  rw[VR,get_push]; exact⟨w.heap.size,Gh.put_mu _ _ _ _,rfl⟩
theorem Rel.setm (hr:Rel H g w0 w) {b r:Nat} {arr arr':Array MapEntry} {cl cl':Nat} {k:IntKind} {ks ks':List Int} {vs vs':List A} (hk:g.mu b=some r) (ha:w.heap[r]? = some (.map arr cl)) (hB:H[b]? = some (.mp k ks vs))
  (hkeys:arr'.toList.map (·.key)=ks'.map (Value.int k)) (hv:VRs H g w vs' (arr'.toList.map (·.val))) :
  Rel (H.set b (.mp k ks' vs')) g w0 (w.putObj r (.map arr' cl'))/\Ext H g w (H.set b (.mp k ks' vs')) g (w.putObj r (.map arr' cl')):=by
 have hlt:b<H.length:=(List.getElem?_eq_some_iff.1 hB).1
 have hrl:r<w.heap.size:=(hr.dom b r hk).2.2
 have hoth:∀ j,j≠r->(w.putObj r (.map arr' cl')).heap[j]? = w.heap[j]?:=fun j hj=>World.putObj_heap_other hj
 have hsz:(w.putObj r (.map arr' cl')).heap.size=w.heap.size:=by simp
 have hnot:∀ {o:Nat},¬ Stab H g r o:=fun {o} hs=>by
  obtain ⟨es,els,h1,_⟩:=hs.2 b hk
  rw[hB] at h1; cases h1
 have hst:∀ {q o},Stab H g q o->Stab (H.set b (.mp k ks' vs')) g q o:=fun {q o} hs=>by
  refine⟨hs.1,fun c hck=>?_⟩
  obtain ⟨es,els,h1,h2⟩:=hs.2 c hck
  have hcb:c≠b:=fun e=>by subst e; rw[hB] at h1; cases h1
  exact⟨es,els,by rw[List.getElem?_set_ne (Ne.symm hcb)]; exact h1,h2⟩
 have he:Ext H g w (H.set b (.mp k ks' vs')) g (w.putObj r (.map arr' cl')):=by
  refine⟨fun k' o v hs hc=>?_,fun c C hC=>?_,fun k' x h=>(hoth k' (fun e=>by subst e; rw[ha] at h; cases h)).trans h,by rw[hsz]; exact Nat.le_refl _,fun k' marr mcl hs hm=>?_,fun k' _ hn=>hoth k' (fun e=>hn b (e ▸ hk)),fun c k' h=>.inl ⟨c,h⟩⟩
  ·have hne:k'≠r:=fun e=>hnot (e ▸ hs)
   exact⟨(World.cell?_of_block (a:=⟨k',o,none⟩) (hoth k' hne)).trans hc,hst hs⟩
  ·by_cases e:c=b
   ·subst e
    rw[hB] at hC; cases hC
    exact⟨.mp k ks' vs',by rw[List.getElem?_set_self hlt],rfl⟩
   ·refine⟨C,by rw[List.getElem?_set_ne (Ne.symm e)]; exact hC,?_⟩
    cases C with
    | box _=>rfl
    | row wr es els=>cases wr with
     | true=>exact⟨rfl,rfl,rfl⟩
     | false=>exact⟨rfl,⟨[],by simp⟩,(hr.blk c _ hC).len,Nat.le_refl _,fun _=>⟨rfl,fun k' arr1 ty1 hk1 ha1=>⟨arr1,(hoth k' (fun e2=>e (hr.inj c b r (e2 ▸ hk1) hk))).trans ha1,Nat.le_refl _⟩⟩⟩
    | rng _=>exact⟨rfl,rfl⟩
    | mp _ _ _=>rfl
    | dead=>trivial
    | hole=>trivial
  ·have hne:k'≠r:=fun e=>hnot (e ▸ hs)
   exact⟨(hoth k' hne).trans hm,hst hs⟩
 refine⟨⟨hr.below.trans ((Below.refl w0.heap.size w).grown (grownBy_putObj' w r _) (hr.below.size) (fun k e=>by cases e; exact(hr.dom b r hk).2.1)),fun c j hcj=>⟨by simpa using (hr.dom c j hcj).1,(hr.dom c j hcj).2.1,by rw[hsz]; exact(hr.dom c j hcj).2.2⟩,hr.inj,hr.outE he,hr.ownE he,fun c C hC=>?_⟩,he⟩
 by_cases e:c=b
 ·subst e
  rw[List.getElem?_set_self hlt] at hC; cases hC
  exact⟨r,arr',cl',hk,World.putObj_heap_same hrl,hkeys,VRs.ext he _ _ hv⟩
 ·rw[List.getElem?_set_ne (Ne.symm e)] at hC
  have h:=hr.blk c C hC
  have hmu:∀ {j},g.mu c=some j->j≠r:=fun {j} hj e2=>e (hr.inj c b r (e2 ▸ hj) hk)
  cases C with
  | box cs=>obtain ⟨j,arr1,ty1,h1,h2,h3⟩:=h; exact⟨j,arr1,ty1,h1,(hoth j (hmu h1)).trans h2,VRs.ext he _ _ h3⟩
  | row wr es els=>cases wr with
   | true =>
    obtain ⟨ds,h1,h2,h3⟩:=h
    exact⟨ds,VRss.ext he _ _ h1,h2,fun hp=>let ⟨j,arr1,ty1,e1,e2,e3⟩:=h3 hp; ⟨j,arr1,ty1,e1,(hoth j (hmu e1)).trans e2,e3⟩⟩
   | false=>exact⟨VRss.ext he _ _ h.1,h.2⟩
  | rng st=>obtain ⟨j,h1,h2⟩:=h; exact⟨j,h1,(hoth j (hmu h1)).trans h2⟩
  | mp _ _ _=>obtain ⟨j,arr1,c1,h1,h2,h3,h4⟩:=h; exact⟨j,arr1,c1,h1,(hoth j (hmu h1)).trans h2,h3,VRs.ext he _ _ h4⟩
  | dead=>exact h
  | hole=>exact h
theorem VRs.setAt {vs:List A} {ds:List Value} (h:VRs H g w vs ds) {y:A} {d:Value} (hy:VR H g w y d) (j:Nat):VRs H g w (vs.set j y) (ds.set j d):=by
 rw[VRs_iff] at h ⊢
 refine⟨by simpa using h.1,fun i a e ha hd=>?_⟩
 rw[List.getElem?_set] at ha hd
 by_cases hij:j=i
 ·subst hij
  rw[if_pos rfl] at ha hd
  split at ha
  ·split at hd
   ·cases ha; cases hd; exact hy
   ·cases hd
  ·cases ha
 ·rw[if_neg hij] at ha hd
  exact h.2 i a e ha hd
theorem aSetMap_sound (hr:Rel H g w0 w) {t:TypeId} {m i x:A} {H':Heap} {lo:Nat} {cm ci cx:Value} (h:aSetMap P t m i x H lo=some H') (hm:VR H g w m cm) (hi:VR H g w i ci) (hx:VR H g w x cx) :
  ∃ w',(Instr.mapUpdate t cm ci cx).run P w=.ok () w'/\Rel H' g w0 w'/\Ext H g w H' g w'/\H.length<=H'.length/\∀ b,b<lo->b<H.length->H'[b]? = H[b]?:=by
 unfold aSetMap at h
 obtain ⟨⟨k,vt⟩,hk,h⟩:=bnd h
 obtain ⟨a,ha,h⟩:=bnd h
 obtain ⟨kt,hu,huk⟩:=keyK_spec hk
 have:=keyOf_spec ha hi
 subst this
 cases m with
 | mr b =>
  simp only[] at h
  split at h
  ·rename_i k' ks vs hB
   obtain ⟨hc,h⟩:=csome h
   cases h
   rw[Bool.and_eq_true] at hc
   have hlo:=of_decide_eq_true hc.1
   have hkk:k'=k:=of_decide_eq_true hc.2
   subst hkk
   rw[VR,hB] at hm
   obtain ⟨r,hmu,rfl⟩:=hm
   obtain ⟨r',arr,cl,e1,e2,e3,e4⟩:=hr.blk b _ hB
   rw[hmu] at e1; cases e1
   have hlen:ks.length=vs.length:=by
    have:=e4.length
    have h2:=congrArg List.length e3
    simp at this h2
    omega
   have hal:ks.length=arr.size:=by have h2:=congrArg List.length e3; simp at h2; omega
   have hget:(getObj r).run P w=.ok (.map arr cl) w:=by simp[getObj,Sem.run,e2]
   have hset:∀ o,(setObj r o).run P w=.ok () (w.putObj r o):=fun o=>by simp[setObj,Sem.run,e2,World.putObj]
   have hlow:∀ B,∀ c,c<lo->c<H.length->(H.set b B)[c]? = H[c]?:=fun B c hc _=>List.getElem?_set_ne (by omega)
   rw[putM_pos hlen]
   cases hp:posM a ks with
   | none =>
    simp only[]
    have hrun:(Instr.mapUpdate t (.map (some r)) (.int k' a) cx).run P w=.ok () (w.putObj r (.map (arr.push { key:=.int k' a,val:=cx,born:=cl }) (cl+1))):=by
     unfold Instr.mapUpdate
     simp only[Sem.run_bind,run_underlying hu,Result.andThen_ok,hget,checkKey_int huk,findKey_int huk e3,hp,Option.bind_none,hset]
    obtain ⟨r1,r2⟩:=hr.setm (arr':=arr.push { key:=.int k' a,val:=cx,born:=cl }) (cl':=cl+1) (ks':=ks++[a]) (vs':=vs++[x]) hmu e2 hB (by simp[e3]) (by
     rw[show (arr.push { key:=Value.int k' a,val:=cx,born:=cl }).toList.map (·.val)=arr.toList.map (·.val)++[cx] by simp]
     exact e4.append (by rw[VRs]; exact⟨cx,[],rfl,hx,by rw[VRs]⟩))
    exact⟨_,hrun,r1,r2,by simp,hlow _⟩
   | some j =>
    simp only[]
    obtain ⟨hj,hja⟩:=posM_lt hp
    have hja':arr[j]? = some arr[j]:=Array.getElem?_eq_getElem (by omega)
    have hkey:(arr[j]'(by omega)).key=.int k' a:=by
     have h1:(arr.toList.map (·.key))[j]? = some (.int k' a):=by rw[e3,List.getElem?_map,hja]; rfl
     rw[List.getElem?_map,Array.getElem?_toList,hja'] at h1
     simpa using h1
    have hsame:(Instr.keyThatStays (.int k' a) (.int k' a)).run P w=.ok (.int k' a) w:=by
     unfold Instr.keyThatStays
     rw[show Instr.sameBits 10000 (.int k' a) (.int k' a)=true by rw[show (10000:Nat)=9999+1 from rfl]; simp[Instr.sameBits]]
     rfl
    have hrun:(Instr.mapUpdate t (.map (some r)) (.int k' a) cx).run P w=.ok () (w.putObj r (.map (arr.modify j fun e=>{ e with key:=.int k' a,val:=cx }) cl)):=by
     unfold Instr.mapUpdate
     simp only[Sem.run_bind,run_underlying hu,Result.andThen_ok,hget,checkKey_int huk,findKey_int huk e3,hp,Option.bind_some,Array.getElem?_toList,hja',Option.map_some,Option.getD_some,hkey,hsame,hset]
    have hmod:∀ (f:MapEntry->Value) (v:Value),(f { (arr[j]'(by omega)) with key:=.int k' a,val:=cx }=v)->((arr.modify j fun e=>{ e with key:=.int k' a,val:=cx }).toList.map f)=(arr.toList.map f).set j v:=fun f v hf=>by
     refine List.ext_getElem? fun i=>?_
     rw[List.getElem?_map,Array.getElem?_toList,Array.getElem?_modify,List.getElem?_set]
     by_cases hij:j=i
     ·subst hij
      rw[if_pos rfl,hja',if_pos rfl,if_pos (by simp; omega)]
      simp[hf]
     ·rw[if_neg hij,if_neg hij,List.getElem?_map,Array.getElem?_toList]
    obtain ⟨r1,r2⟩:=hr.setm (arr':=arr.modify j fun e=>{ e with key:=.int k' a,val:=cx }) (cl':=cl) (ks':=ks) (vs':=vs.set j x) hmu e2 hB (by
     rw[hmod (·.key) (.int k' a) rfl,e3]
     refine List.ext_getElem? fun i=>?_
     rw[List.getElem?_set]
     by_cases hij:j=i
     ·subst hij
      rw[if_pos rfl,if_pos (by simp; omega),List.getElem?_map,hja]; rfl
     ·rw[if_neg hij]) (by rw[hmod (·.val) cx rfl]; exact e4.setAt hx j)
    exact⟨_,hrun,r1,r2,by simp,hlow _⟩
  ·cases h
 | _=>cases h
theorem okM_VR {vt:TypeId} {c:Bool} {y:A} {es:List MapEntry} {ks:List Int} {vs:List A} {a:Int} (hl:ks.length=vs.length) (h:okM P vt c (assocM a ks vs)=some y) (hv:VRs H g w vs (es.map (·.val))) :
  ∃ d,(match (posM a ks).bind fun j=>(es[j]?).map fun e=>(j,e.val) with | some (_,v)=>(d=if c then .tuple #[v,.bool true] else v) | none=>∃ i z,P.info? vt=some i/\i.zero=some z/\(d=if c then .tuple #[z,.bool false] else z))/\VR H g w y d:=by
 rw[assocM_pos hl] at h
 cases hp:posM a ks with
 | none =>
  rw[hp] at h
  simp only[Option.bind_none,okM] at h ⊢
  obtain ⟨i,hi,h⟩:=bnd h
  rw[Option.map_eq_some_iff] at h
  obtain ⟨z,hz,h⟩:=h
  refine⟨_,⟨i,z,hi,hz,rfl⟩,?_⟩
  subst h
  cases c
  ·exact ofV_VR z
  ·rw[cond_true,VR]
   exact⟨_,rfl,by rw[VRs]; exact⟨z,_,rfl,ofV_VR z,by rw[VRs]; exact⟨_,_,rfl,by rw[VR],by rw[VRs]⟩⟩⟩
 | some j =>
  obtain ⟨hj,_⟩:=posM_lt hp
  have hel:es.length=vs.length:=by have:=hv.length; simpa using this
  have hvj:vs[j]? = some vs[j]:=List.getElem?_eq_getElem (by omega)
  have hej:es[j]? = some es[j]:=List.getElem?_eq_getElem (by omega)
  rw[hp] at h
  simp only[Option.bind_some,hvj,okM,Option.some.injEq,hej,Option.map_some] at h ⊢
  refine⟨_,rfl,?_⟩
  subst h
  have hvv:VR H g w vs[j] es[j].val:=(VRs_iff.1 hv).2 j _ _ hvj (by rw[List.getElem?_map,hej]; rfl)
  cases c
  ·exact hvv
  ·rw[cond_true,VR]
   exact⟨_,rfl,by rw[VRs]; exact⟨_,_,rfl,hvv,by rw[VRs]; exact⟨_,_,rfl,by rw[VR],by rw[VRs]⟩⟩⟩
theorem aLookup_sound (hr:Rel H g w0 w) {t:TypeId} {m i y:A} {c:Bool} {cm ci:Value} (h:aLookup P t m i c H=some y) (hm:VR H g w m cm) (hi:VR H g w i ci):∃ d,(Instr.lookup t cm ci c).run P w=.ok d w/\VR H g w y d:=by
 unfold aLookup at h
 obtain ⟨⟨k,vt⟩,hk,h⟩:=bnd h
 obtain ⟨a,ha,h⟩:=bnd h
 obtain ⟨kt,hu,huk⟩:=keyK_spec hk
 have:=keyOf_spec ha hi
 subst this
 have main:∀ {r:Nat} {arr:Array MapEntry} {cl:Nat} {ks:List Int} {vs:List A},w.heap[r]? = some (.map arr cl)->arr.toList.map (·.key)=ks.map (Value.int k)->VRs H g w vs (arr.toList.map (·.val))->okM P vt c (assocM a ks vs)=some y->∃ d,(Instr.lookup t (.map (some r)) (.int k a) c).run P w=.ok d w/\VR H g w y d:=by
  intro r arr cl ks vs e2 e3 e4 hok
  have hlen:ks.length=vs.length:=by
   have:=e4.length
   have h2:=congrArg List.length e3
   simp at this h2
   omega
  obtain ⟨d,hd,hv⟩:=okM_VR hlen hok e4
  refine⟨d,?_,hv⟩
  have hget:(getObj r).run P w=.ok (.map arr cl) w:=by simp[getObj,Sem.run,e2]
  unfold Instr.lookup
  simp only[Sem.run_bind,run_underlying hu,Result.andThen_ok,hget,Sem.run_pure,checkKey_int huk,findKey_int huk e3]
  cases hf:(posM a ks).bind fun j=>(arr.toList[j]?).map fun e=>(j,e.val) with
  | none =>
   rw[hf] at hd
   obtain ⟨i,z,h1,h2,h3⟩:=hd
   have hz:(zeroValue vt).run P w=.ok z w:=by simp[zeroValue,typeInfo,h1,h2]
   simp only[Sem.run_bind,hz,Result.andThen_ok,Sem.run_pure,h3]
  | some p =>
   rw[hf] at hd
   obtain ⟨j,v⟩:=p
   simp only[Sem.run_pure,Result.andThen_ok]
   have hd:d=if c then .tuple #[v,.bool true] else v:=hd
   rw[hd]
   cases c<;>rfl
 cases m with
 | mv k' ks vs =>
  obtain ⟨hc,h⟩:=csome h
  have hkk:k'=k:=of_decide_eq_true hc
  subst hkk
  rw[VR] at hm
  obtain ⟨r,arr,cl,rfl,_,e2,e3,e4⟩:=hm
  exact main e2 e3 e4 h
 | mr b =>
  simp only[] at h
  split at h
  ·rename_i k' ks vs hB
   obtain ⟨hc,hok⟩:=csome h
   have hkk:k'=k:=of_decide_eq_true hc
   subst hkk
   rw[VR,hB] at hm
   obtain ⟨r,hmu,rfl⟩:=hm
   obtain ⟨r',arr,cl,e1,e2,e3,e4⟩:=hr.blk b _ hB
   exact(by rw[hmu] at e1; cases e1; exact main e2 e3 e4 hok)
  ·cases h
 | _=>cases h
theorem noHold_VR {t:TypeId} {c:Bool} {y:A} (h:noHold P t c=some y):c=true/\∃ z,(zeroValue t).run P w=.ok z w/\VR H g w y (.tuple #[z,.bool false]):=by
 unfold noHold at h
 cases c with
 | false=>cases h
 | true =>
  simp only[cond_true] at h
  obtain ⟨i,hi,h⟩:=bnd h
  rw[Option.map_eq_some_iff] at h
  obtain ⟨z,hz,rfl⟩:=h
  refine⟨rfl,z,by simp[zeroValue,typeInfo,hi,hz],?_⟩
  rw[VR]
  exact⟨_,rfl,by rw[VRs]; exact⟨z,_,rfl,ofV_VR z,by rw[VRs]; exact⟨_,_,rfl,by rw[VR],by rw[VRs]⟩⟩⟩
theorem aAssert_sound {t xt:TypeId} {x y:A} {c:Bool} {cv:Value} (h:aAssert P x t c=some y) (hx:VR H g w x cv):∃ d,(Instr.typeAssert cv xt t c).run P w=.ok d w/\VR H g w y d:=by
 unfold aAssert at h
 split at h
 ·cases h
 ·cases h
 ·rename_i u hn hu
  split at h
  ·rename_i t' z
   rw[VR] at hx
   obtain ⟨v,rfl,hv⟩:=hx
   rw[bcond] at h
   split at h
   ·rename_i ht
    have ht:=Nat.eq_of_beq_eq_true ht
    subst ht
    have hr:(Instr.typeAssert (.iface t' v) xt t' c).run P w=.ok (if c then .tuple #[v,.bool true] else v) w:=by
     unfold Instr.typeAssert
     rw[Sem.run_bind,run_underlying hu]
     simp only[Result.andThen_ok]
     cases u<;>first | exact absurd hu (hn _) | simp
    refine⟨_,hr,?_⟩
    cases c with
    | false=>simp only[cond_false,Option.some.injEq] at h; subst h; exact hv
    | true =>
     simp only[cond_true,Option.some.injEq] at h
     subst h
     rw[if_pos rfl,VR]
     exact⟨_,rfl,by rw[VRs]; exact⟨v,_,rfl,hv,by rw[VRs]; exact⟨_,_,rfl,by rw[VR],by rw[VRs]⟩⟩⟩
   ·rename_i ht
    obtain ⟨rfl,z,hz,hv2⟩:=noHold_VR (H:=H) (g:=g) (w:=w) h
    have ht:¬ t'=t:=fun e=>ht (by rw[e]; simp)
    refine⟨_,?_,hv2⟩
    unfold Instr.typeAssert
    rw[Sem.run_bind,run_underlying hu]
    simp only[Result.andThen_ok]
    cases u<;>first | exact absurd hu (hn _) | simp[ht,hz]
  ·rw[VR] at hx
   subst hx
   obtain ⟨rfl,z,hz,hv2⟩:=noHold_VR (H:=H) (g:=g) (w:=w) h
   refine⟨_,?_,hv2⟩
   unfold Instr.typeAssert
   rw[Sem.run_bind,run_underlying hu]
   simp only[Result.andThen_ok]
   cases u<;>first | exact absurd hu (hn _) | simp[hz]
  ·cases h
end Go.Proofs.Ytdmgdjnadbakfaa
