/-
 What is done at a loop's head; and regions, with runs taken together.
-/
import Derived.Test.YtdmgdjnadbakfaaGreatEvAppend
import Derived.TacticsIn
import Derived.Lib.SliceRun
namespace Go.Proofs.YtdmgdjnadbakfaaGreat
set_option linter.unusedSimpArgs false
set_option linter.unusedVariables false
set_option linter.defProp false
theorem H6 {p:Prop} (h:p:=by simp only[cO]; rw[VR]; trivial):p:=h
theorem XN {p:Prop} (h:p:=by simp only[List.length_append,List.length_take,List.length_drop]; omega):p:=h
def XW:=@decide_eq_true
def Yc:=@Bool.not_true
def Yq:=@Nat.eq_of_beq_eq_true
def YA:=@congrArg
def YH:=@List.cons.injEq
def YI:=@Bool.eq_iff_iff
def YN:=@Option.map_some
def YT:=@Nat.zero_le
def Y0:=@Nat.ble_eq_true_of_le
def Zb:=@Bool.false_eq_true
def Ze:=@List.singleton_append
def ZL:=@List.getElem?_set
def ZU:=@if_false
def ZZ:=@Nat.lt_or_ge
def qak:=@Nat.ble_eq
def qap:=@Array.getElem?_setIfInBounds_self_of_lt
def qay:=@List.getElem?_cons_succ
def qaz:=@World.putObj_heap_same
def qaC:=@Option.bind_none
def qaL:=@World.alloc_heap_new
def qaM:=@Array.toArray_toList
def qaV:=@List.mem_filterMap
def qaZ:=@Bool.eq_false_iff
def qa4:=@Option.isNone_iff_eq_none
def qbh:=@grownBy_putObj'
def qbk:=@List.drop_eq_nil_of_le
def qbr:=@Array.mem_of_getElem?
def qbv:=@Array.getElem_modify
def qbz:=@List.map_congr_left
def qbE:=@List.map_nil
section
open Go.RowKit
variable {P:Program} {H H':aB} {g g':Gh} {w0 w w':World}
theorem vP {t:TypeId} {k:IntKind} {vt:TypeId} (h:xq P t=some (k,vt)):∃ kt,P.underlying t=some (.map kt vt)/\P.underlying kt=some (.int k):=by
 unfold xq at h
 split at h
 ·rename_i kt vt' hu
  split at h
  ·rename_i k' hk; cases h; exact⟨kt,hu,hk⟩
  ·cases h
 ·cases h
theorem tX {k:IntKind} {x:A} {a:Int} {c:Value} (h:keyOf k x=some a) (hx:VR H g w x c):c=.int k a:=by
 unfold keyOf at h
 split at h
 ·rename_i j n
  obtain ⟨h1,h2⟩:=br h
  cases h2
  have:=X7 h1
  subst this
  rw[VR] at hx; exact hx
 ·cases h
def pe (a:Int):List Int->Option Nat
 | []=>none
 | x :: ks=>if a=x then some 0 else (pe a ks).map (·+1)
theorem xG {a:Int}:∀ {ks:List Int} {j:Nat},pe a ks=some j->j<ks.length/\ks[j]? = some a
 | [],_,h=>by cases h
 | x :: ks,j,h=>by
  rw[pe] at h
  split at h
  ·rename_i e; cases h; exact⟨r7,by simp[e]⟩
  ·rw[YE] at h
   obtain ⟨i,h1,rfl⟩:=h
   obtain ⟨e1,e2⟩:=xG h1
   exact⟨r8,by simpa using e2⟩
theorem tc {a:Int}:∀ {ks:List Int} {vs:List A},ks.length=vs.length->iz a ks vs=(pe a ks).bind fun j=>vs[j]?
 | [],[],_=>rfl
 | [],_ :: _,h=>by simp at h
 | _ :: _,[],h=>by simp at h
 | x :: ks,v :: vs,h=>by
  rw[iz,pe,bG]
  by_cases e:a=x
  ·rw[X4 e,X4 (by simpa using e)]; rfl
  ·rw[X8 e,X8 (by simpa using e),tc (by simpa using h),Option.bind_map]
   rfl
theorem zC {a:Int} {y:A}:∀ {ks:List Int} {vs:List A},ks.length=vs.length->Dv a y ks vs=match pe a ks with | some j=>(ks,vs.set j y) | none=>(ks++[a],vs++[y])
 | [],[],_=>rfl
 | [],_ :: _,h=>by simp at h
 | _ :: _,[],h=>by simp at h
 | x :: ks,v :: vs,h=>by
  rw[Dv,pe,bG]
  by_cases e:a=x
  ·rw[X4 e,X4 (by simpa using e)]; rfl
  ·rw[X8 e,X8 (by simpa using e),zC (by simpa using h)]
   cases pe a ks with
   | none=>rfl
   | some j=>rfl
theorem rO {k:IntKind} {a:Int}:∀ (es:List MapEntry) (ks:List Int) (i:Nat),es.map (·.key)=ks.map (Value.int k)->Instr.findNow (.int k) (.int k a) es i=some ((pe a ks).bind fun j=>(es[j]?).map fun e=>(i+j,e.val))
 | [],[],i,_=>rfl
 | [],_ :: _,_,h=>by simp at h
 | _ :: _,[],_,h=>by simp at h
 | e :: es,x :: ks,i,h=>by
  simp only[YX,YH] at h
  obtain ⟨h1,h2⟩:=h
  have hs:Instr.sameNow (.int k) (.int k a) e.key=some (a==x):=by rw[h1]; simp[Instr.sameNow]
  rw[Instr.findNow,hs,pe]
  by_cases ex:a=x
  ·subst ex
   simp
  ·rw[show (a==x)=false by simpa using ex,X8 ex]
   simp only[]
   rw[rO es ks (i+1) h2]
   cases pe a ks with
   | none=>rfl
   | some j=>
    simp only[YN,XV,qay]
    rw[show i+1+j=i+(j+1) by omega]
theorem mT {kt:TypeId} {k:IntKind} (hk:P.underlying kt=some (.int k)) (a:Int) (b:Bool):(Instr.checkKey b 10000 kt (.int k a)).run P w=.ok () w:=by
 rw[show (10000:Nat)=9999+1 from rfl,Instr.checkKey]
 simp[Ya hk]
theorem nW {kt:TypeId} {k:IntKind} (hk:P.underlying kt=some (.int k)) {es:List MapEntry} {ks:List Int} (h:es.map (·.key)=ks.map (Value.int k)) (a:Int):(Instr.findKey kt (.int k a) es).run P w=.ok ((pe a ks).bind fun j=>(es[j]?).map fun e=>(j,e.val)) w:=by
 unfold Instr.findKey
 simp only[Yy,Ya hk,Yt,rO es ks 0 h,YP]
 rfl
theorem sY (hr:Rel H g w0 w) {t:TypeId} {y:A} {H':aB} (lo:Nat) (h:qe P t H=some (y,H')):Step H g w0 w lo ((Instr.makeMap t none).run P w) y H':=by
 unfold qe at h
 cases hk:xq P t with
 | none=>rw[hk] at h; cases h
 | some p=>
  rw[hk] at h
  cases h
  have hb:Below w.heap.size w (w.alloc (.map #[] 0)):=(Below.refl _ w).alloc (X1 _) _
  obtain ⟨h1,h2⟩:=hr.push hb (.mp p.1 [] []) (some w.heap.size) [] (fun k hk=>by cases hk; exact⟨rfl,r7⟩) (fun he=>⟨w.heap.size,#[],0,Gh.bP _ _ _ _,qaL w _,rfl,by rw[bC]; rfl⟩)
  refine⟨.map (some w.heap.size),_,_,by simp[Instr.makeMap,newObj]; rfl,h1,h2,?_,r7,jk _ _ _,rfl⟩
  rw[VR,ew]; exact⟨w.heap.size,Gh.bP _ _ _ _,rfl⟩
theorem Rel.Oi (hr:Rel H g w0 w) {b r:Nat} {arr arr':Array MapEntry} {cl cl':Nat} {k:IntKind} {ks ks':List Int} {vs vs':List A} (hk:g.mu b=some r) (ha:w.heap[r]? = some (.map arr cl)) (hB:H[b]? = some (.mp k ks vs))
  (hkeys:arr'.toList.map (·.key)=ks'.map (Value.int k)) (hv:bC H g w vs' (arr'.toList.map (·.val))) :
  Rel (H.set b (.mp k ks' vs')) g w0 (w.putObj r (.map arr' cl'))/\Ext H g w (H.set b (.mp k ks' vs')) g (w.putObj r (.map arr' cl')):=by
 have hlt:b<H.length:=(X2.1 hB).1
 have hrl:r<w.heap.size:=(hr.dom b r hk).2.2
 have hoth:∀ j,j≠r->(w.putObj r (.map arr' cl')).heap[j]? = w.heap[j]?:=fun j hj=>Zp hj
 have hsz:(w.putObj r (.map arr' cl')).heap.size=w.heap.size:=r7
 have hnot:∀ {o:Nat},¬ fq H g r o:=fun {o} hs=>by
  obtain ⟨es,els,h1,_⟩:=hs.2 b hk
  rw[hB] at h1; cases h1
 have hst:∀ {q o},fq H g q o->fq (H.set b (.mp k ks' vs')) g q o:=fun {q o} hs=>by
  refine⟨hs.1,fun c hck=>?_⟩
  obtain ⟨es,els,h1,h2⟩:=hs.2 c hck
  have hcb:c≠b:=fun e=>by subst e; rw[hB] at h1; cases h1
  exact⟨es,els,by rw[Yd (YW hcb)]; exact h1,h2⟩
 have he:Ext H g w (H.set b (.mp k ks' vs')) g (w.putObj r (.map arr' cl')):=by
  refine⟨fun k' o v hs hc=>?_,fun c C hC=>?_,fun k' x h=>(hoth k' (fun e=>by subst e; rw[ha] at h; cases h)).trans h,by rw[hsz]; exact X1 _,fun k' marr mcl hs hm=>?_,fun k' _ hn=>hoth k' (fun e=>hn b (e ▸ hk)),fun c k' h=>.inl ⟨c,h⟩⟩
  ·have hne:k'≠r:=fun e=>hnot (e ▸ hs)
   exact⟨(ZH (a:=⟨k',o,none⟩) (hoth k' hne)).trans hc,hst hs⟩
  ·by_cases e:c=b
   ·subst e
    rw[hB] at hC; cases hC
    exact⟨.mp k ks' vs',by rw[Ym hlt],rfl⟩
   ·refine⟨C,by rw[Yd (YW e)]; exact hC,?_⟩
    cases C with
    | box _=>rfl
    | row wr es els=>cases wr with
     | true=>exact⟨rfl,rfl,rfl⟩
     | false=>exact⟨rfl,⟨[],r7⟩,(hr.blk c _ hC).len,X1 _,fun _=>⟨rfl,fun k' arr1 ty1 hk1 ha1=>⟨arr1,(hoth k' (fun e2=>e (hr.inj c b r (e2 ▸ hk1) hk))).trans ha1,X1 _⟩⟩⟩
    | rng _=>exact⟨rfl,rfl⟩
    | mp _ _ _=>rfl
    | dead=>trivial
    | hole=>trivial
  ·have hne:k'≠r:=fun e=>hnot (e ▸ hs)
   exact⟨(hoth k' hne).trans hm,hst hs⟩
 refine⟨⟨hr.below.trans ((Below.refl w0.heap.size w).grown (qbh w r _) (hr.below.size) (fun k e=>by cases e; exact(hr.dom b r hk).2.1)),fun c j hcj=>⟨by simpa using (hr.dom c j hcj).1,(hr.dom c j hcj).2.1,by rw[hsz]; exact(hr.dom c j hcj).2.2⟩,hr.inj,hr.A8 he,hr.zA he,fun c C hC=>?_⟩,he⟩
 by_cases e:c=b
 ·subst e
  rw[Ym hlt] at hC; cases hC
  exact⟨r,arr',cl',hk,qaz hrl,hkeys,bC.ext he _ _ hv⟩
 ·rw[Yd (YW e)] at hC
  have h:=hr.blk c C hC
  have hmu:∀ {j},g.mu c=some j->j≠r:=fun {j} hj e2=>e (hr.inj c b r (e2 ▸ hj) hk)
  cases C with
  | box cs=>obtain ⟨j,arr1,ty1,h1,h2,h3⟩:=h; exact⟨j,arr1,ty1,h1,(hoth j (hmu h1)).trans h2,bC.ext he _ _ h3⟩
  | row wr es els=>cases wr with
   | true=>
    obtain ⟨ds,h1,h2,h3⟩:=h
    exact⟨ds,bw.ext he _ _ h1,h2,fun hp=>let ⟨j,arr1,ty1,e1,e2,e3⟩:=h3 hp; ⟨j,arr1,ty1,e1,(hoth j (hmu e1)).trans e2,e3⟩⟩
   | false=>exact⟨bw.ext he _ _ h.1,h.2⟩
  | rng st=>obtain ⟨j,h1,h2⟩:=h; exact⟨j,h1,(hoth j (hmu h1)).trans h2⟩
  | mp _ _ _=>obtain ⟨j,arr1,c1,h1,h2,h3,h4⟩:=h; exact⟨j,arr1,c1,h1,(hoth j (hmu h1)).trans h2,h3,bC.ext he _ _ h4⟩
  | dead=>exact h
  | hole=>exact h
theorem bC.setAt {vs:List A} {ds:List Value} (h:bC H g w vs ds) {y:A} {d:Value} (hy:VR H g w y d) (j:Nat):bC H g w (vs.set j y) (ds.set j d):=by
 rw[dQ] at h ⊢
 refine⟨by simpa using h.1,fun i a e ha hd=>?_⟩
 rw[ZL] at ha hd
 by_cases hij:j=i
 ·subst hij
  rw[X4 rfl] at ha hd
  split at ha
  ·split at hd
   ·cases ha; cases hd; exact hy
   ·cases hd
  ·cases ha
 ·rw[X8 hij] at ha hd
  exact h.2 i a e ha hd
theorem po (hr:Rel H g w0 w) {t:TypeId} {m i x:A} {H':aB} {lo:Nat} {cm ci cx:Value} (h:iy P t m i x H lo=some H') (hm:VR H g w m cm) (hi:VR H g w i ci) (hx:VR H g w x cx) :
  ∃ w',(Instr.mapUpdate t cm ci cx).run P w=.ok () w'/\Rel H' g w0 w'/\Ext H g w H' g w'/\H.length<=H'.length/\∀ b,b<lo->b<H.length->H'[b]? = H[b]?:=by
 unfold iy at h
 obtain ⟨⟨k,vt⟩,hk,h⟩:=bH h
 obtain ⟨a,ha,h⟩:=bH h
 obtain ⟨kt,hu,huk⟩:=vP hk
 have:=tX ha hi
 subst this
 cases m with
 | mr b=>
  simp only[] at h
  split at h
  ·rename_i k' ks vs hB
   obtain ⟨hc,h⟩:=br h
   cases h
   rw[XZ] at hc
   have hlo:=X7 hc.1
   have hkk:k'=k:=X7 hc.2
   subst hkk
   rw[VR,hB] at hm
   obtain ⟨r,hmu,rfl⟩:=hm
   obtain ⟨r',arr,cl,e1,e2,e3,e4⟩:=hr.blk b _ hB
   rw[hmu] at e1; cases e1
   have hlen:ks.length=vs.length:=by
    have:=e4.length
    have h2:=YA List.length e3
    simp at this h2
    omega
   have hal:ks.length=arr.size:=by have h2:=YA List.length e3; simp at h2; omega
   have hget:(getObj r).run P w=.ok (.map arr cl) w:=by simp[getObj,Sem.run,e2]
   have hset:∀ o,(setObj r o).run P w=.ok () (w.putObj r o):=fun o=>by simp[setObj,Sem.run,e2,World.putObj]
   have hlow:∀ B,∀ c,c<lo->c<H.length->(H.set b B)[c]? = H[c]?:=fun B c hc _=>Yd j6
   rw[zC hlen]
   cases hp:pe a ks with
   | none=>
    simp only[]
    have hrun:(Instr.mapUpdate t (.map (some r)) (.int k' a) cx).run P w=.ok () (w.putObj r (.map (arr.push { key:=.int k' a,val:=cx,born:=cl }) (cl+1))):=by
     unfold Instr.mapUpdate
     simp only[Yy,Ya hu,Yt,hget,mT huk,nW huk e3,hp,qaC,hset]
    obtain ⟨r1,r2⟩:=hr.Oi (arr':=arr.push { key:=.int k' a,val:=cx,born:=cl }) (cl':=cl+1) (ks':=ks++[a]) (vs':=vs++[x]) hmu e2 hB (by simp[e3]) (by
     rw[show (arr.push { key:=Value.int k' a,val:=cx,born:=cl }).toList.map (·.val)=arr.toList.map (·.val)++[cx] by simp]
     exact e4.append (by rw[bC]; exact⟨cx,[],rfl,hx,H4⟩))
    exact⟨_,hrun,r1,r2,r7,hlow _⟩
   | some j=>
    simp only[]
    obtain ⟨hj,hja⟩:=xG hp
    have hja':arr[j]? = some arr[j]:=Y1 j6
    have hkey:(arr[j]'(j6)).key=.int k' a:=by
     have h1:(arr.toList.map (·.key))[j]? = some (.int k' a):=by rw[e3,Yj,hja]; rfl
     rw[Yj,Yx,hja'] at h1
     simpa using h1
    have hsame:(Instr.keyThatStays (.int k' a) (.int k' a)).run P w=.ok (.int k' a) w:=by
     unfold Instr.keyThatStays
     rw[show Instr.sameBits 10000 (.int k' a) (.int k' a)=true by rw[show (10000:Nat)=9999+1 from rfl]; simp[Instr.sameBits]]
     rfl
    have hrun:(Instr.mapUpdate t (.map (some r)) (.int k' a) cx).run P w=.ok () (w.putObj r (.map (arr.modify j fun e=>{ e with key:=.int k' a,val:=cx }) cl)):=by
     unfold Instr.mapUpdate
     simp only[Yy,Ya hu,Yt,hget,mT huk,nW huk e3,hp,XV,Yx,hja',YN,Option.getD_some,hkey,hsame,hset]
    have hmod:∀ (f:MapEntry->Value) (v:Value),(f { (arr[j]'(j6)) with key:=.int k' a,val:=cx }=v)->((arr.modify j fun e=>{ e with key:=.int k' a,val:=cx }).toList.map f)=(arr.toList.map f).set j v:=fun f v hf=>by
     refine Zv fun i=>?_
     rw[Yj,Yx,Array.getElem?_modify,ZL]
     by_cases hij:j=i
     ·subst hij
      rw[X4 rfl,hja',X4 rfl,X4 r8]
      simp[hf]
     ·rw[X8 hij,X8 hij,Yj,Yx]
    obtain ⟨r1,r2⟩:=hr.Oi (arr':=arr.modify j fun e=>{ e with key:=.int k' a,val:=cx }) (cl':=cl) (ks':=ks) (vs':=vs.set j x) hmu e2 hB (by
     rw[hmod (·.key) (.int k' a) rfl,e3]
     refine Zv fun i=>?_
     rw[ZL]
     by_cases hij:j=i
     ·subst hij
      rw[X4 rfl,X4 r8,Yj,hja]; rfl
     ·rw[X8 hij]) (by rw[hmod (·.val) cx rfl]; exact e4.setAt hx j)
    exact⟨_,hrun,r1,r2,r7,hlow _⟩
  ·cases h
 | _=>cases h
theorem KL {vt:TypeId} {c:Bool} {y:A} {es:List MapEntry} {ks:List Int} {vs:List A} {a:Int} (hl:ks.length=vs.length) (h:Gt P vt c (iz a ks vs)=some y) (hv:bC H g w vs (es.map (·.val))) :
  ∃ d,(match (pe a ks).bind fun j=>(es[j]?).map fun e=>(j,e.val) with | some (_,v)=>(d=if c then .tuple #[v,.bool true] else v) | none=>∃ i z,P.info? vt=some i/\i.zero=some z/\(d=if c then .tuple #[z,.bool false] else z))/\VR H g w y d:=by
 rw[tc hl] at h
 cases hp:pe a ks with
 | none=>
  rw[hp] at h
  simp only[qaC,Gt] at h ⊢
  obtain ⟨i,hi,h⟩:=bH h
  rw[YE] at h
  obtain ⟨z,hz,h⟩:=h
  refine⟨_,⟨i,z,hi,hz,rfl⟩,?_⟩
  subst h
  cases c
  ·exact pZ z
  ·rw[XY,VR]
   exact⟨_,rfl,by rw[bC]; exact⟨z,_,rfl,pZ z,by rw[bC]; exact⟨_,_,rfl,s8,H4⟩⟩⟩
 | some j=>
  obtain ⟨hj,_⟩:=xG hp
  have hel:es.length=vs.length:=by have:=hv.length; simpa using this
  have hvj:vs[j]? = some vs[j]:=X3 j6
  have hej:es[j]? = some es[j]:=X3 j6
  rw[hp] at h
  simp only[XV,hvj,Gt,YK,hej,YN] at h ⊢
  refine⟨_,rfl,?_⟩
  subst h
  have hvv:VR H g w vs[j] es[j].val:=(dQ.1 hv).2 j _ _ hvj (by rw[Yj,hej]; rfl)
  cases c
  ·exact hvv
  ·rw[XY,VR]
   exact⟨_,rfl,by rw[bC]; exact⟨_,_,rfl,hvv,by rw[bC]; exact⟨_,_,rfl,s8,H4⟩⟩⟩
theorem uQ (hr:Rel H g w0 w) {t:TypeId} {m i y:A} {c:Bool} {cm ci:Value} (h:gS P t m i c H=some y) (hm:VR H g w m cm) (hi:VR H g w i ci):∃ d,(Instr.lookup t cm ci c).run P w=.ok d w/\VR H g w y d:=by
 unfold gS at h
 obtain ⟨⟨k,vt⟩,hk,h⟩:=bH h
 obtain ⟨a,ha,h⟩:=bH h
 obtain ⟨kt,hu,huk⟩:=vP hk
 have:=tX ha hi
 subst this
 have main:∀ {r:Nat} {arr:Array MapEntry} {cl:Nat} {ks:List Int} {vs:List A},w.heap[r]? = some (.map arr cl)->arr.toList.map (·.key)=ks.map (Value.int k)->bC H g w vs (arr.toList.map (·.val))->Gt P vt c (iz a ks vs)=some y->∃ d,(Instr.lookup t (.map (some r)) (.int k a) c).run P w=.ok d w/\VR H g w y d:=by
  intro r arr cl ks vs e2 e3 e4 hok
  have hlen:ks.length=vs.length:=by
   have:=e4.length
   have h2:=YA List.length e3
   simp at this h2
   omega
  obtain ⟨d,hd,hv⟩:=KL hlen hok e4
  refine⟨d,?_,hv⟩
  have hget:(getObj r).run P w=.ok (.map arr cl) w:=by simp[getObj,Sem.run,e2]
  unfold Instr.lookup
  simp only[Yy,Ya hu,Yt,hget,Z6,mT huk,nW huk e3]
  cases hf:(pe a ks).bind fun j=>(arr.toList[j]?).map fun e=>(j,e.val) with
  | none=>
   rw[hf] at hd
   obtain ⟨i,z,h1,h2,h3⟩:=hd
   have hz:(zeroValue vt).run P w=.ok z w:=by simp[zeroValue,typeInfo,h1,h2]
   simp only[Yy,hz,Yt,Z6,h3]
  | some p=>
   rw[hf] at hd
   obtain ⟨j,v⟩:=p
   simp only[Z6,Yt]
   have hd:d=if c then .tuple #[v,.bool true] else v:=hd
   rw[hd]
   cases c<;>rfl
 cases m with
 | mv k' ks vs=>
  obtain ⟨hc,h⟩:=br h
  have hkk:k'=k:=X7 hc
  subst hkk
  rw[VR] at hm
  obtain ⟨r,arr,cl,rfl,_,e2,e3,e4⟩:=hm
  exact main e2 e3 e4 h
 | mr b=>
  simp only[] at h
  split at h
  ·rename_i k' ks vs hB
   obtain ⟨hc,hok⟩:=br h
   have hkk:k'=k:=X7 hc
   subst hkk
   rw[VR,hB] at hm
   obtain ⟨r,hmu,rfl⟩:=hm
   obtain ⟨r',arr,cl,e1,e2,e3,e4⟩:=hr.blk b _ hB
   exact(by rw[hmu] at e1; cases e1; exact main e2 e3 e4 hok)
  ·cases h
 | _=>cases h
theorem vS {t:TypeId} {c:Bool} {y:A} (h:xz P t c=some y):c=true/\∃ z,(zeroValue t).run P w=.ok z w/\VR H g w y (.tuple #[z,.bool false]):=by
 unfold xz at h
 cases c with
 | false=>cases h
 | true=>
  simp only[XY] at h
  obtain ⟨i,hi,h⟩:=bH h
  rw[YE] at h
  obtain ⟨z,hz,rfl⟩:=h
  refine⟨rfl,z,by simp[zeroValue,typeInfo,hi,hz],?_⟩
  rw[VR]
  exact⟨_,rfl,by rw[bC]; exact⟨z,_,rfl,pZ z,by rw[bC]; exact⟨_,_,rfl,s8,H4⟩⟩⟩
theorem uP {t xt:TypeId} {x y:A} {c:Bool} {cv:Value} (h:mM P x t c=some y) (hx:VR H g w x cv):∃ d,(Instr.typeAssert cv xt t c).run P w=.ok d w/\VR H g w y d:=by
 unfold mM at h
 split at h
 ·cases h
 ·cases h
 ·rename_i u hn hu
  split at h
  ·rename_i t' z
   rw[VR] at hx
   obtain ⟨v,rfl,hv⟩:=hx
   rw[bG] at h
   split at h
   ·rename_i ht
    have ht:=Yq ht
    subst ht
    have hr:(Instr.typeAssert (.iface t' v) xt t' c).run P w=.ok (if c then .tuple #[v,.bool true] else v) w:=by
     unfold Instr.typeAssert
     rw[Yy,Ya hu]
     simp only[Yt]
     cases u<;>first | exact absurd hu (hn _) | simp
    refine⟨_,hr,?_⟩
    cases c with
    | false=>simp only[XX,YK] at h; subst h; exact hv
    | true=>
     simp only[XY,YK] at h
     subst h
     rw[X4 rfl,VR]
     exact⟨_,rfl,by rw[bC]; exact⟨v,_,rfl,hv,by rw[bC]; exact⟨_,_,rfl,s8,H4⟩⟩⟩
   ·rename_i ht
    obtain ⟨rfl,z,hz,hv2⟩:=vS (H:=H) (g:=g) (w:=w) h
    have ht:¬ t'=t:=fun e=>ht (by rw[e]; simp)
    refine⟨_,?_,hv2⟩
    unfold Instr.typeAssert
    rw[Yy,Ya hu]
    simp only[Yt]
    cases u<;>first | exact absurd hu (hn _) | simp[ht,hz]
  ·rw[VR] at hx
   subst hx
   obtain ⟨rfl,z,hz,hv2⟩:=vS (H:=H) (g:=g) (w:=w) h
   refine⟨_,?_,hv2⟩
   unfold Instr.typeAssert
   rw[Yy,Ya hu]
   simp only[Yt]
   cases u<;>first | exact absurd hu (hn _) | simp[hz]
  ·cases h
end
section
open Go.RowKit
def g9 (F:Fence):Prop:=F.depth=none/\(∀ f,F.fn f)/\F.alive=false
theorem Bj:g9 Fence.wide:=⟨rfl,fun _=>trivial,rfl⟩
theorem qw {F:Fence} (h:g9 F) (P:Program) (m:Machine):m.fenced P F:=fun g _=>
 ⟨fun ha=>(by rw[h.2.2] at ha; cases ha),.inl (h.2.1 _),fun f _=>h.2.1 f,fun d hd=>(by rw[h.1] at hd; cases hd)⟩
theorem iW {F:Fence} {n:Nat} {P:Program} {f:FuncId} {args:Array Value} {w:World} {R:Ending->World->Prop} (hF:g9 F) (h:Calls P f args w R):CallsIn F n P f args w R:=
 ⟨hF.2.1 f,fun cs _=>let ⟨e,w',fr,r,s,x⟩:=h cs; ⟨e,w',fr,r,(by cases e with
  | returned v=>exact(StepsIn.of_steps s).mono fun m _=>qw hF P m
  | panicked v=>exact(StepsIn.of_steps s).mono fun m _=>qw hF P m
  | outgrown=>exact s),x⟩⟩
def G0 (S:Nat->Nat->Prop):Gh:=⟨fun _=>none,fun _=>[],S,fun _=>Jy⟩
def fh (P:Program) (glob:Nat->Option (List Value)) (k:Nat) (args:List A) (r:A):Prop:=
 ∀ (S:Nat->Nat->Prop) (w:World) (cargs:List Value),(∀ k o,w.heap.size<=k->S k o)->(∀ (G:Nat) (vs:List Value),glob G=some vs->bQ [] (G0 S) w G 0 vs)->bC [] (G0 S) w args cargs ->
  Calls P k cargs.toArray w fun e w'=>∃ c,e=.returned c/\Below w.heap.size w w'/\VR [] (G0 S) w' r c
variable {H H':aB} {g g':Gh} {w0 w w':World}
mutual
theorem oB {G:Nat->Nat->Nat->A} {S:Nat->Nat->Prop} (hS:∀ k o,fq H g k o->S k o) (hG:∀ b o m cl c,VR H g w (.sl b o m cl) c->VR [] (G0 S) w (G b o m) c):∀ (a:A) (c:Value),VR H g w a c->VR [] (G0 S) w (cO G a) c
 | .any,_,_=>H6
 | .v x,c,h=>by simp only[cO]; rw[VR] at h ⊢; exact h
 | .ptr ..,_,_=>H6
 | .ep ..,_,_=>H6
 | .ip _,_,_=>H6
 | .imm els clip,c,h=>by
  simp only[cO]
  rw[VR] at h ⊢
  obtain ⟨a,cap,ds,es,h1,h2,h3,h4,h5,h6⟩:=h
  have hv:=jf hS hG els ds h6
  have hl:(dx G els).length=els.length:=by rw[<-hv.length,h6.length]
  exact⟨a,cap,ds,es,by rw[hl]; exact h1,by rw[hl]; exact h2,fun h=>(by cases h),h4,fun hp=>let ⟨k,off,e1,e2⟩:=h5 (by rw[hl] at hp; exact hp); ⟨k,off,e1,fun j v hj=>⟨(e2 j v hj).1,hS _ _ (e2 j v hj).2,fun b hb=>by cases hb⟩⟩,hv⟩
 | .sl b o m cl,c,h=>by simp only[cO]; exact hG b o m cl c h
 | .agg cs,c,h=>by
  simp only[cO]
  rw[VR] at h ⊢
  obtain ⟨ds,h1,h2⟩:=h
  exact⟨ds,h1,jZ hS hG cs _ h2⟩
 | .tup cs,c,h=>by
  simp only[cO]
  rw[VR] at h ⊢
  obtain ⟨ds,h1,h2⟩:=h
  exact⟨ds,h1,jZ hS hG cs _ h2⟩
 | .fn f [] [],c,h=>by
  simp only[cO]
  rw[VR] at h ⊢
  obtain ⟨ds,es,h1,h2,h3⟩:=h
  rw[bC] at h2 h3
  exact⟨ds,es,h1,by rw[bC]; exact h2,by rw[bC]; exact h3⟩
 | .fn _ (_ :: _) _,_,_=>H6
 | .fn _ [] (_ :: _),_,_=>H6
 | .yld _,c,h=>H6
 | .nq _,c,h=>H6
 | .mr _,c,h=>H6
 | .mv k ks vs,c,h=>by
  simp only[cO]
  rw[VR] at h ⊢
  obtain ⟨r,arr,cl,h1,h2,h3,h4,h5⟩:=h
  exact⟨r,arr,cl,h1,⟨hS _ _ h2,fun b hb=>by cases hb⟩,h3,h4,jZ hS hG vs _ h5⟩
 | .ifc t x,c,h=>by
  simp only[cO]
  rw[VR] at h ⊢
  obtain ⟨d,h1,h2⟩:=h
  exact⟨d,h1,oB hS hG x d h2⟩
theorem jZ {G:Nat->Nat->Nat->A} {S:Nat->Nat->Prop} (hS:∀ k o,fq H g k o->S k o) (hG:∀ b o m cl c,VR H g w (.sl b o m cl) c->VR [] (G0 S) w (G b o m) c):∀ (cs:List A) (ds:List Value),bC H g w cs ds->bC [] (G0 S) w (bc G cs) ds
 | [],_,h=>by simp only[bc]; rw[bC] at h ⊢; exact h
 | a :: as,_,h=>by
  simp only[bc]
  rw[bC] at h ⊢
  obtain ⟨d,ds',h1,h2,h3⟩:=h
  exact⟨d,ds',h1,oB hS hG a d h2,jZ hS hG as ds' h3⟩
theorem jf {G:Nat->Nat->Nat->A} {S:Nat->Nat->Prop} (hS:∀ k o,fq H g k o->S k o) (hG:∀ b o m cl c,VR H g w (.sl b o m cl) c->VR [] (G0 S) w (G b o m) c):∀ (cs:List (List A)) (ds:List (List Value)),bw H g w cs ds->bw [] (G0 S) w (dx G cs) ds
 | [],_,h=>by simp only[dx]; rw[bw] at h ⊢; exact h
 | a :: as,_,h=>by
  simp only[dx]
  rw[bw] at h ⊢
  obtain ⟨d,ds',h1,h2,h3⟩:=h
  exact⟨d,ds',h1,jZ hS hG a d h2,jf hS hG as ds' h3⟩
end
theorem wb {ds:List (List Value)} {es k o m:Nat} {arr:Array Value} {ty:TypeId} (hd:∀ d∈ds,d.length=es) (ha:w.heap[k]? = some (.cells arr ty (0,0))) (h:∀ (j:Nat) (v:Value),ds.flatten[j]? = some v->arr[j]? = some v) {j:Nat} {v:Value} (hj:((ds.drop o).take m).flatten[j]? = some v):w.cell? ⟨k,o*es+j,none⟩=some v:=by
 rw[Zs w k _ arr ty (0,0) ha]
 refine h _ v ?_
 have e1:ds=ds.take o++((ds.drop o).take m++(ds.drop o).drop m):=by rw[YZ,YZ]
 by_cases ho:o<=ds.length
 ·have hl:(ds.take o).flatten.length=o*es:=by
   have:∀ l:List (List Value),(∀ d∈l,d.length=es)->l.flatten.length=l.length*es:=fun l hl=>by
    induction l with
    | nil=>simp
    | cons x l ih=>rw[Zf,Ye,hl x r7,ih (fun d hd=>hl d (by simp[hd])),X9,YS]; omega
   rw[this _ (fun d hd'=>hd d (Yr hd')),YV,Zn ho]
  rw[e1,ZR,Yo j6,hl,show o*es+j - o*es=j by omega,ZR]
  rw[Yf (X2.1 hj).1]
  exact hj
 ·rw[qbk j6] at hj
  simp at hj
theorem qK (hr:Rel H g w0 w):∀ (q b o m:Nat) (cl:Bool) (c:Value),VR H g w (.sl b o m cl) c->VR [] (G0 (fq H g)) w (iQ q H b o m) c
 | 0,_,_,_,_,_,_=>by simp only[iQ]; rw[VR]; trivial
 | q+1,b,o,m,cl,c,h=>by
  simp only[iQ]
  split
  ·rename_i es els hb
   rw[VR,hb] at h
   obtain ⟨h0,a,cap,rfl,h1,h2,h3,_⟩:=h
   obtain ⟨hga,hgl⟩:=hr.blk b _ hb
   have hv:=jf (fun _ _ h=>h) (fun b o m cl c h=>qK hr q b o m cl c h) _ _ ((hga.drop o).take m)
   have hl:(dx (iQ q H) ((els.drop o).take m)).length=m:=by rw[<-hv.length]; simp[hga.length]; omega
   rw[VR]
   exact⟨a,cap,_,es,by rw[hl],by rw[hl]; exact h1,fun h=>(by cases h),fun d hd=>hgl d (YC (Yr hd)),fun hp=>let ⟨k,off,e1,e2⟩:=h3 (by rw[hl] at hp; exact hp); ⟨k,off,e1,fun j v hj=>⟨(e2 j v hj).1,(e2 j v hj).2,fun b hb=>by cases hb⟩⟩,hv⟩
  ·rw[VR]; trivial
theorem mE (hr:Rel H g w0 w):∀ (q b o m:Nat) (cl:Bool) (c:Value),VR H g w (.sl b o m cl) c->VR [] (G0 g.S) w (jK q H b o m) c
 | 0,_,_,_,_,_,_=>by simp only[jK]; rw[VR]; trivial
 | q+1,b,o,m,cl,c,h=>by
  simp only[jK]
  split
  ·rename_i wr es els hb
   rw[VR,hb] at h
   have hS:∀ k o,fq H g k o->g.S k o:=fun k o h=>h.1
   cases wr with
   | false=>
    obtain ⟨h0,a,cap,rfl,h1,h2,h3,_⟩:=h
    obtain ⟨hga,hgl⟩:=hr.blk b _ hb
    have hv:=jf hS (fun b o m cl c h=>mE hr q b o m cl c h) _ _ ((hga.drop o).take m)
    have hl:(dx (jK q H) ((els.drop o).take m)).length=m:=by rw[<-hv.length]; simp[hga.length]; omega
    rw[VR]
    exact⟨a,cap,_,es,by rw[hl],by rw[hl]; exact h1,fun h=>(by cases h),fun d hd=>hgl d (YC (Yr hd)),fun hp=>let ⟨k,off,e1,e2⟩:=h3 (by rw[hl] at hp; exact hp); ⟨k,off,e1,fun j v hj=>⟨(e2 j v hj).1,(e2 j v hj).2.1,fun b hb=>by cases hb⟩⟩,hv⟩
   | true=>
    obtain ⟨h0,a,cap,rfl,h1,h2,h3⟩:=h
    obtain ⟨ds,d1,d2,d3⟩:=hr.blk b _ hb
    have hv:=jf hS (fun b o m cl c h=>mE hr q b o m cl c h) _ _ ((d1.drop o).take m)
    have hl:(dx (jK q H) ((els.drop o).take m)).length=m:=by rw[<-hv.length]; simp[d1.length]; omega
    rw[VR]
    refine⟨a,cap,_,es,by rw[hl],by rw[hl]; exact h1,fun h=>(by cases h),fun d hd=>d2 d (YC (Yr hd)),fun hp=>?_,hv⟩
    rw[hl] at hp
    obtain ⟨k,hk,ha⟩:=h3 hp
    obtain ⟨k',arr,ty,m1,m2,m3⟩:=d3 j6
    rw[hk] at m1; cases m1
    exact⟨k,o*es,ha,fun j v hj=>⟨wb d2 m2 m3 hj,hr.own b k _ hk,fun b hb=>by cases hb⟩⟩
  ·rw[VR]; trivial
theorem Gi (hr:Rel H g w0 w) (a:A) (c:Value) (h:VR H g w a c):VR [] (G0 g.S) w (aK H a) c:=by
 unfold aK
 split
 ·rename_i b
  split
  ·rename_i k ks vs hb
   rw[VR,hb] at h
   obtain ⟨r,h1,h2⟩:=h
   obtain ⟨r',arr,cl,e1,e2,e3,e4⟩:=hr.blk b _ hb
   rw[h1] at e1; cases e1
   rw[VR]
   exact⟨r,arr,cl,h2,⟨hr.own b r 0 h1,fun b hb=>by cases hb⟩,e2,e3,jZ (fun _ _ h=>h.1) (fun b o m cl c h=>mE hr 4 b o m cl c h) _ _ e4⟩
  ·rw[VR]; trivial
 ·exact oB (fun _ _ h=>h.1) (fun b o m cl c h=>mE hr 4 b o m cl c h) a c h
theorem bC.Jm {S:aB}:∀ (o:Nat) {cs:List A} {ds:List Value},bC S g w cs ds->bC S g w (cs.drop o) (ds.drop o)
 | 0,_,_,h=>h
 | o+1,[],_,h=>by rw[bC] at h; subst h; rw[List.drop_nil,List.drop_nil,bC]
 | o+1,a :: as,_,h=>by rw[bC] at h; obtain ⟨d,ds',rfl,_,h3⟩:=h; exact bC.Jm o h3
theorem zO (hr:Rel H g w0 w):∀ (n:Nat) (a:A) (c:Value),VR H g w a c->VR [] (G0 g.S) w (iK n H a) c
 | 0,a,_,_=>by rw[show iK 0 H a=.any from rfl,VR]; trivial
 | n+1,a,c,h=>by
  have hm:∀ (cs:List A) (ds:List Value),bC H g w cs ds->bC [] (G0 g.S) w (cs.map (iK n H)) ds:=fun cs=>by
   induction cs with
   | nil=>intro ds h; rw[bC] at h; rw[qbE,bC]; exact h
   | cons a as ih=>intro ds h; rw[bC] at h; obtain ⟨d,ds',h1,h2,h3⟩:=h; rw[YX,bC]; exact⟨d,ds',h1,zO hr n a d h2,ih ds' h3⟩
  cases a with
  | ptr b o=>
   show VR [] (G0 g.S) w (match H[b]? with | some (.box cs)=>A.ip ((cs.drop o).map (iK n H)) | _=>.any) c
   split
   ·rename_i cs hb
    rw[VR,hb] at h
    obtain ⟨k,h1,rfl⟩:=h
    obtain ⟨k',arr,ty,e1,e2,e3⟩:=hr.blk b _ hb
    rw[h1] at e1; cases e1
    rw[VR]
    refine⟨k,o,arr.toList.drop o,rfl,fun j v hj=>⟨?_,hr.own b k _ h1,fun b hb=>by cases hb⟩,hm _ _ (e3.Jm o)⟩
    rw[Zs w k _ arr ty (0,0) e2]
    rw[Zj] at hj
    simpa using hj
   ·rw[VR]; trivial
  | fn f p q=>
   rw[VR] at h
   obtain ⟨ds,es,h1,h2,h3⟩:=h
   show VR [] (G0 g.S) w (.fn f (p.map (iK n H)) (q.map (iK n H))) c
   rw[VR]
   exact⟨ds,es,h1,hm _ _ h2,hm _ _ h3⟩
  | agg cs=>
   rw[VR] at h
   obtain ⟨ds,h1,h2⟩:=h
   show VR [] (G0 g.S) w (.agg (cs.map (iK n H))) c
   rw[VR]
   exact⟨ds,h1,hm _ _ h2⟩
  | _=>exact oB (fun _ _ h=>h.1) (fun b o m cl c h=>mE hr 4 b o m cl c h) _ c h
theorem wi (hr:Rel H g w0 w) (n:Nat):∀ (cs:List A) (ds:List Value),bC H g w cs ds->bC [] (G0 g.S) w (cs.map (iK n H)) ds
 | [],_,h=>by rw[bC] at h; rw[qbE,bC]; exact h
 | a :: as,_,h=>by rw[bC] at h; obtain ⟨d,ds',h1,h2,h3⟩:=h; rw[YX,bC]; exact⟨d,ds',h1,zO hr n a d h2,wi hr n as ds' h3⟩
theorem qL (hr:Rel H g w0 w) (a:A) (c:Value) (h:VR H g w a c):VR [] (G0 (fq H g)) w (snap H a) c:=oB (fun _ _ h=>h) (fun b o m cl c h=>qK hr 4 b o m cl c h) a c h
theorem zQ (hr:Rel H g w0 w) {l:List A} {cs:List Value} (h:bC H g w l cs):bC [] (G0 (fq H g)) w (l.map (snap H)) cs:=by
 obtain ⟨h1,h2⟩:=dQ.1 h
 refine dQ.2 ⟨by simpa using h1,fun i a d ha hd=>?_⟩
 rw[Yj] at ha
 cases hx:l[i]? with
 | none=>rw[hx] at ha; cases ha
 | some x=>rw[hx] at ha; cases ha; exact qL hr x d (h2 i x d hx hd)
theorem VR.back {S:Nat->Nat->Prop} {x:A} {c:Value} (hS:∀ k o,S k o->fq H g k o) (h:VR [] (G0 S) w x c):VR H g w x c:=
 VR.fB (H:=[]) (g:=G0 S) ⟨fun k o _ hs hc=>⟨hc,hS k o hs.1⟩,fun b B hB=>(by simp at hB),fun k arr cl hs hm=>⟨hm,hS k 0 hs.1⟩⟩ x c h
theorem GS (hr:Rel H g w0 w) {a:A} {c:Value} (h:VR H g w a c):VR H g w (Di H a) c:=by
 unfold Di
 split
 ·exact VR.back (fun _ _ h=>h) (qL hr _ c h)
 ·rw[VR] at h ⊢
  obtain ⟨a,cap,ds,es,h1,h2,_,h4,h5,h6⟩:=h
  exact⟨a,cap,ds,es,h1,h2,fun h=>(by cases h),h4,h5,h6⟩
 ·exact h
theorem yT (hr:Rel H g w0 w):∀ {cs:List A} {ds:List Value},bC H g w cs ds->bC H g w (cs.map (Di H)) ds
 | [],_,h=>h
 | a :: as,_,h=>by
  rw[bC] at h
  obtain ⟨d,ds',rfl,h1,h2⟩:=h
  rw[YX,bC]
  exact⟨d,ds',rfl,GS hr h1,yT hr h2⟩
theorem BZ (hr:Rel H g w0 w) {a:A} {c:Value} (h:VR H g w a c):VR H g w (cC H a) c:=by
 unfold cC
 split
 ·exact VR.back (fun _ _ h=>h) (qL hr _ c h)
 ·rw[VR] at h ⊢
  obtain ⟨ds,h1,h2⟩:=h
  exact⟨ds,h1,yT hr h2⟩
 ·exact h
theorem La (hr:Rel H g w0 w) {b a:A} {c:Value} (h:VR H g w a c):VR H g w (bF b H a) c:=by
 unfold bF
 split
 ·exact BZ hr h
 ·exact h
theorem Ext.refl (hr:Rel H g w0 w):Ext H g w H g w:=Ext.below hr (Below.refl _ _)
theorem Ext.trans {H1 H2 H3:aB} {g1 g2 g3:Gh} {w1 w2 w3:World} (h:Ext H1 g1 w1 H2 g2 w2) (k:Ext H2 g2 w2 H3 g3 w3):Ext H1 g1 w1 H3 g3 w3:=by
 refine⟨fun a o v hs hc=>?_,fun b B hB=>?_,fun a o ho=>k.kept a o (h.kept a o ho),Yp h.size k.size,fun a arr cl hs hm=>let ⟨c1,s1⟩:=h.map a arr cl hs hm; k.map a arr cl s1 c1,fun a ha hn=>(k.obj a (Yh ha h.size) fun b hb=>?_).trans (h.obj a ha hn),fun b a hb=>?_⟩
 rotate_right 2
 ·rcases h.fresh b a hb with ⟨c,hc⟩ | hle
  ·exact hn c hc
  ·omega
 ·rcases k.fresh b a hb with ⟨c,hc⟩ | hle
  ·exact h.fresh c a hc
  ·exact .inr (Yp h.size hle)
 ·obtain ⟨c1,s1⟩:=h.cell a o v hs hc
  exact k.cell a o v s1 c1
 ·obtain ⟨B2,hB2,t1⟩:=h.blk b B hB
  obtain ⟨B3,hB3,t2⟩:=k.blk b B2 hB2
  refine⟨B3,hB3,?_⟩
  by_cases hB0:B=.hole
  ·subst hB0; trivial
  cases B3 with
  | dead=>cases B with
   | row wr _ _=>cases wr<;>trivial
   | _=>trivial
  | hole=>cases B2 with
   | hole=>cases B with
    | row wr _ _=>cases wr<;>exact False.elim t1
    | hole=>exact absurd rfl hB0
    | _=>exact False.elim t1
   | row wr _ _=>cases wr<;>exact False.elim t2
   | _=>exact False.elim t2
  | box cs3=>cases B2 with
   | box cs2=>cases B with
    | box cs=>exact Eq.trans t2 t1
    | row wr _ _=>cases wr<;>exact False.elim t1
    | rng _=>exact False.elim t1
    | mp _ _ _=>exact False.elim t1
    | dead=>exact False.elim t1
    | hole=>exact absurd rfl hB0
   | row wr _ _=>cases wr<;>exact False.elim t2
   | rng _=>exact False.elim t2
   | mp _ _ _=>exact False.elim t2
   | dead=>exact False.elim t2
   | hole=>cases B with
    | hole=>exact absurd rfl hB0
    | row wr _ _=>cases wr<;>exact False.elim t1
    | _=>exact False.elim t1
  | rng st3=>cases B2 with
   | rng st2=>cases B with
    | rng st=>exact⟨t2.1.trans t1.1,t2.2.trans t1.2⟩
    | row wr _ _=>cases wr<;>exact False.elim t1
    | box _=>exact False.elim t1
    | mp _ _ _=>exact False.elim t1
    | dead=>exact False.elim t1
    | hole=>exact absurd rfl hB0
   | row wr _ _=>cases wr<;>exact False.elim t2
   | box _=>exact False.elim t2
   | mp _ _ _=>exact False.elim t2
   | dead=>exact False.elim t2
   | hole=>cases B with
    | hole=>exact absurd rfl hB0
    | row wr _ _=>cases wr<;>exact False.elim t1
    | _=>exact False.elim t1
  | mp k3 ks3 vs3=>cases B2 with
   | mp k2 ks2 vs2=>cases B with
    | mp _ _ _=>exact Eq.trans t2 t1
    | rng _=>exact False.elim t1
    | row wr _ _=>cases wr<;>exact False.elim t1
    | box _=>exact False.elim t1
    | dead=>exact False.elim t1
    | hole=>exact absurd rfl hB0
   | row wr _ _=>cases wr<;>exact False.elim t2
   | box _=>exact False.elim t2
   | rng _=>exact False.elim t2
   | dead=>exact False.elim t2
   | hole=>cases B with
    | hole=>exact absurd rfl hB0
    | row wr _ _=>cases wr<;>exact False.elim t1
    | _=>exact False.elim t1
  | row wr3 es3 els3=>cases wr3 with
   | true=>cases B2 with
    | box _=>exact False.elim t2
    | rng _=>exact False.elim t2
    | mp _ _ _=>exact False.elim t2
    | dead=>exact False.elim t2
    | hole=>cases B with
     | hole=>exact absurd rfl hB0
     | row wr _ _=>cases wr<;>exact False.elim t1
     | _=>exact False.elim t1
    | row wr2 es2 els2=>cases wr2 with
     | false=>exact False.elim t2
     | true=>cases B with
      | box _=>exact False.elim t1
      | rng _=>exact False.elim t1
      | mp _ _ _=>exact False.elim t1
      | dead=>exact False.elim t1
      | hole=>exact absurd rfl hB0
      | row wr es els=>cases wr with
       | false=>exact False.elim t1
       | true=>
        obtain ⟨a1,a2,a3⟩:=t1
        obtain ⟨b1,b2,b3⟩:=t2
        exact⟨b1.trans a1,b2.trans a2,b3.trans a3⟩
   | false=>cases B2 with
    | box _=>exact False.elim t2
    | rng _=>exact False.elim t2
    | mp _ _ _=>exact False.elim t2
    | dead=>exact False.elim t2
    | hole=>cases B with
     | hole=>exact absurd rfl hB0
     | row wr _ _=>cases wr<;>exact False.elim t1
     | _=>exact False.elim t1
    | row wr2 es2 els2=>cases wr2 with
     | true=>exact False.elim t2
     | false=>cases B with
      | box _=>exact False.elim t1
      | rng _=>exact False.elim t1
      | mp _ _ _=>exact False.elim t1
      | dead=>exact False.elim t1
      | hole=>exact absurd rfl hB0
      | row wr es els=>cases wr with
       | true=>exact False.elim t1
       | false=>
        obtain ⟨a1,⟨r1,a2⟩,a3,a4,a5⟩:=t1
        obtain ⟨b1,⟨r2,b2⟩,b3,b4,b5⟩:=t2
        refine⟨b1.trans a1,⟨r1++r2,by rw[b2,a2,YD]⟩,a3,j6,fun hl=>?_⟩
        obtain ⟨c1,c2⟩:=a5 j6
        obtain ⟨d1,d2⟩:=b5 j6
        refine⟨d1.trans c1,fun j arr ty hj ha=>?_⟩
        obtain ⟨arr',e1,e2⟩:=c2 j arr ty hj ha
        obtain ⟨arr'',f1,f2⟩:=d2 j arr' ty (c1.trans hj) e1
        exact⟨arr'',f1,j6⟩
structure SR (cx:Cx) (s:St) (g:Gh) (w0:World) (a:Act) (w:World):Prop where
 rel:Rel s.H g w0 w
 fr:∀ t,VR s.H g w (look s.fr t) (a.tmps.getD t undef)
 gl:∀ (G:Nat) (vs:List Value),cx.glob G=some vs->bQ s.H g w G 0 vs
variable {cx:Cx} {s:St} {a:Act}
structure uK (cx:Cx) (s:St) (g:Gh) (w0:World) (o:Op) (ev:Operand->Value) (w:World):Prop where
 rel:Rel s.H g w0 w
 op:∀ x∈o.operands.toList,VR s.H g w (cD cx s x) (ev x)
 k:∀ x,ev (.const x)=x
theorem GW {G:Nat} {vs:List Value} (h:bQ H g w G 0 vs):VR H g w (.ip (vs.map .v)) (.pointer (some ⟨G,0,none⟩)):=by
 rw[VR]
 exact⟨G,0,vs,rfl,h,dQ.2 ⟨r7,fun i x d hx hd=>by rw[Yj,hd] at hx; cases hx; rw[VR]⟩⟩
theorem p0 {x:Operand} (hf:∀ t,x=.tmp t->VR s.H g w (look s.fr t) (a.tmps.getD t undef)) (gl:∀ (G:Nat) (vs:List Value),cx.glob G=some vs->bQ s.H g w G 0 vs):VR s.H g w (cD cx s x) (a.eval x):=by
 cases x with
 | tmp t=>exact hf t rfl
 | const v=>exact pZ v
 | global G=>
  show VR s.H g w (match cx.glob G with | some vs=>.ip (vs.map .v) | none=>.any) _
  cases hG:cx.glob G with
  | none=>rw[VR]; trivial
  | some vs=>exact GW (gl G vs hG)
 | func f=>
  show VR s.H g w (.fn (.func f) [] []) (.func (.func f) #[] #[])
  rw[VR]; exact⟨#[],#[],rfl,H4,H4⟩
theorem SR.Un (h:SR cx s g w0 a w) (o:Op):uK cx s g w0 o a.eval w:=⟨h.rel,fun _ _=>p0 (fun t _=>h.fr t) h.gl,fun _=>rfl⟩
variable {o:Op} {ev:Operand->Value}
theorem uK.one (h:uK cx s g w0 o ev w) (x:Operand) (hx:x∈o.operands.toList):VR s.H g w (cD cx s x) (ev x):=h.op x hx
theorem uK.many (h:uK cx s g w0 o ev w) (l:List Operand) (hl:∀ x∈l,x∈o.operands.toList):bC s.H g w (l.map (cD cx s)) (l.map ev):=
 dQ.2 ⟨r7,fun i x d hx hd=>by
  simp only[Yj,YE] at hx hd
  obtain ⟨y,hy,rfl⟩:=hx
  obtain ⟨y',hy',rfl⟩:=hd
  rw[hy] at hy'; cases hy'
  exact h.op y (hl y (Yk hy))⟩
theorem uK.parts (h:uK cx s g w0 o ev w) (l:Array (Nat×Operand)) (hl:∀ p∈l.toList,p.2∈o.operands.toList):nH s.H g w (l.toList.map fun p=>(p.1,cD cx s p.2)) (l.map fun (i,x)=>(i,ev x)).toList:=
 ⟨r7,fun i p hp=>by
  simp only[Yj,YE] at hp
  obtain ⟨q,hq,rfl⟩:=hp
  refine⟨(q.1,ev q.2),?_,rfl,h.op _ (hl q (Yk hq))⟩
  simp[hq]⟩
theorem uK.FY (h:uK cx s g w0 o ev w) (l:Array (Nat×Operand)) (hl:∀ p∈l.toList,p.2∈o.operands.toList):nH s.H g w (l.toList.map fun p=>(p.1,cC s.H (cD cx s p.2))) (l.map fun (i,x)=>(i,ev x)).toList:=
 ⟨r7,fun i p hp=>by
  simp only[Yj,YE] at hp
  obtain ⟨q,hq,rfl⟩:=hp
  refine⟨(q.1,ev q.2),?_,rfl,BZ h.rel (h.op _ (hl q (Yk hq)))⟩
  simp[hq]⟩
theorem uK.opt (h:uK cx s g w0 o ev w) (x:Option Operand) (hx:∀ y,x=some y->y∈o.operands.toList):Kb s.H g w (x.map (cD cx s)) (x.map ev):=by
 cases x with
 | none=>trivial
 | some x=>exact h.op x (hx x rfl)
theorem eT (fr:List (Nat×A)) (d t:Nat) (x:A):look ((d,x) :: fr) t=if d=t then x else look fr t:=by
 show (bif Nat.beq d t then x else look fr t)=_
 by_cases e:d=t
 ·subst e; simp
 ·have:Nat.beq d t=false:=by cases hb:Nat.beq d t with
   | false=>rfl
   | true=>exact absurd (Yq hb) e
  rw[this,X8 e]; rfl
theorem SR.step (h:SR cx s g w0 a w) {H':aB} (hr:Rel H' g' w0 w') (he:Ext s.H g w H' g' w') {dst:Option Nat} {x:A} {c:Value} (hx:VR H' g' w' x c) (hd:∀ d,dst=some d->d<a.tmps.size):SR cx (({ s with H:=H' }:St).put dst x) g' w0 (a.put dst c) w':=by
 have hH:(({ s with H:=H' }:St).put dst x).H=H':=by cases dst<;>rfl
 refine⟨by rw[hH]; exact hr,fun t=>?_,fun G vs hG=>by rw[hH]; exact(h.gl G vs hG).ext he⟩
 rw[hH]
 cases dst with
 | none=>exact VR.ext he _ _ (h.fr t)
 | some d=>
  show VR H' g' w' (look ((d,x) :: s.fr) t) _
  rw[eT]
  by_cases e:d=t
  ·subst e
   rw[X4 rfl]
   have:=hd d rfl
   simp only[Act.put]
   rw[YQ,qap this]
   exact hx
  ·rw[X8 e]
   simp only[Act.put]
   rw[YQ,ZG e,<-YQ]
   exact VR.ext he _ _ (h.fr t)
def mF (s:St) (g:Gh) (w0 w:World) (lo:Nat) (res:Result Next) (K:A->aB->Prop):Prop:=
 ∃ c w' x H' g',(res=.ok (.value c) w'∨(res=.ok .skip w'/\c=undef))/\K x H'/\Rel H' g' w0 w'/\Ext s.H g w H' g' w'/\VR H' g' w' x c/\s.H.length<=H'.length/\(∀ b,b<lo->b<s.H.length->H'[b]? = s.H[b]?)/\g'.S=g.S
theorem mF.same {lo:Nat} {res:Result Next} {K:A->aB->Prop} (h:Rel s.H g w0 w) {x:A} {c:Value} (hres:res=.ok (.value c) w) (hK:K x s.H) (hx:VR s.H g w x c):mF s g w0 w lo res K:=
 ⟨c,w,x,s.H,g,.inl hres,hK,h,Ext.refl h,hx,X1 _,fun _ _ _=>rfl,rfl⟩
theorem mF.fresh {lo:Nat} {res:Result Next} {K:A->aB->Prop} (h:Rel s.H g w0 w) {x:A} {c:Value} (hres:res=.ok (.value c) w') (hb:Below w.heap.size w w') (hK:K x s.H) (hx:VR s.H g w' x c):mF s g w0 w lo res K:=
 ⟨c,w',x,s.H,g,.inl hres,hK,h.jB hb,Ext.below h hb,hx,X1 _,fun _ _ _=>rfl,rfl⟩
theorem mF.lG {lo:Nat} {res:Result Value} {res':Result Next} {K:A->aB->Prop} {x:A} {H':aB} (h:Step s.H g w0 w lo res x H') (hres:∀ d w',res=.ok d w'->res'=.ok (.value d) w') (hK:K x H'):mF s g w0 w lo res' K:=
 let ⟨d,w',g',e1,e2,e3,e4,e5,e6,e7⟩:=h; ⟨d,w',x,H',g',.inl (hres d w' e1),hK,e2,e3,e4,e5,e6,e7⟩
theorem jh {P:Program} {sem:Sem Value} {d:Value} (h:sem.run P w=.ok d w'):(do pure (.value (<-sem)):Sem Next).run P w=.ok (.value d) w':=by simp[h]
theorem qY {P:Program} {mn:Bool}:∀ {ys:List A} {ds:List Value} {x z:A} {c:Value},Jh mn x ys=some z->VR H g w x c->bC H g w ys ds->∃ d,(ds.foldlM (if mn then Builtin.min2 else Builtin.max2) c).run P w=.ok d w/\VR H g w z d
 | [],ds,x,z,c,h,hx,hy=>by
  rw[bC] at hy
  subst hy
  simp only[Jh,YK] at h
  subst h
  exact⟨c,r7,hx⟩
 | y :: r,ds,x,z,c,h,hx,hy=>by
  rw[bC] at hy
  obtain ⟨d,ds',rfl,hy1,hy2⟩:=hy
  simp only[Jh] at h
  obtain ⟨u,h1,h2⟩:=bH h
  unfold BG at h1
  split at h1
  ·rename_i k p l q
   obtain ⟨h3,h4⟩:=br h1
   cases h4
   rw[VR] at hx hy1
   subst hx; subst hy1
   have hu:VR H g w (.v (.int k (if mn=true then (if q<p then q else p) else (if p<q then q else p)))) (.int k (if mn=true then (if q<p then q else p) else (if p<q then q else p))):=s8
   obtain ⟨e,e1,e2⟩:=qY (P:=P) h2 hu hy2
   refine⟨e,?_,e2⟩
   rw[List.foldlM_cons,Yy]
   cases mn
   ·simp only[Zb,ZU] at e1 ⊢
    simp only[Builtin.max2,gt_iff_lt,Z6,Yt]
    exact e1
   ·simp only[Zh] at e1 ⊢
    simp only[Builtin.min2,Z6,Yt]
    exact e1
  ·cases h1
theorem qh {l:Array Operand} {xs:List Operand} (h:l.toList=xs):l=xs.toArray:=by rw[<-h]
theorem AG {β:Type} {f lo:Nat} {o:Oper} {c:Call} {k:A->aB->Option β} {r:β} (hs:uK cx s g w0 (.call c) ev w) (h:qq cx f lo o.dst c s k=some r):mF s g w0 w lo ((do let d <-resolve ev c o.type; invoke d.target d.args:Sem Next).run cx.P w) (fun x H'=>k x H'=some r):=by
 unfold qq at h
 obtain ⟨callee,args,argTypes⟩:=c
 simp only at h
 split at h
 ·rename_i x t e1 e2
  cases qh e1
  have ht:argTypes=#[t]:=by rw[<-qaM (xs:=argTypes),e2]
  subst ht
  replace h:=bH h
  obtain ⟨z,h1,h⟩:=h
  obtain ⟨d,e1,e2⟩:=Ar (ty:=o.type) h1 (hs.one x (by simp[Op.operands,Call.operands]))
  exact mF.same hs.rel (by simp[resolve,invoke,builtin,e1]) h e2
 ·rename_i x y t t2 e1 e2
  cases qh e1
  have ht:argTypes=#[t,t2]:=by rw[<-qaM (xs:=argTypes),e2]
  subst ht
  replace h:=bH h
  obtain ⟨⟨z,H'⟩,h1,h⟩:=h
  exact mF.lG (uO (ty:=o.type) hs.rel h1 (hs.one x (by simp[Op.operands,Call.operands])) (hs.one y (by simp[Op.operands,Call.operands]))) (fun d w' e=>by simp[resolve,invoke,builtin,e]) h
 ·rename_i x y t t2 e1 e2
  cases qh e1
  have ht:argTypes=#[t,t2]:=by rw[<-qaM (xs:=argTypes),e2]
  subst ht
  replace h:=bH h
  obtain ⟨⟨z,H'⟩,h1,h⟩:=h
  exact mF.lG (yf (t2:=t2) (ty:=o.type) hs.rel h1 (hs.one x (by simp[Op.operands,Call.operands])) (hs.one y (by simp[Op.operands,Call.operands]))) (fun d w' e=>by simp[resolve,invoke,builtin,e]) h
 ·rename_i x r e1
  cases qh e1
  replace h:=bH h
  obtain ⟨z,h1,h⟩:=h
  obtain ⟨d,e1,e2⟩:=qY (P:=cx.P) h1 (hs.one x (by simp[Op.operands,Call.operands])) (hs.many r (by simp[Op.operands,Call.operands]; exact fun y hy=>.inr hy))
  simp only[Zh] at e1
  exact mF.same hs.rel (by simp[resolve,invoke,builtin,Builtin.min_,e1]) h e2
 ·rename_i x r e1
  cases qh e1
  replace h:=bH h
  obtain ⟨z,h1,h⟩:=h
  obtain ⟨d,e1,e2⟩:=qY (P:=cx.P) h1 (hs.one x (by simp[Op.operands,Call.operands])) (hs.many r (by simp[Op.operands,Call.operands]; exact fun y hy=>.inr hy))
  simp only[Zb,ZU] at e1
  exact mF.same hs.rel (by simp[resolve,invoke,builtin,Builtin.max_,e1]) h e2
 ·cases h
theorem CP {P:Program} {H:aB} {t:TypeId} {op:BinOp} {p y:Operand} {x z:A} {c d:Value} (hn:KF op y=true) (h:QR P t x=some z) (hx:VR H g w x c) (hd:∀ v,y=.const v->d=v) :
  ∃ e,(do eqGuard op t p y c d; binOp op t c d:Sem Value).run P w=.ok e w/\VR H g w z e:=by
 unfold KF at hn
 split at hn
 ·have hd:=hd _ rfl
  subst hd
  unfold QR at h
  split at h
  ·rename_i e els cl hu
   cases h
   rw[VR] at hx
   obtain ⟨a,cap,ds,es,rfl,h1,h2,h3,h4,h5⟩:=hx
   have hem:a.isNone=true->els=[]:=fun hb=>by
    cases els with
    | nil=>rfl
    | cons x l=>
     obtain ⟨k,off,e1,_⟩:=h4 r7
     rw[e1] at hb; cases hb
   refine⟨.bool a.isNone,?_,by rw[VR]; exact⟨_,rfl,hem⟩⟩
   ·have h1:=Lib.run_eql_slice_nil (P:=P) w t e a els.length cap 0 0 hu
    have h2:(eqGuard .eql t p (.const (.slice none 0 0)) (.slice a els.length cap) (.slice none 0 0)).run P w=.ok () w:=by cases a<;>rfl
    simp only[Yy,h2,Yt,h1]
  ·cases h
 ·cases hn
theorem A6 {H:aB} {a:A} {c:Value} (h:ru H a=true) (hv:VR H g w a c):(∃ ad,c=.pointer (some ad))∨∃ f x y,c=.func (.func f) x y:=by
 cases a with
 | ptr b o=>
  rw[VR] at hv
  simp only[ru,fT] at h
  cases hb:H[b]? with
  | none=>rw[hb] at h; cases h
  | some B=>cases B with
   | box _=>rw[hb] at hv; obtain ⟨k,_,e⟩:=hv; exact .inl ⟨_,e⟩
   | _=>rw[hb] at h; cases h
 | ep b i o=>
  rw[VR] at hv
  simp only[ru,fT] at h
  cases hb:H[b]? with
  | none=>rw[hb] at h; cases h
  | some B=>cases B with
   | row wr _ _=>cases wr with
    | true=>rw[hb] at hv; obtain ⟨_,k,_,e⟩:=hv; exact .inl ⟨_,e⟩
    | false=>rw[hb] at h; cases h
   | _=>rw[hb] at h; cases h
 | ip cs=>rw[VR] at hv; obtain ⟨_,_,_,e,_⟩:=hv; exact .inl ⟨_,e⟩
 | fn f x y=>cases f with
  | func k=>rw[VR] at hv; obtain ⟨_,_,e,_⟩:=hv; exact .inr ⟨_,_,_,e⟩
  | _=>cases h
 | _=>cases h
theorem lj {β:Type} {f lo:Nat} {o:Oper} {k:A->aB->Option β} {r:β} (hs:uK cx s g w0 o.op ev w) (h:b7 cx f lo o s k=some r):mF s g w0 w lo ((execOp ev o).run cx.P w) (fun x H'=>k x H'=some r):=by
 unfold b7 at h
 unfold execOp
 split at h
 ·rename_i x ho
  rw[ho] at hs ⊢; exact mF.same hs.rel rfl h (hs.one x (by simp[Op.operands]))
 ·rename_i x ho
  rw[ho] at hs ⊢; exact mF.same hs.rel rfl h (hs.one x (by simp[Op.operands]))
 ·rename_i t ho
  rw[ho] at hs ⊢
  replace h:=bH h
  obtain ⟨⟨y,H'⟩,h1,h⟩:=h
  unfold pG at h1
  rw[bG] at h1
  split at h1
  ·exact mF.lG (uN hs.rel lo h1) (fun d w' e=>jh e) h
  exact mF.lG (wA hs.rel lo h1) (fun d w' e=>jh e) h
 ·rename_i t x ho
  rw[ho] at hs ⊢
  replace h:=bH h
  obtain ⟨⟨y,H'⟩,h1,h⟩:=h
  unfold Aw at h1
  rw[bG] at h1
  split at h1
  ·exact mF.lG (ye hs.rel lo h1 (hs.one x (by simp[Op.operands]))) (fun d w' e=>jh e) h
  exact mF.lG (Am hs.rel lo h1 (hs.one x (by simp[Op.operands]))) (fun d w' e=>jh e) h
 ·rename_i t parts ho
  rw[ho] at hs ⊢
  replace h:=bH h
  obtain ⟨y,h1,h⟩:=h
  obtain ⟨d,e1,e2⟩:=wD h1 (hs.parts parts (by simp[Op.operands]; exact fun a b h=>⟨a,h⟩))
  exact mF.same hs.rel (jh e1) h e2
 ·rename_i t n parts ho
  rw[ho] at hs ⊢
  replace h:=bH h
  obtain ⟨y,h1,h⟩:=h
  obtain ⟨d,w',e1,e2,e3⟩:=qd hs.rel h1 (hs.FY parts (by simp[Op.operands]; exact fun a b h=>⟨a,h⟩))
  exact mF.fresh hs.rel (jh e1) e2 h e3
 ·rename_i t x ho
  rw[ho] at hs ⊢
  replace h:=bH h
  obtain ⟨y,h1,h⟩:=h
  obtain ⟨d,e1,e2⟩:=rL hs.rel h1 (hs.one x (by simp[Op.operands]))
  exact mF.same hs.rel (jh e1) h e2
 ·rename_i t x y ho
  rw[ho] at hs ⊢
  replace h:=bH h
  obtain ⟨H',h1,h⟩:=h
  obtain ⟨w',e1,e2,e3,e4,e5⟩:=wI hs.rel h1 (hs.one x (by simp[Op.operands])) (La hs.rel (hs.one y (by simp[Op.operands])))
  exact⟨undef,w',.any,H',g,.inr ⟨by simp[e1],rfl⟩,h,e2,e3,XI,e4,e5,rfl⟩
 ·rename_i op t x y t2 ho
  rw[ho] at hs ⊢
  replace h:=bH h
  obtain ⟨z,h1,h⟩:=h
  unfold Mf at h1
  rw[bG] at h1
  split at h1
  ·rename_i hn
   obtain ⟨d,e1,e2⟩:=CP (p:=x) (d:=ev y) hn h1 (hs.one x (by simp[Op.operands])) (fun v hv=>by subst hv; exact hs.k v)
   exact mF.same hs.rel (jh e1) h e2
  obtain ⟨d,e1,e2⟩:=Ak (p:=x) (q:=y) h1 (hs.one x (by simp[Op.operands])) (hs.one y (by simp[Op.operands]))
  exact mF.same hs.rel (jh e1) h e2
 ·rename_i op t x ho
  rw[ho] at hs ⊢
  replace h:=bH h
  obtain ⟨z,h1,h⟩:=h
  obtain ⟨d,e1,e2⟩:=CQ h1 (hs.one x (by simp[Op.operands]))
  exact mF.same hs.rel (jh e1) h e2
 ·rename_i t u x ho
  rw[ho] at hs ⊢
  replace h:=bH h
  obtain ⟨z,h1,h⟩:=h
  obtain ⟨d,w',e1,e2,e3⟩:=sV hs.rel h1 (hs.one x (by simp[Op.operands]))
  exact mF.fresh hs.rel (jh e1) e2 h e3
 ·rename_i t x ho
  rw[ho] at hs ⊢
  replace h:=bH h
  obtain ⟨z,h1,h⟩:=h
  obtain ⟨d,e1,e2⟩:=Aq h1 (hs.one x (by simp[Op.operands]))
  exact mF.same hs.rel (jh e1) h e2
 ·rename_i fn p q ho
  rw[ho] at hs ⊢
  refine mF.same hs.rel (c:=.func fn (p.map ev) (q.map ev)) (by simp[Instr.makeFunc]) h ?_
  rw[VR]
  refine⟨_,_,rfl,?_,?_⟩
  ·rw[Array.toList_map]; exact hs.many _ (by simp[Op.operands]; intro x hx; simp[hx])
  ·rw[Array.toList_map]; exact hs.many _ (by simp[Op.operands]; intro x hx; simp[hx])
 ·rename_i t n c ho
  rw[ho] at hs ⊢
  replace h:=bH h
  obtain ⟨⟨y,H'⟩,h1,h⟩:=h
  unfold vQ at h1
  rw[bG] at h1
  split at h1
  ·obtain ⟨rfl,d,w',e1,e2,e3⟩:=sX hs.rel h1 (hs.one n (by simp[Op.operands])) (hs.one c (by simp[Op.operands]))
   exact mF.fresh hs.rel (jh e1) e2 h e3
  exact mF.lG (qZ hs.rel lo h1 (hs.one n (by simp[Op.operands])) (hs.one c (by simp[Op.operands]))) (fun d w' e=>jh e) h
 ·rename_i t x lo' hi mx ho
  rw[ho] at hs ⊢
  replace h:=bH h
  obtain ⟨z,h1,h⟩:=h
  replace h1:=br h1
  obtain ⟨hhm,h1⟩:=h1
  obtain ⟨d,e1,e2⟩:=wH hs.rel h1 (hs.one x (by simp[Op.operands])) (hs.opt lo' (by rintro y rfl; simp[Op.operands])) (hs.opt hi (by rintro y rfl; simp[Op.operands])) (hs.opt mx (by rintro y rfl; simp[Op.operands])) (by cases mx<;>cases hi<;>simp at hhm ⊢)
  exact mF.same hs.rel (jh e1) h e2
 ·rename_i t x i ho
  rw[ho] at hs ⊢
  replace h:=bH h
  obtain ⟨z,h1,h⟩:=h
  obtain ⟨d,e1,e2⟩:=qV h1 (hs.one x (by simp[Op.operands]))
  exact mF.same hs.rel (jh e1) h e2
 ·rename_i t x i ho
  rw[ho] at hs ⊢
  replace h:=bH h
  obtain ⟨z,h1,h⟩:=h
  obtain ⟨d,e1,e2⟩:=wE h1 (hs.one x (by simp[Op.operands]))
  exact mF.same hs.rel (jh e1) h e2
 ·rename_i t x i ho
  rw[ho] at hs ⊢
  replace h:=bH h
  obtain ⟨z,h1,h⟩:=h
  obtain ⟨d,e1,e2⟩:=qW hs.rel h1 (hs.one x (by simp[Op.operands])) (hs.one i (by simp[Op.operands]))
  exact mF.same hs.rel (jh e1) h e2
 ·rename_i t x i ho
  rw[ho] at hs ⊢
  replace h:=bH h
  obtain ⟨z,h1,h⟩:=h
  obtain ⟨d,e1,e2⟩:=wG h1 (hs.one x (by simp[Op.operands])) (hs.one i (by simp[Op.operands]))
  exact mF.same hs.rel (jh e1) h e2
 ·rename_i x i ho
  rw[ho] at hs ⊢
  replace h:=bH h
  obtain ⟨z,h1,h⟩:=h
  obtain ⟨d,e1,e2⟩:=sW h1 (hs.one x (by simp[Op.operands]))
  exact mF.same hs.rel (jh e1) h e2
 ·rename_i x ho
  rw[ho] at hs ⊢
  obtain ⟨y,h1,h⟩:=bH h
  obtain ⟨hn,e0⟩:=br h1
  cases e0
  have hv:=hs.one x (by simp[Op.operands])
  refine mF.same hs.rel (c:=ev x) ?_ h hv
  rcases A6 hn hv with ⟨ad,e⟩ | ⟨f,a,b,e⟩
  ·simp only[e]; rfl
  ·simp only[e]; rfl
 ·rename_i t ho
  rw[ho] at hs ⊢
  replace h:=bH h
  obtain ⟨⟨y,H'⟩,h1,h⟩:=h
  exact mF.lG (sY hs.rel lo h1) (fun d w' e=>jh e) h
 ·rename_i t m i x ho
  rw[ho] at hs ⊢
  replace h:=bH h
  obtain ⟨H',h1,h⟩:=h
  obtain ⟨w',e1,e2,e3,e4,e5⟩:=po hs.rel h1 (hs.one m (by simp[Op.operands])) (hs.one i (by simp[Op.operands])) (hs.one x (by simp[Op.operands]))
  exact⟨undef,w',.any,H',g,.inr ⟨by simp[e1],rfl⟩,h,e2,e3,XI,e4,e5,rfl⟩
 ·rename_i t m i x ho
  rw[ho] at hs ⊢
  replace h:=bH h
  obtain ⟨H',h1,h⟩:=h
  obtain ⟨w',e1,e2,e3,e4,e5⟩:=po hs.rel h1 (hs.one m (by simp[Op.operands])) (hs.one i (by simp[Op.operands])) (hs.one x (by simp[Op.operands]))
  exact⟨undef,w',.any,H',g,.inr ⟨by simp[e1],rfl⟩,h,e2,e3,XI,e4,e5,rfl⟩
 ·rename_i t m i c ho
  rw[ho] at hs ⊢
  replace h:=bH h
  obtain ⟨z,h1,h⟩:=h
  obtain ⟨d,e1,e2⟩:=uQ hs.rel h1 (hs.one m (by simp[Op.operands])) (hs.one i (by simp[Op.operands]))
  exact mF.same hs.rel (jh e1) h e2
 ·rename_i x t u c ho
  rw[ho] at hs ⊢
  replace h:=bH h
  obtain ⟨z,h1,h⟩:=h
  obtain ⟨d,e1,e2⟩:=uP h1 (hs.one x (by simp[Op.operands]))
  exact mF.same hs.rel (jh e1) h e2
 ·rename_i c ho
  rw[ho] at hs ⊢
  exact AG hs h
 ·cases h
end
section
open Go.RowKit
variable {H H':aB} {g g':Gh} {w0 w w':World}
theorem Rel.kill (hr:Rel H g w0 w) {b:Nat} (hb:b<H.length):Rel (H.set b .dead) (g.put b none []) w0 w/\Ext H g w (H.set b .dead) (g.put b none []) w:=by
 have hget:∀ c,c≠b->(H.set b .dead)[c]? = H[c]?:=fun c hc=>Yd (YW hc)
 have hgetb:(H.set b az.dead)[b]? = some .dead:=Ym hb
 have hmu:∀ {c k},(g.put b none []).mu c=some k->c≠b/\g.mu c=some k:=fun {c k} h=>by
  by_cases e:c=b
  ·subst e; rw[Gh.bP] at h; cases h
  ·exact⟨e,by rwa [Gh.aQ _ _ _ e] at h⟩
 have he:Ext H g w (H.set b .dead) (g.put b none []) w:=by
  have hst:∀ {k o},fq H g k o->fq (H.set b .dead) (g.put b none []) k o:=fun {k o} hs=>by
   refine⟨hs.1,fun c hck=>?_⟩
   obtain ⟨h1,h2⟩:=hmu hck
   obtain ⟨es,els,h3,h4⟩:=hs.2 c h2
   exact⟨es,els,by rw[hget c h1]; exact h3,h4⟩
  refine⟨fun k o v hs hc=>⟨hc,hst hs⟩,fun c B' hB'=>?_,fun _ _ h=>h,X1 _,fun k arr cl hs hm=>⟨hm,hst hs⟩,fun _ _ _=>rfl,fun c k h=>.inl ⟨c,(hmu h).2⟩⟩
  ·by_cases e:c=b
   ·subst e
    refine⟨.dead,hgetb,?_⟩
    cases B' with
    | row wr _ _=>cases wr<;>trivial
    | _=>trivial
   ·refine⟨B',by rw[hget c e]; exact hB',?_⟩
    cases B' with
    | box _=>exact Gh.aQ _ _ _ e
    | row wr es els=>cases wr with
     | true=>exact⟨rfl,rfl,Gh.aQ _ _ _ e⟩
     | false=>exact⟨rfl,⟨[],by rw[Gh.fE _ _ _ e]; simp⟩,(hr.blk c _ hB').len,X1 _,fun _=>⟨Gh.aQ _ _ _ e,fun k arr ty hk' ha=>⟨arr,ha,X1 _⟩⟩⟩
    | rng _=>exact⟨Gh.aQ _ _ _ e,rfl⟩
    | mp _ _ _=>exact Gh.aQ _ _ _ e
    | dead=>trivial
    | hole=>trivial
 refine⟨⟨hr.below,fun c k hck=>?_,fun c d k h1 h2=>hr.inj c d k (hmu h1).2 (hmu h2).2,hr.A8 he,hr.zA he,fun c B' hB'=>?_⟩,he⟩
 ·obtain ⟨_,h2⟩:=hmu hck
  have:=hr.dom c k h2
  exact⟨by simpa using this.1,this.2⟩
 ·by_cases e:c=b
  ·subst e
   rw[hgetb] at hB'; cases hB'
   exact Gh.bP _ _ _ _
  ·rw[hget c e] at hB'
   have h:=hr.blk c B' hB'
   cases B' with
   | box cs=>obtain ⟨k,arr,ty,h1,h2,h3⟩:=h; exact⟨k,arr,ty,(Gh.aQ _ _ _ e).trans h1,h2,bC.ext he _ _ h3⟩
   | row wr es els=>cases wr with
    | true=>
     obtain ⟨ds,h1,h2,h3⟩:=h
     exact⟨ds,bw.ext he _ _ h1,h2,fun hp=>let ⟨k,arr,ty,e1,e2,e3⟩:=h3 hp; ⟨k,arr,ty,(Gh.aQ _ _ _ e).trans e1,e2,e3⟩⟩
    | false=>
     obtain ⟨h1,h2⟩:=h
     refine⟨?_,?_⟩
     ·rw[Gh.fE _ _ _ e]; exact bw.ext he _ _ h1
     ·rw[Gh.fE _ _ _ e]; exact h2
   | rng st=>obtain ⟨k,h1,h2⟩:=h; exact⟨k,(Gh.aQ _ _ _ e).trans h1,h2⟩
   | mp _ _ _=>obtain ⟨k,arr,cl,h1,h2,h3,h4⟩:=h; exact⟨k,arr,cl,(Gh.aQ _ _ _ e).trans h1,h2,h3,bC.ext he _ _ h4⟩
   | dead=>exact(Gh.aQ _ _ _ e).trans h
   | hole=>exact(Gh.aQ _ _ _ e).trans h
theorem B6 (hr:Rel H g w0 w) {lo:Nat} {x:A} {c:Value} {r:A×aB} (hk:vj lo x H=some r) (h:VR H g w x c):∃ g',Rel r.2 g' w0 w/\Ext H g w r.2 g' w/\VR r.2 g' w r.1 c/\r.2.length=H.length/\(∀ b,b<lo->b<H.length->r.2[b]? = H[b]?)/\g'.S=g.S:=by
 unfold vj at hk
 split at hk
 ·rename_i b o n cl
  split at hk
  ·rename_i es els hb
   obtain ⟨hlo,hk⟩:=br hk
   cases hk
   have hlo:lo<=b:=by simpa using hlo
   have hbl:=(X2.1 hb).1
   obtain ⟨h1,h2⟩:=hr.kill hbl
   refine⟨_,h1,h2,?_,r7,fun b' hb' _=>Yd j6,rfl⟩
   rw[VR,hb] at h
   obtain ⟨h0,a,cap,rfl,e1,e2,e3⟩:=h
   obtain ⟨ds,d1,d2,d3⟩:=hr.blk b _ hb
   have hv:=jf (S:=fq H g) (fun _ _ h=>h) (fun b o m cl c h=>qK hr 4 b o m cl c h) _ _ ((d1.drop o).take n)
   have hl:(dx (iQ 4 H) ((els.drop o).take n)).length=n:=by rw[<-hv.length]; simp[d1.length]; omega
   rw[VR]
   refine⟨a,cap,(ds.drop o).take n,es,by rw[hl],by rw[hl]; exact e1,fun h=>(by cases h),fun d hd=>d2 d (YC (Yr hd)),fun hp=>?_,?_⟩
   ·rw[hl] at hp
    obtain ⟨k,hk,ha⟩:=e3 hp
    obtain ⟨k',arr,ty,m1,m2,m3⟩:=d3 j6
    rw[hk] at m1; cases m1
    refine⟨k,o*es,ha,fun j v hj=>⟨wb d2 m2 m3 hj,hr.own b k _ hk,fun c hc=>?_⟩⟩
    exfalso
    by_cases e:c=b
    ·subst e; rw[Gh.bP] at hc; cases hc
    ·rw[Gh.aQ _ _ _ e] at hc
     exact e (hr.inj c b k hc hk)
   ·exact bw.ext h2 _ _ (bw.fB (H:=[]) (g:=G0 (fq H g)) ⟨fun k o _ hs hc=>⟨hc,hs.1⟩,fun b B hB=>(by simp at hB),fun k arr cl hs hm=>⟨hm,hs.1⟩⟩ _ _ hv)
  ·rename_i es els hb
   cases hk
   refine⟨g,hr,Ext.refl hr,?_,rfl,fun _ _ _=>rfl,rfl⟩
   exact VR.back (fun _ _ h=>h) (by have:=qK hr 5 b o n cl c h; unfold iQ at this; rw[hb] at this; exact this)
  ·cases hk
 ·rename_i b o
  split at hk
  ·rename_i cs hb
   obtain ⟨hlo,hk⟩:=br hk
   cases hk
   rw[XZ] at hlo
   have hlo':lo<=b:=X7 hlo.1
   have ho:o=0:=Yq hlo.2
   subst ho
   have hbl:=(X2.1 hb).1
   obtain ⟨h1,h2⟩:=hr.kill hbl
   refine⟨_,h1,h2,?_,r7,fun b' hb' _=>Yd j6,rfl⟩
   rw[VR,hb] at h
   obtain ⟨k,hk,rfl⟩:=h
   obtain ⟨k',arr,ty,m1,m2,m3⟩:=hr.blk b _ hb
   rw[hk] at m1; cases m1
   rw[VR]
   refine⟨k,0,arr.toList,rfl,fun j v hj=>⟨?_,hr.own b k _ hk,fun c hc=>?_⟩,bC.ext h2 _ _ m3⟩
   ·rw[YP,Zs w k j arr ty (0,0) m2]; simpa using hj
   ·exfalso
    by_cases e:c=b
    ·subst e; rw[Gh.bP] at hc; cases hc
    ·rw[Gh.aQ _ _ _ e] at hc
     exact e (hr.inj c b k hc hk)
  ·cases hk
 ·cases hk
theorem Rel.Xf (hr:Rel H g w0 w) {k:Nat} {arr:Array Value} {ty:TypeId} (hk:w0.heap.size<=k) (hw:w.heap[k]? = some (.cells arr ty (0,0))) (hn:∀ b,g.mu b≠some k) (f:Nat×Nat) :
  Rel H g w0 (w.putObj k (.cells arr ty f))/\xO H g w H g (w.putObj k (.cells arr ty f))/\∀ {H0:aB} {g0:Gh} {c0:Nat},Ext H0 g0 w H g w->g0.mu c0=some k->Ext H0 g0 w H g (w.putObj k (.cells arr ty f)):=by
 have hlt:k<w.heap.size:=(X5.1 hw).1
 have hoth:∀ j,j≠k->(w.putObj k (.cells arr ty f)).heap[j]? = w.heap[j]?:=fun j hj=>Zp hj
 have hsz:(w.putObj k (.cells arr ty f)).heap.size=w.heap.size:=r7
 have hcell:∀ j o v,w.cell? ⟨j,o,none⟩=some v->(w.putObj k (.cells arr ty f)).cell? ⟨j,o,none⟩=some v:=fun j o v hc=>by
  by_cases e:j=k
  ·subst e
   rw[Zs w j o arr ty (0,0) hw] at hc
   rw[Zs _ j o arr ty f (qaz hlt)]
   exact hc
  ·exact(ZH (a:=⟨j,o,none⟩) (hoth j e)).trans hc
 have hne:∀ {c j},g.mu c=some j->j≠k:=fun {c j} h e=>hn c (e ▸ h)
 have he:xO H g w H g (w.putObj k (.cells arr ty f)):=by
  refine⟨fun j o v hs hc=>⟨hcell j o v hc,hs⟩,fun c C hC=>⟨C,hC,?_⟩,fun j marr cl hs hm=>⟨(hoth j (fun e=>by subst e; rw[hw] at hm; cases hm)).trans hm,hs⟩⟩
  cases C with
  | box _=>rfl
  | row wr es els=>cases wr with
   | true=>exact⟨rfl,rfl,rfl⟩
   | false=>exact⟨rfl,⟨[],r7⟩,(hr.blk c _ hC).len,X1 _,fun _=>⟨rfl,fun j arr ty hj ha=>⟨arr,(hoth j (hne hj)).trans ha,X1 _⟩⟩⟩
  | rng _=>exact⟨rfl,rfl⟩
  | mp _ _ _=>rfl
  | dead=>trivial
  | hole=>trivial
 refine⟨⟨hr.below.trans ((Below.refl w0.heap.size w).grown (qbh w k _) (hr.below.size) (fun j e=>by cases e; exact hk)),fun c j hc=>⟨(hr.dom c j hc).1,(hr.dom c j hc).2.1,by rw[hsz]; exact(hr.dom c j hc).2.2⟩,hr.inj,(by rw[hsz]; exact hr.out),hr.own,fun c C hC=>?_⟩,he,fun {H0 g0 c0} hp hc0=>⟨fun j o v hs hc=>let ⟨q1,q2⟩:=hp.cell j o v hs hc; ⟨hcell j o v q1,q2⟩,fun c C hC=>?_,fun j x h=>(hoth j (fun e=>by subst e; rw[hw] at h; cases h)).trans h,by rw[hsz]; exact X1 _,fun j marr cl hs hm=>⟨(hoth j (fun e=>by subst e; rw[hw] at hm; cases hm)).trans hm,(hp.map j marr cl hs hm).2⟩,fun j _ hj=>hoth j (fun e=>hj c0 (e ▸ hc0)),hp.fresh⟩⟩
 rotate_left 1
 ·obtain ⟨C',hC',ht⟩:=hp.blk c C hC
  refine⟨C',hC',?_⟩
  cases C with
  | row wr es els=>cases wr with
   | true=>cases C' with
    | row wr' es' els'=>cases wr'<;>exact ht
    | _=>exact ht
   | false=>cases C' with
    | row wr' es' els'=>cases wr' with
     | true=>exact ht
     | false=>
      obtain ⟨t1,t2,t3,t4,t5⟩:=ht
      exact⟨t1,t2,t3,t4,fun hl=>⟨(t5 hl).1,fun j arr ty hj ha=>⟨arr,(hoth j (hne ((t5 hl).1.trans hj))).trans ha,X1 _⟩⟩⟩
    | _=>exact ht
  | _=>cases C'<;>exact ht
 have h:=hr.blk c C hC
 cases C with
 | box cs=>obtain ⟨j,arr',ty',h1,h2,h3⟩:=h; exact⟨j,arr',ty',h1,(hoth j (hne h1)).trans h2,bC.fB he _ _ h3⟩
 | row wr es els=>cases wr with
  | true=>
   obtain ⟨ds,h1,h2,h3⟩:=h
   exact⟨ds,bw.fB he _ _ h1,h2,fun hp=>let ⟨j,arr',ty',e1,e2,e3⟩:=h3 hp; ⟨j,arr',ty',e1,(hoth j (hne e1)).trans e2,e3⟩⟩
  | false=>
   obtain ⟨h1,h2⟩:=h
   exact⟨bw.fB he _ _ h1,h2⟩
 | rng st=>obtain ⟨j,h1,h2⟩:=h; exact⟨j,h1,(hoth j (hne h1)).trans h2⟩
 | mp _ _ _=>obtain ⟨j,marr,cl,h1,h2,h3,h4⟩:=h; exact⟨j,marr,cl,h1,(hoth j (hne h1)).trans h2,h3,bC.fB he _ _ h4⟩
 | dead=>exact h
 | hole=>exact h
theorem uS {w:World} {k n:Nat} {arr:Array Value} {ty:TypeId} (hw:w.heap[k]? = some (.cells arr ty (0,0))):w.freeze ⟨k,n,none⟩ 1=w.putObj k (.cells arr ty (n,n+1)):=by
 unfold World.freeze World.putObj
 rw[X8 (by decide)]
 congr 1
 apply Array.ext
 ·simp
 ·intro i h1 h2
  have hi:i<w.heap.size:=by simpa using h1
  rw[qbv,Array.getElem_setIfInBounds]
  by_cases h:k=i
  ·subst h
   have e:w.heap[k]=.cells arr ty (0,0):=by
    have:=(X5.1 hw).2
    exact this
   rw[X4 rfl,X4 rfl,e]
   simp
  ·rw[X8 h,X8 h]
theorem yg {P:Program} (hr:Rel H g w0 w) {lo:Nat} {s t:TypeId} {x:A} {c:Value} {r:A×aB} (h:EF P s t x H lo=some r) (hx:VR H g w x c) :
  Step H g w0 w lo ((convert s t c).run P w) r.1 r.2:=by
 unfold EF at h
 split at h
 ·rename_i e hs
  split at h
  ·rename_i he
   split at h
   ·rename_i b o n cl
    split at h
    ·rename_i es els hb
     obtain ⟨hc,hk⟩:=br h
     rw[XZ] at hc
     have hst:s=t:=Yq hc.1
     have hn:0<n:=X7 hc.2
     subst hst
     have hx0:=hx
     rw[VR,hb] at hx
     obtain ⟨h0,a,cap,rfl,e1,e2,e3⟩:=hx
     obtain ⟨k,hk1,rfl⟩:=e3 hn
     obtain ⟨ds,d1,d2,d3⟩:=hr.blk b _ hb
     obtain ⟨k',arr,ty,m1,m2,m3⟩:=d3 j6
     rw[hk1] at m1; cases m1
     obtain ⟨g',r1,r2,r3,r4,r5,r6⟩:=B6 hr hk hx0
     have hkk:r.2=H.set b .dead:=by
      simp only[vj,hb] at hk
      obtain ⟨_,hk⟩:=br hk
      cases hk; rfl
     have hno:∀ c,g'.mu c≠some k:=fun c hc=>by
      have hcl:=(r1.dom c k hc).1
      rw[r4] at hcl
      obtain ⟨C,hC⟩:∃ C,H[c]? = some C:=⟨_,X3 hcl⟩
      obtain ⟨C',hC',hbt⟩:=r2.blk c C hC
      by_cases ecb:c=b
      ·subst ecb
       rw[hkk,Ym hcl] at hC'
       cases hC'
       have:=r1.blk c .dead (by rw[hkk,Ym hcl])
       rw[show g'.mu c=none from this] at hc; cases hc
      ·rw[hkk,Yd (YW ecb),hC] at hC'
       cases hC'
       have hmu:g.mu c=some k∨C=.dead∨C=.hole:=by
        cases C with
        | box _=>left; exact(show g'.mu c=g.mu c from hbt).symm.trans hc
        | row wr es' els'=>cases wr with
         | true=>left; exact hbt.2.2.symm.trans hc
         | false=>left; exact(hbt.2.2.2.2 rfl).1.symm.trans hc
        | rng _=>left; exact hbt.1.symm.trans hc
        | mp _ _ _=>left; exact(show g'.mu c=g.mu c from hbt).symm.trans hc
        | dead=>right; left; rfl
        | hole=>right; right; rfl
       rcases hmu with h1 | rfl | rfl
       ·exact ecb (hr.inj c b k h1 hk1)
       ·have:=r1.blk c .dead (by rw[hkk,Yd (YW ecb)]; exact hC)
        rw[show g'.mu c=none from this] at hc; cases hc
       ·have:=r1.blk c .hole (by rw[hkk,Yd (YW ecb)]; exact hC)
        rw[show g'.mu c=none from this] at hc; cases hc
     obtain ⟨q1,q0,q2⟩:=r1.Xf (hr.dom b k hk1).2.1 m2 hno (arr.size,arr.size+1)
     refine⟨_,_,g',?_,q1,q2 r2 hk1,VR.fB q0 _ _ r3,qav r4.symm,r5,r6⟩
     have hsh:w.shape? k=some (ty,arr.size):=by unfold World.shape?; rw[m2]
     rw[<-uS m2]
     simp[convert,Ya hs,Ya he,markStringish,hsh]
    ·cases h
   ·cases h
  ·cases h
 ·cases h
end
section
open Go.RowKit
variable {H H':aB} {g g':Gh} {w0 w w':World} {cx:Cx} {s:St} {a:Act} {F:Fence} {n:Nat}
def ir (H:aB) (g:Gh) (w0 w:World) (lo:Nat) (r:R) (e:Ending) (w':World):Prop:=∃ g',Rel r.2 g' w0 w'/\Ext H g w r.2 g' w'/\H.length<=r.2.length/\(∀ b,b<lo->b<H.length->r.2[b]? = H[b]?)/\g'.S=g.S ∧
  match r.1,e with
  | .ret x,.returned c=>VR r.2 g' w' x c
  | .pan x,.panicked ch=>∃ c,ch=[{ v:=c,recovered:=false }]/\VR r.2 g' w' x c
  | _,_=>False
structure qb (cx:Cx) (Bs:aB->Gh->World->Prop) (call:bj):Prop where
 up:∀ (H:aB) (g:Gh) (w:World) (H':aB) (g':Gh) (w':World),Bs H g w->Ext H g w H' g' w'->Bs H' g' w'
 yl:∀ (b:Nat) (args:List A) (H:aB) (lo:Nat) (r:R),call (cx.P.funcs.size+b) args H lo=some r->∀ (F:Fence) (n l:Nat) (g:Gh) (w0 w:World) (cargs:List Value),g9 F->Bs H g w->Rel H g w0 w ->
  (∀ (G:Nat) (vs:List Value),cx.glob G=some vs->bQ H g w G 0 vs)->bC H g w args cargs->g.mu b=some l->YieldAt F n cx.P l cargs.toArray w (ir H g w0 w lo r)
structure ek (cx:Cx) (Bs:aB->Gh->World->Prop) (call:bj):Prop extends qb cx Bs call where
 fn:∀ (k:Nat) (args:List A) (H:aB) (lo:Nat) (r:R),k<cx.P.funcs.size->call k args H lo=some r->∀ (F:Fence) (n:Nat) (g:Gh) (w0 w:World) (cargs:List Value),g9 F->F.round=none->Bs H g w->Rel H g w0 w ->
  (∀ (G:Nat) (vs:List Value),cx.glob G=some vs->bQ H g w G 0 vs)->bC H g w args cargs->CallsIn F n cx.P k cargs.toArray w (ir H g w0 w lo r)
 ct:∀ (k:Nat) (args:List A) (H:aB) (lo:Nat) (r:R),k<cx.P.funcs.size->cx.cut k≠0->cx.cut k<=H.length->call k args H lo=some r->r.2.length=H.length/\∀ b,cx.cut k<=b->r.2[b]? = H[b]?
theorem jx {P:Program} {k:Nat} (hk:db P k=true):k<P.funcs.size:=by
 unfold db at hk
 cases hf:P.funcs[k]? with
 | none=>rw[hf] at hk; cases hk
 | some fn=>exact(X5.1 hf).1
def kC (cx:Cx):Prop:=∀ k args r,(cx.isOrc k=true∨cx.isOrcV k=true∨cx.deep k=true)->cx.C k args=some r->fh cx.P cx.glob k args r
theorem Mg {ev:Operand->Value} {c:Call} {gop:Operand} (hc:c.callee=.value gop) {k:Nat} {ds es:Array Value} (hv:ev gop=.func (.func k) ds es) (hk:db cx.P k=true) (ty:TypeId) (w:World) :
  (do let d <-resolve ev c ty; invoke d.target d.args:Sem Next).run cx.P w=.ok (.enter k (ds++c.args.map ev++es)) w:=by
 unfold db at hk
 cases hf:cx.P.funcs[k]? with
 | none=>rw[hf] at hk; cases hk
 | some fn=>
  rw[hf] at hk
  simp only[XZ,Za] at hk
  have h1:¬ fn.body=none:=by intro hb; rw[hb] at hk; simp at hk
  have h2:¬ fn.name = "runtime.NumGoroutine" := by simpa using hk.2
  simp[resolve,hc,hv,Deferred.ofValue,invoke,callFunc,program,Sem.run,hf,h1,h2]
theorem lh {ev:Operand->Value} {o:Oper} {k:Nat} {args:List A} (hs:uK cx s g w0 o.op ev w) (h:callee? cx s o.op=some (k,args)):db cx.P k=true ∧
  ∃ cargs:List Value,(execOp ev o).run cx.P w=.ok (.enter k cargs.toArray) w/\bC s.H g w args cargs:=by
 unfold callee? at h
 split at h
 ·rename_i c ho
  rw[ho] at hs
  split at h
  ·rename_i gop hgop
   split at h
   ·rename_i k' first cap hf
    obtain ⟨hcb,h⟩:=br h
    cases h
    have hgv:=hs.one gop (by simp[Op.operands,Call.operands,hgop])
    rw[hf,VR] at hgv
    obtain ⟨ds,es,hev,h1,h2⟩:=hgv
    refine⟨hcb,ds.toList++(c.args.toList.map ev)++es.toList,?_,(h1.append (hs.many _ (fun x hx=>by simp[Op.operands,Call.operands,hgop]; exact .inr (by simpa using hx)))).append h2⟩
    have:=Mg (cx:=cx) hgop hev hcb o.type w
    unfold execOp
    rw[ho]
    refine this.trans ?_
    congr 2
    apply ZJ
    simp
   ·cases h
  ·cases h
 ·cases h
theorem Gp {ev:Operand->Value} {o:Oper} {b:Nat} {args:List A} (hs:uK cx s g w0 o.op ev w) (h:yldOf? cx s o.op=some (b,args)) (hb:zl s.H b=true) :
  ∃ (l:Nat) (cargs:List Value),(execOp ev o).run cx.P w=(Instr.yield l cargs.toArray).run cx.P w/\bC s.H g w args cargs/\g.mu b=some l:=by
 have hblk:∃ st,s.H[b]? = some (.rng st):=by
  unfold zl at hb
  split at hb
  ·rename_i st h; exact⟨st,h⟩
  ·cases hb
 obtain ⟨st,hst⟩:=hblk
 unfold yldOf? at h
 split at h
 ·rename_i c ho
  rw[ho] at hs
  split at h
  ·rename_i gop hgop
   split at h
   ·rename_i b' hf
    cases h
    have hgv:=hs.one gop (by simp[Op.operands,Call.operands,hgop])
    rw[hf,VR,hst] at hgv
    obtain ⟨l,hl,hev⟩:=hgv
    refine⟨l,c.args.toList.map ev,?_,hs.many _ (fun x hx=>by simp[Op.operands,Call.operands,hgop]; exact .inr (by simpa using hx)),hl⟩
    unfold execOp
    rw[ho]
    have ea:(c.args.toList.map ev).toArray=c.args.map ev:=by apply ZJ; simp
    rw[ea]
    simp[resolve,hgop,hev,Deferred.ofValue,invoke]
   ·cases h
  ·cases h
 ·cases h
theorem Marks.m9 {B:Nat} {W W':World} {ds:List Deferred} (h:Marks B W ds) (hk:∀ (k:Nat) (x:Option (List Deferred)),W.heap[k]? = some (.deferred x)->W'.heap[k]? = some (.deferred x)):Marks B W' ds:=by
 obtain ⟨rs,e,h2,h3⟩:=h
 exact⟨rs,e,h2,fun r hr=>⟨(h3 r hr).1,hk r _ (h3 r hr).2⟩⟩
structure Mb where
 B:Nat
 base:List Deferred
 free:Bool
def iU (mb:Mb) (W:World) (ds:List Deferred):Prop:=∃ ms,ds=ms++mb.base/\Marks mb.B W ms/\(mb.free=false->ms=[])
theorem iU.m9 {mb:Mb} {W W':World} {ds:List Deferred} (h:iU mb W ds) (hk:∀ (k:Nat) (x:Option (List Deferred)),W.heap[k]? = some (.deferred x)->W'.heap[k]? = some (.deferred x)):iU mb W' ds:=
 let ⟨ms,e,h1,h2⟩:=h; ⟨ms,e,h1.m9 hk,h2⟩
theorem iU.start (B:Nat) (W:World) (ds:List Deferred) (fr:Bool):iU ⟨B,ds,fr⟩ W ds:=⟨[],rfl,Marks.nil _ _,fun _=>rfl⟩
structure Good (cx:Cx) (N:Nat) (mb:Mb) (lo:Nat) (H0:aB) (gs:Gh) (ws w0:World) (s:St) (g:Gh) (a:Act) (w:World):Prop where
 sr:SR cx s g w0 a w
 ext:Ext H0 gs ws s.H g w
 len:H0.length<=s.H.length
 low:∀ b,b<lo->b<H0.length->s.H[b]? = H0[b]?
 siz:a.tmps.size=N
 dfr:iU mb w a.defers
 mbw:mb.B<=w.heap.size
 st:g.S=gs.S
variable {N lo:Nat} {mb:Mb} {H0:aB} {gs:Gh} {ws:World} {Bs:aB->Gh->World->Prop}
theorem Act.qH (a:Act) (d:Option Nat) (v:Value):(a.put d v).tmps.size=a.tmps.size:=by cases d<;>simp[Act.put]
theorem Act.zD (a:Act) (d:Option Nat) (v:Value):(a.put d v).defers=a.defers:=by cases d<;>rfl
theorem Good.step (h:Good cx N mb lo H0 gs ws w0 s g a w) {H':aB} (hr:Rel H' g' w0 w') (he:Ext s.H g w H' g' w') (hl:s.H.length<=H'.length) (hlo:∀ b,b<lo->b<s.H.length->H'[b]? = s.H[b]?) (hst:g'.S=g.S) {dst:Option Nat} {x:A} {c:Value} (hx:VR H' g' w' x c) (hd:∀ d,dst=some d->d<N) :
  Good cx N mb lo H0 gs ws w0 (({ s with H:=H' }:St).put dst x) g' (a.put dst c) w':=by
 have hH:(({ s with H:=H' }:St).put dst x).H=H':=by cases dst<;>rfl
 refine⟨h.sr.step hr he hx (by rw[h.siz]; exact hd),by rw[hH]; exact h.ext.trans he,by rw[hH]; exact Yp h.len hl,fun b hb hb'=>?_,by rw[Act.qH]; exact h.siz,by rw[Act.zD]; exact h.dfr.m9 he.kept,Yp h.mbw he.size,hst.trans h.st⟩
 rw[hH,hlo b hb (Yh hb' h.len)]
 exact h.low b hb hb'
theorem Good.same (h:Good cx N mb lo H0 gs ws w0 s g a w) {dst:Option Nat} {x:A} {c:Value} (hx:VR s.H g w x c) (hd:∀ d,dst=some d->d<N):Good cx N mb lo H0 gs ws w0 (s.put dst x) g (a.put dst c) w:=
 h.step (H':=s.H) h.sr.rel (Ext.refl h.sr.rel) (X1 _) (fun _ _ _=>rfl) rfl hx hd
theorem CR {β:Type} {x:A} {p q:Option β} {r:β} {H:aB} {g:Gh} {w:World} {c:Value} (h:aY x p q=some r) (hv:VR H g w x c):∃ b,c=.bool b/\(if b=true then p else q)=some r:=by
 cases x with
 | nq els=>
  rw[VR] at hv
  obtain ⟨b,rfl,hb⟩:=hv
  refine⟨b,rfl,?_⟩
  simp only[aY,Me] at h
  cases els with
  | nil=>
   simp only[both] at h
   split at h
   ·rename_i e
    cases b
    ·exact h
    ·simp only[Zh]; rw[e]; exact h
   ·cases h
  | cons a l=>
   cases b with
   | false=>exact h
   | true=>cases hb rfl
 | v y=>
  cases y with
  | bool b=>
   rw[VR] at hv
   subst hv
   refine⟨b,rfl,?_⟩
   cases b<;>exact h
  | _=>cases h
 | _=>cases h
theorem qj {β:Type} {x:A} {p q:Option β} {r:β} (h:di x p q=some r):∃ b,x=.v (.bool b)/\(if b then p else q)=some r:=by
 unfold di at h
 split at h
 ·rename_i b; exact⟨b,rfl,by cases b<;>exact h⟩
 ·cases h
theorem fG {Q:Exit->Act->World->Prop} {next:Act->World->Prop} {o:Oper} {res:Result Next} {c:Value} {w':World} (h:res=.ok (.value c) w'∨(res=.ok .skip w'/\c=undef)) (hn:next (a.put o.dst c) w'):o.uponIn F n cx.P a next Q res:=by
 rcases h with rfl | ⟨rfl,rfl⟩<;>exact hn
theorem eh {Q:Exit->Act->World->Prop} {next:Act->World->Prop} {o:Oper} (hF:g9 F) (hnd:∀ c,o.op≠.defer c) (h:o.uponIn F n cx.P a next Q ((execOp a.eval o).run cx.P w)):o.wpIn F n cx.P a w next Q:=by
 refine⟨fun f _=>hF.2.1 f,?_⟩
 rw[qby _ _ _ hnd]
 exact h
theorem nU {β:Type} {f lo:Nat} {o:Oper} {k:A->aB->Option β} {r:β} (h:b7 cx f lo o s k=some r):∀ c,o.op≠.defer c:=fun c hc=>by
 unfold b7 at h; rw[hc] at h; cases h
theorem AI {call:bj} (hcall:ek cx Bs call) (horc:kC cx) (hF:g9 F) {f:Nat} {o:Oper} {k:St->Option R} {pan:A->St->Option R} {r:R} {next:Act->World->Prop} {Q:Exit->Act->World->Prop}
  (hb0:Bs H0 gs ws) (hg:Good cx N mb lo H0 gs ws w0 s g a w) (hd:∀ d,o.dst=some d->d<N) (h:tt cx call f lo o s k pan=some r)
  (hk:∀ s' g' a' w',Good cx N mb lo H0 gs ws w0 s' g' a' w'->k s'=some r->next a' w')
  (hp:∀ x s' g' w' c,Good cx N mb lo H0 gs ws w0 s' g' a w'->VR s'.H g' w' x c->pan x s'=some r->Q (.panic [{ v:=c,recovered:=false }]) a w'):o.wpIn F n cx.P a w next Q:=by
 have hs:=hg.sr.Un o.op
 have direct:b7 cx f lo o s (fun x H=>k ({ s with H:=H }.put o.dst x))=some r->o.wpIn F n cx.P a w next Q:=fun h=>by
  obtain ⟨c,w',x,H',g',e1,e2,e3,e4,e5,e6,e7,e8⟩:=lj hs h
  exact eh hF (nU h) (fG e1 (hk _ _ _ _ (hg.step e3 e4 e6 e7 e8 e5 hd) e2))
 unfold tt at h
 split at h
 ·rename_i c x y ho
  obtain ⟨z,h0,h⟩:=bH h
  obtain ⟨b,hb,h0⟩:=qj h0
  have hc:=hs.one c (by rw[ho]; simp[Op.operands])
  have hx:=hs.one x (by rw[ho]; simp[Op.operands])
  have hy:=hs.one y (by rw[ho]; simp[Op.operands])
  rw[hb,VR] at hc
  refine eh hF (by rw[ho]; simp) (fG (c:=if b then a.eval x else a.eval y) (w':=w) (.inl ?_) ?_)
  ·unfold execOp
   rw[ho]
   simp[hc,asBool]
  ·cases b
   ·cases h0; exact hk _ _ _ _ (hg.same hy hd) h
   ·cases h0; exact hk _ _ _ _ (hg.same hx hd) h
 ·rename_i x ho
  have hx:=hs.one x (by rw[ho]; simp[Op.operands])
  unfold Du at h
  split at h
  ·rename_i t y hy
   rw[hy] at hx
   have hx':=hx
   rw[VR] at hx
   obtain ⟨d,hd',_⟩:=hx
   refine eh hF (by rw[ho]; simp) ?_
   have hrun:(execOp a.eval o).run cx.P w=.halt (.panic (a.eval x)) w:=by
    unfold execOp
    rw[ho]
    show (do pure (.value (<-Instr.panic (a.eval x))):Sem Next).run cx.P w=_
    rw[hd']
    simp[Instr.panic,goPanic,Sem.run,Result.andThen]
   rw[hrun]
   exact hp _ s g w _ hg hx' h
  ·cases h
 ·rename_i t' n' parts ho
  rw[bG] at h
  split at h
  ·obtain ⟨q,h1,h2⟩:=bH h
   obtain ⟨d,w',g',e1,e2,e3,e4,e5,e6,e7⟩:=rX hg.sr.rel lo h1 (hs.FY parts (by rw[ho]; simp[Op.operands]; exact fun a b h=>⟨a,h⟩))
   refine eh hF (by rw[ho]; simp) (fG (.inl ?_) (hk _ _ _ _ (hg.step e2 e3 e5 e6 e7 e4 hd) h2))
   unfold execOp
   rw[ho]
   exact jh e1
  ·exact direct h
 ·rename_i t' n' c' ho
  rw[bG] at h
  split at h
  ·obtain ⟨q,h1,h2⟩:=bH h
   obtain ⟨d,w',g',e1,e2,e3,e4,e5,e6,e7⟩:=kZ hg.sr.rel lo h1 (hs.one n' (by rw[ho]; simp[Op.operands])) (hs.one c' (by rw[ho]; simp[Op.operands]))
   refine eh hF (by rw[ho]; simp) (fG (.inl ?_) (hk _ _ _ _ (hg.step e2 e3 e5 e6 e7 e4 hd) h2))
   unfold execOp
   rw[ho]
   exact jh e1
  ·exact direct h
 ·rename_i t' t'' x ho
  rw[bG] at h
  split at h
  ·obtain ⟨q,h1,h2⟩:=bH h
   obtain ⟨d,w',g',e1,e2,e3,e4,e5,e6,e7⟩:=yg hg.sr.rel h1 (hs.one x (by rw[ho]; simp[Op.operands]))
   refine eh hF (by rw[ho]; simp) (fG (.inl ?_) (hk _ _ _ _ (hg.step e2 e3 e5 e6 e7 e4 hd) h2))
   unfold execOp
   rw[ho]
   exact jh e1
  ·exact direct h
 ·rename_i c ho
  rw[bG] at h
  split at h
  ·rw[tl] at h
   unfold JO at h
   split at h
   ·rename_i p hy
    obtain ⟨b,args⟩:=p
    obtain ⟨hrb,h⟩:=br h
    obtain ⟨l,cargs,hrun,hv,hl⟩:=Gp hs hy hrb
    refine eh hF (by rw[ho]; simp) ?_
    replace h:=bH h
    obtain ⟨⟨out,H'⟩,hy,h⟩:=h
    obtain ⟨fn',tm',as',bo',hrun',hR⟩:=hcall.yl b args s.H lo (out,H') hy F (n - 1) l g w0 w cargs hF (hcall.up _ _ _ _ _ _ hb0 hg.ext) hg.sr.rel hg.sr.gl hv hl
    rw[hrun,hrun',Oper.uponIn_round]
    refine⟨fun hd=>(by rw[hF.1] at hd; cases hd),hR.mono ?_⟩
    rintro e w' ⟨g',e1,e2,e3,e4,e6,e5⟩
    cases out with
    | ret x=>
     cases e with
     | returned c'=>exact hk _ _ _ _ (hg.step e1 e2 e3 e4 e6 e5 hd) h
     | panicked _=>exact e5.elim
     | outgrown=>exact e5.elim
    | pan x=>cases h
   replace h:=bH h
   obtain ⟨⟨k',args⟩,hce,h⟩:=h
   obtain ⟨hcb,cargs,hrun,hv⟩:=lh hs hce
   refine eh hF (by rw[ho]; simp) ?_
   rw[hrun,Oper.uponIn_enter]
   refine⟨fun hd=>(by rw[hF.1] at hd; cases hd),?_⟩
   rw[bG] at h
   split at h
   ·rename_i hiso
    replace h:=bH h
    obtain ⟨y,hy,h⟩:=h
    have hr:=hg.sr.rel
    have hst:∀ k o,w.heap.size<=k->fq s.H g k o:=fun k o hk=>⟨hr.out k o hk,fun b hb=>absurd (hr.dom b k hb).2.2 j6⟩
    have hcallok:=horc k' _ y (.inl hiso) hy (fq s.H g) w cargs hst (fun G vs hG j v hj=>let ⟨e1,e2⟩:=hg.sr.gl G vs hG j v hj; ⟨e1,e2,fun b hb=>by cases hb⟩) (zQ hr hv)
    refine(iW hF hcallok).mono ?_
    rintro e w' ⟨c',rfl,hb,hvr⟩
    exact hk _ _ _ _ (hg.step (H':=s.H) (hr.jB hb) (Ext.below hr hb) (X1 _) (fun _ _ _=>rfl) rfl (VR.back (fun _ _ h=>h) hvr) hd) h
   ·replace h:=bH h
    obtain ⟨⟨out,H'⟩,hy,h⟩:=h
    have hci:CallsIn F.plain (n - 1) cx.P k' cargs.toArray w _:=hcall.fn k' args s.H lo (out,H') (jx hcb) hy F.plain (n - 1) g w0 w cargs hF rfl (hcall.up _ _ _ _ _ _ hb0 hg.ext) hg.sr.rel hg.sr.gl hv
    have hci':CallsIn F (n - 1) cx.P k' cargs.toArray w _:=hci
    refine hci'.mono ?_
    rintro e w' ⟨g',e1,e2,e3,e4,e6,e5⟩
    cases out with
    | ret x=>
     cases e with
     | returned c'=>exact hk _ _ _ _ (hg.step e1 e2 e3 e4 e6 e5 hd) h
     | panicked _=>exact e5.elim
     | outgrown=>exact e5.elim
    | pan x=>
     cases e with
     | returned _=>exact e5.elim
     | panicked ch=>
      obtain ⟨c',rfl,hvr⟩:=e5
      have hg':=hg.step (dst:=none) (x:=x) e1 e2 e3 e4 e6 hvr (fun d hd=>by cases hd)
      exact hp x { s with H:=H' } g' w' c' hg' hvr h
     | outgrown=>exact e5.elim
  ·exact direct h
 ·exact direct h
theorem kM {ops:Array Oper} {o:Oper} {t:Nat} {want:Bool} (h:cz ops o=some (t,want)) {b:Bool} (hg:a.tmps.getD t undef=.bool b):Region.wanted o (yielded ops a.tmps)=(b==want):=by
 rw[jS] at h
 split at h
 ·rename_i j want' hgd
  cases hd:(ops[j]?).bind (·.dst) with
  | none=>rw[hd] at h; cases h
  | some t'=>
   rw[hd] at h
   cases h
   have ht:a.tmps[t]? = some (.bool b):=by
    rw[YQ] at hg
    cases hx:a.tmps[t]? with
    | none=>rw[hx] at hg; cases hg
    | some v=>rw[hx] at hg; simp at hg; rw[hg]
   simp only[Region.wanted,hgd,yielded,hd,XV,ht]
   cases b<;>cases want<;>rfl
 ·cases h
theorem m7 {ops:Array Oper} {o:Oper} {t:Nat} {want:Bool} (h:cz ops o=some (t,want)) {y:Array Value} (hg:a.tmps.getD t undef=.tuple y):Region.wanted o (yielded ops a.tmps)=false:=by
 rw[jS] at h
 split at h
 ·rename_i j want' hgd
  cases hd:(ops[j]?).bind (·.dst) with
  | none=>rw[hd] at h; cases h
  | some t'=>
   rw[hd] at h
   cases h
   rw[YQ] at hg
   simp only[Region.wanted,hgd,yielded,hd,XV]
   cases hx:a.tmps[t]? with
   | none=>cases want<;>rfl
   | some v=>rw[hx] at hg; simp at hg; subst hg; cases want<;>rfl
 ·cases h
theorem n4 {β:Type} {x:A} {want:Bool} {p q:Option β} {r:β} (h:qC x want p q=some r):(∃ b,x=.v (.bool b)/\(if b==want then p else q)=some r)∨∃ y,x=.v (.tuple y)/\q=some r:=by
 unfold qC at h
 split at h
 ·rename_i b; exact .inl ⟨b,rfl,by cases b<;>cases want<;>exact h⟩
 ·exact .inr ⟨_,rfl,h⟩
 ·cases h
end
section
open Go.RowKit
variable {H H':aB} {g g':Gh} {w0 w w':World}
theorem ult {b:Nat} {H:aB} {B:az} (h:H[b]? = some B):decide (b<H.length)=true:=XW (X2.1 h).1
mutual
theorem VR.under:∀ (a:A) (c:Value),VR H g w a c->A.under H.length a=true
 | .any,_,_=>rfl
 | .v _,_,_=>rfl
 | .ptr b o,c,h=>by
  rw[VR] at h
  cases hb:H[b]? with
  | none=>rw[hb] at h; exact h.elim
  | some B=>exact ult hb
 | .ep b i o,c,h=>by
  rw[VR] at h
  cases hb:H[b]? with
  | none=>rw[hb] at h; exact h.elim
  | some B=>exact ult hb
 | .ip cs,c,h=>by rw[VR] at h; obtain ⟨_,_,ds,_,_,h3⟩:=h; rw[A.under]; exact bC.under cs ds h3
 | .imm els cl,c,h=>by rw[VR] at h; obtain ⟨_,_,ds,_,_,_,_,_,_,h6⟩:=h; rw[A.under]; exact bw.under els ds h6
 | .sl b o n cl,c,h=>by
  rw[VR] at h
  cases hb:H[b]? with
  | none=>rw[hb] at h; exact h.elim
  | some B=>exact ult hb
 | .nq _,_,_=>rfl
 | .mr b,c,h=>by
  rw[VR] at h
  cases hb:H[b]? with
  | none=>rw[hb] at h; exact h.elim
  | some B=>exact ult hb
 | .mv k ks vs,c,h=>by rw[VR] at h; obtain ⟨_,_,_,_,_,_,_,h5⟩:=h; rw[A.under]; exact bC.under vs _ h5
 | .yld b,c,h=>by
  rw[VR] at h
  cases hb:H[b]? with
  | none=>rw[hb] at h; exact h.elim
  | some B=>exact ult hb
 | .agg cs,c,h=>by rw[VR] at h; obtain ⟨ds,_,h2⟩:=h; rw[A.under]; exact bC.under cs _ h2
 | .tup cs,c,h=>by rw[VR] at h; obtain ⟨ds,_,h2⟩:=h; rw[A.under]; exact bC.under cs _ h2
 | .fn f p q,c,h=>by rw[VR] at h; obtain ⟨ds,es,_,h2,h3⟩:=h; rw[A.under,bC.under p _ h2,bC.under q _ h3]; rfl
 | .ifc t x,c,h=>by rw[VR] at h; obtain ⟨d,_,h2⟩:=h; rw[A.under]; exact VR.under x d h2
theorem bC.under:∀ (cs:List A) (ds:List Value),bC H g w cs ds->bh H.length cs=true
 | [],_,_=>rfl
 | a :: as,_,h=>by rw[bC] at h; obtain ⟨d,ds',_,h2,h3⟩:=h; rw[bh,VR.under a d h2,bC.under as ds' h3]; rfl
theorem bw.under:∀ (cs:List (List A)) (ds:List (List Value)),bw H g w cs ds->aR H.length cs=true
 | [],_,_=>rfl
 | a :: as,_,h=>by rw[bw] at h; obtain ⟨d,ds',_,h2,h3⟩:=h; rw[aR,bC.under a d h2,bw.under as ds' h3]; rfl
end
theorem mH.under {b:Nat} {B:az} (h:mH H g w b B):B.under H.length=true:=by
 cases B with
 | box cs=>obtain ⟨_,_,_,_,_,h3⟩:=h; exact bC.under cs _ h3
 | row wr es els=>cases wr with
  | true=>obtain ⟨ds,h1,_⟩:=h; exact bw.under els ds h1
  | false=>exact bw.under els _ h.1
 | rng _=>rfl
 | mp _ _ _=>obtain ⟨_,_,_,_,_,_,h4⟩:=h; exact bC.under _ _ h4
 | dead=>rfl
 | hole=>rfl
structure lT (L:Nat) (H:aB) (g:Gh) (H':aB) (g':Gh):Prop where
 stab:∀ k o,fq H g k o->fq H' g' k o
 blk:∀ b,b<L->H'[b]? = H[b]?
 mu:∀ (b:Nat) (B:az),b<L->H[b]? = some B->g'.mu b=g.mu b
 ga:∀ (b es:Nat) (els:List (List A)),b<L->H[b]? = some (.row false es els)->g'.ga b=g.ga b
 lr:∀ (b:Nat) (st:cX),b<L->H[b]? = some (.rng st)->g'.lr b=g.lr b
theorem bQ.to {L:Nat} (ha:lT L H g H' g') {k off:Nat} {ds:List Value} (h:bQ H g w k off ds):bQ H' g' w k off ds:=fun j v hj=>⟨(h j v hj).1,ha.stab _ _ (h j v hj).2⟩
mutual
theorem VR.to {L:Nat} (ha:lT L H g H' g'):∀ (a:A) (c:Value),A.under L a=true->VR H g w a c->VR H' g' w a c
 | .any,_,_,_=>XI
 | .v x,c,_,h=>by rw[VR] at h ⊢; exact h
 | .ptr b o,c,hu,h=>by
  rw[A.under] at hu
  have hu:=X7 hu
  rw[VR] at h ⊢
  rw[ha.blk b hu]
  cases hb:H[b]? with
  | none=>rw[hb] at h; exact h
  | some B=>
   rw[hb] at h
   have hm:=ha.mu b B hu hb
   cases B with
   | box _=>obtain ⟨k,h1,h2⟩:=h; exact⟨k,hm.trans h1,h2⟩
   | _=>exact h
 | .ep b i o,c,hu,h=>by
  rw[A.under] at hu
  have hu:=X7 hu
  rw[VR] at h ⊢
  rw[ha.blk b hu]
  cases hb:H[b]? with
  | none=>rw[hb] at h; exact h
  | some B=>
   rw[hb] at h
   have hm:=ha.mu b B hu hb
   cases B with
   | row wr es els=>cases wr with
    | true=>obtain ⟨h0,k,h1,h2⟩:=h; exact⟨h0,k,hm.trans h1,h2⟩
    | false=>exact h
   | _=>exact h
 | .ip cs,c,hu,h=>by
  rw[A.under] at hu
  rw[VR] at h ⊢
  obtain ⟨k,off,ds,h1,h2,h3⟩:=h
  exact⟨k,off,ds,h1,h2.to ha,bC.to ha cs ds hu h3⟩
 | .imm els cl,c,hu,h=>by
  rw[A.under] at hu
  rw[VR] at h ⊢
  obtain ⟨a,cap,ds,es,h1,h2,h3,h4,h5,h6⟩:=h
  exact⟨a,cap,ds,es,h1,h2,h3,h4,fun hp=>let ⟨k,off,e1,e2⟩:=h5 hp; ⟨k,off,e1,e2.to ha⟩,bw.to ha els ds hu h6⟩
 | .sl b o n cl,c,hu,h=>by
  rw[A.under] at hu
  have hu:=X7 hu
  rw[VR] at h ⊢
  rw[ha.blk b hu]
  cases hb:H[b]? with
  | none=>rw[hb] at h; exact h
  | some B=>
   rw[hb] at h
   have hm:=ha.mu b B hu hb
   cases B with
   | row wr es els=>cases wr with
    | true=>
     obtain ⟨h0,a,cap,h1,h2,h3,h4⟩:=h
     exact⟨h0,a,cap,h1,h2,h3,fun hp=>let ⟨k,e1,e2⟩:=h4 hp; ⟨k,hm.trans e1,e2⟩⟩
    | false=>
     obtain ⟨h0,a,cap,h1,h2,h3,h4,h5⟩:=h
     exact⟨h0,a,cap,h1,h2,h3,fun hp=>let ⟨k,off,e1,e2⟩:=h4 hp; ⟨k,off,e1,by rw[ha.ga b es els hu hb]; exact e2.to ha⟩,fun p q r t=>let ⟨k,arr,ty,e1,e2,e3,e4⟩:=h5 p q r t; ⟨k,arr,ty,hm.trans e1,e2,e3,e4⟩⟩
   | _=>exact h
 | .nq _,c,hu,h=>by rw[VR] at h ⊢; exact h
 | .mr b,c,hu,h=>by
  rw[A.under] at hu
  have hu:=X7 hu
  rw[VR] at h ⊢
  rw[ha.blk b hu]
  cases hb:H[b]? with
  | none=>rw[hb] at h; exact h
  | some B=>
   rw[hb] at h
   have hm:=ha.mu b B hu hb
   cases B with
   | mp _ _ _=>obtain ⟨k,e1,e2⟩:=h; exact⟨k,hm.trans e1,e2⟩
   | _=>exact h
 | .mv k ks vs,c,hu,h=>by
  rw[A.under] at hu
  rw[VR] at h ⊢
  obtain ⟨r,arr,cl,h1,h2,h3,h4,h5⟩:=h
  exact⟨r,arr,cl,h1,ha.stab _ _ h2,h3,h4,bC.to ha vs _ hu h5⟩
 | .yld b,c,hu,h=>by
  rw[A.under] at hu
  have hu:=X7 hu
  rw[VR] at h ⊢
  rw[ha.blk b hu]
  cases hb:H[b]? with
  | none=>rw[hb] at h; exact h
  | some B=>
   rw[hb] at h
   have hm:=ha.mu b B hu hb
   cases B with
   | rng _=>obtain ⟨k,e1,e2⟩:=h; exact⟨k,hm.trans e1,e2⟩
   | _=>exact h
 | .agg cs,c,hu,h=>by
  rw[A.under] at hu
  rw[VR] at h ⊢
  obtain ⟨ds,h1,h2⟩:=h
  exact⟨ds,h1,bC.to ha cs _ hu h2⟩
 | .tup cs,c,hu,h=>by
  rw[A.under] at hu
  rw[VR] at h ⊢
  obtain ⟨ds,h1,h2⟩:=h
  exact⟨ds,h1,bC.to ha cs _ hu h2⟩
 | .fn f p q,c,hu,h=>by
  rw[A.under,XZ] at hu
  rw[VR] at h ⊢
  obtain ⟨ds,es,h1,h2,h3⟩:=h
  exact⟨ds,es,h1,bC.to ha p _ hu.1 h2,bC.to ha q _ hu.2 h3⟩
 | .ifc t x,c,hu,h=>by
  rw[A.under] at hu
  rw[VR] at h ⊢
  obtain ⟨d,h1,h2⟩:=h
  exact⟨d,h1,VR.to ha x d hu h2⟩
theorem bC.to {L:Nat} (ha:lT L H g H' g'):∀ (cs:List A) (ds:List Value),bh L cs=true->bC H g w cs ds->bC H' g' w cs ds
 | [],_,_,h=>by rw[bC] at h ⊢; exact h
 | a :: as,_,hu,h=>by
  rw[bh,XZ] at hu
  rw[bC] at h ⊢
  obtain ⟨d,ds',h1,h2,h3⟩:=h
  exact⟨d,ds',h1,VR.to ha a d hu.1 h2,bC.to ha as ds' hu.2 h3⟩
theorem bw.to {L:Nat} (ha:lT L H g H' g'):∀ (cs:List (List A)) (ds:List (List Value)),aR L cs=true->bw H g w cs ds->bw H' g' w cs ds
 | [],_,_,h=>by rw[bw] at h ⊢; exact h
 | a :: as,_,hu,h=>by
  rw[aR,XZ] at hu
  rw[bw] at h ⊢
  obtain ⟨d,ds',h1,h2,h3⟩:=h
  exact⟨d,ds',h1,bC.to ha a d hu.1 h2,bw.to ha as ds' hu.2 h3⟩
end
theorem mH.to {L:Nat} (ha:lT L H g H' g') {b:Nat} {B:az} (hb:b<L) (hB:H[b]? = some B) (hu:B.under L=true) (h:mH H g w b B):mH H' g' w b B:=by
 have hm:=ha.mu b B hb hB
 cases B with
 | box cs=>obtain ⟨k,arr,ty,h1,h2,h3⟩:=h; exact⟨k,arr,ty,hm.trans h1,h2,bC.to ha cs _ hu h3⟩
 | row wr es els=>cases wr with
  | true=>obtain ⟨ds,h1,h2,h3⟩:=h; exact⟨ds,bw.to ha els _ hu h1,h2,fun hp=>let ⟨k,arr,ty,e1,e2⟩:=h3 hp; ⟨k,arr,ty,hm.trans e1,e2⟩⟩
  | false=>
   have hga:=ha.ga b es els hb hB
   exact⟨by rw[hga]; exact bw.to ha els _ hu h.1,by rw[hga]; exact h.2⟩
 | rng st=>obtain ⟨k,h1,h2⟩:=h; exact⟨k,hm.trans h1,by rw[ha.lr b st hb hB]; exact h2⟩
 | mp _ _ _=>obtain ⟨k,arr,cl,h1,h2,h3,h4⟩:=h; exact⟨k,arr,cl,hm.trans h1,h2,h3,bC.to ha _ _ hu h4⟩
 | dead=>exact hm.trans h
 | hole=>exact hm.trans h
theorem Rel.back (hr:Rel H g w0 w) (hr':Rel H' g' w0 w') (he:Ext H g w H' g' w') (hst:g'.S=g.S) (hlow:∀ b,b<H.length->H'[b]? = H[b]?):Rel H g w0 w'/\Ext H g w H g w'/\lT H.length H' g' H g:=by
 have hbt:∀ (b:Nat) (B:az),H[b]? = some B->BT g w g' w' b B B:=fun b B hB=>by
  obtain ⟨B',hB',ht⟩:=he.blk b B hB
  rw[hlow b (X2.1 hB).1,hB] at hB'
  cases hB'
  exact ht
 have hmu:∀ (b:Nat) (B:az),H[b]? = some B->g'.mu b=g.mu b:=fun b B hB=>by
  have ht:=hbt b B hB
  cases B with
  | box _=>exact ht
  | row wr es els=>cases wr with
   | true=>exact ht.2.2
   | false=>exact(ht.2.2.2.2 rfl).1
  | rng _=>exact ht.1
  | mp _ _ _=>exact ht
  | dead=>
   have h1:g.mu b=none:=hr.blk b _ hB
   have h2:g'.mu b=none:=hr'.blk b .dead (by rw[hlow b (X2.1 hB).1]; exact hB)
   rw[h1,h2]
  | hole=>
   have h1:g.mu b=none:=hr.blk b _ hB
   have h2:g'.mu b=none:=hr'.blk b .hole (by rw[hlow b (X2.1 hB).1]; exact hB)
   rw[h1,h2]
 have hga:∀ (b es:Nat) (els:List (List A)),H[b]? = some (.row false es els)->g'.ga b=g.ga b:=fun b es els hB=>by
  obtain ⟨_,⟨r,e1⟩,e2,_,_⟩:=hbt b _ hB
  have h2:=(hr'.blk b _ (by rw[hlow b (X2.1 hB).1]; exact hB)).len
  rw[e1,Ye,e2] at h2
  have:r=[]:=Yl j6
  rw[e1,this,YG]
 have ag:lT H.length H' g' H g:=by
  refine⟨fun k o hs=>⟨hst ▸ hs.1,fun b hb=>?_⟩,fun b hb=>(hlow b hb).symm,fun b B hb hB=>(hmu b B (by rw[<-hlow b hb]; exact hB)).symm,fun b es els hb hB=>(hga b es els (by rw[<-hlow b hb]; exact hB)).symm,fun b st hb hB=>(show g'.mu b=g.mu b/\g'.lr b=g.lr b from hbt b (.rng st) (by rw[<-hlow b hb]; exact hB)).2.symm⟩
  have hlt:=(hr.dom b k hb).1
  have hB:=X3 hlt
  obtain ⟨es,els,h1,h2⟩:=hs.2 b ((hmu b _ hB).trans hb)
  exact⟨es,els,by rw[<-hlow b hlt]; exact h1,h2⟩
 refine⟨⟨hr'.below,fun b k hb=>?_,hr.inj,(fun k o hk=>hst ▸ hr'.out k o hk),hr.own,fun b B hB=>?_⟩,⟨fun k o v hs hc=>⟨(he.cell k o v hs hc).1,hs⟩,fun b B hB=>⟨B,hB,?_⟩,he.kept,he.size,fun k arr cl hs hm=>⟨(he.map k arr cl hs hm).1,hs⟩,he.obj,fun b k h=>.inl ⟨b,h⟩⟩,ag⟩
 ·have h1:=hr.dom b k hb
  have h2:=hr'.dom b k ((hmu b _ (X3 h1.1)).trans hb)
  exact⟨h1.1,h1.2.1,h2.2.2⟩
 ·have hlt:=(X2.1 hB).1
  exact mH.to ag hlt (by rw[hlow b hlt]; exact hB) (hr.blk b B hB).under (hr'.blk b B (by rw[hlow b hlt]; exact hB))
 ·have ht:=hbt b B hB
  cases B with
  | box _=>rfl
  | row wr es els=>cases wr with
   | true=>exact⟨rfl,rfl,rfl⟩
   | false=>exact⟨rfl,⟨[],r7⟩,ht.2.2.1,X1 _,fun _=>⟨rfl,(ht.2.2.2.2 rfl).2⟩⟩
  | rng _=>exact⟨rfl,rfl⟩
  | mp _ _ _=>rfl
  | dead=>trivial
  | hole=>trivial
def Gh.cut (g:Gh) (L:Nat):Gh:={ g with mu:=fun b=>if b<L then g.mu b else none }
theorem Rel.cut (hr:Rel H g w0 w) {L:Nat} (hL:L<=H.length) (hu:∀ (b:Nat) B,b<L->H[b]? = some B->B.under L=true):Rel (H.take L) (g.cut L) w0 w/\lT L H g (H.take L) (g.cut L):=by
 have hmu:∀ {b k},(g.cut L).mu b=some k->b<L/\g.mu b=some k:=fun {b k} h=>by
  simp only[Gh.cut] at h
  split at h
  ·rename_i hb; exact⟨hb,h⟩
  ·cases h
 have hget:∀ b,b<L->(H.take L)[b]? = H[b]?:=fun b hb=>by rw[Yi,X4 hb]
 have ag:lT L H g (H.take L) (g.cut L):=by
  refine⟨fun k o hs=>⟨hs.1,fun b hb=>?_⟩,fun b hb=>hget b hb,fun b B hb _=>by simp[Gh.cut,hb],fun b es els _ _=>rfl,fun b st _ _=>rfl⟩
  obtain ⟨h1,h2⟩:=hmu hb
  obtain ⟨es,els,h3,h4⟩:=hs.2 b h2
  exact⟨es,els,by rw[hget b h1]; exact h3,h4⟩
 refine⟨⟨hr.below,fun b k hb=>?_,fun b c k h1 h2=>hr.inj b c k (hmu h1).2 (hmu h2).2,hr.out,(fun b k o h=>hr.own b k o (hmu h).2),fun b B hB=>?_⟩,ag⟩
 ·obtain ⟨h1,h2⟩:=hmu hb
  have:=hr.dom b k h2
  exact⟨u3,this.2⟩
 ·have hb:b<L:=by have:=(X2.1 hB).1; rw[YV] at this; omega
  rw[hget b hb] at hB
  exact mH.to ag hb hB (hu b B hb hB) (hr.blk b B hB)
theorem Ext.cut {H0:aB} {gs:Gh} {ws:World} (he:Ext H0 gs ws H g w) {L:Nat} (hL:H0.length<=L):Ext H0 gs ws (H.take L) (g.cut L) w:=by
 have hst:∀ {k o},fq H g k o->fq (H.take L) (g.cut L) k o:=fun {k o} h2=>by
  refine⟨h2.1,fun b hb=>?_⟩
  simp only[Gh.cut] at hb
  split at hb
  ·rename_i hlt
   obtain ⟨es,els,h3,h4⟩:=h2.2 b hb
   exact⟨es,els,by rw[Yi,X4 hlt]; exact h3,h4⟩
  ·cases hb
 refine⟨fun k o v hs hc=>?_,fun b B hB=>?_,he.kept,he.size,fun k arr cl hs hm=>⟨(he.map k arr cl hs hm).1,hst (he.map k arr cl hs hm).2⟩,he.obj,fun b k h=>he.fresh b k (by
  simp only[Gh.cut] at h
  split at h
  ·exact h
  ·cases h)⟩
 ·obtain ⟨h1,h2⟩:=he.cell k o v hs hc
  refine⟨h1,h2.1,fun b hb=>?_⟩
  simp only[Gh.cut] at hb
  split at hb
  ·rename_i hlt
   obtain ⟨es,els,h3,h4⟩:=h2.2 b hb
   exact⟨es,els,by rw[Yi,X4 hlt]; exact h3,h4⟩
  ·cases hb
 ·obtain ⟨B',hB',ht⟩:=he.blk b B hB
  have hb:b<L:=Yh (X2.1 hB).1 hL
  refine⟨B',by rw[Yi,X4 hb]; exact hB',?_⟩
  have e:(g.cut L).mu b=g.mu b:=by simp[Gh.cut,hb]
  cases B with
  | box _=>cases B' with
   | box _=>exact e.trans ht
   | row wr _ _=>exact ht
   | rng _=>exact ht
   | mp _ _ _=>exact ht
   | dead=>trivial
   | hole=>exact ht
  | row wr es els=>cases wr with
   | true=>cases B' with
    | box _=>exact ht
    | rng _=>exact ht
    | mp _ _ _=>exact ht
    | row wr' es' els'=>cases wr' with
     | true=>exact⟨ht.1,ht.2.1,e.trans ht.2.2⟩
     | false=>exact ht
    | dead=>trivial
    | hole=>exact ht
   | false=>cases B' with
    | box _=>exact ht
    | rng _=>exact ht
    | mp _ _ _=>exact ht
    | row wr' es' els'=>cases wr' with
     | true=>exact ht
     | false=>
      obtain ⟨h1,h2,h3,h4,h5⟩:=ht
      exact⟨h1,h2,h3,h4,fun hl=>⟨e.trans (h5 hl).1,(h5 hl).2⟩⟩
    | dead=>trivial
    | hole=>exact ht
  | rng st=>cases B' with
   | rng st'=>exact⟨e.trans ht.1,ht.2⟩
   | dead=>trivial
   | hole=>exact ht
   | box _=>exact ht
   | mp _ _ _=>exact ht
   | row wr _ _=>cases wr<;>exact ht
  | mp _ _ _=>cases B' with
   | mp _ _ _=>exact e.trans ht
   | rng _=>exact ht
   | dead=>trivial
   | hole=>exact ht
   | box _=>exact ht
   | row wr _ _=>cases wr<;>exact ht
  | dead=>cases B'<;>exact ht
  | hole=>trivial
end
section
open Go.RowKit
variable {H H1:aB} {g g1:Gh} {w0 w w1:World}
def Gh.rZ (g:Gh) (H:aB) (m:Nat):Gh:={ g.cut m with S:=fun k o=>g.S k o/\∀ c,m<=c->g.mu c=some k->∃ es els,H[c]? = some (.row false es els)/\o<es*els.length }
theorem lL {g:Gh} {m b k:Nat} (h:(g.cut m).mu b=some k):b<m/\g.mu b=some k:=by
 simp only[Gh.cut] at h
 split at h
 ·rename_i hb; exact⟨hb,h⟩
 ·cases h
theorem Rel.rZ (hr:Rel H g w0 w) {m:Nat} (hm:m<=H.length) (hu:∀ (b:Nat) B,b<m->H[b]? = some B->B.under m=true):Rel (H.take m) (g.rZ H m) w0 w/\lT m H g (H.take m) (g.rZ H m):=by
 have hget:∀ b,b<m->(H.take m)[b]? = H[b]?:=fun b hb=>by rw[Yi,X4 hb]
 have ag:lT m H g (H.take m) (g.rZ H m):=by
  refine⟨fun k o hs=>⟨⟨hs.1,fun c _ hc=>hs.2 c hc⟩,fun b hb=>?_⟩,fun b hb=>hget b hb,fun b B hb _=>by simp[Gh.rZ,Gh.cut,hb],fun b es els _ _=>rfl,fun b st _ _=>rfl⟩
  obtain ⟨h1,h2⟩:=lL hb
  obtain ⟨es,els,h3,h4⟩:=hs.2 b h2
  exact⟨es,els,by rw[hget b h1]; exact h3,h4⟩
 refine⟨⟨hr.below,fun b k hb=>?_,fun b c k h1 h2=>hr.inj b c k (lL h1).2 (lL h2).2,fun k o hk=>⟨hr.out k o hk,fun c _ hc=>absurd (hr.dom c k hc).2.2 j6⟩,fun b k o hb=>⟨hr.own b k o (lL hb).2,fun c hc hck=>?_⟩,fun b B hB=>?_⟩,ag⟩
 ·obtain ⟨h1,h2⟩:=lL hb
  have:=hr.dom b k h2
  exact⟨u3,this.2⟩
 ·obtain ⟨h1,h2⟩:=lL hb
  have:=hr.inj b c k h2 hck
  omega
 ·have hb:b<m:=by have:=(X2.1 hB).1; rw[YV] at this; omega
  rw[hget b hb] at hB
  exact mH.to ag hb hB (hu b B hb hB) (hr.blk b B hB)
theorem Rel.join (hr:Rel H g w0 w) {m:Nat} (hm:m<=H.length) (hr1:Rel H1 g1 w0 w1) (he:Ext (H.take m) (g.rZ H m) w H1 g1 w1) (hm1:m<=H1.length) (hS:g1.S=(g.rZ H m).S) (hu:∀ (b:Nat) B,b<m->H1[b]? = some B->B.under m=true) :
  ∃ g2,Rel (H1.take m++H.drop m) g2 w0 w1/\Ext H g w (H1.take m++H.drop m) g2 w1/\g2.S=g.S/\lT m H1 g1 (H1.take m++H.drop m) g2:=by
 have lo:∀ b,b<m->(H1.take m++H.drop m)[b]? = H1[b]?:=fun b hb=>by
  rw[Yf u3,Yi,X4 hb]
 have hi:∀ b,m<=b->(H1.take m++H.drop m)[b]? = H[b]?:=fun b hb=>by
  rw[Yo u3,YV,Zj,Zn hm1]
  congr 1; omega
 have tk:∀ b,b<m->(H.take m)[b]? = H[b]?:=fun b hb=>by rw[Yi,X4 hb]
 let g2:Gh:={ mu:=fun b=>if b<m then g1.mu b else g.mu b,ga:=fun b=>if b<m then g1.ga b else g.ga b,S:=g.S,lr:=fun b=>if b<m then g1.lr b else g.lr b }
 have mlo:∀ b,b<m->g2.mu b=g1.mu b:=fun b hb=>X4 hb
 have mhi:∀ b,m<=b->g2.mu b=g.mu b:=fun b hb=>X8 j6
 have glo:∀ b,b<m->g2.ga b=g1.ga b:=fun b hb=>X4 hb
 have ghi:∀ b,m<=b->g2.ga b=g.ga b:=fun b hb=>X8 j6
 have llo:∀ b,b<m->g2.lr b=g1.lr b:=fun b hb=>X4 hb
 have lhi:∀ b,m<=b->g2.lr b=g.lr b:=fun b hb=>X8 j6
 have nof:∀ {c k},m<=c->g.mu c=some k->∀ b,(g.rZ H m).mu b≠some k:=fun {c k} hc hk b hb=>by
  obtain ⟨h1,h2⟩:=lL hb
  have:=hr.inj b c k h2 hk
  omega
 have same:∀ {c k},m<=c->g.mu c=some k->w1.heap[k]? = w.heap[k]?:=fun {c k} hc hk=>he.obj k (hr.dom c k hk).2.2 (nof hc hk)
 have hne:∀ {b c k},b<m->m<=c->g1.mu b=some k->g.mu c=some k->False:=fun {b c k} _ hc hb hk=>by
  rcases he.fresh b k hb with ⟨c',hc'⟩ | hl
  ·exact nof hc hk c' hc'
  ·have:=(hr.dom c k hk).2.2
   omega
 have toB:∀ {k o},fq H g k o->fq (H.take m) (g.rZ H m) k o:=fun {k o} hs=>⟨⟨hs.1,fun c _ hc=>hs.2 c hc⟩,fun b hb=>by
  obtain ⟨h1,h2⟩:=lL hb
  obtain ⟨es,els,h3,h4⟩:=hs.2 b h2
  exact⟨es,els,by rw[tk b h1]; exact h3,h4⟩⟩
 have stab:∀ k o,fq H1 g1 k o->fq (H1.take m++H.drop m) g2 k o:=fun k o hs=>by
  have h1:(g.rZ H m).S k o:=by rw[<-hS]; exact hs.1
  refine⟨h1.1,fun b hb=>?_⟩
  by_cases e:b<m
  ·rw[mlo b e] at hb
   obtain ⟨es,els,h3,h4⟩:=hs.2 b hb
   exact⟨es,els,by rw[lo b e]; exact h3,h4⟩
  ·rw[mhi b j6] at hb
   obtain ⟨es,els,h3,h4⟩:=h1.2 b j6 hb
   exact⟨es,els,by rw[hi b j6]; exact h3,h4⟩
 have ag:lT m H1 g1 (H1.take m++H.drop m) g2:=⟨stab,lo,fun b B hb _=>mlo b hb,fun b es els hb _=>glo b hb,fun b st hb _=>llo b hb⟩
 have hx:Ext H g w (H1.take m++H.drop m) g2 w1:=by
  refine⟨fun k o v hs hc=>?_,fun b B hB=>?_,he.kept,he.size,fun k arr cl hs hmm=>?_,fun k hk hn=>he.obj k hk fun b hb=>hn b (lL hb).2,fun b k hb=>?_⟩
  ·obtain ⟨h1,h2⟩:=he.cell k o v (toB hs) hc
   exact⟨h1,stab k o h2⟩
  ·by_cases e:b<m
   ·obtain ⟨B',hB',ht⟩:=he.blk b B (by rw[tk b e]; exact hB)
    refine⟨B',by rw[lo b e]; exact hB',?_⟩
    have hm0:(g.rZ H m).mu b=g.mu b:=X4 e
    have hm2:=mlo b e
    have hg2:=glo b e
    have hl2:=llo b e
    unfold BT at ht ⊢
    rw[hm2,hg2,hl2,<-hm0]
    exact ht
   ·refine⟨B,by rw[hi b j6]; exact hB,?_⟩
    have hm2:=mhi b j6
    have hg2:=ghi b j6
    cases B with
    | box _=>exact hm2
    | row wr es els=>cases wr with
     | true=>exact⟨rfl,rfl,hm2⟩
     | false=>exact⟨rfl,⟨[],by rw[hg2]; simp⟩,(hr.blk b _ hB).len,X1 _,fun _=>⟨hm2,fun k arr ty hk ha=>⟨arr,(same j6 hk).trans ha,X1 _⟩⟩⟩
    | rng _=>exact⟨hm2,lhi b j6⟩
    | mp _ _ _=>exact hm2
    | dead=>trivial
    | hole=>trivial
  ·obtain ⟨h1,h2⟩:=he.map k arr cl (toB hs) hmm
   exact⟨h1,stab k 0 h2⟩
  ·by_cases e:b<m
   ·rw[mlo b e] at hb
    rcases he.fresh b k hb with ⟨c,hc⟩ | hl
    ·exact .inl ⟨c,(lL hc).2⟩
    ·exact .inr hl
   ·rw[mhi b j6] at hb
    exact .inl ⟨b,hb⟩
 refine⟨g2,⟨hr1.below,fun b k hb=>?_,fun b c k h1 h2=>?_,fun k o hk=>hr.out k o (Yp he.size hk),hr.zA hx,fun b B hB=>?_⟩,hx,rfl,ag⟩
 ·by_cases e:b<m
  ·rw[mlo b e] at hb
   have:=hr1.dom b k hb
   exact⟨XN,this.2⟩
  ·rw[mhi b j6] at hb
   have:=hr.dom b k hb
   exact⟨XN,this.2.1,Yh this.2.2 he.size⟩
 ·by_cases e1:b<m
  ·by_cases e2:c<m
   ·rw[mlo b e1] at h1; rw[mlo c e2] at h2; exact hr1.inj b c k h1 h2
   ·rw[mlo b e1] at h1; rw[mhi c j6] at h2; exact(hne e1 j6 h1 h2).elim
  ·by_cases e2:c<m
   ·rw[mhi b j6] at h1; rw[mlo c e2] at h2; exact(hne e2 j6 h2 h1).elim
   ·rw[mhi b j6] at h1; rw[mhi c j6] at h2; exact hr.inj b c k h1 h2
 ·by_cases e:b<m
  ·rw[lo b e] at hB
   exact mH.to ag e hB (hu b B e hB) (hr1.blk b B hB)
  ·rw[hi b j6] at hB
   have h:=hr.blk b B hB
   have hm2:=mhi b j6
   have hg2:=ghi b j6
   cases B with
   | box cs=>obtain ⟨k,arr,ty,h1,h2,h3⟩:=h; exact⟨k,arr,ty,hm2.trans h1,(same j6 h1).trans h2,bC.ext hx _ _ h3⟩
   | row wr es els=>cases wr with
    | true=>
     obtain ⟨ds,h1,h2,h3⟩:=h
     exact⟨ds,bw.ext hx _ _ h1,h2,fun hp=>let ⟨k,arr,ty,e1,e2,e3⟩:=h3 hp; ⟨k,arr,ty,hm2.trans e1,(same j6 e1).trans e2,e3⟩⟩
    | false=>
     obtain ⟨h1,h2⟩:=h
     exact⟨by rw[hg2]; exact bw.ext hx _ _ h1,by rw[hg2]; exact h2⟩
   | rng st=>obtain ⟨k,h1,h2⟩:=h; exact⟨k,hm2.trans h1,by rw[lhi b j6]; exact(same j6 h1).trans h2⟩
   | mp _ _ _=>obtain ⟨k,arr,cl,h1,h2,h3,h4⟩:=h; exact⟨k,arr,cl,hm2.trans h1,(same j6 h1).trans h2,h3,bC.ext hx _ _ h4⟩
   | dead=>exact hm2.trans h
   | hole=>exact hm2.trans h
end
section
open Go.RowKit
variable {H H':aB} {g g':Gh} {w0 w w':World} {cx:Cx} {s:St} {a:Act} {F:Fence} {n:Nat} {N lo:Nat} {mb:Mb} {H0:aB} {gs:Gh} {ws:World} {Bs:aB->Gh->World->Prop}
def qT (cx:Cx) (Bs:aB->Gh->World->Prop) (s:St) (o:Oper) (x:A):Prop:=∀ (F:Fence) (n:Nat) (g:Gh) (w0 W:World) (ev:Operand->Value),g9 F->uK cx s g w0 o.op ev W->(∀ (G:Nat) (vs:List Value),cx.glob G=some vs->bQ s.H g W G 0 vs)->Bs s.H g W ->
 zX F n cx.P o ev W fun v W'=>VR s.H g W' x v/\Rel s.H g w0 W'/\Ext s.H g W s.H g W'
theorem E1 {β:Type} {f lo:Nat} {dst:Option Nat} {c:Call} (k:A->aB->Option β):qq cx f lo dst c s k=(qq cx f lo dst c s (fun x H=>some (x,H))).bind fun r=>k r.1 r.2:=by
 unfold qq
 split<;>simp[Ys]
theorem iZ {β:Type} {f lo:Nat} {o:Oper} (k:A->aB->Option β):b7 cx f lo o s k=(b7 cx f lo o s (fun x H=>some (x,H))).bind fun r=>k r.1 r.2:=by
 unfold b7
 split
 case h_27=>exact E1 k
 all_goals simp[Ys]
theorem tu {f lo:Nat} {o:Oper} {r:A×aB} (h:b7 cx f lo o s (fun x H=>some (x,H))=some r) (hh:xj o.op=false):∃ x,r=(x,s.H):=by
 unfold b7 at h
 split at h
 all_goals first
  | cases h; done
  | (rename_i ho; rw[ho] at hh; cases hh; done)
  | (cases h; exact⟨_,rfl⟩)
  | (obtain ⟨y,_,h⟩:=bH h; cases h; exact⟨_,rfl⟩)
theorem kP {P:Program} {o:Oper} {ev:Operand->Value} {c:Value} {Rr:Value->World->Prop} (h:(execOp ev o).run P w=.ok (.value c) w'∨((execOp ev o).run P w=.ok .skip w'/\c=undef)) (hr:Rr c w'):zX F n P o ev w Rr:=by
 unfold zX
 rcases h with h | ⟨h,rfl⟩<;>rw[h]<;>exact hr
theorem rT {f lo:Nat} {o:Oper} {x:A} (h:b7 cx f lo o s (fun x H=>some (x,H))=some (x,s.H)):qT cx Bs s o x:=by
 intro F n g w0 W ev hF hs hgl hbs
 obtain ⟨c,w',x',H',g',e1,e2,e3,e4,e5,e6,e7,e8⟩:=lj hs h
 cases e2
 obtain ⟨r1,r2,r3⟩:=Rel.back hs.rel e3 e4 e8 (fun _ _=>rfl)
 exact kP e1 ⟨VR.to r3 x c (VR.under x c e5) e5,r1,r2⟩
theorem nV {call:bj} (hcall:ek cx Bs call) (horc:kC cx) {f:Nat} {o:Oper} {x:A} (h:il cx call f o s=some x):qT cx Bs s o x:=by
 have direct:∀ {lo:Nat},xj o.op=false->b7 cx f lo o s (fun x _=>some x)=some x->qT cx Bs s o x:=fun {lo} hh h=>by
  rw[iZ] at h
  obtain ⟨q,h1,h2⟩:=bH h
  obtain ⟨x',rfl⟩:=tu h1 hh
  cases h2
  exact rT h1
 unfold il at h
 split at h
 ·rename_i c x y ho
  obtain ⟨b,hb,h⟩:=qj h
  intro F n g w0 W ev hF hs hgl hbs
  have hc:=hs.one c (by rw[ho]; simp[Op.operands])
  have hx:=hs.one x (by rw[ho]; simp[Op.operands])
  have hy:=hs.one y (by rw[ho]; simp[Op.operands])
  rw[hb,VR] at hc
  refine kP (c:=if b then ev x else ev y) (w':=W) (.inl ?_) ⟨by cases b<;>cases h<;>assumption,hs.rel,Ext.refl hs.rel⟩
  unfold execOp
  rw[ho]
  simp[hc,asBool]
 ·cases h
 ·cases h
 ·cases h
 ·cases h
 ·cases h
 ·cases h
 ·cases h
 ·cases h
 ·rename_i c ho
  rw[bG] at h
  split at h
  ·rw[wV] at h
   replace h:=bH h
   obtain ⟨x0,h,hx0⟩:=h
   cases hx0
   replace h:=bH h
   obtain ⟨⟨k',args⟩,hce,h⟩:=h
   rw[bG] at h
   split at h
   ·rename_i hiso
    have hy:=h
    intro F n g w0 W ev hF hs hgl hbs
    obtain ⟨hcb,cargs,hrun,hv⟩:=lh hs hce
    unfold zX
    rw[hrun]
    have hr:=hs.rel
    have hst:∀ k o,W.heap.size<=k->fq s.H g k o:=fun k o hk=>⟨hr.out k o hk,fun b hb=>absurd (hr.dom b k hb).2.2 j6⟩
    have hcallok:=horc k' _ x (.inr (.inl hiso)) hy (fq s.H g) W cargs hst (fun G vs hG j v hj=>let ⟨e1,e2⟩:=hgl G vs hG j v hj; ⟨e1,e2,fun b hb=>by cases hb⟩) (zQ hr hv)
    refine(iW hF hcallok).mono ?_
    rintro e w' ⟨c',rfl,hb,hvr⟩
    exact⟨VR.back (fun _ _ h=>h) hvr,hr.jB hb,Ext.below hr hb⟩
   ·replace h:=bH h
    obtain ⟨⟨out,H'⟩,hy,h⟩:=h
    cases out with
    | pan x=>cases h
    | ret y=>
     obtain ⟨hu,h⟩:=br (show (bif A.under s.H.length y then some y else none)=some x from h)
     cases h
     intro F n g w0 W ev hF hs hgl hbs
     obtain ⟨hcb,cargs,hrun,hv⟩:=lh hs hce
     unfold zX
     rw[hrun]
     have hci:CallsIn F.plain (n - 1) cx.P k' cargs.toArray W _:=hcall.fn k' args s.H s.H.length (.ret x,H') (jx hcb) hy F.plain (n - 1) g w0 W cargs hF rfl hbs hs.rel hgl hv
     have hci':CallsIn F (n - 1) cx.P k' cargs.toArray W _:=hci
     refine hci'.mono ?_
     rintro e w' ⟨g',e1,e2,e3,e4,e6,e5⟩
     cases e with
     | returned c'=>
      obtain ⟨r1,r2,r3⟩:=Rel.back hs.rel e1 e2 e6 (fun b hb=>e4 b hb hb)
      exact⟨VR.to r3 x c' hu e5,r1,r2⟩
     | panicked _=>exact e5.elim
     | outgrown=>exact e5.elim
  ·split at h
   ·rename_i hcl
    rw[iZ] at h
    obtain ⟨q,h1,h2⟩:=bH h
    have hq:∃ x,q=(x,s.H):=by
     unfold b7 at h1
     rw[ho] at h1
     simp only at h1
     unfold qq at h1
     split at h1
     ·obtain ⟨y,_,h1⟩:=bH h1; cases h1; exact⟨_,rfl⟩
     ·rename_i he _ _; rw[hcl] at he; cases he
     ·rename_i he _ _; rw[hcl] at he; cases he
     ·rename_i he _; rw[hcl] at he; cases he
     ·rename_i he _; rw[hcl] at he; cases he
     ·cases h1
    obtain ⟨x',rfl⟩:=hq
    cases h2
    exact rT h1
   ·cases h
 ·rename_i h1 h2 h3 h4 h5 h6 h8 h9 h10 h7
  refine direct ?_ h
  cases ho:o.op<;>first
   | rfl
   | exact absurd ho (by intro hh; first | exact h2 _ hh | exact h3 _ _ hh | exact h4 _ _ _ hh | exact h5 _ _ _ hh | exact h6 _ hh | exact h7 _ hh | exact h8 _ _ hh | exact h9 _ _ _ _ hh | exact h10 _ _ _ _ hh)
def Fact (cx:Cx) (Bs:aB->Gh->World->Prop) (ops:Array Oper) (s:St) (o:Oper) (x:A):Prop:=
 (o.guard=none/\qT cx Bs s o x)∨∃ t want,cz ops o=some (t,want)/\((∃ b,look s.fr t=.v (.bool b)/\if b==want then qT cx Bs s o x else x=.v undef)∨((∃ y,look s.fr t=.v (.tuple y))/\x=.v undef))
theorem zU {o:Oper} {next:Act->World->Prop} {Q:Exit->Act->World->Prop} {Rr:Value->World->Prop} (hF:g9 F) (hnd:∀ c,o.op≠.defer c) (h:zX F n cx.P o a.eval w Rr) (hn:∀ v w',Rr v w'->next (a.put o.dst v) w'):o.wpIn F n cx.P a w next Q:=by
 refine eh hF hnd ?_
 unfold zX at h
 split at h
 ·rename_i hr; rw[hr]; exact hn _ _ h
 ·rename_i hr; rw[hr]; exact hn _ _ h
 ·rename_i hr
  rw[hr,Oper.uponIn_enter]
  refine⟨fun hd=>(by rw[hF.1] at hd; cases hd),?_⟩
  refine h.mono ?_
  intro e w' he
  cases e with
  | returned c=>exact hn _ _ he
  | panicked _=>exact he.elim
  | outgrown=>exact he.elim
 ·rename_i hr
  rw[hr]
  exact⟨fun hd=>(by rw[hF.1] at hd; cases hd),h.mono hn⟩
 ·rename_i hr
  rw[hr]
  refine⟨fun hd=>(by rw[hF.1] at hd; cases hd),?_⟩
  refine h.mono ?_
  intro e w' he
  cases e with
  | returned c=>exact hn _ _ he
  | panicked _=>exact he.elim
  | outgrown=>exact he.elim
 ·exact h.elim
theorem xa {call:bj} {f:Nat} {o:Oper} {x:A} (h:il cx call f o s=some x):∀ c,o.op≠.defer c:=fun c hc=>by
 unfold il at h; rw[hc] at h; exact nU (show b7 cx f 0 o s (fun a _=>some a)=some x from h) c hc
theorem gm {call:bj} (hcall:ek cx Bs call) (hb0:Bs H0 gs ws) (horc:kC cx) (hF:g9 F) {f:Nat} {ops:Array Oper} {k:E->St->Option R} {r:R} {Q:Exit->Act->World->Prop}
  (hk:∀ s' g' a' w',Good cx N mb lo H0 gs ws w0 s' g' a' w'->k .normal s'=some r->Q .normal a' w')
  (hp:∀ x s' g' a' w' c,Good cx N mb lo H0 gs ws w0 s' g' a' w'->VR s'.H g' w' x c->k (.pan x) s'=some r->Q (.panic [{ v:=c,recovered:=false }]) a' w') :
  ∀ (os:List Oper) (s:St) (g:Gh) (a:Act) (w:World),(∀ o∈os,∀ d,o.dst=some d->d<N)->Good cx N mb lo H0 gs ws w0 s g a w->gk cx call f lo ops os s k=some r->wpListIn F n cx.P ops Q os a w
 | [],s,g,a,w,_,hg,h=>hk s g a w hg h
 | o :: os,s,g,a,w,hd,hg,h=>by
  have hd0:=hd o r7
  have ih:=fun s g a w hg h=>gm (f:=f) (ops:=ops) hcall hb0 horc hF hk hp os s g a w (fun o ho=>hd o (by simp[ho])) hg h
  have one:tt cx call f lo o s (fun s=>gk cx call f lo ops os s k) (fun a s=>k (.pan a) s)=some r->o.wpIn F n cx.P a w (wpListIn F n cx.P ops Q os) Q:=fun h=>
   AI hcall horc hF hb0 hg hd0 h (fun s' g' a' w' hg' h'=>ih s' g' a' w' hg' h') (fun x s' g' w' c hg' hv h'=>hp x s' g' a w' c hg' hv h')
  have val:∀ {x:A},il cx call f o s=some x->gk cx call f lo ops os (s.put o.dst x) k=some r->o.wpIn F n cx.P a w (wpListIn F n cx.P ops Q os) Q:=fun {x} hx h=>
   zU hF (xa hx) (nV hcall horc hx F n g w0 w a.eval hF (hg.sr.Un o.op) hg.sr.gl (hcall.up _ _ _ _ _ _ hb0 hg.ext)) fun v w' hv=>
    ih _ _ _ _ (hg.step (H':=s.H) hv.2.1 hv.2.2 (X1 _) (fun _ _ _=>rfl) rfl hv.1 hd0) h
  have skip:gk cx call f lo ops os (s.put o.dst (.v undef)) k=some r->(∀ f,o.about cx.P w a.eval=some f->F.fn f)/\wpListIn F n cx.P ops Q os (a.put o.dst undef) w:=fun h=>
   ⟨fun f _=>hF.2.1 f,ih _ _ _ _ (hg.same s8 hd0) h⟩
  unfold gk at h
  unfold wpListIn
  split at h
  ·rename_i hgd
   rw[X4 (by simp[Region.wanted,hgd])]
   exact one h
  ·rename_i x hgd
   split at h
   ·cases h
   ·rename_i t want hgs
    have hv:=hg.sr.fr t
    rw[bG] at h
    split at h
    ·obtain ⟨x,h0,h⟩:=bH h
     rcases n4 h0 with ⟨b,hb,h0⟩ | ⟨y,hb,h0⟩
     ·rw[hb,VR] at hv
      rw[kM hgs hv]
      split at h0
      ·rename_i hbw
       rw[X4 hbw]
       exact val h0 h
      ·rename_i hbw
       rw[X8 hbw]
       cases h0
       exact skip h
     ·rw[hb,VR] at hv
      rw[m7 hgs hv]
      cases h0
      rw[X8 r7]
      exact skip h
    ·rcases n4 h with ⟨b,hb,h⟩ | ⟨y,hb,h⟩
     ·rw[hb,VR] at hv
      rw[kM hgs hv]
      split at h
      ·rename_i hbw
       rw[X4 hbw]
       exact one h
      ·rename_i hbw
       rw[X8 hbw]
       exact skip h
     ·rw[hb,VR] at hv
      rw[m7 hgs hv,X8 r7]
      exact skip h
theorem zr (s:St) (dst:Option Nat) (x:A) (u:Nat) (h:dst≠some u):look (s.put dst x).fr u=look s.fr u:=by
 cases dst with
 | none=>rfl
 | some d=>
  show look ((d,x) :: s.fr) u=_
  rw[eT,X8 (fun e=>h (by rw[e]))]
theorem Dn (s:St) (d:Nat) (x:A):look (s.put (some d) x).fr d=x:=by
 show look ((d,x) :: s.fr) d=_
 rw[eT,X4 rfl]
theorem tx {call:bj} (hcall:ek cx Bs call) (horc:kC cx) {f:Nat} {ops:Array Oper} {k:St->Option R} {r:R}:∀ (os:List Oper) (s:St),jM cx call f ops os s k=some r ->
  ∃ z,k z=some r/\z.H=s.H/\(∀ t,(∀ o∈os,o.dst≠some t)->look z.fr t=look s.fr t) ∧
   ∀ (i:Nat) o,os[i]? = some o->∃ si x,si.H=s.H/\(∀ t,(∀ (j:Nat) o',j<i->os[j]? = some o'->o'.dst≠some t)->look si.fr t=look s.fr t)/\(∀ t,(∀ (j:Nat) o',i<=j->os[j]? = some o'->o'.dst≠some t)->look si.fr t=look z.fr t) ∧
    (∀ t,o.dst=some t->(∀ (j:Nat) o',i<j->os[j]? = some o'->o'.dst≠some t)->look z.fr t=x)/\Fact cx Bs ops si o x
 | [],s,h=>⟨s,h,rfl,fun _ _=>rfl,fun i o h=>by simp at h⟩
 | o :: os,s,h=>by
  have fin:∀ (s':St) (x:A),s'.H=s.H->(∀ u,look s'.fr u=look s.fr u)->Fact cx Bs ops s' o x->jM cx call f ops os (s'.put o.dst x) k=some r ->
    ∃ z,k z=some r/\z.H=s.H/\(∀ t,(∀ o'∈o :: os,o'.dst≠some t)->look z.fr t=look s.fr t) ∧
     ∀ (i:Nat) o1,(o :: os)[i]? = some o1->∃ si x,si.H=s.H/\(∀ t,(∀ (j:Nat) o',j<i->(o :: os)[j]? = some o'->o'.dst≠some t)->look si.fr t=look s.fr t)/\(∀ t,(∀ (j:Nat) o',i<=j->(o :: os)[j]? = some o'->o'.dst≠some t)->look si.fr t=look z.fr t) ∧
      (∀ t,o1.dst=some t->(∀ (j:Nat) o',i<j->(o :: os)[j]? = some o'->o'.dst≠some t)->look z.fr t=x)/\Fact cx Bs ops si o1 x:=by
   intro s' x hH hl hf h
   obtain ⟨z,h1,h2,h3,h4⟩:=tx hcall horc os (s'.put o.dst x) h
   have hpH:(s'.put o.dst x).H=s.H:=by rw[<-hH]; cases o.dst<;>rfl
   have hz:∀ t,(∀ o'∈o :: os,o'.dst≠some t)->look z.fr t=look s.fr t:=fun t ht=>by
    rw[h3 t (fun o' ho'=>ht o' (by simp[ho'])),zr _ _ _ _ (ht o r7),hl]
   refine⟨z,h1,h2.trans hpH,hz,fun i o1 ho1=>?_⟩
   cases i with
   | zero=>
    simp at ho1
    subst ho1
    refine⟨s',x,hH,fun t _=>hl t,fun t ht=>?_,fun t hd ht=>?_,hf⟩
    ·have hall:∀ o'∈o :: os,o'.dst≠some t:=fun o' ho'=>by
      obtain ⟨j,hj,rfl⟩:=YR ho'
      exact ht j _ (YT _) (X3 hj)
     rw[hz t hall,hl]
    ·rw[h3 t (fun o' ho'=>by
      obtain ⟨j,hj,rfl⟩:=YR ho'
      exact ht (j+1) _ j6 r7),hd,Dn]
   | succ i=>
    obtain ⟨si,x1,g1,g2,g3,g4,g5⟩:=h4 i o1 (by simpa using ho1)
    refine⟨si,x1,g1.trans hpH,fun t ht=>?_,fun t ht=>?_,fun t hd ht=>?_,g5⟩
    ·rw[g2 t (fun j o' hj ho'=>ht (j+1) o' j6 (by simpa using ho')),zr _ _ _ _ (ht 0 o j6 rfl),hl]
    ·exact g3 t (fun j o' hj ho'=>ht (j+1) o' j6 (by simpa using ho'))
    ·exact g4 t hd (fun j o' hj ho'=>ht (j+1) o' j6 (by simpa using ho'))
  unfold jM at h
  split at h
  ·rename_i hgd
   obtain ⟨x,h1,h2⟩:=bH h
   exact fin s x rfl (fun _=>rfl) (.inl ⟨hgd,nV hcall horc h1⟩) h2
  ·rename_i q hgd
   split at h
   ·cases h
   ·rename_i t want hgs
    obtain ⟨x,h1,h2⟩:=bH h
    refine fin s x rfl (fun _=>rfl) (.inr ⟨t,want,hgs,?_⟩) h2
    rcases n4 h1 with ⟨b,hb,h1⟩ | ⟨y,hb,h1⟩
    ·refine .inl ⟨b,hb,?_⟩
     split at h1
     ·rename_i hbw; rw[X4 hbw]; exact nV hcall horc h1
     ·rename_i hbw; rw[X8 hbw]; cases h1; rfl
    ·cases h1; exact .inr ⟨⟨y,hb⟩,rfl⟩
theorem oH {ops:Array Oper} {N:Nat} (iX:uY ops N=true) {i j:Nat} (h:ph ops i j):j<i:=by
 have lt:∀ {i o e},ops[i]? = some o->e∈o.after->Region.binds .any e=true->e.on<i:=fun {i o e} ho he hb=>by
  have hi:i<ops.size:=(X5.1 ho).1
  have h:=Yb.1 iX i (Yn.2 hi)
  simp only[ho,XZ] at h
  have:=Z5.1 h.1.1.1.2 e he
  rw[hb] at this; simpa using this
 induction h with
 | edge ho he hb=>exact lt ho he hb
 | thru ho he hb _ ih=>exact Nat.lt_trans ih (lt ho he hb)
theorem nk {ops:Array Oper} {N:Nat} (iX:uY ops N=true) {i:Nat} {o:Oper} (ho:ops[i]? = some o):(∀ j d,i≠j->o.dst=some d->cK ops j≠some d)/\(∀ j t,cK ops j=some t->t∈o.looksAt ops->i=j∨fX ops i j=true∨fX ops j i=true):=by
 have hi:i<ops.size:=(X5.1 ho).1
 have h:=Yb.1 iX i (Yn.2 hi)
 simp only[ho,XZ] at h
 obtain ⟨⟨⟨⟨⟨_,_⟩,_⟩,h4⟩,h5⟩,_⟩:=h
 have lt:∀ {j t},cK ops j=some t->j<ops.size:=fun {j t} hj=>by
  unfold cK at hj
  cases hx:ops[j]? with
  | none=>rw[hx] at hj; cases hj
  | some _=>exact(X5.1 hx).1
 refine⟨fun j d hij hd hj=>?_,fun j t hj ht=>?_⟩
 ·have:=Yb.1 h4 j (Yn.2 (lt hj))
  rw[hd,hj] at this
  simp at this
  exact hij this
 ·have:=Yb.1 h5 j (Yn.2 (lt hj))
  rw[hj] at this
  simp[ht] at this
  rcases this with (h | h) | h
  ·exact .inl h
  ·exact .inr (.inl h)
  ·exact .inr (.inr h)
theorem w6 {call:bj} (hcall:ek cx Bs call) (hb0:Bs H0 gs ws) (horc:kC cx) (hF:g9 F) (hmx:cx.P.follows .mixedOrders=true) {f m:Nat} {ops:Array Oper} {k:E->St->Option R} {r:R} {Q:Exit->Act->World->Prop} (iX:uY ops N=true) (chkt:fO ops m=true)
  (hg:Good cx N mb lo H0 gs ws w0 s g a w) (hd:∀ o∈ops.toList,∀ d,o.dst=some d->d<N)
  (h:jM cx call f ops (ops.toList.take m) s (fun s=>gk cx call f lo ops (ops.toList.drop m) s k)=some r)
  (hk:∀ s' g' a' w',Good cx N mb lo H0 gs ws w0 s' g' a' w'->k .normal s'=some r->Q .normal a' w')
  (hp:∀ x s' g' a' w' c,Good cx N mb lo H0 gs ws w0 s' g' a' w'->VR s'.H g' w' x c->k (.pan x) s'=some r->Q (.panic [{ v:=c,recovered:=false }]) a' w'):LW F n cx.P ops Q a w:=by
 obtain ⟨z,hz,hzH,hzk,hfacts⟩:=tx hcall horc _ s h
 have hr:=hg.sr.rel
 have hget:∀ {i o},i<m->ops[i]? = some o->(ops.toList.take m)[i]? = some o:=fun {i o} him ho=>by
  rw[Yi,X4 him,Yx]; exact ho
 have hget':∀ {i o},(ops.toList.take m)[i]? = some o->i<m/\ops[i]? = some o:=fun {i o} ho=>by
  rw[Yi] at ho
  split at ho
  ·rename_i him; exact⟨him,by rwa [Yx] at ho⟩
  ·cases ho
 have hdst:∀ {i o},ops[i]? = some o->cK ops i=o.dst:=fun {i o} ho=>by unfold cK; rw[ho]; rfl
 refine Dy (F:=F) ⟨hF.1,hF.2.1⟩ hmx N m hg.siz iX chkt (fun W=>Rel s.H g w0 W/\Ext s.H g w s.H g W) (fun W W'=>Ext s.H g W s.H g W') (fun i v W=>∀ t,cK ops i=some t->VR s.H g W (look z.fr t) v)
  (fun i v W W' hv he t ht=>VR.ext he _ _ (hv t ht)) ⟨hr.jB (Below.refl _ _).drew,Ext.below hr (Below.refl _ _).drew⟩ ?_ ?_
 ·rintro i o him ho a' W ⟨hrW,heW⟩ h1 h2 hsz
  obtain ⟨si,x,g1,g2,g3,g4,g5⟩:=hfacts i o (hget him ho)
  obtain ⟨c4,c5⟩:=nk iX ho
  have hlook:∀ t∈o.looksAt ops,VR s.H g W (look si.fr t) (a'.tmps.getD t undef):=fun t ht=>by
   by_cases hj:∃ j,cK ops j=some t/\fX ops i j=true
   ·obtain ⟨j,hjt,hjb⟩:=hj
    have hji:=oH iX (gC i j hjb)
    have hv:=h1 t ht j hjt hjb t hjt
    rw[g3 t (fun j' o' hij' ho' hd'=>by
     obtain ⟨_,ho''⟩:=hget' ho'
     obtain ⟨c4',_⟩:=nk iX ho''
     exact c4' j t j6 hd' hjt)]
    exact hv
   ·have hno:∀ j,cK ops j=some t->fX ops i j=false:=fun j hjt=>by
     cases hb:fX ops i j with
     | false=>rfl
     | true=>exact absurd ⟨j,hjt,hb⟩ hj
    have hs:=h2 t ht hno
    unfold slot at hs
    rw[hs,g2 t (fun j o' hji ho' hd'=>by
     obtain ⟨hjm,ho''⟩:=hget' ho'
     have hjt:cK ops j=some t:=(hdst ho'').trans hd'
     rcases c5 j t hjt ht with h | h | h
     ·omega
     ·rw[hno j hjt] at h; cases h
     ·have:=oH iX (gC j i h); omega)]
    exact VR.ext heW _ _ (hg.sr.fr t)
  have hopr:uK cx si g w0 o.op a'.eval W:=⟨by rw[g1]; exact hrW,fun y hy=>p0 (fun t ht=>by
    rw[g1]
    refine hlook t ?_
    subst ht
    unfold Oper.looksAt
    exact Y6.2 (.inl (qaV.2 ⟨.tmp t,hy,rfl⟩))) (fun G vs hG=>by rw[g1]; exact(hg.sr.gl G vs hG).ext heW),fun _=>rfl⟩
  have hx:∀ t,cK ops i=some t->look z.fr t=x:=fun t ht=>g4 t ((hdst ho).symm.trans ht) (fun j o' hij ho' hd'=>by
   obtain ⟨_,ho''⟩:=hget' ho'
   exact c4 j t j6 ((hdst ho).symm.trans ht) ((hdst ho'').trans hd'))
  have run:qT cx Bs si o x->zX F n cx.P o a'.eval W (fun v w'=>(∀ t,cK ops i=some t->VR s.H g w' (look z.fr t) v)/\(Rel s.H g w0 w'/\Ext s.H g w s.H g w')/\Ext s.H g W s.H g w'):=fun hpo=>by
   refine(hpo F n g w0 W a'.eval hF hopr (fun G vs hG=>by rw[g1]; exact(hg.sr.gl G vs hG).ext heW) (by rw[g1]; exact hcall.up _ _ _ _ _ _ hb0 (hg.ext.trans heW))).mono ?_
   rintro v w' ⟨k1,k2,k3⟩
   rw[g1] at k1 k2 k3
   exact⟨fun t ht=>by rw[hx t ht]; exact k1,⟨k2,heW.trans k3⟩,k3⟩
  rcases g5 with ⟨hgd,hpo⟩ | ⟨t,want,hgs,hor⟩
  ·rw[X4 (by simp[Region.wanted,hgd])]
   exact run hpo
  ·have htl:t∈o.looksAt ops:=by
    rw[jS] at hgs
    unfold Oper.looksAt
    split at hgs
    ·rename_i j want' hgd
     cases hdj:(ops[j]?).bind (·.dst) with
     | none=>rw[hdj] at hgs; cases hgs
     | some t'=>
      rw[hdj] at hgs
      cases hgs
      refine Y6.2 (.inr ?_)
      rw[hgd]
      simp[hdj]
    ·cases hgs
   have hv:=hlook t htl
   have sk:x=.v undef->(∀ t',cK ops i=some t'->VR s.H g W (look z.fr t') undef)/\(Rel s.H g w0 W/\Ext s.H g w s.H g W)/\Ext s.H g W s.H g W:=fun hcond=>
    ⟨fun t' ht'=>by rw[hx t' ht',hcond,VR],⟨hrW,heW⟩,Ext.refl hrW⟩
   rcases hor with ⟨b,hlb,hcond⟩ | ⟨⟨y,hlb⟩,hcond⟩
   ·rw[hlb,VR] at hv
    rw[kM hgs hv]
    split at hcond
    ·rename_i hbw
     rw[X4 hbw]
     exact run hcond
    ·rename_i hbw
     rw[X8 hbw]
     exact sk hcond
   ·rw[hlb,VR] at hv
    rw[m7 hgs hv,X8 r7]
    exact sk hcond
 ·rintro a' W ⟨hrW,heW⟩ hdf hsz hv hno _
  refine gm (f:=f) (ops:=ops) hcall hb0 horc hF hk hp _ z g a' W (fun o ho=>hd o (YC ho)) ⟨⟨by rw[hzH]; exact hrW,fun t=>?_,fun G vs hG=>by rw[hzH]; exact(hg.sr.gl G vs hG).ext heW⟩,by rw[hzH]; exact hg.ext.trans heW,by rw[hzH]; exact hg.len,by rw[hzH]; exact hg.low,hsz,(by rw[hdf]; exact hg.dfr.m9 heW.kept),Yp hg.mbw heW.size,hg.st⟩ hz
  rw[hzH]
  by_cases ht:∃ i,i<m/\cK ops i=some t
  ·obtain ⟨i,him,hit⟩:=ht
   exact hv i t him hit t hit
  ·have hs:=hno t (fun i him hit=>ht ⟨i,him,hit⟩)
   unfold slot at hs
   rw[hs,hzk t (fun o ho hd'=>by
    obtain ⟨i,hi,rfl⟩:=YR ho
    obtain ⟨him,ho'⟩:=hget' (X3 hi)
    exact ht ⟨i,him,(hdst ho').trans hd'⟩)]
   exact VR.ext heW _ _ (hg.sr.fr t)
end
section
variable {cx:Cx} {call:bj} {f:Nat} {ops:Array Oper}
def nD (cx:Cx) (call:bj) (f:Nat) (ops:Array Oper) (o:Oper) (s:St):Option A:=match o.guard with
 | none=>il cx call f o s
 | some _=>match cz ops o with
  | none=>none
  | some (g,w)=>qC (look s.fr g) w (il cx call f o s) (some (.v undef))
theorem sF {β:Type} {o:Oper} {s:St} (k:A->Option β):tC cx call f o s k=(il cx call f o s).bind k:=by
 have one:(b7 cx f 0 o s fun a _=>k a)=(b7 cx f 0 o s fun a _=>some a).bind k:=by
  rw[iZ,iZ (k:=fun a _=>some a),Ys]; rfl
 unfold tC il
 split
 ·rfl
 ·rfl
 ·rfl
 ·rfl
 ·rfl
 ·rfl
 ·rfl
 ·rfl
 ·rfl
 ·rw[bG,bG]
  split
  ·rw[wV,wV]; simp only[Ys,XV]
  ·split
   ·exact one
   ·rfl
 ·exact one
theorem uF {β:Type} {r:β}:∀ (ds:List Nat) (l:List A) (k:List (Nat×A)->Option β),Ix ds l k=some r->∃ fr l',fr.map (·.1)=ds/\l=fr.map (·.2)++l'/\k fr=some r
 | [],l,k,h=>⟨[],l,rfl,rfl,h⟩
 | d :: ds,[],k,h=>by cases h
 | d :: ds,a :: l,k,h=>by
  obtain ⟨fr,l',h1,h2,h3⟩:=uF ds l _ h
  exact⟨(d,a) :: fr,l',by simp[h1],by simp[h2],h3⟩
theorem AM:∀ {a b:List (Nat×A)} {l':List A},a.map (·.1)=b.map (·.1)->a.map (·.2)=b.map (·.2)++l'->a=b
 | [],[],_,_,_=>rfl
 | [],_ :: _,_,h,_=>by simp at h
 | _ :: _,[],_,h,_=>by simp at h
 | (x,y) :: a,(z,t) :: b,l',h,k=>by
  simp only[YX,YH,Yw] at h k
  obtain ⟨rfl,h⟩:=h
  obtain ⟨rfl,k⟩:=k
  rw[AM h k]
theorem uk (dl:List (Nat×A)) (s:St) (o:Oper) (x:A):(eG dl s).put o.dst x=eG (AD o.dst x dl) s:=by
 cases o.dst<;>rfl
theorem FX (s:St):eG [] s=s:=rfl
theorem vY (a b:List (Nat×A)) (s:St):eG a (eG b s)=eG (a++b) s:=by simp[eG]
theorem oQ {t:Nat}:∀ {dl:List (Nat×A)} {s:St},jJ t (dl.map (·.1))=false->look (eG dl s).fr t=look s.fr t
 | [],s,_=>rfl
 | (d,x) :: dl,s,h=>by
  simp only[YX,jJ,bG] at h
  split at h
  ·cases h
  ·rename_i hd
   show look ((d,x) :: (dl++s.fr)) t=_
   rw[eT,X8 (fun e=>hd (by simp[e]))]
   exact oQ (dl:=dl) (s:=s) h
theorem jA (t:Nat):∀ (a b:List Nat),jJ t (a++b)=(jJ t a || jJ t b)
 | [],b=>rfl
 | x :: a,b=>by
  simp only[Yw,jJ,bG]
  split
  ·rfl
  ·exact jA t a b
def ve (ops:Array Oper) (g:Nat) (w:Bool):List Nat->List Oper->Prop
 | _,[]=>True
 | ds,o :: os=>tS ops g w ds o=true/\ve ops g w (lM o++ds) os
theorem fc (g:Nat) (w:Bool):∀ (os:List Oper) (ds:List Nat),os=(cq ops g w ds os).1++(cq ops g w ds os).2/\ve ops g w ds (cq ops g w ds os).1
 | [],ds=>⟨rfl,trivial⟩
 | o :: os,ds=>by
  unfold cq
  rw[bG]
  split
  ·rename_i h
   obtain ⟨h1,h2⟩:=fc g w os (lM o++ds)
   exact⟨by rw[Yw,<-h1],h,h2⟩
  ·exact⟨rfl,trivial⟩
theorem tU {g:Nat} {w:Bool} {ds:List Nat} {o:Oper} (h:tS ops g w ds o=true):o.guard≠none/\jJ g (lM o)=false/\∃ t w',cz ops o=some (t,w')/\((t=g/\w'=w)∨jJ t ds=true):=by
 unfold tS at h
 split at h
 ·cases h
 ·rename_i q hq
  split at h
  ·cases h
  ·rename_i t w' hgs
   rw[bG] at h
   split at h
   ·cases h
   ·rename_i hm
    refine⟨by rw[hq]; simp,by simpa using hm,t,w',hgs,?_⟩
    rw[bG] at h
    split at h
    ·rename_i hb
     refine .inl ⟨Yq hb,?_⟩
     cases w<;>cases w'<;>simp at h<;>rfl
    ·exact .inr h
theorem ve.out {g:Nat} {w:Bool}:∀ {ds:List Nat} {os:List Oper},ve ops g w ds os->(∀ o∈os,jJ g (lM o)=false/\o.guard≠none)/\jJ g (iL os)=false
 | _,[],_=>⟨fun o ho=>(by cases ho),rfl⟩
 | ds,o :: os,h=>by
  obtain ⟨h1,h2⟩:=tU h.1
  obtain ⟨h3,h4⟩:=ve.out h.2
  refine⟨fun o' ho'=>?_,?_⟩
  ·rcases YJ.1 ho' with rfl | ho'
   ·exact⟨h2.1,h1⟩
   ·exact h3 o' ho'
  ·rw[iL,jA,h4,h2.1]; rfl
variable {X:Type} {E:List Oper->St->Option X} {Q:Oper->Prop}
theorem CD (hE:∀ o os s,Q o->E (o :: os) s=(nD cx call f ops o s).bind fun x=>E os (s.put o.dst x)) {g:Nat} {w:Bool} (rest:List Oper):∀ (os:List Oper) (ds:List Nat) (dl:List (Nat×A)) (s:St),ve ops g w ds os->(∀ o∈os,Q o)->(look (eG dl s).fr g=.v (.bool (!w))∨∃ y,look (eG dl s).fr g=.v (.tuple y)) ->
  (∀ t,jJ t ds=true->look (eG dl s).fr t=.v undef)->E (os++rest) (eG dl s)=E rest (eG (rE (iL os)++dl) s)
 | [],ds,dl,s,_,_,_,_=>rfl
 | o :: os,ds,dl,s,hr,hq,hg,hd=>by
  obtain ⟨hgd,hm,t,w',hgs,hor⟩:=tU hr.1
  have hv:nD cx call f ops o (eG dl s)=some (.v undef):=by
   unfold nD
   cases hgu:o.guard with
   | none=>exact absurd hgu hgd
   | some q=>
    rw[hgs]
    rcases hor with ⟨rfl,rfl⟩ | hmem
    ·rcases hg with hg | ⟨y,hg⟩
     ·simp only[hg,qC]; cases w'<;>rfl
     ·simp only[hg,qC]
    ·simp only[hd t hmem,undef,qC]
  rw[Yw,hE o _ _ (hq o r7),hv,XV,uk]
  have hlk:∀ t,look (eG (AD o.dst (.v undef) dl) s).fr t=if jJ t (lM o)=true then .v undef else look (eG dl s).fr t:=fun t=>by
   cases hdo:o.dst with
   | none=>simp[lM,hdo,jJ,AD]
   | some d=>
    show look ((d,.v undef) :: (dl++s.fr)) t=_
    rw[eT]
    simp only[lM,hdo,jJ,bG]
    by_cases e:d=t
    ·subst e; simp
    ·rw[X8 e]
     rw[X8 (by simp[e])]
     rfl
  rw[CD hE rest os (lM o++ds) _ s hr.2 (fun o' ho'=>hq o' (by simp[ho'])) (by rw[hlk,X8 (by simp[hm])]; exact hg) (fun t ht=>?_)]
  ·congr 2
   cases hdo:o.dst with
   | none=>simp[iL,lM,hdo,AD]
   | some d=>simp[iL,lM,hdo,rE,AD]
  ·rw[hlk]
   split
   ·rfl
   ·rename_i hn
    rw[jA] at ht
    exact hd t (by simpa [hn] using ht)
theorem nS:∀ (a b:List Oper),iL (a++b)=iL b++iL a
 | [],b=>by simp[iL]
 | o :: a,b=>by simp[iL,nS a b]
theorem wZ {asm:Option (Nat×Bool)} {g d:Nat} {a b:Operand} {os:List Oper} (h:wY ops asm g os=some (d,a,b)):∃ o os',os=o :: os'/\um ops asm o=true/\o.op=.pick (.tmp g) a b/\o.dst=some d:=by
 unfold wY at h
 split at h
 ·rename_i o os'
  rw[bG] at h
  split at h
  ·rename_i hp
   split at h
   ·rename_i t x y d' ho hd
    rw[bG] at h
    split at h
    ·rename_i ht
     cases h
     exact⟨o,os',rfl,hp,by rw[ho,Yq ht],hd⟩
    ·cases h
   ·cases h
  ·cases h
 ·cases h
theorem uo {asm:Option (Nat×Bool)} {o:Oper} {s:St} (h:um ops asm o=true) (ha:∀ g w,asm=some (g,w)->look s.fr g=.v (.bool w)):nD cx call f ops o s=il cx call f o s:=by
 unfold um at h
 unfold nD
 split at h
 ·rename_i hg; rw[hg]
 ·rename_i q hq
  split at h
  ·rename_i g w t w' hgs
   rw[bG] at h
   split at h
   ·rename_i ht
    have:=Yq ht
    subst this
    rw[hq,hgs]
    simp only[ha t w rfl,qC]
    cases w<;>cases w'<;>first | rfl | (simp at h)
   ·cases h
  ·cases h
theorem tN (hE:∀ o os s,Q o->E (o :: os) s=(nD cx call f ops o s).bind fun x=>E os (s.put o.dst x)) (hpick:∀ o c a b,o.op=.pick c a b->Q o) {β:Type} {r:β} {asm:Option (Nat×Bool)} {g:Nat} {w:Bool} {os:List Oper} {s:St} {vals:Option (Nat×Operand)->List Oper->Option (List A)} {k:List Oper->List (Nat×A)->Option β}
  (hq:∀ o∈(cq ops g w [] os).1,Q o) (ha:∀ g w,asm=some (g,w)->look s.fr g=.v (.bool w)/\∀ o∈os,jJ g (lM o)=false)
  (hv:look s.fr g=.v (.bool w)->∀ fin l,vals fin (cq ops g w [] os).1=some l->∃ dl,l=(yP cx fin dl s).map (·.2)/\dl.map (·.1)=iL (cq ops g w [] os).1/\∀ rest,E ((cq ops g w [] os).1++rest) s=E rest (eG dl s))
  (h:M0 ops asm g w os s vals (PH cx s) k=some r):∃ pre rest fr,os=pre++rest/\k rest fr=some r/\fr.map (·.1)=iL pre/\∀ rest',E (pre++rest') s=E rest' (eG fr s):=by
 obtain ⟨hsp,hrun⟩:=fc (ops:=ops) g w os []
 obtain ⟨hro,hgn⟩:=hrun.out
 have hskip:(look s.fr g=.v (.bool (!w))∨∃ y,look s.fr g=.v (.tuple y))->∀ rest,E ((cq ops g w [] os).1++rest) s=E rest (eG (rE (iL (cq ops g w [] os).1)) s):=fun hg rest=>by
  have:=CD hE rest _ [] [] s hrun hq hg (fun t ht=>by cases ht)
  simpa [FX] using this
 have hmu:∀ ds:List Nat,(rE ds).map (·.1)=ds:=fun ds=>by simp[rE,Function.comp_def]
 unfold M0 at h
 split at h
 ·rename_i d a b hep
  obtain ⟨o,os',hrest,hpl,hop,hdst⟩:=wZ hep
  obtain ⟨l,hl,h⟩:=bH h
  obtain ⟨fr,l',e1,e2,e3⟩:=uF _ _ _ h
  obtain ⟨bb,hb,hl⟩:=qj hl
  rw[hrest,List.tail_cons] at e3
  have fin:∀ (dl:List (Nat×A)) (x:Operand),l=(yP cx (some (d,x)) dl s).map (·.2)->dl.map (·.1)=iL (cq ops g w [] os).1->(∀ rest,E ((cq ops g w [] os).1++rest) s=E rest (eG dl s))->x=(if bb then a else b) ->
    ∃ pre rest fr,os=pre++rest/\k rest fr=some r/\fr.map (·.1)=iL pre/\∀ rest',E (pre++rest') s=E rest' (eG fr s):=by
   intro dl x h1 h2 h3 h4
   have hfr:yP cx (some (d,x)) dl s=fr:=AM (l':=l') (by rw[e1]; simp[yP,h2]) (by rw[<-h1,e2])
   refine⟨(cq ops g w [] os).1++[o],os',fr,?_,e3,?_,?_⟩
   ·rw[YD,Ze,<-hrest]; exact hsp
   ·rw[e1,nS]; simp[iL,lM,hdst]
   ·intro rest'
    rw[YD,Ze,h3,hE o _ _ (hpick o _ _ _ hop)]
    have hgl:look (eG dl s).fr g=.v (.bool bb):=by rw[oQ (by rw[h2]; exact hgn),hb]
    have hval:nD cx call f ops o (eG dl s)=il cx call f o (eG dl s):=uo hpl fun g' w' hga=>by
     obtain ⟨ha1,ha2⟩:=ha g' w' hga
     rw[oQ ?_,ha1]
     rw[h2]
     have:∀ (l:List Oper),(∀ o∈l,jJ g' (lM o)=false)->jJ g' (iL l)=false:=by
      intro l
      induction l with
      | nil=>intro _; rfl
      | cons o' l ih=>intro hh; rw[iL,jA,ih (fun o'' ho''=>hh o'' (by simp[ho''])),hh o' r7]; rfl
     exact this _ fun o' ho'=>ha2 o' (by rw[hsp]; simp[ho'])
    rw[hval]
    have:il cx call f o (eG dl s)=some (cD cx (eG dl s) x):=by
     unfold il
     rw[hop]
     show di (cD cx (eG dl s) (.tmp g)) _ _=_
     rw[show cD cx (eG dl s) (.tmp g)=.v (.bool bb) from hgl]
     subst h4
     cases bb<;>rfl
    rw[this,XV,uk,hdst]
    show E rest' (eG ((d,cD cx (eG dl s) x) :: dl) s)=_
    rw[<-hfr]; rfl
  cases bb with
  | true=>
   rw[X4 rfl] at hl
   cases w with
   | true=>
    obtain ⟨dl,h1,h2,h3⟩:=hv hb _ _ hl
    exact fin dl a h1 h2 h3 rfl
   | false=>
    cases hl
    exact fin _ a rfl (hmu _) (hskip (.inl hb)) rfl
  | false=>
   rw[X8 r7] at hl
   cases w with
   | true=>
    cases hl
    exact fin _ b rfl (hmu _) (hskip (.inl hb)) rfl
   | false=>
    obtain ⟨dl,h1,h2,h3⟩:=hv hb _ _ hl
    exact fin dl b h1 h2 h3 rfl
 ·obtain ⟨l,hl,h⟩:=bH h
  obtain ⟨fr,l',e1,e2,e3⟩:=uF _ _ _ h
  have fin:∀ (dl:List (Nat×A)),l=(yP cx none dl s).map (·.2)->dl.map (·.1)=iL (cq ops g w [] os).1->(∀ rest,E ((cq ops g w [] os).1++rest) s=E rest (eG dl s)) ->
    ∃ pre rest fr,os=pre++rest/\k rest fr=some r/\fr.map (·.1)=iL pre/\∀ rest',E (pre++rest') s=E rest' (eG fr s):=by
   intro dl h1 h2 h3
   have hfr:dl=fr:=AM (l':=l') (by rw[e1,h2]) (by rw[<-e2,h1]; rfl)
   subst hfr
   exact⟨_,_,dl,hsp,e3,h2,h3⟩
  rcases n4 hl with ⟨bb,hb,hl⟩ | ⟨y,hb,hl⟩
  ·split at hl
   ·rename_i hbw
    have hbw:bb=w:=by simpa using hbw
    subst hbw
    obtain ⟨dl,h1,h2,h3⟩:=hv hb _ _ hl
    exact fin dl h1 h2 h3
   ·rename_i hbw
    have hbw:bb = !w:=by cases bb<;>cases w<;>simp at hbw ⊢
    subst hbw
    cases hl
    exact fin _ rfl (hmu _) (hskip (.inl hb))
  ·cases hl
   exact fin _ rfl (hmu _) (hskip (.inr ⟨y,hb⟩))
theorem jy (hE:∀ o os s,Q o->E (o :: os) s=(nD cx call f ops o s).bind fun x=>E os (s.put o.dst x)) (hpick:∀ o c a b,o.op=.pick c a b->Q o):∀ (q:Nat) (asm:Option (Nat×Bool)) (fin:Option (Nat×Operand)) (os:List Oper) (dl:List (Nat×A)) (s:St) (l:List A),pK cx call f ops q asm fin os dl s=some l->(∀ o∈os,Q o) ->
  (∀ g w,asm=some (g,w)->look (eG dl s).fr g=.v (.bool w)/\∀ o∈os,jJ g (lM o)=false) ->
  ∃ dl',l=(yP cx fin dl' s).map (·.2)/\dl'.map (·.1)=iL os++dl.map (·.1)/\∀ rest,E (os++rest) (eG dl s)=E rest (eG dl' s)
 | 0,_,_,_,_,_,_,h,_,_=>by cases h
 | q+1,asm,fin,[],dl,s,l,h,_,_=>by cases h; exact⟨dl,rfl,rfl,fun _=>rfl⟩
 | q+1,asm,fin,o :: os,dl,s,l,h,hq,ha=>by
  unfold pK at h
  rw[bG] at h
  split at h
  ·rename_i hpl
   rw[sF] at h
   obtain ⟨x,hx,h⟩:=bH h
   obtain ⟨dl',h1,h2,h3⟩:=jy hE hpick q asm fin os _ s l h (fun o' ho'=>hq o' (by simp[ho'])) (fun g w hg=>by
    obtain ⟨k1,k2⟩:=ha g w hg
    refine⟨?_,fun o' ho'=>k2 o' (by simp[ho'])⟩
    have hm:=k2 o r7
    cases hd:o.dst with
    | none=>exact k1
    | some d=>
     simp only[lM,hd] at hm
     show look ((d,x) :: (dl++s.fr)) g=_
     rw[eT,X8 (fun e=>by simp[jJ,e] at hm)]
     exact k1)
   refine⟨dl',h1,?_,fun rest=>?_⟩
   ·rw[h2]
    cases hd:o.dst<;>simp[iL,lM,hd,AD]
   ·rw[Yw,hE o _ _ (hq o r7),uo hpl (fun g w hg=>(ha g w hg).1),hx,XV,uk,h3]
  ·split at h
   ·cases h
   ·rename_i t w hgs
    obtain ⟨_,h⟩:=br h
    obtain ⟨pre,rest,fr,h1,h2,h3,h4⟩:=tN (E:=fun os' s'=>E os' s') hE hpick (fun o' ho'=>hq o' (by
     rw[(fc (ops:=ops) t w (o :: os) []).1]; simp[ho'])) ha (fun hlk fin' l' hl'=>by
     obtain ⟨dl2,k1,k2,k3⟩:=jy hE hpick q (some (t,w)) fin' _ [] (eG dl s) l' hl' (fun o' ho'=>hq o' (by
      rw[(fc (ops:=ops) t w (o :: os) []).1]; simp[ho'])) (fun g' w' hg'=>by
      cases hg'
      exact⟨hlk,fun o' ho'=>((fc (ops:=ops) t w (o :: os) []).2.out.1 o' ho').1⟩)
     exact⟨dl2,k1,by simpa using k2,k3⟩) h
    rw[h1] at hq ha ⊢
    have hnm:∀ g,(∀ o∈pre,jJ g (lM o)=false)->jJ g (iL pre)=false:=by
     intro g
     clear h1 h2 h3 h4 hq ha
     induction pre with
     | nil=>intro _; rfl
     | cons o' l ih=>intro hh; rw[iL,jA,ih (fun o'' ho''=>hh o'' (by simp[ho''])),hh o' r7]; rfl
    obtain ⟨dl',k1,k2,k3⟩:=jy hE hpick q asm fin rest (fr++dl) s l h2 (fun o' ho'=>hq o' (by simp[ho'])) (fun g' w' hg'=>by
     obtain ⟨m1,m2⟩:=ha g' w' hg'
     refine⟨?_,fun o' ho'=>m2 o' (by simp[ho'])⟩
     rw[<-vY,oQ (by rw[h3]; exact hnm g' fun o' ho'=>m2 o' (by simp[ho']))]
     exact m1)
    refine⟨dl',k1,by rw[k2,nS]; simp[h3],fun rest'=>?_⟩
    rw[YD,h4,vY,k3]
end
section
open Go.RowKit
variable {P:Program} {H H':aB} {g g':Gh} {w0 w w':World} {cx:Cx} {s:St} {z:Nat->Bool} {f lo:Nat}
def cw (z:Nat->Bool) (H:aB):aB:=H.mapIdx fun b B=>bif z b then .hole else B
theorem fJ (z:Nat->Bool) (H:aB) (b:Nat):(cw z H)[b]? = (H[b]?).map fun B=>bif z b then .hole else B:=by simp[cw,List.getElem?_mapIdx]
theorem dv (z:Nat->Bool) (H:aB):(cw z H).length=H.length:=by simp[cw]
theorem fo {b:Nat} (h:z b=false):(cw z H)[b]? = H[b]?:=by rw[fJ,h]; cases H[b]?<;>rfl
theorem ub {b:Nat} {B:az} (h:z b=true) (hB:H[b]? = some B):(cw z H)[b]? = some .hole:=by rw[fJ,h,hB]; rfl
theorem gr {B:az} (h:z H.length=false):cw z (H++[B])=cw z H++[B]:=by
 refine Zv fun b=>?_
 rw[fJ]
 by_cases hb:b<H.length
 ·rw[Yf hb,Yf (by rw[dv]; exact hb),fJ]
 ·by_cases e:b=H.length
  ·subst e
   rw[Yo (X1 _),Yo (by rw[dv]; exact X1 _),dv,h]
   simp
  ·rw[Y7 r8,Y7 (by simp[dv]; omega)]
   rfl
theorem mw {b:Nat} {B:az} (h:z b=false):cw z (H.set b B)=(cw z H).set b B:=by
 refine Zv fun c=>?_
 rw[fJ,ZL,ZL,dv]
 by_cases e:b=c
 ·subst e
  rw[X4 rfl,X4 rfl,h]
  split<;>rfl
 ·rw[X8 e,X8 e,fJ]
theorem A4 {z':Nat->Bool} {b:Nat} {B:az} (hB:H[b]? = some B) (h1:z' b=false) (h2:∀ c,c≠b->z' c=z c):cw z' H=(cw z H).set b B:=by
 refine Zv fun c=>?_
 rw[fJ,ZL,dv]
 by_cases e:b=c
 ·subst e
  rw[X4 rfl,X4 (X2.1 hB).1,h1,hB]
  rfl
 ·rw[X8 e,fJ,h2 c (YW e)]
theorem ua (h:∀ b,z b=false):cw z H=H:=by
 refine Zv fun c=>?_
 rw[fJ,h]
 cases H[c]?<;>rfl
theorem vh {a:A} {c:Value} {b:Nat} (h:VR H g w a c) (hb:blk? a=some b):∃ B,H[b]? = some B/\B≠.hole:=by
 cases a with
 | ptr b' o=>
  cases hb
  rw[VR] at h
  cases hq:H[b]? with
  | none=>rw[hq] at h; exact h.elim
  | some B=>rw[hq] at h; exact⟨B,rfl,fun e=>by subst e; exact h.elim⟩
 | ep b' i o=>
  cases hb
  rw[VR] at h
  cases hq:H[b]? with
  | none=>rw[hq] at h; exact h.elim
  | some B=>rw[hq] at h; exact⟨B,rfl,fun e=>by subst e; exact h.elim⟩
 | sl b' o n cl=>
  cases hb
  rw[VR] at h
  cases hq:H[b]? with
  | none=>rw[hq] at h; exact h.elim
  | some B=>rw[hq] at h; exact⟨B,rfl,fun e=>by subst e; exact h.elim⟩
 | mr b'=>
  cases hb
  rw[VR] at h
  cases hq:H[b]? with
  | none=>rw[hq] at h; exact h.elim
  | some B=>rw[hq] at h; exact⟨B,rfl,fun e=>by subst e; exact h.elim⟩
 | _=>cases hb
theorem BD {a:A} {c:Value} {b:Nat} (h:VR (cw z H) g w a c) (hb:blk? a=some b):z b=false:=by
 obtain ⟨B,h1,h2⟩:=vh h hb
 cases hz:z b with
 | false=>rfl
 | true=>
  rw[fJ,hz] at h1
  cases hq:H[b]? with
  | none=>rw[hq] at h1; cases h1
  | some B'=>rw[hq] at h1; cases h1; exact absurd rfl h2
theorem Rel.Fc:∀ (q:Nat) {H:aB} {g:Gh},Rel H g w0 w->∃ g',Rel (H++List.replicate q .hole) g' w0 w/\Ext H g w (H++List.replicate q .hole) g' w/\g'.S=g.S
 | 0,H,g,hr=>⟨g,by simpa using hr,by simpa using Ext.refl hr,rfl⟩
 | q+1,H,g,hr=>by
  obtain ⟨h1,h2⟩:=hr.push (Below.refl _ w) .hole none [] (fun k hk=>by cases hk) (fun _=>Gh.bP _ _ _ _)
  obtain ⟨g',e1,e2,e3⟩:=Rel.Fc q h1
  have e:H++List.replicate (q+1) az.hole=H++[.hole]++List.replicate q .hole:=by rw[List.replicate_succ,YD]; rfl
  rw[e]
  exact⟨g',e1,h2.trans e2,e3⟩
theorem Rel.fill (hr:Rel H g w0 w) {w':World} (hb:Below w.heap.size w w') {b:Nat} (hB0:H[b]? = some .hole) {cs:List A} {arr:Array Value} {ty:TypeId} (hw:w'.heap[w.heap.size]? = some (.cells arr ty (0,0)))
  (hv:Ext H g w (H.set b (.box cs)) (g.put b (some w.heap.size) []) w'->bC (H.set b (.box cs)) (g.put b (some w.heap.size) []) w' cs arr.toList) :
  Rel (H.set b (.box cs)) (g.put b (some w.heap.size) []) w0 w'/\Ext H g w (H.set b (.box cs)) (g.put b (some w.heap.size) []) w':=by
 have hsz:w.heap.size<w'.heap.size:=(X5.1 hw).1
 have hbl:b<H.length:=(X2.1 hB0).1
 have hget:∀ c,c≠b->(H.set b (.box cs))[c]? = H[c]?:=fun c hc=>Yd (YW hc)
 have hgetb:(H.set b (az.box cs))[b]? = some (.box cs):=by rw[Ym (by simpa using hbl)]
 have hmub:g.mu b=none:=hr.blk b _ hB0
 have he:Ext H g w (H.set b (.box cs)) (g.put b (some w.heap.size) []) w':=by
  refine⟨fun k o v hs hc=>?_,fun c B' hB'=>?_,fun k o ho=>(hb.block k (X5.1 ho).1).trans ho,hb.size,fun k marr cl hs hm=>?_,fun k hk _=>hb.block k hk,fun c k h=>?_⟩
  rotate_right 1
  ·by_cases e:c=b
   ·subst e; rw[Gh.bP] at h; cases h; exact .inr (X1 _)
   ·exact .inl ⟨c,by rwa [Gh.aQ _ _ _ e] at h⟩
  ·have hlt:=ZQ w ⟨k,o,none⟩ hc
   refine⟨(hb.cell (p:=⟨k,o,none⟩) hlt).trans hc,hs.1,fun c hck=>?_⟩
   have hne:c≠b:=fun e=>by subst e; rw[Gh.bP] at hck; cases hck; exact absurd hlt (Z8 _)
   rw[Gh.aQ _ _ _ hne] at hck
   obtain ⟨es,els,h3,h4⟩:=hs.2 c hck
   exact⟨es,els,by rw[hget c hne]; exact h3,h4⟩
  ·by_cases e:c=b
   ·subst e
    rw[hB0] at hB'; cases hB'
    exact⟨_,hgetb,trivial⟩
   ·refine⟨B',by rw[hget c e]; exact hB',?_⟩
    cases B' with
    | box _=>exact Gh.aQ _ _ _ e
    | row wr es els=>cases wr with
     | true=>exact⟨rfl,rfl,Gh.aQ _ _ _ e⟩
     | false=>exact⟨rfl,⟨[],by rw[Gh.fE _ _ _ e]; simp⟩,(hr.blk c _ hB').len,X1 _,fun _=>⟨Gh.aQ _ _ _ e,fun k arr ty hk' ha=>⟨arr,eY hb ha,X1 _⟩⟩⟩
    | rng _=>exact⟨Gh.aQ _ _ _ e,rfl⟩
    | mp _ _ _=>exact Gh.aQ _ _ _ e
    | dead=>trivial
    | hole=>trivial
  ·have hlt:=(X5.1 hm).1
   refine⟨(hb.block k hlt).trans hm,hs.1,fun c hck=>?_⟩
   have hne:c≠b:=fun e=>by subst e; rw[Gh.bP] at hck; cases hck; exact absurd hlt (Z8 _)
   rw[Gh.aQ _ _ _ hne] at hck
   obtain ⟨es,els,h3,h4⟩:=hs.2 c hck
   exact⟨es,els,by rw[hget c hne]; exact h3,h4⟩
 refine⟨⟨hr.below.trans (hb.mono hr.below.size),fun c k hck=>?_,fun c d k h1 h2=>?_,hr.A8 he,hr.zA he,fun c B' hB'=>?_⟩,he⟩
 ·by_cases e:c=b
  ·subst e; rw[Gh.bP] at hck; cases hck
   exact⟨by simpa using hbl,hr.below.size,hsz⟩
  ·rw[Gh.aQ _ _ _ e] at hck
   obtain ⟨h1,h2,h3⟩:=hr.dom c k hck
   exact⟨by simpa using h1,h2,Yh h3 hb.size⟩
 ·by_cases e:c=b
  ·by_cases e':d=b
   ·rw[e,e']
   ·subst e
    rw[Gh.bP] at h1; cases h1
    rw[Gh.aQ _ _ _ e'] at h2
    exact absurd (hr.dom d _ h2).2.2 (Z8 _)
  ·by_cases e':d=b
   ·subst e'
    rw[Gh.bP] at h2; cases h2
    rw[Gh.aQ _ _ _ e] at h1
    exact absurd (hr.dom c _ h1).2.2 (Z8 _)
   ·rw[Gh.aQ _ _ _ e] at h1
    rw[Gh.aQ _ _ _ e'] at h2
    exact hr.inj c d k h1 h2
 ·by_cases e:c=b
  ·subst e
   rw[hgetb] at hB'; cases hB'
   exact⟨w.heap.size,arr,ty,Gh.bP _ _ _ _,hw,hv he⟩
  ·rw[hget c e] at hB'
   have h:=hr.blk c B' hB'
   cases B' with
   | box cs=>obtain ⟨k,arr,ty,h1,h2,h3⟩:=h; exact⟨k,arr,ty,(Gh.aQ _ _ _ e).trans h1,eY hb h2,bC.ext he _ _ h3⟩
   | row wr es els=>cases wr with
    | true=>
     obtain ⟨ds,h1,h2,h3⟩:=h
     exact⟨ds,bw.ext he _ _ h1,h2,fun hp=>let ⟨k,arr,ty,e1,e2,e3⟩:=h3 hp; ⟨k,arr,ty,(Gh.aQ _ _ _ e).trans e1,eY hb e2,e3⟩⟩
    | false=>
     obtain ⟨h1,h2⟩:=h
     refine⟨?_,?_⟩
     ·rw[Gh.fE _ _ _ e]; exact bw.ext he _ _ h1
     ·rw[Gh.fE _ _ _ e]; exact h2
   | rng st=>obtain ⟨k,h1,h2⟩:=h; exact⟨k,(Gh.aQ _ _ _ e).trans h1,eY hb h2⟩
   | mp _ _ _=>obtain ⟨k,arr,cl,h1,h2,h3,h4⟩:=h; exact⟨k,arr,cl,(Gh.aQ _ _ _ e).trans h1,eY hb h2,h3,bC.ext he _ _ h4⟩
   | dead=>exact(Gh.aQ _ _ _ e).trans h
   | hole=>exact(Gh.aQ _ _ _ e).trans h
theorem Au (hr:Rel H g w0 w) {t:TypeId} {b:Nat} {cs:List A} (hB0:H[b]? = some .hole) (hz:iR P t=some cs) :
  ∃ d w' g',(Instr.alloc t true (.tuple #[])).run P w=.ok d w'/\Rel (H.set b (.box cs)) g' w0 w'/\Ext H g w (H.set b (.box cs)) g' w'/\VR (H.set b (.box cs)) g' w' (.ptr b 0) d/\g'.S=g.S:=by
 obtain ⟨i,z,hi,hzz,rfl⟩:=gw hz
 have hb:Below w.heap.size w (w.alloc (.cells z.cells t)):=(Below.refl _ w).alloc (X1 _) _
 obtain ⟨h1,h2⟩:=hr.fill hb hB0 (cs:=z.cells.toList.map A7) (Zt w _) (fun he=>jV _)
 refine⟨.pointer (some ⟨w.heap.size,0,none⟩),_,_,by simp[Instr.alloc,zeroValue,typeInfo,hi,hzz,newVar,newRow,newObj]; rfl,h1,h2,?_,rfl⟩
 rw[VR,Ym (by simpa using (X2.1 hB0).1)]
 exact⟨w.heap.size,Gh.bP _ _ _ _,rfl⟩
def gG (H:aB) (b:Nat):Option (List (List A)):=match H[b]? with | some (.row false _ els)=>some els | _=>none
theorem wa {H:aB} {b:Nat} {C:az} (h:H[b]? = some C) (hC:∀ es els,C≠az.row false es els):gG H b=none:=by
 unfold gG
 rw[h]
 cases C with
 | row wr es els=>cases wr with
  | true=>rfl
  | false=>exact absurd rfl (hC es els)
 | _=>rfl
theorem uy {H H':aB} (h:∀ b,gG H b=gG H' b):∀ q,iQ q H=iQ q H'
 | 0=>rfl
 | q+1=>by
  funext b o m
  have hb:=h b
  have gen:∀ K:aB,iQ (q+1) K b o m=match gG K b with | some els=>.imm (dx (iQ q K) ((els.drop o).take m)) false | none=>.any:=fun K=>by
   unfold iQ gG
   cases K[b]? with
   | none=>rfl
   | some B=>cases B with
    | row wr es els=>cases wr<;>rfl
    | _=>rfl
  rw[gen H,gen H',hb,uy h q]
theorem rB {H H':aB} (h:∀ b,gG H b=gG H' b):snap H=snap H':=by
 funext a
 unfold snap
 rw[uy h 4]
theorem vB {H H':aB} (h:∀ b,gG H b=gG H' b):cC H=cC H':=by
 funext a
 unfold cC Di
 rw[rB h]
def vR (z:Nat->Bool) (r:A×aB):A×aB:=(r.1,cw z r.2)
theorem cY {α β γ:Type} {q:Option α} {F:α->Option β} {G:α->Option γ} {h:γ->β} (hh:∀ a,F a=(G a).map h):q.bind F=(q.bind G).map h:=by
 cases q with
 | none=>rfl
 | some a=>exact hh a
theorem yh {t:TypeId} {a x:A} (hb:∀ b,blk? a=some b->z b=false):lK P t a x (cw z H) lo=(lK P t a x H lo).map (cw z):=by
 unfold lK
 cases df P t with
 | none=>rfl
 | some n=>
  cases x.cells? with
  | none=>rfl
  | some xs=>
   simp only[XV]
   cases (n==0 || !(xs.length==n)) with
   | true=>rfl
   | false=>
    simp only[XX]
    cases a with
    | ptr b o=>
     have hz:=hb b rfl
     simp only[fo hz]
     split
     ·rename_i cs _
      cases (decide (lo<=b)&&decide (o+n<=cs.length)) with
      | false=>rfl
      | true=>simp only[XY,YN,mw hz]
     ·rfl
    | ep b i o=>
     have hz:=hb b rfl
     simp only[fo hz]
     split
     ·rename_i es els _
      split
      ·rename_i cs _
       cases (decide (lo<=b)&&decide (o+n<=cs.length)) with
       | true=>simp only[XY,YN,mw hz]
       | false=>
        simp only[XX]
        cases (decide (lo<=b)&&Nat.beq o 0&&Nat.beq (n / es*es) n&&decide (i+n / es<=els.length)) with
        | true=>simp only[XY,YN,mw hz]
        | false=>rfl
      ·rfl
     ·rfl
    | _=>rfl
theorem uu {t:TypeId} {cs:List A} (hz:z H.length=false):rowOf P t cs (cw z H)=(rowOf P t cs H).map (vR z):=by
 unfold rowOf
 split
 ·cases df P _ with
  | none=>rfl
  | some es=>
   simp only[XV]
   rename_i n e _
   cases (Nat.beq es 0 || Nat.beq n 0 || !Nat.beq cs.length (n*es)) with
   | true=>rfl
   | false=>simp only[XX,YN,vR,gr hz,dv]
 ·rfl
theorem yo {t:TypeId} {c:Bool} (hz:z H.length=false):pG c P t (cw z H)=(pG c P t H).map (vR z):=by
 unfold pG
 cases c with
 | true=>
  simp only[XY]
  unfold oK
  cases iR P t with
  | none=>rfl
  | some cs=>exact uu hz
 | false=>
  simp only[XX]
  unfold mL
  cases iR P t with
  | none=>rfl
  | some cs=>simp only[YN,vR,gr hz,dv]
theorem CS {t:TypeId} {x:A} {c:Bool} (hz:z H.length=false):Aw c P t x (cw z H)=(Aw c P t x H).map (vR z):=by
 unfold Aw
 cases c with
 | true=>
  simp only[XY]
  unfold vi
  cases x.cells? with
  | none=>rfl
  | some cs=>exact uu hz
 | false=>
  simp only[XX]
  unfold Al
  cases x.cells? with
  | none=>rfl
  | some cs=>simp only[YN,vR,gr hz,dv]
theorem rY {t:TypeId} {n c:A} (hz:z H.length=false):iV P t n c (cw z H)=(iV P t n c H).map (vR z):=by
 unfold iV hJ
 refine cY fun e=>cY fun es=>cY fun by_=>cY fun zz=>cY fun n=>cY fun c=>?_
 cases (es==0 || !(zz.length==es) || !decide (c*by_<=fg) || !decide (c<=fg) || !decide (n<=c)) with
 | true=>rfl
 | false=>
  simp only[XX]
  cases n==c with
  | true=>simp only[XY,YN,vR,gr hz,dv]
  | false=>cases n==0 with
   | true=>simp only[XY,XX,YN,vR,gr hz,dv]
   | false=>rfl
theorem A3 {t:TypeId} {n c:A} {b:Bool} (hz:z H.length=false):vQ b P t n c (cw z H)=(vQ b P t n c H).map (vR z):=by
 unfold vQ
 cases b with
 | false=>exact rY hz
 | true=>
  simp only[XY]
  unfold nN
  refine cY fun e=>cY fun es=>cY fun by_=>cY fun zz=>cY fun n=>cY fun c=>?_
  cases (es==0 || !(zz.length==es) || !decide (c*by_<=fg) || !decide (c<=fg) || !(n==c))<;>rfl
theorem yC {a:A} (hb:∀ b,blk? a=some b->z b=false):els? (cw z H) a=els? H a:=by
 cases a with
 | sl b o n c=>simp only[els?,fo (hb b rfl)]
 | v x=>cases x<;>rfl
 | _=>rfl
theorem Ao {t:TypeId} {x y:A} (hx:∀ b,blk? x=some b->z b=false) (hy:∀ b,blk? y=some b->z b=false):rK P t x y (cw z H) lo=(rK P t x y H lo).map (vR z):=by
 unfold rK
 rw[yC hy]
 refine cY fun e=>cY fun es=>cY fun ys=>?_
 cases (es==0 || !(ys.all fun cs=>cs.length==es&&cs.all A.cell)) with
 | true=>rfl
 | false=>
  simp only[XX]
  cases x with
  | sl b o n c=>
   have hz:=hx b rfl
   simp only[fo hz]
   split
   ·rename_i es' els _
    cases (decide (lo<=b)&&es'==es) with
    | true=>simp only[XY,YN,vR,mw hz]
    | false=>rfl
   ·rfl
  | _=>rfl
theorem CX {t2:TypeId} {by_:Nat} {zz:List A} {a:A} (hb:∀ b,blk? a=some b->z b=false):AE P (cw z H) t2 by_ zz a=AE P H t2 by_ zz a:=by
 unfold AE
 rw[yC hb]
theorem wB {t t2:TypeId} {wr:Bool} {x y:A} (hz:z H.length=false) (hx:∀ b,blk? x=some b->z b=false) (hy:∀ b,blk? y=some b->z b=false):bp P t t2 wr x y (cw z H) lo=(bp P t t2 wr x y H lo).map (vR z):=by
 unfold bp
 simp only[CX hy]
 refine cY fun e=>cY fun es=>cY fun by_=>cY fun zz=>cY fun ys=>?_
 cases (es==0 || by_==0 || !(zz.length==es) || !(ys.all fun cs=>cs.length==es&&cs.all A.cell)) with
 | true=>rfl
 | false=>
  simp only[XX]
  cases x with
  | imm xs cl=>cases cl with
   | false=>rfl
   | true=>
    simp only[]
    cases !decide ((xs.length+ys.length)*by_<=fg) with
    | true=>rfl
    | false=>
     simp only[XX]
     cases wr&&xs.isEmpty with
     | true=>simp only[XY,YN,vR,gr hz,dv]
     | false=>
      simp only[XX]
      cases (xs.all fun cs=>cs.length==es&&cs.all A.cell) with
      | true=>simp only[XY,YN,vR,gr hz,dv]
      | false=>rfl
  | sl b o n c=>
   have hzb:=hx b rfl
   simp only[fo hzb]
   split
   ·rename_i es' els _
    cases (!decide ((n+ys.length)*by_<=fg) || !(es'==es) || !decide (o+n<=els.length)) with
    | true=>rfl
    | false=>
     simp only[XX]
     cases c with
     | true=>simp only[XY,YN,vR,gr hz,dv]
     | false=>
      simp only[XX]
      cases (decide (lo<=b)&&o==0&&n==els.length) with
      | true=>simp only[XY,YN,vR,mw hzb]
      | false=>rfl
   ·rfl
  | _=>rfl
theorem Gj {a x:A} (hrow:∀ b,gG (cw z H) b=gG H b):bF a (cw z H) x=bF a H x:=by
 unfold bF
 rw[vB hrow]
theorem EX {o:Oper} {fr:List (Nat×A)} (he:dW o=true) (hz:z H.length=false) (hrow:∀ b,gG (cw z H) b=gG H b) (hop:∀ y∈o.op.operands.toList,∀ b,blk? (cD cx ⟨fr,H⟩ y)=some b->z b=false) :
  b7 cx f lo o ⟨fr,cw z H⟩ (fun a H=>some (a,H))=(b7 cx f lo o ⟨fr,H⟩ (fun a H=>some (a,H))).map (vR z):=by
 have ho:∀ x,cD cx ⟨fr,cw z H⟩ x=cD cx ⟨fr,H⟩ x:=fun x=>by cases x<;>rfl
 have bm:∀ (q:Option (A×aB)),(q.map (vR z)).bind (fun r=>some (r.1,r.2))=(q.bind fun r=>some (r.1,r.2)).map (vR z):=fun q=>by cases q<;>rfl
 unfold dW at he
 split at he
 ·rename_i t ad v h
  unfold b7
  simp only[h,ho]
  rw[Gj hrow,yh (hop ad (by rw[h]; simp[Op.operands]))]
  cases lK cx.P t (cD cx ⟨fr,H⟩ ad) (bF (cD cx ⟨fr,H⟩ ad) H (cD cx ⟨fr,H⟩ v)) H lo<;>rfl
 ·rename_i t h
  unfold b7
  simp only[h,ho]
  rw[yo hz,bm]
 ·rename_i t v h
  unfold b7
  simp only[h,ho]
  rw[CS hz,bm]
 ·rename_i t l c h
  unfold b7
  simp only[h,ho]
  rw[A3 hz,bm]
 ·rename_i c h
  unfold b7
  simp only[h]
  have hopc:∀ y∈c.args.toList,∀ b,blk? (cD cx ⟨fr,H⟩ y)=some b->z b=false:=fun y hy=>hop y (by rw[h]; simp[Op.operands,Call.operands]; exact .inr (by simpa using hy))
  split at he
  ·rename_i hca
   unfold qq
   simp only[hca]
   split
   all_goals first | (rename_i hh _ _; cases hh; done) | (rename_i hh _ _; injection hh with hh; cases hh; done) | skip
   ·rename_i x y t t2 _ hargs _
    simp only[ho]
    rw[wB hz (hopc x (by rw[hargs]; simp)) (hopc y (by rw[hargs]; simp)),bm]
   all_goals first | rfl | (rename_i hh _; injection hh with hh; cases hh; done)
  ·rename_i hca
   unfold qq
   simp only[hca]
   split
   all_goals first | (rename_i hh _ _; cases hh; done) | (rename_i hh _ _; injection hh with hh; cases hh; done) | skip
   ·rename_i x y t t2 _ hargs _
    simp only[ho]
    rw[Ao (hopc x (by rw[hargs]; simp)) (hopc y (by rw[hargs]; simp)),bm]
   all_goals first | rfl | (rename_i hh _; injection hh with hh; cases hh; done)
  ·cases he
 ·cases he
end
section
open Go.RowKit
section
variable {F:Fence} {n:Nat} {P:Program} {ops:Array Oper} {Q:Exit->Act->World->Prop}
def GA (F:Fence) (n:Nat) (P:Program) (o:Oper) (ev:Operand->Value) (w:World) (R:Value->World->Prop) (Rp:List PanicEntry->World->Prop):Prop:=
 zX F n P o ev w R∨∃ f args w',(execOp ev o).run P w=.ok (.enter f args) w'/\CallsIn F (n - 1) P f args w' fun
   | .returned v,w''=>R v w''
   | .panicked ch,w''=>Rp ch w''
   | _,_=>False
theorem uJ (hWF:BF F) {i:Nat} {o:Oper} (ho:ops[i]? = some o) (hp:ng o=true) {a:Act} {w:World} {K:Act->World->Prop} {R:Value->World->Prop}
  (h:if Region.wanted o (yielded ops a.tmps)=true then GA F n P o a.eval w R (fun ch w'=>Q (.panic ch) a w') else R undef w) (hK:∀ v w',R v w'->K (a.put o.dst v) w'):wpOpIn F n P ops Q i K a w:=by
 by_cases hw:Region.wanted o (yielded ops a.tmps)=true
 ·rw[X4 hw] at h
  rcases h with h | ⟨f,args,w',h1,h2⟩
  ·exact lS hWF ho hp (by rw[X4 hw]; exact h) hK
  ·unfold wpOpIn
   simp only[ho]
   rw[X4 hw]
   refine⟨fun f _=>hWF.2 f,?_⟩
   rw[qby _ _ _ (fun c hc=>by unfold ng at hp; rw[hc] at hp; cases hp),h1]
   have hd:F.depth.isSome=true->1<=n:=fun hs=>by rw[hWF.1] at hs; cases hs
   simp only[Oper.uponIn]
   exact⟨hd,h2.mono fun e w'' he=>by cases e<;>first | exact hK _ _ he | exact he | exact he.elim⟩
 ·exact lS hWF ho hp (by rw[X8 hw] at h ⊢; exact h) hK
theorem ur {a0:Act} {w0:World} (hWF:BF F) (hm:P.follows .mixedOrders=true) (N m:Nat) (hN:a0.tmps.size=N) (iX:uY ops N=true) (chkt:fO ops m=true)
  (I:(Nat->Prop)->Act->World->Prop) (h0:∀ D,(∀ i,¬ D i)->I D a0 w0.drew)
  (hstep:∀ (D D':Nat->Prop) i o,i<m->ops[i]? = some o->(∀ j,D j->j<m)->¬ D i->(∀ j,fX ops i j=true->D j)->(∀ j k,D j->fX ops j k=true->D k)->(∀ j,D' j↔j=i∨D j)->∀ (a:Act) (w:World),I D a w->a.tmps.size=N->a.defers=a0.defers ->
   if Region.wanted o (yielded ops a.tmps)=true then GA F n P o a.eval w (fun v w'=>I D' (a.put o.dst v) w') (fun ch w'=>Q (.panic ch) a w') else I D' (a.put o.dst undef) w)
  (hend:∀ (D:Nat->Prop) (a:Act) (w:World),(∀ i,i<m->D i)->(∀ j,D j->j<m)->I D a w->a.defers=a0.defers->a.tmps.size=N->wpListIn F n P ops Q (ops.toList.drop m) a w) :
  LW F n P ops Q a0 w0:=by
 have chk1:∀ i o,ops[i]? = some o->ng o=true/\(∀ e∈o.after,Region.binds .any e=true->e.on<i):=by
  intro i o ho
  have hi:i<ops.size:=(X5.1 ho).1
  have h:=Yb.1 iX i (Yn.2 hi)
  simp only[ho,XZ] at h
  obtain ⟨⟨⟨⟨⟨h1,h2⟩,h3⟩,h4⟩,h5⟩,h6⟩:=h
  refine⟨h1,fun e he hb=>?_⟩
  have:=Z5.1 h3 e he
  rw[hb] at this; simpa using this
 have hm2:m<=ops.size:=by
  simp only[fO,XZ,X6] at chkt
  exact chkt.1.1
 have main:∀ (fuel:Nat) (listed:Array Bool) (a:Act) (w:World),CJ ops listed<=fuel->listed.size=ops.size->I (fun i=>eX ops listed i) a w->a.defers=a0.defers->a.tmps.size=N ->
   (∀ i o,ops[i]? = some o->eX ops listed i->∀ e∈o.after,Region.binds .any e=true->eX ops listed e.on)->(∀ i,m<=i->¬ eX ops listed i)->wpAnyIn F n P .any ops Q fuel listed a w:=by
  have getD_eq:∀ (listed:Array Bool) (i:Nat),i<listed.size->listed.getD i true=listed.getD i false:=fun listed i hi=>by simp[hi]
  intro fuel
  induction fuel with
  | zero=>
   intro listed a w hu hls hI hdf hsz hcl hnt
   have all:∀ i,i<ops.size->eX ops listed i:=fun i hi=>by
    cases hc:listed.getD i false with
    | true=>exact hc
    | false=>
     have hmem:i∈(List.range ops.size).filter (fun i=>!listed.getD i true):=qaJ.2 ⟨Yn.2 hi,by rw[getD_eq _ _ j6,hc]; rfl⟩
     have:=ZX hmem
     unfold CJ at hu; omega
   have hmm:m=ops.size:=qaK hm2 (ZT fun h=>hnt m (X1 _) (all m h))
   exact qM chkt 0 ops.size j6 hm2 0 listed a w (X1 _) hls (fun i hi=>⟨fun _=>hi,fun _=>all i hi⟩)
    (by rw[<-hmm]; exact hend _ a w (fun i hi=>all i j6) (fun j hj=>Zq fun hle=>hnt j hle hj) hI hdf hsz)
  | succ fuel ih=>
   intro listed a w hu hls hI hdf hsz hcl hnt
   by_cases hall:∀ i,i<m->eX ops listed i
   ·refine qM chkt (ops.size - m) m j6 (X1 _) (fuel+1) listed a w ?_ hls (fun i hi=>⟨fun h=>Zq fun hle=>hnt i hle h,fun h=>hall i h⟩)
     (hend _ a w hall (fun j hj=>Zq fun hle=>hnt j hle hj) hI hdf hsz)
    refine Yp ?_ hu
    unfold CJ
    have:((List.range ops.size).filter fun i=>decide (m<=i)).length=ops.size - m:=by
     rw[<-Zm]
     have:∀ s,(List.range s).countP (fun i=>decide (m<=i))=s - m:=by
      intro s
      induction s with
      | zero=>simp
      | succ s ih=>rw[List.range_succ,List.countP_append,ih]; simp[List.countP_cons]; split<;>omega
     exact this _
    rw[<-this]
    rw[<-Zm,<-Zm]
    refine qbq fun i hi h=>?_
    have hi:=Yn.1 hi
    have hn:=hnt i (by simpa using h)
    unfold eX at hn
    rw[getD_eq _ _ j6]
    simpa using hn
   ·simp only[qbt] at hall
    obtain ⟨i0,hi0,hni0⟩:=hall
    refine⟨fun hrd=>?_,fun i hi=>?_⟩
    ·exfalso
     have:∀ i,i<m->eX ops listed i:=by
      intro i
      induction i using Nat.strongRecOn with
      | _ i ih2=>
       intro hi
       cases hc:listed.getD i false with
       | true=>exact hc
       | false=>
        have:i∈Region.ready .any ops listed:=by
         refine qaa.2 ⟨by rw[getD_eq _ _ j6]; exact hc,_,Y1 j6,fun e he hb=>?_⟩
         have hlt:=(chk1 i _ (Y1 j6)).2 e he hb
         exact ih2 e.on hlt j6
        rw[hrd] at this; cases this
     exact hni0 (this i0 hi0)
    obtain ⟨hun,o,ho,hall⟩:=qaa.1 hi
    have his:i<ops.size:=(X5.1 ho).1
    have him:i<m:=Zq fun hle=>by
     simp only[fO,XZ] at chkt
     have h1:=Yb.1 chkt.1.2 i (Yn.2 his)
     simp only[YU,X6] at h1
     have h2:=Yb.1 (h1.resolve_left j6) i0 (Yn.2 hi0)
     exact hni0 (mc hcl i i0 ⟨o,ho,hall⟩ h2)
    obtain ⟨c1,c3⟩:=chk1 i o ho
    have hnot:¬ eX ops listed i:=by unfold eX; rw[<-getD_eq _ _ j6,hun]; simp
    have come_set:∀ k,eX ops (listed.setIfInBounds i true) k↔k=i∨eX ops listed k:=fun k=>by
     unfold eX
     by_cases e:k=i
     ·subst e; simp[hls,his]
     ·rw[Z4 false (YW e)]; simp[e]
    have hlt:∀ j,eX ops listed j->j<m:=fun j hj=>Zq fun hle=>hnt j hle hj
    refine uJ hWF ho c1 (R:=fun v w'=>I (fun k=>eX ops (listed.setIfInBounds i true) k) (a.put o.dst v) w') (hstep _ _ i o him ho hlt hnot (fun j hb=>mc hcl i j ⟨o,ho,hall⟩ hb) (fun j k hj hb=>?_) come_set a w hI hsz hdf) ?_
    ·cases hoj:ops[j]? with
     | none=>exact absurd (Array.getElem?_eq_none_iff.1 hoj) (by have:=hlt j hj; omega)
     | some oj=>exact mc hcl j k ⟨oj,hoj,hcl j oj hoj hj⟩ hb
    ·intro v w' hI'
     refine ih _ _ _ ?_ (by simpa using hls) hI' ?_ ?_ ?_ ?_
     ·have:=filter_lt (fun k=>!listed.getD k true) (fun k=>!(listed.setIfInBounds i true).getD k true) (List.range ops.size) (fun x hx hq=>by
       by_cases e:i=x
       ·subst e; rw[hun]; rfl
       ·rw[Z4 true e] at hq; exact hq) ⟨i,Yn.2 his,by rw[hun]; rfl,by simp[hls,his]⟩
      unfold CJ at *; omega
     ·cases hd:o.dst<;>simp[Act.put,hdf]
     ·cases hd:o.dst<;>simp[Act.put,hsz]
     ·intro k ok hok hk e he hb
      rw[come_set]
      rcases (come_set k).1 hk with rfl | hk
      ·rw[ho] at hok; cases hok
       exact .inr (hall e he hb)
      ·exact .inr (hcl k ok hok hk e he hb)
     ·intro k hk hc
      rcases (come_set k).1 hc with rfl | hc
      ·omega
      ·exact hnt k hk hc
 have h00:∀ i,¬ eX ops (Array.replicate ops.size false) i:=fun i hc=>by
  unfold eX at hc
  by_cases h:i<ops.size<;>simp[Array.getD,h] at hc
 refine DQ hm (main _ _ _ _ ?_ r7 (h0 _ h00) rfl hN ?_ ?_)
 ·unfold CJ
  exact Yp (qaF _ _) r7
 ·intro i o _ hc; exact absurd hc (h00 i)
 ·intro i _ hc; exact h00 i hc
end
variable {H H':aB} {g g':Gh} {w0 w w':World} {cx:Cx} {s:St} {a:Act} {F:Fence} {n:Nat} {N lo:Nat} {mb:Mb} {H0:aB} {gs:Gh} {ws:World} {Bs:aB->Gh->World->Prop} {f:Nat} {ops:Array Oper}
theorem tB {call:bj} {o:Oper} {fr:List (Nat×A)} {H H':aB} (hk:cd o=0):il cx call f o ⟨fr,H⟩=il cx call f o ⟨fr,H'⟩:=by
 have ho:∀ x,cD cx ⟨fr,H⟩ x=cD cx ⟨fr,H'⟩ x:=fun x=>by cases x<;>rfl
 have hof:cD cx ⟨fr,H⟩=cD cx ⟨fr,H'⟩:=funext ho
 unfold cd at hk
 unfold il b7
 split at hk
 all_goals first
  | (rename_i h; simp only[h,ho,hof]; done)
  | (rename_i h; simp only[h,ho,hof]; rfl)
  | (cases hk; done)
  | (split at hk<;>cases hk; done)
theorem Dj {H H':aB} {a:A} (h:kJ a=true):cC H a=cC H' a:=by
 unfold kJ at h
 unfold cC
 split
 ·cases h
 ·rename_i cs
  congr 1
  refine qbz fun c hc=>?_
  have:=Yb.1 h c hc
  unfold Jo at this
  unfold Di
  split
  ·cases this
  ·rfl
  ·rfl
 ·rfl
theorem tG:∀ {l:List A},qy l=true->∀ a∈l,kJ a=true
 | [],_,a,ha=>by cases ha
 | x :: l,h,a,ha=>by
  unfold qy at h
  cases hx:kJ x with
  | false=>rw[hx] at h; cases h
  | true=>
   rw[hx] at h
   rcases YJ.1 ha with rfl | ha
   ·exact hx
   ·exact tG h a ha
theorem yL {call:bj} {o:Oper} {fr:List (Nat×A)} {H H':aB} (hk:cd o=2) (hf:qy (partsOf cx ⟨fr,H⟩ o.op)=true):il cx call f o ⟨fr,H⟩=il cx call f o ⟨fr,H'⟩:=by
 have ho:∀ x,cD cx ⟨fr,H⟩ x=cD cx ⟨fr,H'⟩ x:=fun x=>by cases x<;>rfl
 unfold cd at hk
 split at hk<;>first | (cases hk; done) | (split at hk<;>cases hk; done) | skip
 rename_i t len parts h
 have hf:=tG hf
 unfold partsOf at hf
 rw[h] at hf
 simp only[] at hf
 unfold il b7
 simp only[h]
 have:(parts.toList.map fun p=>(p.1,cC H (cD cx ⟨fr,H⟩ p.2)))=parts.toList.map fun p=>(p.1,cC H' (cD cx ⟨fr,H'⟩ p.2)):=by
  refine qbz fun p hp=>?_
  rw[<-ho,Dj (hf _ (qaI.2 ⟨p,hp,rfl⟩))]
 rw[this]
theorem oX {H H':aB} {x:A} (hb:∀ b,blk? x=some b->H'[b]? = H[b]?):fT H x=fT H' x:=by
 unfold fT
 cases x with
 | ptr b o=>simp only[]; rw[hb b rfl]
 | ep b i o=>simp only[]; rw[hb b rfl]
 | sl b o n c=>simp only[]; rw[hb b rfl]
 | mr b=>simp only[]; rw[hb b rfl]
 | _=>rfl
theorem xb {call:bj} {o:Oper} {fr:List (Nat×A)} {H H':aB} (hk:cd o=1) (hb:∀ b,blk? (addrOf cx ⟨fr,H⟩ o.op)=some b->H'[b]? = H[b]?):il cx call f o ⟨fr,H⟩=il cx call f o ⟨fr,H'⟩:=by
 have ho:∀ x,cD cx ⟨fr,H⟩ x=cD cx ⟨fr,H'⟩ x:=fun x=>by cases x<;>rfl
 have hof:cD cx ⟨fr,H⟩=cD cx ⟨fr,H'⟩:=funext ho
 unfold cd at hk
 split at hk<;>first | (cases hk; done) | skip
 ·rename_i t x h
  unfold addrOf at hb
  rw[h] at hb
  simp only[] at hb
  unfold il b7
  simp only[h]
  have:nM cx.P t (cD cx ⟨fr,H⟩ x) H=nM cx.P t (cD cx ⟨fr,H'⟩ x) H':=by
   rw[<-ho]
   unfold nM
   cases hx:cD cx ⟨fr,H⟩ x with
   | ptr b o=>simp only[]; rw[hb b (by rw[hx]; rfl)]
   | ep b i o=>simp only[]; rw[hb b (by rw[hx]; rfl)]
   | _=>rfl
  rw[this]
 ·rename_i t x i h
  unfold addrOf at hb
  rw[h] at hb
  simp only[] at hb
  unfold il b7
  simp only[h]
  have:gg cx.P t (cD cx ⟨fr,H⟩ x) i H=gg cx.P t (cD cx ⟨fr,H'⟩ x) i H':=by
   rw[<-ho]
   unfold gg
   rw[oX hb]
  rw[this]
 ·rename_i t x i h
  unfold addrOf at hb
  rw[h] at hb
  simp only[] at hb
  unfold il b7
  simp only[h]
  have:c7 cx.P t (cD cx ⟨fr,H⟩ x) (cD cx ⟨fr,H⟩ i) H=c7 cx.P t (cD cx ⟨fr,H'⟩ x) (cD cx ⟨fr,H'⟩ i) H':=by
   rw[<-ho,<-ho]
   unfold c7
   rw[oX hb]
   cases hx:cD cx ⟨fr,H⟩ x with
   | ptr b o=>rfl
   | ep b i o=>simp only[]; rw[hb b (by rw[hx]; rfl)]
   | sl b o n c=>simp only[]; rw[hb b (by rw[hx]; rfl)]
   | _=>rfl
  rw[this]
 ·rename_i t x lo hi mx h
  unfold addrOf at hb
  rw[h] at hb
  simp only[] at hb
  unfold il b7
  simp only[h]
  have:∀ a b c,eI cx.P t (cD cx ⟨fr,H⟩ x) a b c H=eI cx.P t (cD cx ⟨fr,H'⟩ x) a b c H':=fun a b c=>by
   rw[<-ho]
   generalize hx:cD cx ⟨fr,H⟩ x=y at hb ⊢
   unfold eI
   split
   ·rfl
   ·rfl
   ·rename_i hb'
    rw[hb _ rfl]
   ·rfl
   ·rename_i hb'
    rw[hb _ rfl]
   ·rfl
  simp only[this]
  simp only[hof]
 ·rename_i x h
  unfold addrOf at hb
  rw[h] at hb
  simp only[] at hb
  unfold il b7
  simp only[h]
  have:CO (cD cx ⟨fr,H⟩ x) H=CO (cD cx ⟨fr,H'⟩ x) H':=by
   rw[<-ho]
   have hr:=oX hb
   unfold CO
   cases hx:cD cx ⟨fr,H⟩ x with
   | ptr b o=>rw[hx] at hr; simp only[ru,hr]
   | ep b i o=>rw[hx] at hr; simp only[ru,hr]
   | fn q _ _=>cases q<;>rfl
   | _=>rfl
  rw[this]
 ·rename_i t1 t2 x h
  unfold addrOf at hb
  rw[h] at hb
  simp only[] at hb
  unfold il b7
  simp only[h]
  have:bz cx.P t1 t2 (cD cx ⟨fr,H⟩ x) H=bz cx.P t1 t2 (cD cx ⟨fr,H'⟩ x) H':=by
   rw[<-ho]
   have he:yz H (cD cx ⟨fr,H⟩ x)=yz H' (cD cx ⟨fr,H⟩ x):=by
    unfold yz els?
    cases hx:cD cx ⟨fr,H⟩ x with
    | sl b o n c=>simp only[]; rw[hb b (by rw[hx]; rfl)]
    | v y=>rfl
    | _=>rfl
   generalize cD cx ⟨fr,H⟩ x=z at he
   unfold bz
   split
   ·rw[he]
   ·rfl
   ·rfl
  rw[this]
 ·rename_i t x q c h
  unfold addrOf at hb
  rw[h] at hb
  simp only[] at hb
  unfold il b7
  simp only[h]
  have:gS cx.P t (cD cx ⟨fr,H⟩ x) (cD cx ⟨fr,H⟩ q) c H=gS cx.P t (cD cx ⟨fr,H'⟩ x) (cD cx ⟨fr,H'⟩ q) c H':=by
   rw[<-ho,<-ho]
   unfold gS
   cases hx:cD cx ⟨fr,H⟩ x with
   | mr b=>simp only[]; rw[hb b (by rw[hx]; rfl)]
   | _=>rfl
  rw[this]
 ·rename_i c h
  split at hk<;>first | (cases hk; done) | skip
  rename_i hc
  unfold addrOf at hb
  rw[h] at hb
  simp only[] at hb
  unfold il b7
  simp only[h,hc]
  have hi:je (.call c)=false:=by unfold je; simp only[hc]
  rw[hi,XX,XX]
  unfold qq
  simp only[hc]
  cases hx:c.args.toList with
  | nil=>rfl
  | cons y l=>
   rw[hx] at hb
   simp only[] at hb
   cases l with
   | nil=>
    cases c.argTypes.toList with
    | nil=>rfl
    | cons t ts=>cases ts with
     | nil=>
      simp only[]
      have:qX cx.P t (cD cx ⟨fr,H⟩ y) H=qX cx.P t (cD cx ⟨fr,H'⟩ y) H':=by
       rw[<-ho]
       unfold qX
       rw[oX hb]
      rw[this]
     | cons _ _=>rfl
   | cons _ _=>rfl
theorem jE {H:aB} {x:A} {b:Nat} (h:fT H x=true) (hb:blk? x=some b):∃ B,H[b]? = some B:=by
 unfold fT at h
 cases x with
 | ptr b' o=>cases hb; cases hq:H[b]? with
  | none=>simp only[hq] at h; cases h
  | some B=>exact⟨B,rfl⟩
 | ep b' i o=>cases hb; cases hq:H[b]? with
  | none=>simp only[hq] at h; cases h
  | some B=>exact⟨B,rfl⟩
 | sl b' o n c=>cases hb; cases hq:H[b]? with
  | none=>simp only[hq] at h; cases h
  | some B=>exact⟨B,rfl⟩
 | mr b'=>cases hb; cases hq:H[b]? with
  | none=>simp only[hq] at h; cases h
  | some B=>exact⟨B,rfl⟩
 | _=>cases hb
theorem vy {call:bj} {o:Oper} {s:St} {x:A} {b:Nat} (hk:cd o=1) (h1:il cx call f o s=some x) (hb:blk? (addrOf cx s o.op)=some b):∃ B,s.H[b]? = some B:=by
 unfold cd at hk
 unfold addrOf at hb
 split at hk<;>first | (cases hk; done) | skip
 ·rename_i t y hx
  rw[hx] at hb
  simp only[] at hb
  unfold il b7 at h1
  simp only[hx] at h1
  obtain ⟨_,h1,_⟩:=bH h1
  unfold nM at h1
  obtain ⟨_,_,h1⟩:=bH h1
  obtain ⟨_,h1⟩:=fe h1
  generalize cD cx s y=z at hb h1
  cases z with
  | ptr b2 o2=>cases hb; cases hq:s.H[b]? with
   | none=>simp only[hq] at h1; cases h1
   | some B=>exact⟨B,rfl⟩
  | ep b2 i2 o2=>cases hb; cases hq:s.H[b]? with
   | none=>simp only[hq] at h1; cases h1
   | some B=>exact⟨B,rfl⟩
  | sl b2 o2 n2 c2=>cases h1
  | mr _=>cases h1
  | _=>cases hb
 ·rename_i t y q hx
  rw[hx] at hb
  simp only[] at hb
  unfold il b7 at h1
  simp only[hx] at h1
  obtain ⟨_,h1,_⟩:=bH h1
  unfold gg at h1
  exact jE (br h1).1 hb
 ·rename_i t y q hx
  rw[hx] at hb
  simp only[] at hb
  unfold il b7 at h1
  simp only[hx] at h1
  obtain ⟨_,h1,_⟩:=bH h1
  unfold c7 at h1
  obtain ⟨_,_,h1⟩:=bH h1
  exact jE (br h1).1 hb
 ·rename_i t y q1 q2 q3 hx
  rw[hx] at hb
  simp only[] at hb
  unfold il b7 at h1
  simp only[hx] at h1
  obtain ⟨_,h1,_⟩:=bH h1
  obtain ⟨_,h1⟩:=br h1
  generalize cD cx s y=z at hb h1
  unfold eI at h1
  split at h1
  ·cases hb
  ·cases hb
  ·cases hb
   obtain ⟨_,_,h1⟩:=bH h1
   obtain ⟨_,_,h1⟩:=bH h1
   obtain ⟨_,_,h1⟩:=bH h1
   obtain ⟨hc,_⟩:=br h1
   rw[XZ] at hc
   have hc:=hc.2
   cases hq:s.H[b]? with
   | none=>rw[hq] at hc; cases hc
   | some B=>exact⟨B,rfl⟩
  ·cases hb
  ·cases hb
   obtain ⟨_,_,h1⟩:=bH h1
   obtain ⟨_,_,h1⟩:=bH h1
   obtain ⟨_,_,h1⟩:=bH h1
   obtain ⟨hc,_⟩:=br h1
   rw[XZ] at hc
   have hc:=hc.2
   cases hq:s.H[b]? with
   | none=>rw[hq] at hc; cases hc
   | some B=>exact⟨B,rfl⟩
  ·cases h1
 ·rename_i y hx
  rw[hx] at hb
  simp only[] at hb
  unfold il b7 at h1
  simp only[hx] at h1
  obtain ⟨_,h1,_⟩:=bH h1
  unfold CO at h1
  obtain ⟨hn,_⟩:=br h1
  generalize cD cx s y=z at hb hn
  cases z with
  | ptr b2 o2=>exact jE (x:=.ptr b2 o2) hn hb
  | ep b2 i2 o2=>exact jE (x:=.ep b2 i2 o2) hn hb
  | sl b2 o2 n2 c2=>cases hn
  | mr _=>cases hn
  | _=>cases hb
 ·rename_i t1 t2 y hx
  rw[hx] at hb
  simp only[] at hb
  unfold il b7 at h1
  simp only[hx] at h1
  obtain ⟨_,h1,_⟩:=bH h1
  generalize cD cx s y=z at hb h1
  cases z with
  | sl b2 o2 n2 c2=>
   cases hb
   cases hq:s.H[b]? with
   | some B=>exact⟨B,rfl⟩
   | none=>
    unfold bz at h1
    split at h1
    ·rename_i heq
     split at h1
     ·obtain ⟨_,h1,_⟩:=bH h1
      simp only[yz,els?,hq] at h1
      cases h1
     ·cases h1
    ·rename_i heq
     cases heq
    ·obtain ⟨_,h1,_⟩:=bH h1
     cases h1
  | ptr _ _=>
   unfold bz at h1
   split at h1
   ·split at h1
    ·obtain ⟨_,h1,_⟩:=bH h1
     cases h1
    ·cases h1
   ·rename_i heq
    cases heq
   ·obtain ⟨_,h1,_⟩:=bH h1
    cases h1
  | ep _ _ _=>
   unfold bz at h1
   split at h1
   ·split at h1
    ·obtain ⟨_,h1,_⟩:=bH h1
     cases h1
    ·cases h1
   ·rename_i heq
    cases heq
   ·obtain ⟨_,h1,_⟩:=bH h1
    cases h1
  | mr _=>
   unfold bz at h1
   split at h1
   ·split at h1
    ·obtain ⟨_,h1,_⟩:=bH h1
     cases h1
    ·cases h1
   ·rename_i heq
    cases heq
   ·obtain ⟨_,h1,_⟩:=bH h1
    cases h1
  | _=>cases hb
 ·rename_i t y q c hx
  rw[hx] at hb
  simp only[] at hb
  unfold il b7 at h1
  simp only[hx] at h1
  obtain ⟨_,h1,_⟩:=bH h1
  generalize cD cx s y=z at hb h1
  unfold gS at h1
  obtain ⟨_,_,h1⟩:=bH h1
  obtain ⟨_,_,h1⟩:=bH h1
  cases z with
  | mr b2=>cases hb; cases hq:s.H[b]? with
   | none=>simp only[hq] at h1; cases h1
   | some B=>exact⟨B,rfl⟩
  | ptr _ _=>cases h1
  | ep _ _ _=>cases h1
  | sl _ _ _ _=>cases h1
  | _=>cases hb
 ·rename_i c hx
  split at hk<;>first | (cases hk; done) | skip
  rename_i hc
  rw[hx] at hb
  simp only[] at hb
  unfold il b7 at h1
  simp only[hx,hc] at h1
  have hi:je (.call c)=false:=by unfold je; simp only[hc]
  rw[hi,XX] at h1
  unfold qq at h1
  simp only[hc] at h1
  cases hargs:c.args.toList with
  | nil=>rw[hargs] at hb; cases hb
  | cons y l=>
   rw[hargs] at hb h1
   simp only[] at hb h1
   split at h1<;>first | (cases h1; done) | skip
   all_goals first
    | (rename_i hh _ _; injection hh with hh; cases hh; done)
    | (rename_i hh _; injection hh with hh; cases hh; done)
    | skip
   rename_i x' t' _ hl _
   cases hl
   obtain ⟨_,h1,_⟩:=bH h1
   unfold qX at h1
   exact jE (br h1).1 hb
theorem tA {call:bj} {o:Oper} {fr:List (Nat×A)} {H H':aB} (hk:cd o=2∨(cd o=4/\vX cx o=true)) (h:∀ b,gG H b=gG H' b):il cx call f o ⟨fr,H⟩=il cx call f o ⟨fr,H'⟩:=by
 have ho:∀ x,cD cx ⟨fr,H⟩ x=cD cx ⟨fr,H'⟩ x:=fun x=>by cases x<;>rfl
 have hof:cD cx ⟨fr,H⟩=cD cx ⟨fr,H'⟩:=funext ho
 rcases hk with hk | ⟨_,hk⟩
 ·unfold cd at hk
  split at hk<;>first | (cases hk; done) | (rename_i c _; split at hk<;>cases hk; done) | skip
  rename_i t len parts ho
  unfold il b7
  simp only[ho,hof,vB h]
 ·unfold vX at hk
  split at hk
  ·rename_i c hc
   split at hk
   ·rename_i q hq
    rw[XZ] at hk
    have hi:je o.op=true:=by unfold je; rw[hc]; simp only[hq]
    unfold il
    simp only[hc] at hi ⊢
    rw[hi,XY,XY]
    unfold jz fm
    simp only[hq]
    have hfv:∀ K,cD cx ⟨fr,K⟩ (.func q)=.fn (.func q) [] []:=fun _=>rfl
    rw[hfv,hfv]
    unfold sd
    simp only[hk.1,hk.2,XY,hof,rB h]
   ·cases hk
  ·cases hk
theorem E2 {call:bj} {o:Oper} {s:St} {H H':aB} (hk:Hm cx s o=true) (h:∀ b,gG H b=gG H' b):il cx call f o ⟨s.fr,H⟩=il cx call f o ⟨s.fr,H'⟩:=by
 have ho:∀ x,cD cx ⟨s.fr,H⟩ x=cD cx ⟨s.fr,H'⟩ x:=fun x=>by cases x<;>rfl
 have ho2:∀ x,cD cx ⟨s.fr,H'⟩ x=cD cx s x:=fun x=>by cases x<;>rfl
 have hof:cD cx ⟨s.fr,H⟩=cD cx ⟨s.fr,H'⟩:=funext ho
 have hof2:cD cx ⟨s.fr,H'⟩=cD cx s:=funext ho2
 unfold Hm at hk
 split at hk
 ·rename_i c hc
  have hi:je (.call c)=true:=by
   cases hi:je (.call c) with
   | true=>rfl
   | false=>rw[hi] at hk; cases hk
  rw[hi,XY] at hk
  have e1:jz cx ⟨s.fr,H⟩ (.call c)=jz cx s (.call c):=by unfold jz; rw[hof,hof2]
  have e2:jz cx ⟨s.fr,H'⟩ (.call c)=jz cx s (.call c):=by unfold jz; rw[hof2]
  have e3:fm cx ⟨s.fr,H⟩ (.call c)=fm cx ⟨s.fr,H'⟩ (.call c):=by unfold fm; rw[hof]
  unfold il
  simp only[hc]
  rw[hi,XY,XY,e1,e2,e3]
  split at hk
  ·rename_i q first cap hfv
   rw[XZ] at hk
   rw[hfv]
   unfold sd
   simp only[hk.1,hk.2,XY,rB h]
  ·cases hk
 ·cases hk
theorem CU {o:Oper} {x:A} {H':aB} (he:Ax o=true) (h:b7 cx f lo o s (fun a H=>some (a,H))=some (x,H')):∀ b,gG H' b=gG s.H b:=by
 have new:∀ B,(∀ es els,B≠az.row false es els)->∀ b,gG (s.H++[B]) b=gG s.H b:=fun B hB b=>by
  unfold gG
  by_cases hb:b<s.H.length
  ·rw[Yf hb]
  ·rw[Yo j6,Y7 (by omega:s.H.length<=b)]
   cases hx:[B][b - s.H.length]? with
   | none=>rfl
   | some C=>
    have:C=B:=by
     have:=Yk hx
     simpa using this
    subst this
    cases C with
    | row wr es els=>cases wr with
     | true=>rfl
     | false=>exact absurd rfl (hB es els)
    | _=>rfl
 have setb:∀ c B B0,s.H[c]? = some B0->(∀ es els,B0≠az.row false es els)->(∀ es els,B≠az.row false es els)->∀ b,gG (s.H.set c B) b=gG s.H b:=fun c B B0 h0 h1 h2 b=>by
  by_cases hb:b=c
  ·subst hb
   rw[wa (Ym (X2.1 h0).1) h2,wa h0 h1]
  ·unfold gG
   rw[Yd (YW hb)]
 have nb:∀ cs es els,az.box cs≠az.row false es els:=fun _ _ _ h=>by cases h
 have nt:∀ es els es' els',az.row true es els≠az.row false es' els':=fun _ _ _ _ h=>by cases h
 have row:∀ {t cs y K},rowOf cx.P t cs s.H=some (y,K)->∃ es els,K=s.H++[.row true es els]:=fun {t cs y K} h=>by
  unfold rowOf at h
  split at h
  ·obtain ⟨es,_,h⟩:=bH h
   obtain ⟨_,h⟩:=fe h
   cases h
   exact⟨_,_,rfl⟩
  ·cases h
 unfold Ax at he
 split at he
 ·rename_i t ad v ho
  unfold b7 at h
  simp only[ho] at h
  obtain ⟨K,h1,h⟩:=bH h
  cases h
  unfold lK at h1
  obtain ⟨nn,_,h1⟩:=bH h1
  obtain ⟨xs,_,h1⟩:=bH h1
  obtain ⟨_,h1⟩:=fe h1
  split at h1
  ·split at h1
   ·rename_i hb
    obtain ⟨_,h1⟩:=br h1
    cases h1
    exact setb _ _ _ hb (nb _) (nb _)
   ·cases h1
  ·split at h1
   ·rename_i hb
    split at h1
    ·rw[bG] at h1
     split at h1
     ·cases h1
      exact setb _ _ _ hb (nt _ _) (nt _ _)
     ·obtain ⟨_,h1⟩:=br h1
      cases h1
      exact setb _ _ _ hb (nt _ _) (nt _ _)
    ·cases h1
   ·cases h1
  ·cases h1
 ·rename_i t ho
  unfold b7 at h
  simp only[ho] at h
  obtain ⟨⟨y,K⟩,h1,h⟩:=bH h
  cases h
  unfold pG at h1
  rw[bG] at h1
  split at h1
  ·unfold oK at h1
   obtain ⟨cs,_,h1⟩:=bH h1
   obtain ⟨es,els,rfl⟩:=row h1
   exact new _ (nt _ _)
  ·unfold mL at h1
   obtain ⟨cs,_,h1⟩:=YE.1 h1
   cases h1
   exact new _ (nb _)
 ·rename_i t v ho
  unfold b7 at h
  simp only[ho] at h
  obtain ⟨⟨y,K⟩,h1,h⟩:=bH h
  cases h
  unfold Aw at h1
  rw[bG] at h1
  split at h1
  ·unfold vi at h1
   obtain ⟨cs,_,h1⟩:=bH h1
   obtain ⟨es,els,rfl⟩:=row h1
   exact new _ (nt _ _)
  ·unfold Al at h1
   obtain ⟨cs,_,h1⟩:=YE.1 h1
   cases h1
   exact new _ (nb _)
 ·rename_i c ho
  unfold b7 at h
  simp only[ho] at h
  split at he
  ·rename_i hca
   unfold qq at h
   simp only[hca] at h
   split at h
   all_goals first | (rename_i hh _ _; cases hh; done) | (rename_i hh _ _; injection hh with hh; cases hh; done) | skip
   ·rename_i x y t t2 _ hargs _
    obtain ⟨⟨z,K⟩,h1,h⟩:=bH h
    cases h
    unfold rK at h1
    obtain ⟨_,_,h1⟩:=bH h1
    obtain ⟨_,_,h1⟩:=bH h1
    obtain ⟨_,_,h1⟩:=bH h1
    obtain ⟨_,h1⟩:=fe h1
    split at h1
    ·split at h1
     ·rename_i hb
      obtain ⟨_,h1⟩:=br h1
      cases h1
      exact setb _ _ _ hb (nt _ _) (nt _ _)
     ·cases h1
    ·cases h1
   all_goals first | (cases h; done) | (rename_i hh _; injection hh with hh; cases hh; done)
  ·cases he
 ·cases he
theorem rf {o:Oper} {x:A} {H':aB} (he:dW o=true) (h:b7 cx f lo o s (fun a H=>some (a,H))=some (x,H')):s.H.length<=H'.length/\∀ b,b<s.H.length->(∀ c,blk? (dE cx s o.op)=some c->b≠c)->H'[b]? = s.H[b]?:=by
 have new:∀ B,s.H.length<=(s.H++[B]).length/\∀ b,b<s.H.length->(∀ c,blk? (dE cx s o.op)=some c->b≠c)->(s.H++[B])[b]? = s.H[b]?:=fun B=>⟨r7,fun b hb _=>Yf hb⟩
 have setb:∀ c B,blk? (dE cx s o.op)=some c->s.H.length<=(s.H.set c B).length/\∀ b,b<s.H.length->(∀ c,blk? (dE cx s o.op)=some c->b≠c)->(s.H.set c B)[b]? = s.H[b]?:=fun c B hc=>⟨r7,fun b _ hb=>Yd (YW (hb c hc))⟩
 have row:∀ {t cs y K},rowOf cx.P t cs s.H=some (y,K)->∃ B,K=s.H++[B]:=fun {t cs y K} h=>by
  unfold rowOf at h
  split at h
  ·obtain ⟨es,_,h⟩:=bH h
   obtain ⟨_,h⟩:=fe h
   cases h
   exact⟨_,rfl⟩
  ·cases h
 unfold dW at he
 split at he
 ·rename_i t ad v ho
  unfold b7 at h
  simp only[ho] at h
  obtain ⟨K,h1,h⟩:=bH h
  cases h
  unfold lK at h1
  obtain ⟨nn,_,h1⟩:=bH h1
  obtain ⟨xs,_,h1⟩:=bH h1
  obtain ⟨_,h1⟩:=fe h1
  have ht:dE cx s o.op=cD cx s ad:=by unfold dE; rw[ho]
  cases hx:cD cx s ad with
  | ptr b oo=>
   simp only[hx] at h1
   split at h1
   ·obtain ⟨_,h1⟩:=br h1
    cases h1
    exact setb b _ (by rw[ht,hx]; rfl)
   ·cases h1
  | ep b i oo=>
   simp only[hx] at h1
   split at h1
   ·split at h1
    ·rw[bG] at h1
     split at h1
     ·cases h1
      exact setb b _ (by rw[ht,hx]; rfl)
     ·obtain ⟨_,h1⟩:=br h1
      cases h1
      exact setb b _ (by rw[ht,hx]; rfl)
    ·cases h1
   ·cases h1
  | _=>simp only[hx] at h1; cases h1
 ·rename_i t ho
  unfold b7 at h
  simp only[ho] at h
  obtain ⟨⟨y,K⟩,h1,h⟩:=bH h
  cases h
  unfold pG at h1
  rw[bG] at h1
  split at h1
  ·unfold oK at h1
   obtain ⟨cs,_,h1⟩:=bH h1
   obtain ⟨B,rfl⟩:=row h1
   exact new B
  ·unfold mL at h1
   obtain ⟨cs,_,h1⟩:=YE.1 h1
   cases h1
   exact new _
 ·rename_i t v ho
  unfold b7 at h
  simp only[ho] at h
  obtain ⟨⟨y,K⟩,h1,h⟩:=bH h
  cases h
  unfold Aw at h1
  rw[bG] at h1
  split at h1
  ·unfold vi at h1
   obtain ⟨cs,_,h1⟩:=bH h1
   obtain ⟨B,rfl⟩:=row h1
   exact new B
  ·unfold Al at h1
   obtain ⟨cs,_,h1⟩:=YE.1 h1
   cases h1
   exact new _
 ·rename_i t l c ho
  unfold b7 at h
  simp only[ho] at h
  obtain ⟨⟨y,K⟩,h1,h⟩:=bH h
  cases h
  unfold vQ at h1
  rw[bG] at h1
  split at h1
  ·unfold nN at h1
   obtain ⟨_,_,h1⟩:=bH h1
   obtain ⟨_,_,h1⟩:=bH h1
   obtain ⟨_,_,h1⟩:=bH h1
   obtain ⟨_,_,h1⟩:=bH h1
   obtain ⟨_,_,h1⟩:=bH h1
   obtain ⟨_,_,h1⟩:=bH h1
   obtain ⟨_,h1⟩:=fe h1
   cases h1
   exact⟨X1 _,fun _ _ _=>rfl⟩
  unfold iV hJ at h1
  obtain ⟨_,_,h1⟩:=bH h1
  obtain ⟨_,_,h1⟩:=bH h1
  obtain ⟨_,_,h1⟩:=bH h1
  obtain ⟨_,_,h1⟩:=bH h1
  obtain ⟨_,_,h1⟩:=bH h1
  obtain ⟨_,_,h1⟩:=bH h1
  obtain ⟨_,h1⟩:=fe h1
  rw[bG] at h1
  split at h1
  ·cases h1; exact new _
  ·obtain ⟨_,h1⟩:=br h1
   cases h1; exact new _
 ·rename_i c ho
  have ht:∀ x r,c.args.toList=x :: r->dE cx s o.op=cD cx s x:=fun x r hc=>by unfold dE; rw[ho]; simp only[hc]
  unfold b7 at h
  simp only[ho] at h
  split at he
  ·rename_i hca
   unfold qq at h
   simp only[hca] at h
   split at h
   all_goals first | (rename_i hh _ _; cases hh; done) | (rename_i hh _ _; injection hh with hh; cases hh; done) | skip
   ·rename_i x y t t2 _ hargs _
    obtain ⟨⟨z,K⟩,h1,h⟩:=bH h
    cases h
    have ht:=ht x [y] hargs
    unfold bp at h1
    obtain ⟨_,_,h1⟩:=bH h1
    obtain ⟨_,_,h1⟩:=bH h1
    obtain ⟨_,_,h1⟩:=bH h1
    obtain ⟨_,_,h1⟩:=bH h1
    obtain ⟨_,_,h1⟩:=bH h1
    obtain ⟨_,h1⟩:=fe h1
    cases hx:cD cx s x with
    | imm xs cl=>
     simp only[hx] at h1
     cases cl with
     | false=>cases h1
     | true=>
      simp only[] at h1
      obtain ⟨_,h1⟩:=fe h1
      rw[bG] at h1
      split at h1
      ·cases h1; exact new _
      ·obtain ⟨_,h1⟩:=br h1
       cases h1; exact new _
    | sl b oo nn cl=>
     simp only[hx] at h1
     split at h1
     ·obtain ⟨_,h1⟩:=fe h1
      rw[bG] at h1
      split at h1
      ·cases h1; exact new _
      ·obtain ⟨_,h1⟩:=br h1
       cases h1
       exact setb b _ (by rw[ht,hx]; rfl)
     ·cases h1
    | _=>simp only[hx] at h1; cases h1
   all_goals first | (cases h; done) | (rename_i hh _; injection hh with hh; cases hh; done)
  ·rename_i hca
   unfold qq at h
   simp only[hca] at h
   split at h
   all_goals first | (rename_i hh _ _; cases hh; done) | (rename_i hh _ _; injection hh with hh; cases hh; done) | skip
   ·rename_i x y t t2 _ hargs _
    obtain ⟨⟨z,K⟩,h1,h⟩:=bH h
    cases h
    have ht:=ht x [y] hargs
    unfold rK at h1
    obtain ⟨_,_,h1⟩:=bH h1
    obtain ⟨_,_,h1⟩:=bH h1
    obtain ⟨_,_,h1⟩:=bH h1
    obtain ⟨_,h1⟩:=fe h1
    cases hx:cD cx s x with
    | sl b oo nn cl=>
     simp only[hx] at h1
     split at h1
     ·obtain ⟨_,h1⟩:=br h1
      cases h1
      exact setb b _ (by rw[ht,hx]; rfl)
     ·cases h1
    | _=>simp only[hx] at h1; cases h1
   all_goals first | (cases h; done) | (rename_i hh _; injection hh with hh; cases hh; done)
  ·cases he
 ·cases he
def Alike (s s':St):Prop:=s'.H=s.H/\∀ t,look s'.fr t=look s.fr t
theorem Alike.refl (s:St):Alike s s:=⟨rfl,fun _=>rfl⟩
theorem Alike.trans {a b c:St} (h1:Alike a b) (h2:Alike b c):Alike a c:=⟨h2.1.trans h1.1,fun t=>(h2.2 t).trans (h1.2 t)⟩
theorem gF (s:St) (d:Option Nat) (x:A) (t:Nat):look (s.put d x).fr t=if d=some t then x else look s.fr t:=by
 cases d with
 | none=>simp[St.put]
 | some d=>
  show look ((d,x) :: s.fr) t=_
  rw[eT]
  by_cases e:d=t
  ·subst e; simp
  ·rw[X8 e,X8 (by simpa using e)]
theorem gP (s:St) (d:Option Nat) (x:A):(s.put d x).H=s.H:=by cases d<;>rfl
theorem Alike.lit {s:St} {t:Nat} {x:A} (h:look s.fr t=x):Alike s (s.put (some t) x):=⟨rfl,fun t'=>by
 rw[gF]
 split
 ·rename_i e
  cases e
  exact h.symm
 ·rfl⟩
def lY (cx:Cx) (call:bj) (f lo:Nat) (ops:Array Oper) (m:Nat) (fl:List (Nat×A)) (i:Nat) (o:Oper) (s s':St) (x:A):Prop:=
 (dc i fl=some x/\Alike (s.put o.dst x) s') ∨
 (dc i fl=none/\dW o=true/\∃ H',b7 cx f lo o s (fun a H=>some (a,H))=some (x,H')/\Alike (({ s with H:=H' }:St).put o.dst x) s') ∨
 (dc i fl=none/\dW o=false/\il cx call f o s=some x/\Alike (s.put o.dst x) s'/\((jW fl ops m i=true/\((pW cx o=true∨yQ ops i fl=true)∨Hm cx s o=true))∨cd o=0∨cd o=1∨((cd o=2∨(cd o=4/\vX cx o=true))/\Ji ops m i=true)∨(cd o=2/\qy (partsOf cx s o.op)=true)))
def L7 (cx:Cx) (call:bj) (f:Nat) (ops:Array Oper) (fl:List (Nat×A)) (i:Nat) (o:Oper) (s s':St) (x:A):Prop:=
 ∃ t w,cz ops o=some (t,w)/\dc i fl=none/\dW o=false/\cd o=0/\Alike (s.put o.dst x) s'/\((∃ b,look s.fr t=.v (.bool b)/\if b==w then il cx call f o s=some x else x=.v undef)∨((∃ y,look s.fr t=.v (.tuple y))/\x=.v undef))
def L8 (cx:Cx) (call:bj) (f lo:Nat) (ops:Array Oper) (m:Nat) (fl:List (Nat×A)) (i:Nat) (o:Oper) (s s':St) (x:A):Prop:=
 ∃ t w b,cz ops o=some (t,w)/\dc i fl=none/\look s.fr t=.v (.bool b)/\((b==w)=true/\lY cx call f lo ops m fl i o s s' x∨(b==w)=false/\x=.v undef/\Alike (s.put o.dst x) s')
def nA (cx:Cx) (call:bj) (f lo:Nat) (ops:Array Oper) (m:Nat) (fl:List (Nat×A)) (i:Nat) (o:Oper) (s s':St) (x:A):Prop:=
 (o.guard=none/\lY cx call f lo ops m fl i o s s' x)∨L7 cx call f ops fl i o s s' x∨L8 cx call f lo ops m fl i o s s' x
theorem lY.alike {call:bj} {o:Oper} {m:Nat} {fl:List (Nat×A)} {i:Nat} {s s' s2:St} {x:A} (h:lY cx call f lo ops m fl i o s s' x) (h2:Alike s' s2):lY cx call f lo ops m fl i o s s2 x:=by
 rcases h with ⟨a,b⟩ | ⟨a,b,H',c,d⟩ | ⟨a,b,c,d,e⟩
 ·exact .inl ⟨a,b.trans h2⟩
 ·exact .inr (.inl ⟨a,b,H',c,d.trans h2⟩)
 ·exact .inr (.inr ⟨a,b,c,d.trans h2,e⟩)
theorem nA.alike {call:bj} {o:Oper} {m:Nat} {fl:List (Nat×A)} {i:Nat} {s s' s2:St} {x:A} (h:nA cx call f lo ops m fl i o s s' x) (h2:Alike s' s2):nA cx call f lo ops m fl i o s s2 x:=by
 rcases h with ⟨a,b⟩ | ⟨t,w,a,b,c,d,e,g⟩ | ⟨t,w,b,a1,a2,a3,a4⟩
 ·exact .inl ⟨a,b.alike h2⟩
 ·exact .inr (.inl ⟨t,w,a,b,c,d,e.trans h2,g⟩)
 ·refine .inr (.inr ⟨t,w,b,a1,a2,a3,?_⟩)
  rcases a4 with ⟨c,d⟩ | ⟨c,d,e⟩
  ·exact .inl ⟨c,d.alike h2⟩
  ·exact .inr ⟨c,d,e.trans h2⟩
theorem lY.look {call:bj} {o:Oper} {m:Nat} {fl:List (Nat×A)} {i:Nat} {s s':St} {x:A} (h:lY cx call f lo ops m fl i o s s' x) (t:Nat):look s'.fr t=if o.dst=some t then x else look s.fr t:=by
 rcases h with ⟨_,b⟩ | ⟨_,_,H',_,d⟩ | ⟨_,_,_,d,_⟩
 ·rw[b.2,gF]
 ·rw[d.2,gF]
 ·rw[d.2,gF]
theorem nA.look {call:bj} {o:Oper} {m:Nat} {fl:List (Nat×A)} {i:Nat} {s s':St} {x:A} (h:nA cx call f lo ops m fl i o s s' x) (t:Nat):look s'.fr t=if o.dst=some t then x else look s.fr t:=by
 rcases h with ⟨_,b⟩ | ⟨_,_,_,_,_,_,e,_⟩ | ⟨_,_,_,_,_,_,a4⟩
 ·exact b.look t
 ·rw[e.2,gF]
 ·rcases a4 with ⟨_,d⟩ | ⟨_,_,e⟩
  ·exact d.look t
  ·rw[e.2,gF]
theorem lY.heap {call:bj} {o:Oper} {m:Nat} {fl:List (Nat×A)} {i:Nat} {s s':St} {x:A} (h:lY cx call f lo ops m fl i o s s' x):(dW o=false∨(dc i fl).isSome=true->s'.H=s.H)/\s.H.length<=s'.H.length/\∀ b,b<s.H.length->(dW o=true->dc i fl=none->∀ c,blk? (dE cx s o.op)=some c->b≠c)->s'.H[b]? = s.H[b]?:=by
 rcases h with ⟨_,e⟩ | ⟨hn,he,H',h1,e⟩ | ⟨_,he,_,e,_⟩
 ·rw[e.1,gP]
  exact⟨fun _=>rfl,X1 _,fun _ _ _=>rfl⟩
 ·obtain ⟨t1,t2⟩:=rf he h1
  rw[e.1,gP]
  exact⟨fun h'=>(by rw[he,hn] at h'; rcases h' with h' | h'<;>cases h'),t1,fun b hb hc=>t2 b hb (hc he hn)⟩
 ·rw[e.1,gP]
  exact⟨fun _=>rfl,X1 _,fun _ _ _=>rfl⟩
theorem nA.heap {call:bj} {o:Oper} {m:Nat} {fl:List (Nat×A)} {i:Nat} {s s':St} {x:A} (h:nA cx call f lo ops m fl i o s s' x):(dW o=false∨(dc i fl).isSome=true->s'.H=s.H)/\s.H.length<=s'.H.length/\∀ b,b<s.H.length->(dW o=true->dc i fl=none->∀ c,blk? (dE cx s o.op)=some c->b≠c)->s'.H[b]? = s.H[b]?:=by
 rcases h with ⟨_,b⟩ | ⟨_,_,_,_,_,_,e,_⟩ | ⟨_,_,_,_,_,_,a4⟩
 ·exact b.heap
 ·rw[e.1,gP]
  exact⟨fun _=>rfl,X1 _,fun _ _ _=>rfl⟩
 ·rcases a4 with ⟨_,d⟩ | ⟨_,_,e⟩
  ·exact d.heap
  ·rw[e.1,gP]
   exact⟨fun _=>rfl,X1 _,fun _ _ _=>rfl⟩
def gb (ops:Array Oper) (i j:Nat):Prop:=(fX ops i j || fX ops j i)=false
theorem iJ {i:Nat} {e:A}:∀ {l:List (Nat×A)},lH ops i e l=true->∀ p∈l,gb ops i p.1->apart p.2 e=true
 | [],_,p,hp,_=>by cases hp
 | q :: l,h,p,hp,hu=>by
  unfold lH at h
  cases hb:(fX ops i q.1 || fX ops q.1 i) with
  | true=>
   rw[hb] at h
   rcases YJ.1 hp with rfl | hp
   ·unfold gb at hu; rw[hb] at hu; cases hu
   ·exact iJ h p hp hu
  | false=>
   rw[hb] at h
   cases ha:apart q.2 e with
   | false=>rw[ha] at h; cases h
   | true=>
    rw[ha] at h
    rcases YJ.1 hp with rfl | hp
    ·exact ha
    ·exact iJ h p hp hu
theorem ji {i:Nat} {a:A}:∀ {l:List (Nat×A)},ma ops i a l=true->∀ p∈l,gb ops i p.1->apart a p.2=true
 | [],_,p,hp,_=>by cases hp
 | q :: l,h,p,hp,hu=>by
  unfold ma at h
  cases hb:(fX ops i q.1 || fX ops q.1 i) with
  | true=>
   rw[hb] at h
   rcases YJ.1 hp with rfl | hp
   ·unfold gb at hu; rw[hb] at hu; cases hu
   ·exact ji h p hp hu
  | false=>
   rw[hb] at h
   cases ha:apart a q.2 with
   | false=>rw[ha] at h; cases h
   | true=>
    rw[ha] at h
    rcases YJ.1 hp with rfl | hp
    ·exact ha
    ·exact ji h p hp hu
theorem beq_spec {a b:Nat} (h:Nat.beq a b=true):a=b:=Yq h
def Tr (cx:Cx) (call:bj) (f lo:Nat) (ops:Array Oper) (m:Nat) (fl:List (Nat×A)) (k:St->Option R) (r:R) (os:List Oper) (i:Nat) (effs seen:List (Nat×A)) (s:St):Prop:=
  ∃ (σ:Nat->St) (xs:Nat->A),Alike s (σ 0)/\k (σ os.length)=some r/\∀ (j:Nat) o,os[j]? = some o->nA cx call f lo ops m fl (i+j) o (σ j) (σ (j+1)) (xs j) ∧
   (dc (i+j) fl=none->dW o=true->(∀ p∈seen,gb ops (i+j) p.1->apart p.2 (dE cx (σ j) o.op)=true)/\∀ (j':Nat) o',j'<j->os[j']? = some o'->dW o'=false->cd o'=1->jW fl ops m (i+j')=false->gb ops (i+j) (i+j')->apart (addrOf cx (σ j') o'.op) (dE cx (σ j) o.op)=true) ∧
   (dW o=false->cd o=1->jW fl ops m (i+j)=false->(∀ p∈effs,gb ops (i+j) p.1->apart (addrOf cx (σ j) o.op) p.2=true)/\∀ (j':Nat) o',j'<j->os[j']? = some o'->dc (i+j') fl=none->dW o'=true->gb ops (i+j) (i+j')->apart (addrOf cx (σ j) o.op) (dE cx (σ j') o'.op)=true)
theorem rN {call:bj} {m:Nat} {fl:List (Nat×A)} {k:St->Option R} {r:R} (hfe:∀ i o a,dc i fl=some a->ops[i]? = some o->dW o=true) (hV:∀ {o:Oper} {s:St} (k:A->Option R),tC cx call f o s k=(il cx call f o s).bind k):∀ (os:List Oper) (i:Nat) (effs seen:List (Nat×A)) (s:St),(∀ j o,os[j]? = some o->ops[i+j]? = some o)->gn cx call f lo ops m fl i os effs seen s k=some r->Tr cx call f lo ops m fl k r os i effs seen s
 | [],i,effs,seen,s,_,h=>⟨fun _=>s,fun _=>.any,Alike.refl _,h,fun j o ho=>by simp at ho⟩
 | o :: os,i,effs,seen,s,hos,h=>by
  have hos':∀ j o,os[j]? = some o->ops[i+1+j]? = some o:=fun j o' ho'=>by
   have:=hos (j+1) o' (by simpa using ho')
   rwa [show i+1+j=i+(j+1) by omega]
  have hoi:ops[i]? = some o:=by simpa using hos 0 o r7
  have finG:∀ (s1 s':St) (x:A) (effs' seen':List (Nat×A)),Alike s s1->nA cx call f lo ops m fl i o s1 s' x->(∀ p∈effs,p∈effs')->(∀ p∈seen,p∈seen')->(dc i fl=none->dW o=true->(i,dE cx s1 o.op)∈effs'/\∀ p∈seen,gb ops i p.1->apart p.2 (dE cx s1 o.op)=true) ->
    (dW o=false->cd o=1->jW fl ops m i=false->(i,addrOf cx s1 o.op)∈seen'/\∀ p∈effs,gb ops i p.1->apart (addrOf cx s1 o.op) p.2=true)->gn cx call f lo ops m fl (i+1) os effs' seen' s' k=some r->Tr cx call f lo ops m fl k r (o :: os) i effs seen s:=by
   intro s1 s' x effs' seen' hal hst he1 hs1 hce hcp h
   obtain ⟨σ,xs,g0,g1,g2⟩:=rN hfe hV os (i+1) effs' seen' s' hos' h
   refine⟨fun j=>match j with | 0=>s1 | j+1=>σ j,fun j=>match j with | 0=>x | j+1=>xs j,hal,g1,fun j o1 ho1=>?_⟩
   cases j with
   | zero=>
    simp at ho1
    subst ho1
    refine⟨hst.alike g0,fun hn he=>⟨(hce hn he).2,fun j' o' hj'=>j6⟩,fun he hk ho=>⟨(hcp he hk ho).2,fun j' o' hj'=>j6⟩⟩
   | succ j=>
    obtain ⟨q2,q3,q4⟩:=g2 j o1 (by simpa using ho1)
    have e:i+1+j=i+(j+1):=j6
    rw[e] at q2 q3 q4
    refine⟨q2,fun hn he=>⟨fun p hp=>(q3 hn he).1 p (hs1 p hp),fun j' o' hj' ho' he' hk' hod hu=>?_⟩,fun he hk hod=>⟨fun p hp=>(q4 he hk hod).1 p (he1 p hp),fun j' o' hj' ho' hn' he' hu=>?_⟩⟩
    ·cases j' with
     | zero=>
      simp at ho'
      subst ho'
      exact(q3 hn he).1 _ (hcp he' hk' hod).1 hu
     | succ j'=>
      refine(q3 hn he).2 j' o' j6 (by simpa using ho') he' hk' ?_ ?_
      ·rw[show i+1+j'=i+(j'+1) by omega]; exact hod
      ·rw[show i+1+j'=i+(j'+1) by omega]; exact hu
    ·cases j' with
     | zero=>
      simp at ho'
      subst ho'
      exact(q4 he hk hod).1 _ (hce hn' he').1 hu
     | succ j'=>
      refine(q4 he hk hod).2 j' o' j6 (by simpa using ho') ?_ he' ?_
      ·rw[show i+1+j'=i+(j'+1) by omega]; exact hn'
      ·rw[show i+1+j'=i+(j'+1) by omega]; exact hu
  have doB:∀ (s1:St),Alike s s1->(∀ s' x,lY cx call f lo ops m fl i o s1 s' x->nA cx call f lo ops m fl i o s1 s' x)->tv cx call f lo ops m fl i o effs seen s1 (fun effs seen s=>gn cx call f lo ops m fl (i+1) os effs seen s k)=some r->Tr cx call f lo ops m fl k r (o :: os) i effs seen s:=by
   intro s1 hal hA h
   have fin:∀ (s':St) (x:A) (effs' seen':List (Nat×A)),lY cx call f lo ops m fl i o s1 s' x->(∀ p∈effs,p∈effs')->(∀ p∈seen,p∈seen')->(dc i fl=none->dW o=true->(i,dE cx s1 o.op)∈effs'/\∀ p∈seen,gb ops i p.1->apart p.2 (dE cx s1 o.op)=true) ->
     (dW o=false->cd o=1->jW fl ops m i=false->(i,addrOf cx s1 o.op)∈seen'/\∀ p∈effs,gb ops i p.1->apart (addrOf cx s1 o.op) p.2=true)->gn cx call f lo ops m fl (i+1) os effs' seen' s' k=some r->Tr cx call f lo ops m fl k r (o :: os) i effs seen s:=fun s' x effs' seen' hst=>finG s1 s' x effs' seen' hal (hA _ _ hst)
   unfold tv at h
   cases hfl:dc i fl with
   | some a=>
    simp only[hfl] at h
    have he:=hfe i o a hfl hoi
    exact fin _ a effs seen (.inl ⟨hfl,Alike.refl _⟩) (fun p hp=>hp) (fun p hp=>hp) (fun h'=>(by rw[hfl] at h'; cases h')) (fun h'=>(by rw[he] at h'; cases h')) h
   | none=>
   simp only[hfl] at h
   rw[bG] at h
   split at h
   ·rename_i he
    obtain ⟨hsn,h⟩:=br h
    rw[iZ] at h
    obtain ⟨⟨x,H'⟩,h1,h⟩:=bH h
    exact fin _ x _ seen (.inr (.inl ⟨hfl,he,H',h1,Alike.refl _⟩)) (fun p hp=>by simp[hp]) (fun p hp=>hp) (fun _ _=>⟨r7,iJ hsn⟩) (fun h'=>(by rw[he] at h'; cases h')) h
   ·rename_i he
    have he:dW o=false:=by simpa using he
    rw[bG] at h
    split at h
    ·rename_i hod
     simp only[XZ,YU] at hod
     rw[hV] at h
     obtain ⟨x,h1,h⟩:=bH h
     exact fin _ x effs seen (.inr (.inr ⟨hfl,he,h1,Alike.refl _,.inl hod⟩)) (fun p hp=>hp) (fun p hp=>hp) (fun _ h'=>(by rw[he] at h'; cases h')) (fun _ _ h'=>(by rw[hod.1] at h'; cases h')) h
    ·rename_i hod
     rw[bG] at h
     split at h
     ·rename_i hk
      rw[hV] at h
      obtain ⟨x,h1,h⟩:=bH h
      have hk:=beq_spec hk
      exact fin _ x effs seen (.inr (.inr ⟨hfl,he,h1,Alike.refl _,.inr (.inl hk)⟩)) (fun p hp=>hp) (fun p hp=>hp) (fun _ h'=>(by rw[he] at h'; cases h')) (fun _ h' _=>(by rw[hk] at h'; cases h')) h
     ·rw[bG] at h
      split at h
      ·rename_i hk
       have hk:=beq_spec hk
       obtain ⟨hap,h⟩:=br h
       rw[hV] at h
       obtain ⟨x,h1,h⟩:=bH h
       exact fin _ x effs _ (.inr (.inr ⟨hfl,he,h1,Alike.refl _,.inr (.inr (.inl hk))⟩)) (fun p hp=>hp) (fun p hp=>by simp[hp]) (fun _ h'=>(by rw[he] at h'; cases h')) (fun _ _ _=>⟨r7,ji hap⟩) h
      ·rename_i hk1
       rw[bG] at h
       split at h
       ·rename_i hk
        simp only[XZ,YU] at hk
        have hk2:cd o=2∨(cd o=4/\vX cx o=true):=hk.1.imp beq_spec (fun h=>⟨beq_spec h.1,h.2⟩)
        rw[hV] at h
        obtain ⟨x,h1,h⟩:=bH h
        exact fin _ x effs seen (.inr (.inr ⟨hfl,he,h1,Alike.refl _,.inr (.inr (.inr (.inl ⟨hk2,hk.2⟩)))⟩)) (fun p hp=>hp) (fun p hp=>hp) (fun _ h'=>(by rw[he] at h'; cases h')) (fun _ h' _=>(by rcases hk2 with hk2 | hk2<;>(first | rw[hk2] at h' | rw[hk2.1] at h')<;>cases h')) h
       obtain ⟨hk,h⟩:=br h
       have hk:=beq_spec hk
       obtain ⟨hfl2,h⟩:=br h
       rw[hV] at h
       obtain ⟨x,h1,h⟩:=bH h
       exact fin _ x effs seen (.inr (.inr ⟨hfl,he,h1,Alike.refl _,.inr (.inr (.inr (.inr ⟨hk,hfl2⟩)))⟩)) (fun p hp=>hp) (fun p hp=>hp) (fun _ h'=>(by rw[he] at h'; cases h')) (fun _ h' _=>(by rw[hk] at h'; cases h')) h
  have doS:∀ (s1:St),Alike s s1->(∀ s',Alike (s1.put o.dst (.v undef)) s'->nA cx call f lo ops m fl i o s1 s' (.v undef))->w7 cx ops m fl i o effs seen s1 (fun effs seen s=>gn cx call f lo ops m fl (i+1) os effs seen s k)=some r->Tr cx call f lo ops m fl k r (o :: os) i effs seen s:=by
   intro s1 hal hA h
   have fin:=fun effs' seen'=>finG s1 (s1.put o.dst (.v undef)) (.v undef) effs' seen' hal (hA _ (Alike.refl _))
   unfold w7 at h
   rw[bG] at h
   split at h
   ·rename_i he
    obtain ⟨hsn,h⟩:=br h
    exact fin _ seen (fun p hp=>by simp[hp]) (fun p hp=>hp) (fun _ _=>⟨r7,iJ hsn⟩) (fun h'=>(by rw[he] at h'; cases h')) h
   ·rename_i he
    have he:dW o=false:=by simpa using he
    rw[bG] at h
    split at h
    ·rename_i hk
     rw[bG] at h
     split at h
     ·rename_i hod
      exact fin effs seen (fun p hp=>hp) (fun p hp=>hp) (fun _ h'=>(by rw[he] at h'; cases h')) (fun _ _ h'=>(by rw[hod] at h'; cases h')) h
     ·obtain ⟨hap,h⟩:=br h
      exact fin effs _ (fun p hp=>hp) (fun p hp=>by simp[hp]) (fun _ h'=>(by rw[he] at h'; cases h')) (fun _ _ _=>⟨r7,ji hap⟩) h
    ·rename_i hk
     exact fin effs seen (fun p hp=>hp) (fun p hp=>hp) (fun _ h'=>(by rw[he] at h'; cases h')) (fun _ h' _=>(by rw[h'] at hk; exact absurd rfl hk)) h
  unfold gn at h
  cases hgd:o.guard with
  | some _=>
   simp only[hgd] at h
   cases hgs:cz ops o with
   | none=>rw[hgs] at h; cases h
   | some tw=>
    obtain ⟨t,w⟩:=tw
    simp only[hgs] at h
    rw[bG] at h
    split at h
    ·rename_i hc
     simp only[XZ,Za,qa4] at hc
     obtain ⟨⟨hk,he⟩,hn⟩:=hc
     have hk:=beq_spec hk
     obtain ⟨x,h0,h⟩:=bH h
     refine finG s _ x effs seen (Alike.refl _) (.inr (.inl ⟨t,w,hgs,hn,he,hk,Alike.refl _,?_⟩)) (fun p hp=>hp) (fun p hp=>hp) (fun _ h'=>(by rw[he] at h'; cases h')) (fun _ h' _=>(by rw[hk] at h'; cases h')) h
     rcases n4 h0 with ⟨b,hb,h0⟩ | ⟨y,hb,h0⟩
     ·refine .inl ⟨b,hb,?_⟩
      split at h0
      ·rename_i hbw; rw[X4 hbw]; exact h0
      ·rename_i hbw; rw[X8 hbw]; cases h0; rfl
     ·cases h0; exact .inr ⟨⟨y,hb⟩,rfl⟩
    ·obtain ⟨hn,h⟩:=br h
     simp only[qa4] at hn
     obtain ⟨b,hb,h⟩:=qj h
     have hl:look (s.put (some t) (.v (.bool b))).fr t=.v (.bool b):=by rw[gF,X4 rfl]
     cases b with
     | true=>
      simp only[Zh] at h
      cases w with
      | true=>exact doB _ (Alike.lit hb) (fun s' x hE=>.inr (.inr ⟨t,true,true,hgs,hn,hl,.inl ⟨rfl,hE⟩⟩)) h
      | false=>exact doS _ (Alike.lit hb) (fun s' hE=>.inr (.inr ⟨t,false,true,hgs,hn,hl,.inr ⟨rfl,rfl,hE⟩⟩)) h
     | false=>
      simp only[Zb,ZU] at h
      cases w with
      | true=>exact doS _ (Alike.lit hb) (fun s' hE=>.inr (.inr ⟨t,true,false,hgs,hn,hl,.inr ⟨rfl,rfl,hE⟩⟩)) h
      | false=>exact doB _ (Alike.lit hb) (fun s' x hE=>.inr (.inr ⟨t,false,false,hgs,hn,hl,.inl ⟨rfl,hE⟩⟩)) h
  | none=>
   simp only[hgd] at h
   exact doB s (Alike.refl _) (fun s' x hE=>.inl ⟨hgd,hE⟩) h
theorem xF {fl:List (Nat×A)} {m i e:Nat} (h:jW fl ops m i=true) (he:e<m) (hf:dH ops e=true) (hn:dc e fl=none):e=i∨fX ops i e=true∨fX ops e i=true:=by
 have:=Yb.1 h e (Yn.2 he)
 simp only[YU,Za,Y4] at this
 rcases this with (((h | h) | h) | h) | h
 ·rw[hf] at h; cases h
 ·rw[hn] at h; cases h
 ·exact .inl h
 ·exact .inr (.inl h)
 ·exact .inr (.inr h)
theorem AA {m i j:Nat} (h:wO ops m=true) (hj:j<m) (hij:i<j) (h1:dH ops i=true) (h2:dH ops j=true):fX ops j i=true:=by
 have:=Yb.1 (Yb.1 h i (Yn.2 j6)) j (Yn.2 hj)
 simpa [h1,h2,hij] using this
theorem yv {m i j:Nat} (h:ti cx f ops m=true) (hj:j<m) (hij:i<j) (h1:dH ops i=true) (h2:dH ops j=true) (h3:tV cx f ops i=false) (h4:tV cx f ops j=false):fX ops j i=true:=by
 have:=Yb.1 (Yb.1 h i (Yn.2 j6)) j (Yn.2 hj)
 simpa [h1,h2,h3,h4,hij] using this
theorem tE {i:Nat}:∀ {fl:List (Nat×A)},yQ ops i fl=true->∀ j a,dc j fl=some a->fX ops i j=true
 | [],_,j,a,h=>by cases h
 | p :: l,h,j,a,hj=>by
  unfold yQ at h
  cases hb:fX ops i p.1 with
  | false=>rw[hb] at h; cases h
  | true=>
   rw[hb] at h
   unfold dc at hj
   cases he:Nat.beq p.1 j with
   | true=>rw[<-Yq he]; exact hb
   | false=>rw[he] at hj; exact tE h j a hj
structure LB (cx:Cx) (ops:Array Oper) (m:Nat) (H H1:aB) (fl:List (Nat×A)):Prop where
 at_:∀ i a,dc i fl=some a->i<m/\∃ o t b cs,ops[i]? = some o/\o.op=.alloc t/\a=.ptr b 0/\H.length<=b/\H1[b]? = some (.box cs)/\iR cx.P t=some cs
 inj:∀ i j b,dc i fl=some (.ptr b 0)->dc j fl=some (.ptr b 0)->i=j
 all:∀ b,H.length<=b->b<H1.length->∃ i,dc i fl=some (.ptr b 0)
 len:H.length<=H1.length
 low:∀ b,b<H.length->H1[b]? = H[b]?
theorem LB.none {m:Nat} {H:aB}:LB cx ops m H H []:=⟨fun i a h=>(by cases h),fun i j b h=>(by cases h),fun b h1 h2=>j6,X1 _,fun _ _=>rfl⟩
theorem pF {β:Type} {m:Nat} {r:β}:∀ (os:List Oper) (i:Nat) (H:aB) (k:List (Nat×A)->aB->Option β),(∀ j o,os[j]? = some o->ops[i+j]? = some o)->i+os.length<=m->ahead cx f i os H k=some r ->
  ∃ fl H1,k fl H1=some r/\LB cx ops m H H1 fl/\(∀ j a,dc j fl=some a->i<=j)/\(∀ j,dc j fl=none->i<=j->j<i+os.length->tV cx f ops j=false)
 | [],i,H,k,_,_,h=>⟨[],H,h,.none,fun j a h=>(by cases h),fun j _ h1 h2=>(by simp at h2; omega)⟩
 | o :: os,i,H,k,hos,hm,h=>by
  have hos':∀ j o,os[j]? = some o->ops[i+1+j]? = some o:=fun j o' ho'=>by
   have:=hos (j+1) o' (by simpa using ho')
   rwa [show i+1+j=i+(j+1) by omega]
  have hoi:ops[i]? = some o:=by simpa using hos 0 o r7
  simp only[X9] at hm
  unfold ahead at h
  cases hft:xd cx f o with
  | none=>
   simp only[hft] at h
   obtain ⟨fl,H1,h1,h2,h3,h4⟩:=pF (m:=m) os (i+1) H k hos' j6 h
   refine⟨fl,H1,h1,h2,fun j a hj=>by have:=h3 j a hj; omega,fun j hj h5 h6=>?_⟩
   by_cases e:j=i
   ·subst e; unfold tV; rw[hoi]; simp[hft]
   ·exact h4 j hj j6 (by simp at h6; omega)
  | some t=>
   simp only[hft] at h
   obtain ⟨⟨y,H2⟩,ha,h⟩:=bH h
   unfold mL at ha
   obtain ⟨cs,hz,ha⟩:=YE.1 ha
   cases ha
   obtain ⟨fl,H1,h1,h2,h3,h4⟩:=pF (m:=m) os (i+1) _ _ hos' j6 h
   have hop:o.op=.alloc t:=by
    unfold xd at hft
    split at hft
    ·rename_i t' ho
     obtain ⟨_,e⟩:=fe hft
     cases e; exact ho
    ·cases hft
   have hl2:=h2.len
   simp only[Ye,X9,Z0] at hl2
   have hnew:H1[H.length]? = some (.box cs):=by rw[h2.low _ r7]; exact ew _ _
   have hof:∀ j,dc j ((i,A.ptr H.length 0) :: fl)=if i=j then some (.ptr H.length 0) else dc j fl:=fun j=>by
    show (bif Nat.beq i j then some (A.ptr H.length 0) else dc j fl)=_
    by_cases e:i=j
    ·subst e; simp
    ·rw[X8 e,show Nat.beq i j=false from by cases hh:Nat.beq i j with | false=>rfl | true=>exact absurd (Yq hh) e]; rfl
   have hni:dc i fl=none:=by
    cases hh:dc i fl with
    | none=>rfl
    | some a=>have:=h3 i a hh; omega
   refine⟨(i,.ptr H.length 0) :: fl,H1,h1,⟨fun j a hj=>?_,fun j j' b hj hj'=>?_,fun b hb1 hb2=>?_,j6,fun b hb=>?_⟩,fun j a hj=>?_,fun j hj h5 h6=>?_⟩
   ·rw[hof] at hj
    split at hj
    ·rename_i e; subst e; cases hj
     exact⟨j6,o,t,_,cs,hoi,hop,rfl,X1 _,hnew,hz⟩
    ·obtain ⟨q1,o',t',b,cs',q2,q3,q4,q5,q6⟩:=h2.at_ j a hj
     simp only[Ye,X9,Z0] at q5
     exact⟨q1,o',t',b,cs',q2,q3,q4,j6,q6⟩
   ·rw[hof] at hj hj'
    have out:∀ j b,dc j fl=some (.ptr b 0)->b≠H.length:=fun j b hj e=>by
     obtain ⟨_,_,_,b',_,_,_,q4,q5,_⟩:=h2.at_ j _ hj
     cases q4
     simp only[Ye,X9,Z0] at q5
     omega
    split at hj<;>split at hj'
    ·omega
    ·cases hj; exact absurd rfl (out _ _ hj')
    ·cases hj'; exact absurd rfl (out _ _ hj)
    ·exact h2.inj j j' b hj hj'
   ·by_cases e:b=H.length
    ·subst e; exact⟨i,by rw[hof,X4 rfl]⟩
    ·obtain ⟨j,hj⟩:=h2.all b r8 hb2
     refine⟨j,?_⟩
     rw[hof,X8 (fun e=>by subst e; rw[hni] at hj; cases hj)]
     exact hj
   ·rw[h2.low b r8,Yf hb]
   ·rw[hof] at hj
    split at hj
    ·omega
    ·have:=h3 j a hj; omega
   ·rw[hof] at hj
    split at hj
    ·cases hj
    ·exact h4 j hj j6 (by simp at h6; omega)
open Classical in
theorem px {call:bj} {fl:List (Nat×A)} {H1:aB} (hcall:ek cx Bs call) (hb0:Bs H0 gs ws) (horc:kC cx) (hF:g9 F) (hmx:cx.P.follows .mixedOrders=true) {m:Nat} {k:E->St->Option R} {r:R} {Q:Exit->Act->World->Prop} (iX:uY ops N=true) (chkt:fO ops m=true) (hch:∀ i j,j<m->i<j->dH ops i=true->dH ops j=true->dc i fl=none->dc j fl=none->fX ops j i=true) (hfl:LB cx ops m s.H H1 fl)
  (hg:Good cx N mb lo H0 gs ws w0 s g a w) (hd:∀ o∈ops.toList,∀ d,o.dst=some d->d<N)
  {kk:St->Option R} (hkk:∀ s,kk s=some r->gk cx call f lo ops (ops.toList.drop m) s k=some r) (h:gn cx call f lo ops m fl 0 (ops.toList.take m) [] [] ⟨s.fr,H1⟩ kk=some r)
  (hk:∀ s' g' a' w',Good cx N mb lo H0 gs ws w0 s' g' a' w'->k .normal s'=some r->Q .normal a' w')
  (hp:∀ x s' g' a' w' c,Good cx N mb lo H0 gs ws w0 s' g' a' w'->VR s'.H g' w' x c->k (.pan x) s'=some r->Q (.panic [{ v:=c,recovered:=false }]) a' w'):LW F n cx.P ops Q a w:=by
 have hfe:∀ i o a,dc i fl=some a->ops[i]? = some o->dW o=true:=fun i o a h1 h2=>by
  obtain ⟨_,o',t,_,_,q1,q2,_⟩:=hfl.at_ i a h1
  rw[h2] at q1; cases q1
  unfold dW; rw[q2]
 obtain ⟨σ,xs,hσ0,hz,htr⟩:=rN hfe (fun k=>sF k) _ _ _ _ _ (fun j o ho=>by
  rw[Yi] at ho
  split at ho
  ·rw[YP]; rw[Yx] at ho; exact ho
  ·cases ho) h
 have hσH:(σ 0).H=H1:=hσ0.1
 have hσf:∀ t,look (σ 0).fr t=look s.fr t:=hσ0.2
 have hm2:m<=ops.size:=by
  simp only[fO,XZ,X6] at chkt
  exact chkt.1.1
 have hlen:(ops.toList.take m).length=m:=by rw[YV]; simp; omega
 rw[hlen] at hz
 replace hz:=hkk _ hz
 have hget:∀ {i o},i<m->ops[i]? = some o->(ops.toList.take m)[i]? = some o:=fun {i o} him ho=>by
  rw[Yi,X4 him,Yx]; exact ho
 have hop:∀ i,i<m->∃ o,ops[i]? = some o:=fun i hi=>⟨_,Y1 j6⟩
 have hdst:∀ {i o},ops[i]? = some o->cK ops i=o.dst:=fun {i o} ho=>by unfold cK; rw[ho]; rfl
 have heff:∀ {i o},ops[i]? = some o->dH ops i=dW o:=fun {i o} ho=>by unfold dH; rw[ho]
 have hlt:∀ {i j},fX ops i j=true->j<i:=fun {i j} hb=>oH iX (gC i j hb)
 have hsel:∀ j,j<m->∀ o,ops[j]? = some o->nA cx call f lo ops m fl j o (σ j) (σ (j+1)) (xs j):=fun j hj o ho=>by
  have:=(htr j o (hget hj ho)).1
  rwa [YP] at this
 have fstep:∀ j,j<m->∀ o,ops[j]? = some o->∀ t,look (σ (j+1)).fr t=if o.dst=some t then xs j else look (σ j).fr t:=fun j hj o ho t=>(hsel j hj o ho).look t
 have fkeep:∀ t i j,i<=j->j<=m->(∀ q,i<=q->q<j->cK ops q≠some t)->look (σ j).fr t=look (σ i).fr t:=by
  intro t i j hij
  induction j with
  | zero=>
   intro _ _; obtain rfl:i=0:=j6
   rfl
  | succ j ih=>
   intro hjm hq
   by_cases e:i=j+1
   ·subst e; rfl
   ·obtain ⟨o,ho⟩:=hop j j6
    rw[fstep j j6 o ho,X8 (by rw[<-hdst ho]; exact hq j j6 j6)]
    exact ih j6 j6 (fun q h1 h2=>hq q h1 j6)
 have hstep:∀ j,j<m->∀ o,ops[j]? = some o->(dH ops j=false∨(dc j fl).isSome=true->(σ (j+1)).H=(σ j).H)/\(σ j).H.length<=(σ (j+1)).H.length/\∀ b,b<(σ j).H.length->(dH ops j=true->dc j fl=none->∀ c,blk? (dE cx (σ j) o.op)=some c->b≠c)->(σ (j+1)).H[b]? = (σ j).H[b]?:=fun j hj o ho=>by
  have h:=(hsel j hj o ho).heap
  rw[heff ho]
  exact h
 have hlenm:∀ i j,i<=j->j<=m->(σ i).H.length<=(σ j).H.length:=by
  intro i j hij
  induction j with
  | zero=>
   intro _; obtain rfl:i=0:=j6
   exact X1 _
  | succ j ih=>
   intro hjm
   by_cases e:i=j+1
   ·subst e; exact X1 _
   ·obtain ⟨o,ho⟩:=hop j j6
    exact Yp (ih j6 j6) (hstep j j6 o ho).2.1
 have hsame:∀ i j,i<=j->j<=m->(∀ q,i<=q->q<j->dH ops q=false∨(dc q fl).isSome=true)->(σ j).H=(σ i).H:=by
  intro i j hij
  induction j with
  | zero=>
   intro _ _; obtain rfl:i=0:=j6
   rfl
  | succ j ih=>
   intro hjm hq
   by_cases e:i=j+1
   ·subst e; rfl
   ·obtain ⟨o,ho⟩:=hop j j6
    rw[(hstep j j6 o ho).1 (hq j j6 j6)]
    exact ih j6 j6 (fun q h1 h2=>hq q h1 j6)
 have hblk:∀ i j,i<=j->j<=m->∀ b,b<(σ i).H.length->(∀ q o,i<=q->q<j->ops[q]? = some o->dH ops q=true->dc q fl=none->∀ c,blk? (dE cx (σ q) o.op)=some c->b≠c)->(σ j).H[b]? = (σ i).H[b]?:=by
  intro i j hij
  induction j with
  | zero=>
   intro _ b _ _; obtain rfl:i=0:=j6
   rfl
  | succ j ih=>
   intro hjm b hb hq
   by_cases e:i=j+1
   ·subst e; rfl
   ·obtain ⟨o,ho⟩:=hop j j6
    rw[(hstep j j6 o ho).2.2 b (Yh hb (hlenm i j j6 j6)) (fun he hn=>hq j o j6 j6 ho he hn)]
    exact ih j6 j6 b hb (fun q o h1 h2=>hq q o h1 j6)
 have hnf:∀ {q},dH ops q=true->¬ (dc q fl=none)->(dc q fl).isSome=true:=fun _ h=>by cases hh:dc _ fl with | none=>exact absurd hh h | some _=>rfl
 let zm:(Nat->Prop)->Nat->Bool:=fun D b=>decide (∃ i,dc i fl=some (.ptr b 0)/\¬ D i)
 have zmT:∀ (D:Nat->Prop) (b:Nat),zm D b=true↔∃ i,dc i fl=some (.ptr b 0)/\¬ D i:=fun D b=>by simp only[zm,X6]
 have zmF:∀ (D:Nat->Prop) (b:Nat),zm D b=false↔∀ i,dc i fl=some (.ptr b 0)->D i:=fun D b=>by
  rw[qaZ,ne_eq,zmT,not_exists]
  exact forall_congr' fun i=>⟨fun h1 h2=>Classical.byContradiction fun h3=>h1 ⟨h2,h3⟩,fun h1 h2=>h2.2 (h1 h2.1)⟩
 have zmlow:∀ (D:Nat->Prop) (b:Nat),b<s.H.length->zm D b=false:=fun D b hb=>(zmF D b).2 fun i hi=>by
  obtain ⟨_,_,_,b',_,_,_,q,q2,_⟩:=hfl.at_ i _ hi
  cases q; omega
 have zmhi:∀ (D:Nat->Prop) (b:Nat),H1.length<=b->zm D b=false:=fun D b hb=>(zmF D b).2 fun i hi=>by
  obtain ⟨_,_,_,b',_,_,_,q,_,q2,_⟩:=hfl.at_ i _ hi
  cases q
  have:=(X2.1 q2).1
  omega
 have hlen1:∀ j,j<=m->H1.length<=(σ j).H.length:=fun j hj=>by
  have:=hlenm 0 j j6 hj
  rw[hσH] at this; exact this
 refine ur (F:=F) ⟨hF.1,hF.2.1⟩ hmx N m hg.siz iX chkt (fun D a' W=>∃ (p:Nat) (g':Gh),p<=m/\(∀ i,i<m->dH ops i=true->dc i fl=none->(D i↔i<p))/\(∀ i b,dc i fl=some (.ptr b 0)->¬ D i->(σ p).H[b]? = H1[b]?)/\Rel (cw (zm D) (σ p).H) g' w0 W/\Ext s.H g w (cw (zm D) (σ p).H) g' W/\(∀ b,b<lo->b<s.H.length->(σ p).H[b]? = s.H[b]?)/\g'.S=g.S ∧
   (∀ t i,i<m->cK ops i=some t->D i->VR (cw (zm D) (σ p).H) g' W (xs i) (slot a' t))/\(∀ t,(∀ i,i<m->cK ops i=some t->¬ D i)->VR (cw (zm D) (σ p).H) g' W (look s.fr t) (slot a' t))) ?_ ?_ ?_
 ·intro D hD
  have hr:=hg.sr.rel
  obtain ⟨g',r1,r2,r3⟩:=Rel.Fc (H1.length - s.H.length) (hr.jB (Below.refl _ _).drew)
  have r2:=(Ext.below hr (Below.refl _ _).drew).trans r2
  have hH0:cw (zm D) (σ 0).H=s.H++List.replicate (H1.length - s.H.length) .hole:=by
   rw[hσH]
   refine Zv fun b=>?_
   by_cases hb:b<s.H.length
   ·rw[fo (zmlow D b hb),Yf hb]; exact hfl.low b hb
   ·by_cases hb1:b<H1.length
    ·obtain ⟨i,hi⟩:=hfl.all b j6 hb1
     rw[ub ((zmT D b).2 ⟨i,hi,hD i⟩) (X3 hb1),Yo j6,ZA,X4 j6]
    ·have hl1:=hfl.len
     rw[Y7 (by rw[dv]; exact ZT hb1),Y7 r8]
  refine⟨0,g',YT _,fun i _ _ _=>⟨fun h=>absurd h (hD i),fun h=>j6⟩,fun i b _ _=>by rw[hσH],by rw[hH0]; exact r1,by rw[hH0]; exact r2,fun b _ hb=>by rw[hσH]; exact hfl.low b hb,r3,fun t i _ _ h=>absurd h (hD i),fun t _=>?_⟩
  rw[hH0]
  exact VR.ext r2 _ _ (hg.sr.fr t)
 ·rintro D D' i o him ho hDm hDi hbef hcl hD' a' W ⟨p,g',hpm,hpe,hpb,hrW,heW,hlow,hgS,hv1,hv2⟩ hsz _
  obtain ⟨c4,c5⟩:=nk iX ho
  obtain ⟨_,htA,htB⟩:=htr i o (hget him ho)
  rw[YP] at htA htB
  have hDlt:∀ {q},dH ops q=true->dc q fl=none->D q->q<p:=fun he hn h=>(hpe _ (hDm _ h) he hn).1 h
  have hlook:∀ t∈o.looksAt ops,VR (cw (zm D) (σ p).H) g' W (look (σ i).fr t) (a'.tmps.getD t undef):=fun t ht=>by
   by_cases hj:∃ j,cK ops j=some t/\fX ops i j=true
   ·obtain ⟨j,hjt,hjb⟩:=hj
    have hji:=hlt hjb
    have hv:=hv1 t j j6 hjt (hbef j hjb)
    obtain ⟨oj,hoj⟩:=hop j j6
    have e1:look (σ (j+1)).fr t=xs j:=by rw[fstep j j6 oj hoj,X4 (by rw[<-hdst hoj]; exact hjt)]
    rw[fkeep t (j+1) i j6 j6 (fun q h1 h2 hq=>by
     obtain ⟨oq,hoq⟩:=hop q j6
     obtain ⟨c4',_⟩:=nk iX hoq
     exact c4' j t j6 (by rw[<-hdst hoq]; exact hq) hjt),e1]
    exact hv
   ·have hno:∀ j,cK ops j=some t->fX ops i j=false:=fun j hjt=>by
     cases hb:fX ops i j with
     | false=>rfl
     | true=>exact absurd ⟨j,hjt,hb⟩ hj
    have hs:=hv2 t (fun j hjm hjt hDj=>by
     rcases c5 j t hjt ht with rfl | h | h
     ·exact hDi hDj
     ·rw[hno j hjt] at h; cases h
     ·exact hDi (hcl j i hDj h))
    rw[fkeep t 0 i j6 j6 (fun q h1 h2 hq=>by
     rcases c5 q t hq ht with h | h | h
     ·omega
     ·rw[hno q hq] at h; cases h
     ·have:=hlt h; omega),hσf]
    exact hs
  have hopr:uK cx ⟨(σ i).fr,cw (zm D) (σ p).H⟩ g' w0 o.op a'.eval W:=⟨hrW,fun y hy=>p0 (fun t ht=>by
    refine hlook t ?_
    subst ht
    unfold Oper.looksAt
    exact Y6.2 (.inl (qaV.2 ⟨.tmp t,hy,rfl⟩))) (fun G vs hG=>(hg.sr.gl G vs hG).ext heW),fun _=>rfl⟩
  have zsame:dc i fl=none->zm D'=zm D:=fun hn=>funext fun b=>by
   have:(zm D' b=true)↔(zm D b=true):=by
    rw[zmT,zmT]
    constructor
    ·rintro ⟨j,h1,h2⟩; exact⟨j,h1,fun h=>h2 ((hD' j).2 (.inr h))⟩
    ·rintro ⟨j,h1,h2⟩
     refine⟨j,h1,fun h=>?_⟩
     rcases (hD' j).1 h with rfl | h
     ·rw[hn] at h1; cases h1
     ·exact h2 h
   exact YI.2 this
  have fin:∀ (p':Nat) (g2:Gh) (W':World) (v:Value),p'<=m->(∀ j,j<m->dH ops j=true->dc j fl=none->(D' j↔j<p'))->(∀ j b,dc j fl=some (.ptr b 0)->¬ D' j->(σ p').H[b]? = H1[b]?)->Rel (cw (zm D') (σ p').H) g2 w0 W'->Ext (cw (zm D) (σ p).H) g' W (cw (zm D') (σ p').H) g2 W'->(∀ b,b<lo->b<s.H.length->(σ p').H[b]? = s.H[b]?)->g2.S=g.S->(∀ d,o.dst=some d->VR (cw (zm D') (σ p').H) g2 W' (xs i) v) ->
    ∃ (p:Nat) (g':Gh),p<=m/\(∀ i,i<m->dH ops i=true->dc i fl=none->(D' i↔i<p))/\(∀ i b,dc i fl=some (.ptr b 0)->¬ D' i->(σ p).H[b]? = H1[b]?)/\Rel (cw (zm D') (σ p).H) g' w0 W'/\Ext s.H g w (cw (zm D') (σ p).H) g' W'/\(∀ b,b<lo->b<s.H.length->(σ p).H[b]? = s.H[b]?)/\g'.S=g.S ∧
     (∀ t j,j<m->cK ops j=some t->D' j->VR (cw (zm D') (σ p).H) g' W' (xs j) (slot (a'.put o.dst v) t))/\(∀ t,(∀ j,j<m->cK ops j=some t->¬ D' j)->VR (cw (zm D') (σ p).H) g' W' (look s.fr t) (slot (a'.put o.dst v) t)):=by
   intro p' g2 W' v h1 h2 h2b h3 h4 h5 h6 h7
   refine⟨p',g2,h1,h2,h2b,h3,heW.trans h4,h5,h6,fun t j hjm hjt hDj=>?_,fun t ht=>?_⟩
   ·rcases (hD' j).1 hDj with rfl | hDj
    ·have hdt:o.dst=some t:=by rw[<-hdst ho]; exact hjt
     rw[hdt,fK (by rw[hsz]; exact hd o (by rw[<-Array.mem_def]; exact qbr ho) t hdt)]
     exact h7 t hdt
    ·have hne:j≠i:=fun e=>hDi (e ▸ hDj)
     rw[dV (fun hdt=>c4 j t (YW hne) hdt hjt)]
     exact VR.ext h4 _ _ (hv1 t j hjm hjt hDj)
   ·rw[dV (fun hdt=>ht i him (by rw[hdst ho]; exact hdt) ((hD' i).2 (.inl rfl)))]
    exact VR.ext h4 _ _ (hv2 t (fun j hjm hjt hDj=>ht j hjm hjt ((hD' j).2 (.inr hDj))))
  have rowM:∀ b,gG (cw (zm D) (σ p).H) b=gG (σ p).H b:=fun b=>by
   cases hzb:zm D b with
   | false=>unfold gG; rw[fo hzb]
   | true=>
    obtain ⟨j,hj,hDj⟩:=(zmT D b).1 hzb
    obtain ⟨_,_,_,b',cs',_,_,q3,_,q5,_⟩:=hfl.at_ j _ hj
    cases q3
    have hB:=(hpb j b hj hDj).trans q5
    unfold gG
    rw[ub hzb hB,hB]
  have hwant:(Region.wanted o (yielded ops a'.tmps)=false/\dc i fl=none/\(dW o=false∨(σ (i+1)).H=(σ i).H)/\xs i=.v undef)∨(Region.wanted o (yielded ops a'.tmps)=true/\lY cx call f lo ops m fl i o (σ i) (σ (i+1)) (xs i)):=by
   have htl:∀ {t want},cz ops o=some (t,want)->t∈o.looksAt ops:=fun {t want} hgs=>by
    rw[jS] at hgs
    unfold Oper.looksAt
    split at hgs
    ·rename_i j want' hgd
     cases hdj:(ops[j]?).bind (·.dst) with
     | none=>rw[hdj] at hgs; cases hgs
     | some t'=>
      rw[hdj] at hgs
      cases hgs
      refine Y6.2 (.inr ?_)
      rw[hgd]
      simp[hdj]
    ·cases hgs
   rcases hsel i him o ho with ⟨hgd,hse⟩ | ⟨t,want,hgs,hni,he,hk,hs1,hor⟩ | ⟨t,want,b,hgs,hni,hlb,hor⟩
   ·exact .inr ⟨by simp[Region.wanted,hgd],hse⟩
   ·have hv:=hlook t (htl hgs)
    rcases hor with ⟨b,hlb,hcond⟩ | ⟨⟨y,hlb⟩,hcond⟩
    ·rw[hlb,VR] at hv
     rw[kM hgs hv]
     split at hcond
     ·rename_i hbw
      exact .inr ⟨hbw,.inr (.inr ⟨hni,he,hcond,hs1,.inr (.inl hk)⟩)⟩
     ·rename_i hbw
      exact .inl ⟨by simpa using hbw,hni,.inl he,hcond⟩
    ·rw[hlb,VR] at hv
     rw[m7 hgs hv]
     exact .inl ⟨rfl,hni,.inl he,hcond⟩
   ·have hv:=hlook t (htl hgs)
    rw[hlb,VR] at hv
    rw[kM hgs hv]
    rcases hor with ⟨hbw,hE⟩ | ⟨hbw,hx,hal⟩
    ·exact .inr ⟨hbw,hE⟩
    ·exact .inl ⟨hbw,hni,.inr (by rw[hal.1,gP]),hx⟩
  rcases hwant with ⟨hw,hni,he,hxu⟩ | ⟨hw,hse⟩
  ·rw[X8 (by rw[hw]; simp)]
   cases hee:dW o with
   | false=>
    refine fin p g' W undef hpm (fun j hjm hje hjn=>⟨fun h'=>?_,fun h'=>(hD' j).2 (.inr ((hpe j hjm hje hjn).2 h'))⟩) (fun j b hj hnj=>hpb j b hj (fun h=>hnj ((hD' j).2 (.inr h)))) (by rw[zsame hni]; exact hrW) (by rw[zsame hni]; exact Ext.refl hrW) hlow hgS (fun d _=>by rw[hxu,VR])
    rcases (hD' j).1 h' with rfl | h'
    ·rw[heff ho,hee] at hje; cases hje
    ·exact hDlt hje hjn h'
   | true=>
    have hei:dH ops i=true:=by rw[heff ho]; exact hee
    have hpi:p<=i:=ZT fun hlt'=>hDi ((hpe i him hei hni).2 hlt')
    have hHp:(σ i).H=(σ p).H:=hsame p i hpi j6 (fun q h2 h3=>by
     cases hq:dH ops q with
     | false=>exact .inl rfl
     | true=>
      by_cases hnq:dc q fl=none
      ·have:=hDlt hq hnq (hbef q (hch q i him h3 hq hei hnq hni)); omega
      ·exact .inr (hnf hq hnq))
    have hH2:(σ (i+1)).H=(σ p).H:=by
     rcases he with he | he
     ·rw[hee] at he; cases he
     ·rw[he,hHp]
    refine fin (i+1) g' W undef j6 (fun j hjm hje hjn=>⟨fun h'=>?_,fun h'=>?_⟩) (fun j b hj hnj=>by rw[hH2]; exact hpb j b hj (fun h=>hnj ((hD' j).2 (.inr h)))) (by rw[hH2,zsame hni]; exact hrW) (by rw[hH2,zsame hni]; exact Ext.refl hrW) (fun b hb hb'=>by rw[hH2]; exact hlow b hb hb') hgS (fun d _=>by rw[hxu,VR])
    ·rcases (hD' j).1 h' with rfl | h'
     ·omega
     ·have:=hDlt hje hjn h'; omega
    ·refine(hD' j).2 ?_
     by_cases e:j=i
     ·exact .inl e
     ·exact .inr (hbef j (hch j i him j6 hje hei hjn hni))
  rw[X4 hw]
  refine .inl ?_
  rcases hse with ⟨hfi,hs1⟩ | ⟨hni,he,H',h1,hs1⟩ | ⟨hni,he,h1,hs1,hkind⟩
  ·
   obtain ⟨_,o',t,b,cs,q1,q2,q3,q4,q5,q6⟩:=hfl.at_ i _ hfi
   rw[ho] at q1; cases q1
   have hxi:xs i=.ptr b 0:=q3
   have hfb:dc i fl=some (.ptr b 0):=by rw[<-hxi]; exact hfi
   have hHb:(σ p).H[b]? = some (.box cs):=(hpb i b hfb hDi).trans q5
   have hhole:(cw (zm D) (σ p).H)[b]? = some .hole:=ub ((zmT D b).2 ⟨i,hfb,hDi⟩) hHb
   have hmk:cw (zm D') (σ p).H=(cw (zm D) (σ p).H).set b (.box cs):=A4 hHb ((zmF D' b).2 fun j hj=>(hD' j).2 (.inl (hfl.inj j i b hj hfb))) fun c hc=>by
    have:(zm D' c=true)↔(zm D c=true):=by
     rw[zmT,zmT]
     constructor
     ·rintro ⟨j,h1,h2⟩; exact⟨j,h1,fun h=>h2 ((hD' j).2 (.inr h))⟩
     ·rintro ⟨j,h1,h2⟩
      refine⟨j,h1,fun h=>?_⟩
      rcases (hD' j).1 h with rfl | h
      ·rw[hfb] at h1; cases h1; exact hc rfl
      ·exact h2 h
    exact YI.2 this
   obtain ⟨d,W',g2,r1,r2,r3,r4,r5⟩:=Au (P:=cx.P) hrW hhole q6
   have r1':(execOp a'.eval o).run cx.P W=.ok (.value d) W':=by
    unfold execOp
    simp only[q2]
    exact jh r1
   refine kP (.inl r1') ?_
   refine fin p g2 W' d hpm (fun j hjm hje hjn=>⟨fun h'=>?_,fun h'=>(hD' j).2 (.inr ((hpe j hjm hje hjn).2 h'))⟩) (fun j b' hj hnj=>hpb j b' hj (fun h=>hnj ((hD' j).2 (.inr h)))) (by rw[hmk]; exact r2) (by rw[hmk]; exact r3) hlow (r5.trans hgS) (fun _ _=>by rw[hmk,hxi]; exact r4)
   rcases (hD' j).1 h' with rfl | h'
   ·rw[hfb] at hjn; cases hjn
   ·exact hDlt hje hjn h'
  ·
   have hei:dH ops i=true:=by rw[heff ho]; exact he
   have hpi:p<=i:=ZT fun hlt'=>hDi ((hpe i him hei hni).2 hlt')
   have hHp:(σ i).H=(σ p).H:=hsame p i hpi j6 (fun q h2 h3=>by
    cases hq:dH ops q with
    | false=>exact .inl rfl
    | true=>
     by_cases hnq:dc q fl=none
     ·have:=hDlt hq hnq (hbef q (hch q i him h3 hq hei hnq hni)); omega
     ·exact .inr (hnf hq hnq))
   have hst:(⟨(σ i).fr,(σ p).H⟩:St)=σ i:=by rw[<-hHp]
   have hzl:zm D (σ p).H.length=false:=zmhi D _ (hlen1 p hpm)
   have hbl:∀ y∈o.op.operands.toList,∀ b,blk? (cD cx ⟨(σ i).fr,(σ p).H⟩ y)=some b->zm D b=false:=fun y hy b hb=>BD (hopr.one y hy) (by rw[<-hb]; cases y<;>rfl)
   have h1m:b7 cx f lo o ⟨(σ i).fr,cw (zm D) (σ p).H⟩ (fun a H=>some (a,H))=some (xs i,cw (zm D) H'):=by
    rw[EX he hzl rowM hbl,hst,h1]; rfl
   obtain ⟨c,w',x,H2,g2,e1,e2,e3,e4,e5,e6,e7,e8⟩:=lj hopr h1m
   cases e2
   refine kP e1 ?_
   have hH1:(σ (i+1)).H=H':=by rw[hs1.1,gP]
   have hz':=zsame hni
   have htch:=rf he h1
   refine fin (i+1) g2 w' c j6 (fun j hjm hje hjn=>⟨fun h'=>?_,fun h'=>?_⟩) (fun j b hj hnj=>?_) (by rw[hH1,hz']; exact e3) (by rw[hH1,hz']; exact e4) (fun b hb hb'=>?_) (e8.trans hgS) (fun d _=>by rw[hH1,hz']; first | exact e5 | exact e6 | exact e7)
   ·rcases (hD' j).1 h' with rfl | h'
    ·omega
    ·have:=hDlt hje hjn h'; omega
   ·refine(hD' j).2 ?_
    by_cases e:j=i
    ·exact .inl e
    ·exact .inr (hbef j (hch j i him j6 hje hei hjn hni))
   ·have hDj:¬ D j:=fun h=>hnj ((hD' j).2 (.inr h))
    obtain ⟨_,_,_,b',cs',_,_,q3,q4,q5,_⟩:=hfl.at_ j _ hj
    cases q3
    have hbH:b<(σ i).H.length:=Yh (X2.1 q5).1 (hlen1 i j6)
    rw[hH1,htch.2 b hbH (fun c hc e=>?_),hHp]
    ·exact hpb j b hj hDj
    ·subst e
     have hzb:zm D b=true:=(zmT D b).2 ⟨j,hj,hDj⟩
     have hza:zm D b=false:=by
      obtain ⟨y,hy,hty⟩:∃ y∈o.op.operands.toList,dE cx (σ i) o.op=cD cx (σ i) y:=by
       have hcs:blk? (dE cx (σ i) o.op)=some b:=hc
       unfold dE at hcs ⊢
       split at hcs
       ·rename_i t ad v hx; exact⟨ad,by rw[hx]; simp[Op.operands],rfl⟩
       ·rename_i c' hx
        split at hcs
        ·rename_i y l hl
         refine⟨y,?_,rfl⟩
         rw[hx]
         have:y∈c'.args.toList:=by rw[hl]; simp
         simp[Op.operands,Call.operands]
         exact .inr (by simpa using this)
        ·cases hcs
       ·cases hcs
      refine hbl y hy b ?_
      rw[hst,<-hty]; exact hc
     rw[hzb] at hza; cases hza
   ·have hb2:b<(σ i).H.length:=Yh hb' (by have:=hlenm 0 i j6 j6; rw[hσH] at this; exact Yp hfl.len this)
    have h3:=(by first | exact e7 b hb (by rw[dv,<-hHp]; exact hb2) | exact e6 b hb (by rw[dv,<-hHp]; exact hb2):(cw (zm D) H')[b]? = (cw (zm D) (σ p).H)[b]?)
    rw[fo (zmlow D b hb'),fo (zmlow D b hb')] at h3
    rw[hH1,h3]
    exact hlow b hb hb'
  ·
   have hun:∀ q,q<m->dH ops q=true->dc q fl=none->((i<q/\q<p)∨(p<=q/\q<i))->gb ops i q:=fun q hqm hqe hqn hq=>by
    unfold gb
    rw[YO]
    constructor
    ·cases hb:fX ops i q with
     | false=>rfl
     | true=>
      have h2:=hDlt hqe hqn (hbef q hb)
      have h3:=hlt hb
      omega
    ·cases hb:fX ops q i with
     | false=>rfl
     | true=>
      have h2:=hlt hb
      have h3:D q:=(hpe q hqm hqe hqn).2 j6
      exact absurd (hcl q i h3 hb) hDi
   have hvo:∀ {y:Operand},y∈o.op.operands.toList->∀ {b:Nat},blk? (cD cx (σ i) y)=some b->zm D b=false/\∃ B,(σ p).H[b]? = some B:=fun {y} hy {b} hb=>by
    have hvr:=hopr.one y hy
    rw[show cD cx ⟨(σ i).fr,cw (zm D) (σ p).H⟩ y=cD cx (σ i) y from by cases y<;>rfl] at hvr
    have hz:=BD hvr hb
    obtain ⟨B,hB,_⟩:=vh hvr hb
    rw[fo hz] at hB
    exact⟨hz,B,hB⟩
   have haddr:cd o=1->∀ {b:Nat},blk? (addrOf cx (σ i) o.op)=some b->∃ y∈o.op.operands.toList,addrOf cx (σ i) o.op=cD cx (σ i) y:=fun h2 {b} hbs=>by
    unfold cd at h2
    split at h2<;>first | (cases h2; done) | skip
    ·rename_i t x hx; exact⟨x,by rw[hx]; simp[Op.operands],by unfold addrOf; rw[hx]⟩
    ·rename_i t x q hx; exact⟨x,by rw[hx]; simp[Op.operands],by unfold addrOf; rw[hx]⟩
    ·rename_i t x q hx; exact⟨x,by rw[hx]; simp[Op.operands],by unfold addrOf; rw[hx]⟩
    ·rename_i t x q1 q2 q3 hx; exact⟨x,by rw[hx]; simp[Op.operands],by unfold addrOf; rw[hx]⟩
    ·rename_i x hx; exact⟨x,by rw[hx]; simp[Op.operands],by unfold addrOf; rw[hx]⟩
    ·rename_i t1 t2 x hx; exact⟨x,by rw[hx]; simp[Op.operands],by unfold addrOf; rw[hx]⟩
    ·rename_i t x q c hx; exact⟨x,by rw[hx]; simp[Op.operands],by unfold addrOf; rw[hx]⟩
    ·rename_i c hx
     unfold addrOf at hbs ⊢
     rw[hx] at hbs ⊢
     simp only[] at hbs ⊢
     cases hargs:c.args.toList with
     | nil=>rw[hargs] at hbs; cases hbs
     | cons y l=>
      refine⟨y,?_,rfl⟩
      have:y∈c.args.toList:=by rw[hargs]; simp
      simp[Op.operands,Call.operands]
      exact .inr (by simpa using this)
   have hev:il cx call f o ⟨(σ i).fr,(σ p).H⟩=some (xs i):=by
    have hsi:(⟨(σ i).fr,(σ i).H⟩:St)=σ i:=rfl
    rw[<-hsi] at h1
    have allSame:(∀ q,q<m->dH ops q=true->dc q fl=none->((i<q/\q<p)∨(p<=q/\q<i))->False)->(σ p).H=(σ i).H:=fun hno=>by
     rcases qa8 i p with hip | hip
     ·exact hsame i p hip hpm (fun q h2 h3=>by
       cases hq:dH ops q with
       | false=>exact .inl rfl
       | true=>
        by_cases hnq:dc q fl=none
        ·by_cases e:q=i
         ·subst e; rw[heff ho,he] at hq; cases hq
         ·exact(hno q j6 hq hnq (.inl ⟨j6,h3⟩)).elim
        ·exact .inr (hnf hq hnq))
     ·exact(hsame p i hip j6 (fun q h2 h3=>by
       cases hq:dH ops q with
       | false=>exact .inl rfl
       | true=>
        by_cases hnq:dc q fl=none
        ·exact(hno q j6 hq hnq (.inr ⟨h2,h3⟩)).elim
        ·exact .inr (hnf hq hnq))).symm
    cases hord:jW fl ops m i with
    | true=>
     rw[allSame (fun q hqm hqe hqn hq=>by
      have hu:=hun q hqm hqe hqn hq
      unfold gb at hu
      rw[YO] at hu
      rcases xF hord hqm hqe hqn with h2 | h2 | h2
      ·omega
      ·rw[hu.1] at h2; cases h2
      ·rw[hu.2] at h2; cases h2)]
     exact h1
    | false=>
     rcases hkind with h2 | h2 | h2 | ⟨h2,h3⟩ | ⟨h2,h3⟩
     ·rw[hord] at h2; cases h2.1
     ·rw[tB h2 (H':=(σ i).H)]; exact h1
     ·rw[<-xb h2 (H:=(σ i).H) (fun b hb=>?_)]
      ·exact h1
      ·have hbV:∃ B,(σ p).H[b]? = some B:=by
        obtain ⟨y,hy,hay⟩:=haddr h2 hb
        exact(hvo hy (by rw[<-hay]; exact hb)).2
       obtain ⟨B,hB⟩:=hbV
       have hbp:b<(σ p).H.length:=(X2.1 hB).1
       have hap:∀ {e:A} {c:Nat},apart (addrOf cx (σ i) o.op) e=true->blk? e=some c->b≠c:=fun {e c} h4 h5 h6=>by
        have hb':blk? (addrOf cx (σ i) o.op)=some b:=hb
        unfold apart at h4
        simp only[hb',h5,h6,Nat.beq_refl] at h4
        cases h4
       rcases qa8 i p with hip | hip
       ·
        have hbi:b<(σ i).H.length∨(σ i).H.length<=b:=ZZ _ _
        rcases hbi with hbi | hbi
        ·exact hblk i p hip hpm b hbi (fun q oq h4 h5 hoq hqe hqn c hc=>by
          by_cases e:q=i
          ·subst e; rw[heff ho,he] at hqe; cases hqe
          ·have hu:=hun q j6 hqe hqn (.inl ⟨j6,h5⟩)
           have hqA:=(htr q oq (hget j6 hoq)).2.1 (by rw[YP]; exact hqn) (by rw[<-heff hoq]; exact hqe)
           simp only[YP] at hqA
           exact hap (hqA.2 i o j6 (hget him ho) he h2 hord (by unfold gb at hu ⊢; rw[Bool.or_comm]; exact hu)) hc)
        ·exfalso
         obtain ⟨B',hB'⟩:=vy (s:=σ i) h2 h1 hb
         have:=(X2.1 hB').1
         omega
       ·exact(hblk p i hip j6 b hbp (fun q oq h4 h5 hoq hqe hqn c hc=>by
         have hu:=hun q j6 hqe hqn (.inr ⟨h4,h5⟩)
         exact hap ((htB he h2 hord).2 q oq h5 (hget j6 hoq) (by rw[YP]; exact hqn) (by rw[<-heff hoq]; exact hqe) (by rw[YP]; exact hu)) hc)).symm
     ·have hrow:∀ i j,i<=j->j<=m->(∀ q,i<=q->q<j->dH ops q=true->dc q fl=none->wM ops q=true)->∀ b,gG (σ j).H b=gG (σ i).H b:=by
       intro i j hij
       induction j with
       | zero=>
        intro _ _ b; obtain rfl:i=0:=j6
        rfl
       | succ j ih=>
        intro hjm hq b
        by_cases e:i=j+1
        ·subst e; rfl
        ·obtain ⟨oj,hoj⟩:=hop j j6
         have hprev:=ih j6 j6 (fun q h1 h2=>hq q h1 j6) b
         have stE:lY cx call f lo ops m fl j oj (σ j) (σ (j+1)) (xs j)->gG (σ (j+1)).H b=gG (σ i).H b:=fun hE=>by
          rcases hE with ⟨_,ej⟩ | ⟨hnj,hej,H',hj1,ej⟩ | ⟨_,_,_,ej,_⟩
          ·rw[ej.1,gP]
           exact hprev
          ·have hc:=hq j j6 j6 (by rw[heff hoj]; exact hej) hnj
           unfold wM at hc
           rw[hoj] at hc
           rw[ej.1,gP]
           exact(CU hc hj1 b).trans hprev
          ·rw[ej.1,gP]
           exact hprev
         rcases hsel j j6 oj hoj with ⟨_,hE⟩ | ⟨_,_,_,_,_,_,ej,_⟩ | ⟨_,_,_,_,_,_,a4⟩
         ·exact stE hE
         ·rw[ej.1,gP]
          exact hprev
         ·rcases a4 with ⟨_,hE⟩ | ⟨_,_,ej⟩
          ·exact stE hE
          ·rw[ej.1,gP]
           exact hprev
      have hcalm:∀ q,q<m->dH ops q=true->dc q fl=none->((i<q/\q<p)∨(p<=q/\q<i))->wM ops q=true:=fun q hqm hqe hqn hq=>by
       have hu:=hun q hqm hqe hqn hq
       unfold gb at hu
       rw[YO] at hu
       have:=Yb.1 h3 q (Yn.2 hqm)
       simp only[hqe,hu.1,hu.2,YU,Za,Y4,Zb,or_false,false_or,reduceCtorEq,Yc] at this
       rcases this with h | h
       ·exact h
       ·omega
      rw[tA h2 (H':=(σ i).H) (fun b=>?_)]
      ·exact h1
      ·rcases qa8 i p with hip | hip
       ·exact hrow i p hip hpm (fun q h4 h5 hqe hqn=>by
         by_cases e:q=i
         ·subst e; rw[heff ho,he] at hqe; cases hqe
         ·exact hcalm q j6 hqe hqn (.inl ⟨j6,h5⟩)) b
       ·exact(hrow p i hip j6 (fun q h4 h5 hqe hqn=>hcalm q j6 hqe hqn (.inr ⟨h4,h5⟩)) b).symm
     ·rw[<-yL h2 (H:=(σ i).H) h3]; exact h1
   have hevm:il cx call f o ⟨(σ i).fr,cw (zm D) (σ p).H⟩=some (xs i):=by
    have loc:pW cx o=true->il cx call f o ⟨(σ i).fr,cw (zm D) (σ p).H⟩=il cx call f o ⟨(σ i).fr,(σ p).H⟩:=fun hl=>by
     unfold pW at hl
     simp only[YU,XZ] at hl
     rcases hl with ((hl | hl) | hl) | ⟨hl,hq⟩
     ·exact tB (beq_spec hl)
     ·refine(xb (beq_spec hl) fun b hb=>?_).symm
      have hb':blk? (addrOf cx (σ i) o.op)=some b:=hb
      obtain ⟨y,hy,hay⟩:=haddr (beq_spec hl) hb'
      exact fo (hvo hy (by rw[<-hay]; exact hb')).1
     ·exact tA (.inl (beq_spec hl)) rowM
     ·exact tA (.inr ⟨beq_spec hl,hq⟩) rowM
    have lk:∀ k,cd o=k->(k=0∨k=1∨k=2)->pW cx o=true:=fun k hk h=>by
     unfold pW
     rcases h with rfl | rfl | rfl<;>rw[hk]<;>rfl
    rcases hkind with ⟨_,(h2 | h2) | h2⟩ | h2 | h2 | ⟨h2 | ⟨h2,h3⟩,_⟩ | ⟨h2,_⟩
    ·rw[loc h2]; exact hev
    ·rw[ua fun b=>(zmF D b).2 fun j hj=>hbef j (tE h2 j _ hj)]; exact hev
    ·rw[E2 (H':=(σ p).H) h2 rowM]; exact hev
    ·rw[loc (lk 0 h2 (.inl rfl))]; exact hev
    ·rw[loc (lk 1 h2 (.inr (.inl rfl)))]; exact hev
    ·rw[loc (lk 2 h2 (.inr (.inr rfl)))]; exact hev
    ·rw[loc (by unfold pW; rw[h2,h3]; rfl)]; exact hev
    ·rw[loc (lk 2 h2 (.inr (.inr rfl)))]; exact hev
   have hpo:=nV hcall horc hevm
   refine(hpo F n g' w0 W a'.eval hF hopr (fun G vs hG=>(hg.sr.gl G vs hG).ext heW) (hcall.up _ _ _ _ _ _ hb0 (hg.ext.trans heW))).mono ?_
   rintro v w' ⟨k1,k2,k3⟩
   refine fin p g' w' v hpm (fun j hjm hje hjn=>⟨fun h'=>?_,fun h'=>(hD' j).2 (.inr ((hpe j hjm hje hjn).2 h'))⟩) (fun j b hj hnj=>hpb j b hj (fun h=>hnj ((hD' j).2 (.inr h)))) (by rw[zsame hni]; exact k2) (by rw[zsame hni]; exact k3) hlow hgS (fun d _=>by rw[zsame hni]; exact k1)
   rcases (hD' j).1 h' with rfl | h'
   ·rw[heff ho,he] at hje; cases hje
   ·exact hDlt hje hjn h'
 ·rintro D a' W hall hDm ⟨p,g',hpm,hpe,hpb,hrW,heW,hlow,hgS,hv1,hv2⟩ hdf hsz
  have hmn:cw (zm D) (σ p).H=(σ p).H:=ua fun b=>(zmF D b).2 fun j hj=>hall j (hfl.at_ j _ hj).1
  rw[hmn] at hrW heW hv1 hv2
  have hHm:(σ m).H=(σ p).H:=hsame p m hpm (X1 _) (fun q h2 h3=>by
   cases hq:dH ops q with
   | false=>exact .inl rfl
   | true=>
    by_cases hnq:dc q fl=none
    ·have:=(hpe q h3 hq hnq).1 (hall q h3); omega
    ·exact .inr (hnf hq hnq))
  refine gm (f:=f) (ops:=ops) hcall hb0 horc hF hk hp _ (σ m) g' a' W (fun o ho=>hd o (YC ho)) ⟨⟨by rw[hHm]; exact hrW,fun t=>?_,fun G vs hG=>by rw[hHm]; exact(hg.sr.gl G vs hG).ext heW⟩,by rw[hHm]; exact hg.ext.trans heW,?_,fun b hb hb'=>?_,hsz,(by rw[hdf]; exact hg.dfr.m9 heW.kept),Yp hg.mbw heW.size,hgS.trans hg.st⟩ hz
  ·rw[hHm]
   by_cases ht:∃ i,i<m/\cK ops i=some t
   ·obtain ⟨i,him,hit⟩:=ht
    obtain ⟨oi,hoi⟩:=hop i him
    have e1:look (σ (i+1)).fr t=xs i:=by rw[fstep i him oi hoi,X4 (by rw[<-hdst hoi]; exact hit)]
    rw[fkeep t (i+1) m j6 (X1 _) (fun q h1 h2 hq=>by
     obtain ⟨oq,hoq⟩:=hop q h2
     obtain ⟨c4',_⟩:=nk iX hoq
     exact c4' i t j6 (by rw[<-hdst hoq]; exact hq) hit),e1]
    exact hv1 t i him hit (hall i him)
   ·rw[fkeep t 0 m j6 (X1 _) (fun q h1 h2 hq=>ht ⟨q,h2,hq⟩),hσf]
    exact hv2 t (fun i him hit=>absurd ⟨i,him,hit⟩ ht)
  ·have:=hlenm 0 m j6 (X1 _)
   rw[hσH] at this
   exact Yp hg.len (Yp hfl.len this)
  ·rw[hHm,hlow b hb (Yh hb' hg.len)]
   exact hg.low b hb hb'
end
section
open Go.RowKit
variable {H H':aB} {g g':Gh} {w0 w w':World} {cx:Cx} {s:St} {a:Act} {N lo:Nat} {mb:Mb} {H0:aB} {gs:Gh} {ws:World}
theorem GV (hr:Rel H g w0 w) {x:A} {c:Value} (h:VR H g w x c):VR H g w (GU H x) c:=by
 unfold GU
 split
 ·exact VR.back (fun _ _ h=>h) (qL hr _ c h)
 ·rw[VR] at h ⊢
  obtain ⟨a,cap,ds,es,h1,h2,_,h4,h5,h6⟩:=h
  exact⟨a,cap,ds,es,h1,h2,fun h=>(by cases h),h4,h5,h6⟩
 ·exact h
theorem yU (hr:Rel H g w0 w):∀ {cs:List A} {ds:List Value},bC H g w cs ds->bC H g w (cs.map (GU H)) ds
 | [],_,h=>h
 | a :: as,_,h=>by
  rw[bC] at h
  obtain ⟨d,ds',rfl,h1,h2⟩:=h
  rw[YX,bC]
  exact⟨d,ds',rfl,GV hr h1,yU hr h2⟩
theorem E4 (hr:Rel H g w0 w) {x:A} {c:Value} (h:VR H g w x c):VR H g w (Jp H x) c:=by
 unfold Jp
 split
 ·exact VR.back (fun _ _ h=>h) (qL hr _ c h)
 ·rw[VR] at h ⊢
  obtain ⟨a,cap,ds,es,h1,h2,_,h4,h5,h6⟩:=h
  exact⟨a,cap,ds,es,h1,h2,fun h=>(by cases h),h4,h5,h6⟩
 ·rw[VR] at h ⊢
  obtain ⟨ds,h1,h2⟩:=h
  exact⟨ds,h1,yU hr h2⟩
 ·exact h
theorem xJ (hr:Rel H g w0 w) (es:Nat) {x:A} {c:Value} (h:VR H g w x c):∃ g',Rel (eA es H x).2 g' w0 w/\Ext H g w (eA es H x).2 g' w/\VR (eA es H x).2 g' w (eA es H x).1 c/\H.length<=(eA es H x).2.length/\(∀ b,b<H.length->(eA es H x).2[b]? = H[b]?)/\g'.S=g.S:=by
 unfold eA
 split
 ·rename_i els
  rw[bG]
  split
  ·rename_i hal
   rw[VR] at h
   obtain ⟨a,cap,ds,es',e1,e2,e3,e4,e5,e6⟩:=h
   have hc:cap=els.length:=e3 rfl
   have hds:∀ d∈ds,d.length=es:=fun d hd=>by
    obtain ⟨i,hi,rfl⟩:=YR hd
    have hl:=e6.length
    obtain ⟨q1,q2⟩:=da.1 e6
    have:=q2 i els[i] ds[i] (X3 j6) (X3 hi)
    rw[this.length]
    exact Yq (Yb.1 hal _ (Y8 j6))
   obtain ⟨h1,h2⟩:=hr.push (Below.refl _ w) (.row false es els) none ds (fun k hk=>by cases hk) (fun he=>⟨by rw[Gh.iI]; exact bw.ext he _ _ e6,by rw[Gh.iI]; exact hds⟩)
   refine⟨_,h1,h2,?_,r7,fun b hb=>Yf hb,rfl⟩
   rw[VR,ew]
   refine⟨r7,a,cap,e1,e2,fun h=>(by cases h),fun hp=>?_,fun _ _ _ h=>j6⟩
   obtain ⟨k,off,g1,g2⟩:=e5 hp
   refine⟨k,off,g1,?_⟩
   rw[Gh.iI,Zi,YL (by rw[e6.length]; exact X1 _)]
   exact g2.ext h2
  ·exact⟨g,hr,Ext.refl hr,h,X1 _,fun _ _=>rfl,rfl⟩
 ·exact⟨g,hr,Ext.refl hr,h,X1 _,fun _ _=>rfl,rfl⟩
theorem Gf (hr:Rel H g w0 w) (es:Nat) {x:A} {c:Value} (h:VR H g w x c):∃ g',Rel (mB es H x).2 g' w0 w/\Ext H g w (mB es H x).2 g' w/\VR (mB es H x).2 g' w (mB es H x).1 c/\H.length<=(mB es H x).2.length/\(∀ b,b<H.length->(mB es H x).2[b]? = H[b]?)/\g'.S=g.S:=by
 unfold mB
 split
 ·rw[VR] at h
  obtain ⟨a,cap,ds,es',e1,e2,e3,e4,e5,e6⟩:=h
  obtain ⟨h1,h2⟩:=hr.push (Below.refl _ w) (.row true es []) none [] (fun k hk=>by cases hk) (fun he=>⟨[],by rw[bw],fun d hd=>(by cases hd),fun hp=>(by simp at hp)⟩)
  refine⟨_,h1,h2,?_,r7,fun b hb=>Yf hb,rfl⟩
  rw[VR,ew]
  exact⟨r7,a,cap,e1,j6,fun h=>(by cases h),fun hp=>j6⟩
 ·exact⟨g,hr,Ext.refl hr,h,X1 _,fun _ _=>rfl,rfl⟩
theorem BM (hr:Rel H g w0 w) {x:A} {c:Value} (h:VR H g w x c):∃ g',Rel (H++[.dead]) g' w0 w/\Ext H g w (H++[.dead]) g' w/\VR (H++[.dead]) g' w x c/\H.length<=(H++[az.dead]).length/\(∀ b,b<H.length->(H++[az.dead])[b]? = H[b]?)/\g'.S=g.S:=by
 obtain ⟨h1,h2⟩:=hr.push (Below.refl _ w) .dead none [] (fun k hk=>by cases hk) (fun he=>Gh.bP ..)
 exact⟨_,h1,h2,VR.ext h2 _ _ h,r7,fun b hb=>Yf hb,rfl⟩
theorem Gg (hr:Rel H g w0 w) (es:Nat) {x:A} {c:Value} (h:VR H g w x c):∃ g',Rel (mC es H x).2 g' w0 w/\Ext H g w (mC es H x).2 g' w/\VR (mC es H x).2 g' w (mC es H x).1 c/\H.length<=(mC es H x).2.length/\(∀ b,b<H.length->(mC es H x).2[b]? = H[b]?)/\g'.S=g.S:=by
 have h1:=xJ hr es h
 unfold mC
 split
 ·rename_i els
  unfold eA at h1
  simp only at h1
  rw[bG] at h1 ⊢
  split
  ·rename_i hal
   rw[X4 hal] at h1
   exact h1
  ·exact BM hr h
 ·exact BM hr h
theorem Good.slot (h:Good cx N mb lo H0 gs ws w0 s g a w) {t:Nat} {x:A} (hx:VR s.H g w x (a.tmps.getD t undef)):Good cx N mb lo H0 gs ws w0 ⟨(t,x) :: s.fr,s.H⟩ g a w:=
 ⟨⟨h.sr.rel,fun u=>by
  show VR s.H g w (look ((t,x) :: s.fr) u) _
  rw[eT]; split
  ·rename_i e; rw[<-e]; exact hx
  ·exact h.sr.fr u,h.sr.gl⟩,h.ext,h.len,h.low,h.siz,h.dfr,h.mbw,h.st⟩
theorem Good.heap (h:Good cx N mb lo H0 gs ws w0 s g a w) (hr:Rel H' g' w0 w) (he:Ext s.H g w H' g' w) (hl:s.H.length<=H'.length) (hlo:∀ b,b<lo->b<s.H.length->H'[b]? = s.H[b]?) (hst:g'.S=g.S):Good cx N mb lo H0 gs ws w0 ⟨s.fr,H'⟩ g' a w:=
 ⟨⟨hr,fun t=>VR.ext he _ _ (h.sr.fr t),fun G vs hG=>(h.sr.gl G vs hG).ext he⟩,h.ext.trans he,Yp h.len hl,fun b hb hb'=>(hlo b hb (Yh hb' h.len)).trans (h.low b hb hb'),h.siz,h.dfr.m9 he.kept,Yp h.mbw he.size,hst.trans h.st⟩
theorem setRow_self {k:Nat} {arr:Array Value} {ty:TypeId} (ha:w.heap[k]? = some (.cells arr ty (0,0))):w.setRow k arr=w:=by
 have e:(w.heap.modify k fun | .cells _ elem frozen=>.cells arr elem frozen | o=>o)=w.heap:=by
  refine Array.ext r7 fun i h1 h2=>?_
  rw[qbv]
  split
  ·rename_i hik
   subst hik
   have hv:=(X5.1 ha).2
   rw[hv]
  ·rfl
 exact(YA (fun h=>({ w with heap:=h }:World)) e:_=_)
theorem Rel.box (hr:Rel H g w0 w) {b i:Nat} {cs:List A} (hb:H[b]? = some (.box cs)) {x:A} (hx:∀ k arr ty d,g.mu b=some k->w.heap[k]? = some (.cells arr ty (0,0))->arr[i]? = some d->VR H g w x d):Rel (H.set b (.box (cs.set i x))) g w0 w/\Ext H g w (H.set b (.box (cs.set i x))) g w:=by
 obtain ⟨k,arr,ty,h1,h2,h3⟩:=hr.blk b _ hb
 have key:Ext H g w (H.set b (.box (cs.set i x))) g (w.setRow k arr)->(w.setRow k arr).heap[k]? = some (.cells arr ty (0,0))->mH (H.set b (.box (cs.set i x))) g (w.setRow k arr) b (.box (cs.set i x)):=fun he hk=>by
  refine⟨k,arr,ty,h1,hk,?_⟩
  rw[setRow_self h2] at he ⊢
  refine bC.ext he _ _ (dQ.2 ⟨by simpa using h3.length,fun j y d hy hd=>?_⟩)
  rw[ZL] at hy
  split at hy
  ·rename_i hij
   split at hy
   ·cases hy
    subst hij
    exact hx k arr ty d h1 h2 (by simpa using hd)
   ·cases hy
  ·exact(dQ.1 h3).2 _ _ d hy hd
 have:=hr.write (arr':=arr) (B':=.box (cs.set i x)) h1 h2 hb (.inl ⟨cs,_,rfl,rfl⟩) key
 rwa [setRow_self h2] at this
def BH (lo:Nat) (p:Nat×Nat×Nat) (s:St):St:=
 match p.2.1 with
 | 0=>match p.2.2 with
  | 0=>⟨(p.1,Jp s.H (look s.fr p.1)) :: s.fr,s.H⟩
  | es+1=>bif Nat.ble 500000 es then (bif Nat.ble 1000000 es then ⟨(p.1,(mC (es - 1000000) s.H (look s.fr p.1)).1) :: s.fr,(mC (es - 1000000) s.H (look s.fr p.1)).2⟩ else ⟨(p.1,(mB (es - 500000) s.H (look s.fr p.1)).1) :: s.fr,(mB (es - 500000) s.H (look s.fr p.1)).2⟩) else ⟨(p.1,(eA es s.H (look s.fr p.1)).1) :: s.fr,(eA es s.H (look s.fr p.1)).2⟩
 | off+1=>match look s.fr p.1 with
  | .ptr b o=>match s.H[b]? with
   | some (.box cs)=>match cs[o+off]? with
    | some c=>bif decide (lo<=b) then match p.2.2 with
     | 0=>⟨s.fr,s.H.set b (.box (cs.set (o+off) (Jp s.H c)))⟩
     | es+1=>⟨s.fr,(eA es s.H c).2.set b (.box (cs.set (o+off) (eA es s.H c).1))⟩
     else s
    | none=>s
   | _=>s
  | _=>s
theorem EH (lo:Nat) (p:Nat×Nat×Nat) (s:St):Proofs.YtdmgdjnadbakfaaGreat.pE lo p s=BH lo p s:=by
 obtain ⟨t,q,m⟩:=p
 cases q with
 | zero=>rfl
 | succ off=>
  simp only[Proofs.YtdmgdjnadbakfaaGreat.pE,BH,bR]
  cases look s.fr t with
  | ptr b o=>
   simp only[]
   cases s.H[b]? with
   | none=>rfl
   | some B=>cases B with
    | box cs=>
     simp only[]
     cases cs[o+off]? with
     | none=>rfl
     | some c=>
      simp only[]
      cases decide (lo<=b) with
      | false=>rfl
      | true=>cases m<;>rfl
    | _=>rfl
  | _=>rfl
theorem we (es:Nat) (x:A):H.length<=(eA es H x).2.length:=by
 unfold eA
 split
 ·rw[bG]; split<;>simp
 ·exact X1 _
theorem DA (es:Nat) (x:A):H.length<=(mB es H x).2.length:=by
 unfold mB
 split<;>simp
theorem wg (es:Nat) (x:A):(mC es H x).2.length=H.length+1:=by
 unfold mC
 split
 ·rw[bG]; split<;>simp
 ·simp
theorem EG (lo:Nat) (p:Nat×Nat×Nat) (s:St):s.H.length<=(Proofs.YtdmgdjnadbakfaaGreat.pE lo p s).H.length:=by
 rw[EH]
 unfold BH
 split
 ·split
  ·exact X1 _
  ·rw[bG]
   split
   ·rw[bG]
    split
    ·exact Yp (Nat.le_succ _) (qav (wg ..).symm)
    ·exact DA ..
   ·exact we ..
 ·split
  ·split
   ·split
    ·rw[bG]
     split
     ·split
      ·simp
      ·simpa using we ..
     ·exact X1 _
    ·exact X1 _
   ·exact X1 _
  ·exact X1 _
theorem sZ (lo:Nat):∀ (ps:List (Nat×Nat×Nat)) (s:St),zN ps≠none->s.H.length+1<=(eu lo ps s).H.length
 | [],s,h=>absurd rfl h
 | [p],s,h=>by
  obtain ⟨t,q,m⟩:=p
  show s.H.length+1<=(Proofs.YtdmgdjnadbakfaaGreat.pE lo (t,q,m) s).H.length
  cases q with
  | succ q=>exact absurd rfl h
  | zero=>
   unfold zN at h
   simp only at h
   rw[bG] at h
   split at h
   ·rename_i hm
    have hm:1000001<=m:=by simpa [qak] using hm
    obtain ⟨m,rfl⟩:∃ e,m=e+1:=⟨m - 1,j6⟩
    unfold Proofs.YtdmgdjnadbakfaaGreat.pE
    simp only
    rw[show Nat.ble 500000 m=true from Y0 j6,show Nat.ble 1000000 m=true from Y0 j6]
    simp only[XY]
    rw[wg]
    exact X1 _
   ·exact absurd rfl h
 | p :: q :: ps,s,h=>Yp (Nat.succ_le_succ (EG lo p s)) (sZ lo (q :: ps) _ h)
theorem Good.pE (h:Good cx N mb lo H0 gs ws w0 s g a w) (p:Nat×Nat×Nat):∃ g',Good cx N mb lo H0 gs ws w0 (pE lo p s) g' a w/\s.H.length<=(Proofs.YtdmgdjnadbakfaaGreat.pE lo p s).H.length/\(p.2.2=0->(Proofs.YtdmgdjnadbakfaaGreat.pE lo p s).H.length=s.H.length):=by
 rw[EH]
 unfold BH
 have same:∃ g',Good cx N mb lo H0 gs ws w0 s g' a w/\s.H.length<=s.H.length/\(p.2.2=0->s.H.length=s.H.length):=⟨g,h,X1 _,fun _=>rfl⟩
 split
 ·split
  ·exact⟨g,h.slot (E4 h.sr.rel (h.sr.fr _)),X1 _,fun _=>rfl⟩
  ·rename_i es he'
   rw[bG]
   split
   ·rw[bG]
    split
    ·obtain ⟨g',h1,h2,h3,h4,h5,h6⟩:=Gg h.sr.rel (es - 1000000) (h.sr.fr p.1)
     exact⟨g',(h.heap h1 h2 h4 (fun b _ hb=>h5 b hb) h6).slot h3,h4,fun e=>by rw[he'] at e; cases e⟩
    obtain ⟨g',h1,h2,h3,h4,h5,h6⟩:=Gf h.sr.rel (es - 500000) (h.sr.fr p.1)
    exact⟨g',(h.heap h1 h2 h4 (fun b _ hb=>h5 b hb) h6).slot h3,h4,fun e=>by rw[he'] at e; cases e⟩
   obtain ⟨g',h1,h2,h3,h4,h5,h6⟩:=xJ h.sr.rel es (h.sr.fr p.1)
   exact⟨g',(h.heap h1 h2 h4 (fun b _ hb=>h5 b hb) h6).slot h3,h4,fun e=>by rw[he'] at e; cases e⟩
 ·rename_i off _
  split
  ·rename_i b o _
   split
   ·rename_i cs hb
    split
    ·rename_i c hc
     rw[bG]
     split
     ·rename_i hlo
      have hlo:lo<=b:=by simpa using hlo
      split
      ·obtain ⟨k,arr,ty,m1,m2,m3⟩:=h.sr.rel.blk b _ hb
       obtain ⟨h1,h2⟩:=h.sr.rel.box hb (i:=o+off) (x:=Jp s.H c) (fun k' arr' ty' d n1 n2 n3=>by
        rw[m1] at n1; cases n1
        rw[m2] at n2; cases n2
        exact E4 h.sr.rel ((dQ.1 m3).2 _ _ d hc (by simpa using n3)))
       exact⟨g,h.heap h1 h2 r7 (fun b' hb' _=>Yd j6) rfl,r7,fun _=>r7⟩
      ·rename_i es he
       obtain ⟨k,arr,ty,m1,m2,m3⟩:=h.sr.rel.blk b _ hb
       have hl:=m3.length
       have hlt:=(X2.1 hc).1
       obtain ⟨d,hd⟩:∃ d,arr.toList[o+off]? = some d:=⟨_,X3 j6⟩
       obtain ⟨g',h1,h2,h3,h4,h5,h6⟩:=xJ h.sr.rel es ((dQ.1 m3).2 _ _ d hc hd)
       have hbl:=(X2.1 hb).1
       have hb':(eA es s.H c).2[b]? = some (.box cs):=(h5 b hbl).trans hb
       have hg2:=h.heap h1 h2 h4 (fun b _ hb=>h5 b hb) h6
       have hmu:g'.mu b=g.mu b:=by
        obtain ⟨B',n1,n2⟩:=h2.blk b _ hb
        rw[hb'] at n1; cases n1
        exact n2
       have key:∀ k arr ty d,g'.mu b=some k->w.heap[k]? = some (.cells arr ty (0,0))->arr[o+off]? = some d->VR (eA es s.H c).2 g' w (eA es s.H c).1 d:=by
        intro k' arr' ty' d' n1 n2 n3
        rw[hmu,m1] at n1; cases n1
        rw[m2] at n2; cases n2
        have e:d'=d:=by
         have:arr.toList[o+off]? = some d':=by simpa using n3
         rw[hd] at this; cases this; rfl
        rw[e]; exact h3
       obtain ⟨k1,k2⟩:=h1.box hb' (i:=o+off) (x:=(eA es s.H c).1) key
       exact⟨g',hg2.heap k1 k2 r7 (fun b' hb' _=>Yd j6) rfl,by simpa using h4,fun e=>by rw[he] at e; cases e⟩
     ·exact same
    ·exact same
   ·exact same
  ·exact same
theorem Good.acts:∀ (ps:List (Nat×Nat×Nat)) {s:St} {g:Gh},Good cx N mb lo H0 gs ws w0 s g a w->∃ g',Good cx N mb lo H0 gs ws w0 (eu lo ps s) g' a w/\s.H.length<=(eu lo ps s).H.length
 | [],s,g,h=>⟨g,h,X1 _⟩
 | p :: ps,s,g,h=>by
  obtain ⟨g',h1,h2,_⟩:=h.pE p
  obtain ⟨g'',h3,h4⟩:=Good.acts ps h1
  exact⟨g'',h3,Yp h2 h4⟩
theorem Good.Jw {k:St->Option R} {r:R}:∀ (ps:List (Nat×Nat×Nat)) {s:St} {g:Gh},Good cx N mb lo H0 gs ws w0 s g a w->sH lo ps s k=some r->∃ s' g',Good cx N mb lo H0 gs ws w0 s' g' a w/\k s'=some r
 | [],s,g,h,hk=>⟨s,g,h,hk⟩
 | p :: ps,s,g,h,hk=>by
  unfold sH at hk
  obtain ⟨q,h1,hk⟩:=bH hk
  obtain ⟨g',e1,e2,e3,e4,e5,e6⟩:=B6 h.sr.rel h1 (h.sr.fr p.1)
  exact Good.Jw ps ((h.heap e1 e2 (qav e4.symm) e5 e6).slot e3) hk
variable {call:bj} {f:Nat} {ops:Array Oper} {r:R}
theorem vw {o:Oper} {k k':St->Option R} {pan:A->St->Option R} (hk:∀ s,k s=some r->k' s=some r) (h:tt cx call f lo o s k pan=some r):tt cx call f lo o s k' pan=some r:=by
 have one:∀ {x},b7 cx f lo x s (fun a H=>k ({ s with H:=H }.put o.dst a))=some r->b7 cx f lo x s (fun a H=>k' ({ s with H:=H }.put o.dst a))=some r:=fun {x} h=>by
  rw[iZ] at h ⊢
  obtain ⟨p,h1,h2⟩:=bH h
  rw[h1]
  exact hk _ h2
 unfold tt at h ⊢
 split
 ·rename_i c x y ho
  simp only[ho] at h
  obtain ⟨z,h1,h2⟩:=bH h
  rw[h1]; exact hk _ h2
 ·rename_i x ho
  simp only[ho] at h
  exact h
 ·rename_i t' n' parts ho
  simp only[ho] at h ⊢
  rw[bG] at h ⊢
  split
  ·rename_i hc
   rw[X4 hc] at h
   obtain ⟨z,h1,h2⟩:=bH h
   rw[h1]; exact hk _ h2
  ·rename_i hc
   rw[X8 hc] at h
   exact one h
 ·rename_i t' n' parts ho
  simp only[ho] at h ⊢
  rw[bG] at h ⊢
  split
  ·rename_i hc
   rw[X4 hc] at h
   obtain ⟨z,h1,h2⟩:=bH h
   rw[h1]; exact hk _ h2
  ·rename_i hc
   rw[X8 hc] at h
   exact one h
 ·rename_i t' t'' x ho
  simp only[ho] at h ⊢
  rw[bG] at h ⊢
  split
  ·rename_i hc
   rw[X4 hc] at h
   obtain ⟨z,h1,h2⟩:=bH h
   rw[h1]; exact hk _ h2
  ·rename_i hc
   rw[X8 hc] at h
   exact one h
 ·rename_i c ho
  simp only[ho] at h ⊢
  rw[bG] at h ⊢
  split
  ·rename_i hc
   rw[X4 hc] at h
   rw[tl] at h ⊢
   unfold JO at h ⊢
   split at h
   ·rename_i p hy
    obtain ⟨hrb,h⟩:=br h
    obtain ⟨x,h3,h4⟩:=bH h
    simp only[hrb,XY,h3,XV]
    unfold cf at h4 ⊢
    split
    ·rename_i y hy; rw[hy] at h4; exact hk _ h4
    ·rename_i y hy; rw[hy] at h4; exact h4
   obtain ⟨p,h1,h2⟩:=bH h
   simp only[h1,XV]
   rw[bG] at h2 ⊢
   split
   ·rename_i hi
    rw[X4 hi] at h2
    obtain ⟨x,h3,h4⟩:=bH h2
    rw[h3]; exact hk _ h4
   ·rename_i hi
    rw[X8 hi] at h2
    obtain ⟨x,h3,h4⟩:=bH h2
    rw[h3,XV]
    unfold cf at h4 ⊢
    split
    ·rename_i y hy; rw[hy] at h4; exact hk _ h4
    ·rename_i y hy; rw[hy] at h4; exact h4
  ·rename_i hc
   rw[X8 hc] at h
   exact one h
 ·rename_i h1 h2 h3 h4 h5 h6
  have:b7 cx f lo o s (fun a H=>k ({ s with H:=H }.put o.dst a))=some r:=by
   cases ho:o.op<;>first
    | (simp only[ho] at h; exact h)
    | exact absurd ho (h1 _ _ _)
    | exact absurd ho (h2 _)
    | exact absurd ho (h3 _ _ _)
    | exact absurd ho (h4 _ _ _)
    | exact absurd ho (h5 _ _ _)
    | exact absurd ho (h6 _)
  exact one this
theorem EL {b x:Bool} (h:(bif b then x else false)=true):b=true/\x=true:=by cases b<;>simp_all
theorem pq:∀ {os:List Oper},qf cx f os=true->∀ o∈os,quiet cx f o=true
 | [],_,o,ho=>by cases ho
 | o :: os,h,o',ho'=>by
  unfold qf at h
  obtain ⟨h1,h2⟩:=EL h
  rcases YJ.1 ho' with rfl | ho'
  ·exact h1
  ·exact pq h2 o' ho'
theorem ja {k:E->St->Option R}:∀ (q:Nat) (os:List Oper) (s:St),gY cx call f lo ops q os s k=some r->gk cx call f lo ops os s k=some r
 | 0,_,_,h=>by cases h
 | _+1,[],_,h=>h
 | q+1,o :: os,s,h=>by
  have ih:=fun s=>ja (k:=k) q os s
  unfold gY at h
  unfold gk
  cases hgd:o.guard with
  | none=>
   simp only[hgd] at h ⊢
   exact vw (fun s=>ih s) h
  | some x=>
   simp only[hgd] at h ⊢
   cases hgs:cz ops o with
   | none=>rw[hgs] at h; cases h
   | some p=>
    obtain ⟨t,w⟩:=p
    simp only[hgs] at h ⊢
    rw[bG] at h
    split at h
    ·rename_i hc
     rw[XZ] at hc
     have hqq:=pq hc.2
     have hro:=(fc (ops:=ops) t w (o :: os) []).2.out.1
     have hE:∀ (o:Oper) (os:List Oper) (s:St),(quiet cx f o=true/\(o.guard≠none∨∃ c a b,o.op=.pick c a b))->gk cx call f lo ops (o :: os) s k=(nD cx call f ops o s).bind fun x=>gk cx call f lo ops os (s.put o.dst x) k:=by
      intro o os s ⟨h1,h2⟩
      rw[gk]
      unfold nD
      cases hgd:o.guard with
      | none=>
       simp only
       rcases h2 with h2 | ⟨c,a,b,hp⟩
       ·exact absurd hgd h2
       ·unfold tt il
        rw[hp]
      | some x=>
       simp only
       cases hgs:cz ops o with
       | none=>rfl
       | some p=>
        obtain ⟨t,w⟩:=p
        simp only[h1,XY]
     obtain ⟨pre,rest,fr,e1,e2,e3,e4⟩:=tN (E:=fun os s=>gk cx call f lo ops os s k) hE (fun o c a b hp=>⟨by unfold quiet; rw[hp],.inr ⟨c,a,b,hp⟩⟩) (fun o' ho'=>⟨hqq o' ho',.inl (hro o' ho').2⟩) (fun g w h=>by cases h) (fun hlk fin l hl=>by
      obtain ⟨dl,k1,k2,k3⟩:=jy (E:=fun os s=>gk cx call f lo ops os s k) hE (fun o c a b hp=>⟨by unfold quiet; rw[hp],.inr ⟨c,a,b,hp⟩⟩) q (some (t,w)) fin _ [] s l hl (fun o' ho'=>⟨hqq o' ho',.inl (hro o' ho').2⟩) (fun g' w' hg'=>by
       cases hg'; exact⟨hlk,fun o' ho'=>(hro o' ho').1⟩)
      exact⟨dl,k1,by simpa using k2,k3⟩) h
     have:=e4 rest
     rw[<-e1] at this
     have h3:=ja q rest _ e2
     have h4:gk cx call f lo ops (o :: os) s k=some r:=this.trans h3
     rw[gk,hgd] at h4
     simp only[hgs] at h4
     exact h4
    ·rw[bG] at h ⊢
     split
     ·rename_i hq
      rw[X4 hq] at h
      obtain ⟨x,h1,h2⟩:=bH h
      rw[h1]; exact ih _ h2
     ·rename_i hq
      rw[X8 hq] at h
      unfold qC at h ⊢
      split
      ·rename_i b hb
       rw[hb] at h
       cases b<;>cases w<;>simp only[XY,XX] at h ⊢<;>first | exact ih _ h | exact vw (fun s=>ih s) h
      ·rename_i y hy; rw[hy] at h; exact ih _ h
      ·rename_i h1 h2
       split at h
       ·rename_i b hb; exact absurd hb (h1 b)
       ·rename_i y hy; exact absurd hy (h2 y)
       ·cases h
theorem pI {k k':St->Option R} (hk:∀ s,k s=some r->k' s=some r):∀ {os:List Oper} {s:St},jM cx call f ops os s k=some r->jM cx call f ops os s k'=some r
 | [],s,h=>hk _ h
 | o :: os,s,h=>by
  unfold jM at h ⊢
  cases hgd:o.guard with
  | none=>
   simp only[hgd] at h ⊢
   obtain ⟨x,h1,h2⟩:=bH h
   rw[h1]; exact pI hk h2
  | some q=>
   simp only[hgd] at h ⊢
   cases hgs:cz ops o with
   | none=>rw[hgs] at h; cases h
   | some p=>
    simp only[hgs] at h ⊢
    obtain ⟨x,h1,h2⟩:=bH h
    rw[h1]; exact pI hk h2
theorem rk {k:St->Option R}:∀ (q:Nat) (os:List Oper) (s:St),rj cx call f ops q os s k=some r->jM cx call f ops os s k=some r
 | 0,_,_,h=>by cases h
 | _+1,[],_,h=>h
 | q+1,o :: os,s,h=>by
  have ih:=fun s=>rk (k:=k) q os s
  unfold rj at h
  have hE:∀ (o:Oper) (os:List Oper) (s:St),True->jM cx call f ops (o :: os) s k=(nD cx call f ops o s).bind fun x=>jM cx call f ops os (s.put o.dst x) k:=by
   intro o os s _
   rw[jM]
   unfold nD
   cases hgd:o.guard with
   | none=>rfl
   | some x=>
    simp only
    cases hgs:cz ops o with
    | none=>rfl
    | some p=>rfl
  cases hgd:o.guard with
  | none=>
   simp only[hgd] at h
   unfold jM
   simp only[hgd]
   rw[sF] at h
   obtain ⟨x,h1,h2⟩:=bH h
   rw[h1]; exact ih _ h2
  | some x=>
   simp only[hgd] at h
   cases hgs:cz ops o with
   | none=>rw[hgs] at h; cases h
   | some p=>
    obtain ⟨t,w⟩:=p
    simp only[hgs] at h
    obtain ⟨_,h⟩:=br h
    have hro:=(fc (ops:=ops) t w (o :: os) []).2.out.1
    obtain ⟨pre,rest,fr,e1,e2,e3,e4⟩:=tN (E:=fun os s=>jM cx call f ops os s k) hE (fun _ _ _ _ _=>trivial) (fun _ _=>trivial) (fun g w h=>by cases h) (fun hlk fin l hl=>by
     obtain ⟨dl,k1,k2,k3⟩:=jy (E:=fun os s=>jM cx call f ops os s k) hE (fun _ _ _ _ _=>trivial) q (some (t,w)) fin _ [] s l hl (fun _ _=>trivial) (fun g' w' hg'=>by
      cases hg'; exact⟨hlk,fun o' ho'=>(hro o' ho').1⟩)
     exact⟨dl,k1,by simpa using k2,k3⟩) h
    have:=e4 rest
    rw[<-e1] at this
    exact this.trans (rk q rest _ e2)
end
end Go.Proofs.YtdmgdjnadbakfaaGreat
