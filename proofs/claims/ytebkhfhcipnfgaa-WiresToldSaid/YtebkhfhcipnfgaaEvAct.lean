/-
 What is done at a loop's head; and regions, with runs taken together.
-/
import Derived.Test.YtebkhfhcipnfgaaEvAppend
import Derived.TacticsIn
import Derived.Lib.SliceRun
namespace Go.Proofs.Ytebkhfhcipnfgaa
set_option linter.unusedSimpArgs false
set_option linter.unusedVariables false
set_option linter.defProp false
theorem ZR {p:Prop} (h:p:=by simp only[cZ]; rw[VR]; trivial):p:=h
theorem ZW {p:Prop} (h:p:=by simp only[List.length_append,List.length_take,List.length_drop]; omega):p:=h
def qac:=@decide_eq_true
def qau:=@Bool.not_true
def qav:=@Nat.zero_le
def qaY:=@Option.map_some
def qa9:=@List.cons.injEq
def qbe:=@Nat.ble_eq_true_of_le
def qbr:=@Bool.eq_iff_iff
def qbB:=@List.singleton_append
def qbC:=@List.getElem?_cons_succ
def qbS:=@Option.getD_some
def qbX:=@List.getElem?_set
def qce:=@Bool.eq_false_iff
def qcm:=@Option.some.inj
def qcq:=@if_false
def qcP:=@Option.bind_none
def qcQ:=@Nat.ble_eq
def qcV:=@List.drop_nil
def qcW:=@Array.getElem?_setIfInBounds_self_of_lt
def qc7:=@List.tail_cons
def qc8:=@World.putObj_heap_same
def qdg:=@World.alloc_heap_new
def qdh:=@List.map_nil
def qdi:=@Array.toArray_toList
def qdj:=@Nat.lt_or_ge
def qdv:=@List.mem_filterMap
def qdD:=@Option.isNone_iff_eq_none
def qdM:=@Nat.add_sub_cancel_left
def qdQ:=@grownBy_putObj'
def qd1:=@Array.getElem?_modify
def qd2:=@Array.mem_of_getElem?
def qd7:=@Array.getElem_modify
def qec:=@List.map_congr_left
def qel:=@or_false
section
open Go.RowKit
variable {P:Program} {H H':Heap} {g g':Gh} {w0 w w':World}
theorem xy {t:TypeId} {k:IntKind} {vt:TypeId} (h:za P t=some (k,vt)):∃ kt,P.underlying t=some (.map kt vt)/\P.underlying kt=some (.int k):=by
 unfold za at h;split at h
 ·rename_i kt vt' hu;split at h
  ·rename_i k' hk; cases h; exact⟨kt,hu,hk⟩
  ·cases h
 ·cases h
theorem vB {k:IntKind} {x:A} {a:Int} {c:Value} (h:keyOf k x=some a) (hx:VR H g w x c):c=.int k a:=by
 unfold keyOf at h;split at h
 ·rename_i j n;obtain ⟨h1,h2⟩:=bJ h;cases h2;have:=qai h1;subst this;rw[VR] at hx; exact hx
 ·cases h
def qk (a:Int):List Int->Option Nat
 | []=>none
 | x :: ks=>if a=x then some 0 else (qk a ks).map (·+1)
theorem zt {a:Int}:∀ {ks:List Int} {j:Nat},qk a ks=some j->j<ks.length/\ks[j]? = some a
 | [],_,h=>by cases h
 | x :: ks,j,h=>by
  rw[qk] at h;split at h
  ·rename_i e; cases h; exact⟨r8,by simp[e]⟩
  ·rw[qa0] at h;obtain ⟨i,h1,rfl⟩:=h;obtain ⟨e1,e2⟩:=zt h1;exact⟨r9,by simpa using e2⟩
theorem uI {a:Int}:∀ {ks:List Int} {vs:List A},ks.length=vs.length->nT a ks vs=(qk a ks).bind λj=>vs[j]?
 | [],[],_=>rfl
 | [],_ :: _,h=>by simp at h
 | _ :: _,[],h=>by simp at h
 | x :: ks,v :: vs,h=>by
  rw[nT,qk,bP];by_cases e:a=x
  ·rw[qaf e,qaf (by simpa using e)]; rfl
  ·rw[qah e,qah (by simpa using e),uI (by simpa using h),Option.bind_map];rfl
theorem A8 {a:Int} {y:A}:∀ {ks:List Int} {vs:List A},ks.length=vs.length->zu a y ks vs=match qk a ks with | some j=>(ks,vs.set j y) | none=>(ks++[a],vs++[y])
 | [],[],_=>rfl
 | [],_ :: _,h=>by simp at h
 | _ :: _,[],h=>by simp at h
 | x :: ks,v :: vs,h=>by
  rw[zu,qk,bP];by_cases e:a=x
  ·rw[qaf e,qaf (by simpa using e)]; rfl
  ·rw[qah e,qah (by simpa using e),A8 (by simpa using h)];cases qk a ks with
   | none=>rfl
   | some j=>rfl
theorem tx {k:IntKind} {a:Int}:∀ (es:List MapEntry) (ks:List Int) (i:Nat),es.map (·.key)=ks.map (Value.int k)->Instr.findNow (.int k) (.int k a) es i=some ((qk a ks).bind λj=>(es[j]?).map λe=>(i+j,e.val))
 | [],[],i,_=>rfl
 | [],_ :: _,_,h=>by simp at h
 | _ :: _,[],_,h=>by simp at h
 | e :: es,x :: ks,i,h=>by
  simp only[qbc,qa9] at h;obtain ⟨h1,h2⟩:=h;have hs:Instr.sameNow (.int k) (.int k a) e.key=some (a==x):=by rw[h1]; simp[Instr.sameNow]
  rw[Instr.findNow,hs,qk];by_cases ex:a=x
  ·subst ex;simp
  ·rw[show (a==x)=false by simpa using ex,qah ex];simp only[]
   rw[tx es ks (i+1) h2];cases qk a ks with
   | none=>rfl
   | some j=>
    simp only[qaY,Z6,qbC]
    rw[show i+1+j=i+(j+1) by omega]
theorem nU {kt:TypeId} {k:IntKind} (hk:P.underlying kt=some (.int k)) (a:Int) (b:Bool):(Instr.checkKey b 10000 kt (.int k a)).run P w=.ok () w:=by
 rw[show (10000:Nat)=9999+1 from rfl,Instr.checkKey];simp[qap hk]
theorem ph {kt:TypeId} {k:IntKind} (hk:P.underlying kt=some (.int k)) {es:List MapEntry} {ks:List Int} (h:es.map (·.key)=ks.map (Value.int k)) (a:Int):(Instr.findKey kt (.int k a) es).run P w=.ok ((qk a ks).bind λj=>(es[j]?).map λe=>(j,e.val)) w:=by
 unfold Instr.findKey;simp only[qa1,qap hk,qaT,tx es ks 0 h,qaU]
 rfl
theorem uD (hr:Rel H g w0 w) {t:TypeId} {y:A} {H':Heap} (lo:Nat) (h:rp P t H=some (y,H')):Step H g w0 w lo ((Instr.makeMap t none).run P w) y H':=by
 unfold rp at h;cases hk:za P t with
 | none=>rw[hk] at h; cases h
 | some p=>
  rw[hk] at h;cases h;have hb:Below w.heap.size w (w.alloc (.map #[] 0)):=(Below.refl _ w).alloc (qab _) _;obtain ⟨h1,h2⟩:=hr.push hb (.mp p.1 [] []) (some w.heap.size) [] (λk hk=>by cases hk; exact⟨rfl,r8⟩) (λhe=>⟨w.heap.size,#[],0,Gh.bQ _ _ _ _,qdg w _,rfl,by rw[bL]; rfl⟩);refine⟨.map (some w.heap.size),_,_,by simp[Instr.makeMap,newObj]; rfl,h1,h2,?_,r8,ke _ _ _,rfl⟩;rw[VR,fg]; exact⟨w.heap.size,Gh.bQ _ _ _ _,rfl⟩
theorem Rel.QR (hr:Rel H g w0 w) {b r:Nat} {arr arr':Array MapEntry} {cl cl':Nat} {k:IntKind} {ks ks':List Int} {vs vs':List A} (hk:g.mu b=some r) (ha:w.heap[r]? = some (.map arr cl)) (hB:H[b]? = some (.mp k ks vs))
  (hkeys:arr'.toList.map (·.key)=ks'.map (Value.int k)) (hv:bL H g w vs' (arr'.toList.map (·.val))) :
  Rel (H.set b (.mp k ks' vs')) g w0 (w.putObj r (.map arr' cl'))/\Ext H g w (H.set b (.mp k ks' vs')) g (w.putObj r (.map arr' cl')):=by
 have hlt:b<H.length:=(qad.1 hB).1;have hrl:r<w.heap.size:=(hr.dom b r hk).2.2;have hoth:∀ j,j≠r->(w.putObj r (.map arr' cl')).heap[j]? = w.heap[j]?:=λj hj=>qbI hj;have hsz:(w.putObj r (.map arr' cl')).heap.size=w.heap.size:=r8;have hnot:∀ {o:Nat},¬ ft H g r o:=λ{o} hs=>by
  obtain ⟨es,els,h1,_⟩:=hs.2 b hk;rw[hB] at h1; cases h1
 have hst:∀ {q o},ft H g q o->ft (H.set b (.mp k ks' vs')) g q o:=λ{q o} hs=>by
  refine⟨hs.1,λc hck=>?_⟩;obtain ⟨es,els,h1,h2⟩:=hs.2 c hck;have hcb:c≠b:=λe=>by subst e; rw[hB] at h1; cases h1
  exact⟨es,els,by rw[qao (qbi hcb)]; exact h1,h2⟩
 have he:Ext H g w (H.set b (.mp k ks' vs')) g (w.putObj r (.map arr' cl')):=by
  refine⟨λk' o v hs hc=>?_,λc C hC=>?_,λk' x h=>(hoth k' (λe=>by subst e; rw[ha] at h; cases h)).trans h,by rw[hsz]; exact qab _,λk' marr mcl hs hm=>?_,λk' _ hn=>hoth k' (λe=>hn b (e ▸ hk)),λc k' h=>.inl ⟨c,h⟩⟩
  ·have hne:k'≠r:=λe=>hnot (e ▸ hs);exact⟨(qca (a:=⟨k',o,none⟩) (hoth k' hne)).trans hc,hst hs⟩
  ·by_cases e:c=b
   ·subst e;rw[hB] at hC; cases hC;exact⟨.mp k ks' vs',by rw[qaE hlt],rfl⟩
   ·refine⟨C,by rw[qao (qbi e)]; exact hC,?_⟩;cases C with
    | box _=>rfl
    | row wr es els=>cases wr with
     | true=>exact⟨rfl,rfl,rfl,λk' arr1 ty1 hk1 ha1=>⟨arr1,(hoth k' (λe2=>e (hr.inj c b r (e2 ▸ hk1) hk))).trans ha1,qab _⟩⟩
     | false=>exact⟨rfl,⟨[],r8⟩,(hr.blk c _ hC).len,qab _,λ_=>⟨rfl,λk' arr1 ty1 hk1 ha1=>⟨arr1,(hoth k' (λe2=>e (hr.inj c b r (e2 ▸ hk1) hk))).trans ha1,qab _⟩⟩⟩
    | rng _=>exact⟨rfl,rfl⟩
    | mp _ _ _=>rfl
    | dead=>trivial
    | hole=>trivial
  ·have hne:k'≠r:=λe=>hnot (e ▸ hs);exact⟨(hoth k' hne).trans hm,hst hs⟩
 refine⟨⟨hr.below.trans ((Below.refl w0.heap.size w).grown (qdQ w r _) (hr.below.size) (λk e=>by cases e; exact(hr.dom b r hk).2.1)),λc j hcj=>⟨by simpa using (hr.dom c j hcj).1,(hr.dom c j hcj).2.1,by rw[hsz]; exact(hr.dom c j hcj).2.2⟩,hr.inj,hr.A5 he,hr.zo he,λc C hC=>?_⟩,he⟩;by_cases e:c=b
 ·subst e;rw[qaE hlt] at hC; cases hC;exact⟨r,arr',cl',hk,qc8 hrl,hkeys,bL.ext he _ _ hv⟩
 ·rw[qao (qbi e)] at hC;have h:=hr.blk c C hC;have hmu:∀ {j},g.mu c=some j->j≠r:=λ{j} hj e2=>e (hr.inj c b r (e2 ▸ hj) hk);cases C with
  | box cs=>obtain ⟨j,arr1,ty1,h1,h2,h3⟩:=h; exact⟨j,arr1,ty1,h1,(hoth j (hmu h1)).trans h2,bL.ext he _ _ h3⟩
  | row wr es els=>cases wr with
   | true=>
    obtain ⟨ds,h1,h2,h3⟩:=h;exact⟨ds,bK.ext he _ _ h1,h2,λhp=>let ⟨j,arr1,ty1,e1,e2,e3⟩:=h3 hp; ⟨j,arr1,ty1,e1,(hoth j (hmu e1)).trans e2,e3⟩⟩
   | false=>exact⟨bK.ext he _ _ h.1,h.2⟩
  | rng st=>obtain ⟨j,h1,h2⟩:=h; exact⟨j,h1,(hoth j (hmu h1)).trans h2⟩
  | mp _ _ _=>obtain ⟨j,arr1,c1,h1,h2,h3,h4⟩:=h; exact⟨j,arr1,c1,h1,(hoth j (hmu h1)).trans h2,h3,bL.ext he _ _ h4⟩
  | dead=>exact h
  | hole=>exact h
theorem bL.setAt {vs:List A} {ds:List Value} (h:bL H g w vs ds) {y:A} {d:Value} (hy:VR H g w y d) (j:Nat):bL H g w (vs.set j y) (ds.set j d):=by
 rw[ew] at h ⊢;refine⟨by simpa using h.1,λi a e ha hd=>?_⟩;rw[qbX] at ha hd;by_cases hij:j=i
 ·subst hij;rw[qaf rfl] at ha hd;split at ha
  ·split at hd
   ·cases ha; cases hd; exact hy
   ·cases hd
  ·cases ha
 ·rw[qah hij] at ha hd;exact h.2 i a e ha hd
theorem qp (hr:Rel H g w0 w) {t:TypeId} {m i x:A} {H':Heap} {lo:Nat} {cm ci cx:Value} (h:ka P t m i x H lo=some H') (hm:VR H g w m cm) (hi:VR H g w i ci) (hx:VR H g w x cx) :
  ∃ w',(Instr.mapUpdate t cm ci cx).run P w=.ok () w'/\Rel H' g w0 w'/\Ext H g w H' g w'/\H.length<=H'.length/\∀ b,b<lo->b<H.length->H'[b]? = H[b]?:=by
 unfold ka at h;obtain ⟨⟨k,vt⟩,hk,h⟩:=bN h;obtain ⟨a,ha,h⟩:=bN h;obtain ⟨kt,hu,huk⟩:=xy hk;have:=vB ha hi;subst this;cases m with
 | mr b=>
  simp only[] at h;split at h
  ·rename_i k' ks vs hB;obtain ⟨hc,h⟩:=bJ h;cases h;rw[Z9] at hc;have hlo:=qai hc.1;have hkk:k'=k:=qai hc.2;subst hkk;rw[VR,hB] at hm;obtain ⟨r,hmu,rfl⟩:=hm;obtain ⟨r',arr,cl,e1,e2,e3,e4⟩:=hr.blk b _ hB;rw[hmu] at e1; cases e1;have hlen:ks.length=vs.length:=by
    have:=e4.length;have h2:=qa7 List.length e3;simp at this h2;omega
   have hal:ks.length=arr.size:=by have h2:=qa7 List.length e3; simp at h2; omega
   have hget:(getObj r).run P w=.ok (.map arr cl) w:=by simp[getObj,Sem.run,e2]
   have hset:∀ o,(setObj r o).run P w=.ok () (w.putObj r o):=λo=>by simp[setObj,Sem.run,e2,World.putObj]
   have hlow:∀ B,∀ c,c<lo->c<H.length->(H.set b B)[c]? = H[c]?:=λB c hc _=>qao o3;rw[A8 hlen];cases hp:qk a ks with
   | none=>
    simp only[]
    have hrun:(Instr.mapUpdate t (.map (some r)) (.int k' a) cx).run P w=.ok () (w.putObj r (.map (arr.push { key:=.int k' a,val:=cx,born:=cl }) (cl+1))):=by
     unfold Instr.mapUpdate;simp only[qa1,qap hu,qaT,hget,nU huk,ph huk e3,hp,qcP,hset]
    obtain ⟨r1,r2⟩:=hr.QR (arr':=arr.push { key:=.int k' a,val:=cx,born:=cl }) (cl':=cl+1) (ks':=ks++[a]) (vs':=vs++[x]) hmu e2 hB (by simp[e3]) (by
     rw[show (arr.push { key:=Value.int k' a,val:=cx,born:=cl }).toList.map (·.val)=arr.toList.map (·.val)++[cx] by simp];exact e4.append (by rw[bL]; exact⟨cx,[],rfl,hx,An⟩))
    exact⟨_,hrun,r1,r2,r8,hlow _⟩
   | some j=>
    simp only[]
    obtain ⟨hj,hja⟩:=zt hp;have hja':arr[j]? = some arr[j]:=qbb o3;have hkey:(arr[j]'(o3)).key=.int k' a:=by
     have h1:(arr.toList.map (·.key))[j]? = some (.int k' a):=by rw[e3,qaO,hja]; rfl
     rw[qaO,qaZ,hja'] at h1;simpa using h1
    have hsame:(Instr.keyThatStays (.int k' a) (.int k' a)).run P w=.ok (.int k' a) w:=by
     unfold Instr.keyThatStays;rw[show Instr.sameBits 10000 (.int k' a) (.int k' a)=true by rw[show (10000:Nat)=9999+1 from rfl]; simp[Instr.sameBits]];rfl
    have hrun:(Instr.mapUpdate t (.map (some r)) (.int k' a) cx).run P w=.ok () (w.putObj r (.map (arr.modify j λe=>{ e with key:=.int k' a,val:=cx }) cl)):=by
     unfold Instr.mapUpdate;simp only[qa1,qap hu,qaT,hget,nU huk,ph huk e3,hp,Z6,qaZ,hja',qaY,qbS,hkey,hsame,hset]
    have hmod:∀ (f:MapEntry->Value) (v:Value),(f { (arr[j]'(o3)) with key:=.int k' a,val:=cx }=v)->((arr.modify j λe=>{ e with key:=.int k' a,val:=cx }).toList.map f)=(arr.toList.map f).set j v:=λf v hf=>by
     refine qbz λi=>?_;rw[qaO,qaZ,qd1,qbX];by_cases hij:j=i
     ·subst hij;rw[qaf rfl,hja',qaf rfl,qaf r9];simp[hf]
     ·rw[qah hij,qah hij,qaO,qaZ]
    obtain ⟨r1,r2⟩:=hr.QR (arr':=arr.modify j λe=>{ e with key:=.int k' a,val:=cx }) (cl':=cl) (ks':=ks) (vs':=vs.set j x) hmu e2 hB (by
     rw[hmod (·.key) (.int k' a) rfl,e3];refine qbz λi=>?_;rw[qbX];by_cases hij:j=i
     ·subst hij;rw[qaf rfl,qaf r9,qaO,hja]; rfl
     ·rw[qah hij]) (by rw[hmod (·.val) cx rfl]; exact e4.setAt hx j)
    exact⟨_,hrun,r1,r2,r8,hlow _⟩
  ·cases h
 | _=>cases h
theorem Np {vt:TypeId} {c:Bool} {y:A} {es:List MapEntry} {ks:List Int} {vs:List A} {a:Int} (hl:ks.length=vs.length) (h:Oa P vt c (nT a ks vs)=some y) (hv:bL H g w vs (es.map (·.val))) :
  ∃ d,(match (qk a ks).bind λj=>(es[j]?).map λe=>(j,e.val) with | some (_,v)=>(d=if c then .tuple #[v,.bool true] else v) | none=>∃ i z,P.info? vt=some i/\i.zero=some z/\(d=if c then .tuple #[z,.bool false] else z))/\VR H g w y d:=by
 rw[uI hl] at h;cases hp:qk a ks with
 | none=>
  rw[hp] at h;simp only[qcP,Oa] at h ⊢;obtain ⟨i,hi,h⟩:=bN h;rw[qa0] at h;obtain ⟨z,hz,h⟩:=h;refine⟨_,⟨i,z,hi,hz,rfl⟩,?_⟩;subst h;cases c
  ·exact qX z
  ·rw[qaa,VR];exact⟨_,rfl,by rw[bL]; exact⟨z,_,rfl,qX z,by rw[bL]; exact⟨_,_,rfl,y9,An⟩⟩⟩
 | some j=>
  obtain ⟨hj,_⟩:=zt hp;have hel:es.length=vs.length:=by have:=hv.length; simpa using this
  have hvj:vs[j]? = some vs[j]:=Z7 o3;have hej:es[j]? = some es[j]:=Z7 o3;rw[hp] at h;simp only[Z6,hvj,Oa,qaG,hej,qaY] at h ⊢;refine⟨_,rfl,?_⟩;subst h;have hvv:VR H g w vs[j] es[j].val:=(ew.1 hv).2 j _ _ hvj (by rw[qaO,hej]; rfl);cases c
  ·exact hvv
  ·rw[qaa,VR];exact⟨_,rfl,by rw[bL]; exact⟨_,_,rfl,hvv,by rw[bL]; exact⟨_,_,rfl,y9,An⟩⟩⟩
theorem wF (hr:Rel H g w0 w) {t:TypeId} {m i y:A} {c:Bool} {cm ci:Value} (h:fZ P t m i c H=some y) (hm:VR H g w m cm) (hi:VR H g w i ci):∃ d,(Instr.lookup t cm ci c).run P w=.ok d w/\VR H g w y d:=by
 unfold fZ at h;obtain ⟨⟨k,vt⟩,hk,h⟩:=bN h;obtain ⟨a,ha,h⟩:=bN h;obtain ⟨kt,hu,huk⟩:=xy hk;have:=vB ha hi;subst this;have main:∀ {r:Nat} {arr:Array MapEntry} {cl:Nat} {ks:List Int} {vs:List A},w.heap[r]? = some (.map arr cl)->arr.toList.map (·.key)=ks.map (Value.int k)->bL H g w vs (arr.toList.map (·.val))->Oa P vt c (nT a ks vs)=some y->∃ d,(Instr.lookup t (.map (some r)) (.int k a) c).run P w=.ok d w/\VR H g w y d:=by
  intro r arr cl ks vs e2 e3 e4 hok;have hlen:ks.length=vs.length:=by
   have:=e4.length;have h2:=qa7 List.length e3;simp at this h2;omega
  obtain ⟨d,hd,hv⟩:=Np hlen hok e4;refine⟨d,?_,hv⟩;have hget:(getObj r).run P w=.ok (.map arr cl) w:=by simp[getObj,Sem.run,e2]
  unfold Instr.lookup;simp only[qa1,qap hu,qaT,hget,qcx,nU huk,ph huk e3]
  cases hf:(qk a ks).bind λj=>(arr.toList[j]?).map λe=>(j,e.val) with
  | none=>
   rw[hf] at hd;obtain ⟨i,z,h1,h2,h3⟩:=hd;have hz:(zeroValue vt).run P w=.ok z w:=by simp[zeroValue,typeInfo,h1,h2]
   simp only[qa1,hz,qaT,qcx,h3]
  | some p=>
   rw[hf] at hd;obtain ⟨j,v⟩:=p;simp only[qcx,qaT]
   have hd:d=if c then .tuple #[v,.bool true] else v:=hd
   rw[hd];cases c<;>rfl
 cases m with
 | mv k' ks vs=>
  obtain ⟨hc,h⟩:=bJ h;have hkk:k'=k:=qai hc;subst hkk;rw[VR] at hm;obtain ⟨r,arr,cl,rfl,_,e2,e3,e4⟩:=hm;exact main e2 e3 e4 h
 | mr b=>
  simp only[] at h;split at h
  ·rename_i k' ks vs hB;obtain ⟨hc,hok⟩:=bJ h;have hkk:k'=k:=qai hc;subst hkk;rw[VR,hB] at hm;obtain ⟨r,hmu,rfl⟩:=hm;obtain ⟨r',arr,cl,e1,e2,e3,e4⟩:=hr.blk b _ hB;exact(by rw[hmu] at e1; cases e1; exact main e2 e3 e4 hok)
  ·cases h
 | _=>cases h
theorem xB {t:TypeId} {c:Bool} {y:A} (h:zi P t c=some y):c=true/\∃ z,(zeroValue t).run P w=.ok z w/\VR H g w y (.tuple #[z,.bool false]):=by
 unfold zi at h;cases c with
 | false=>cases h
 | true=>
  simp only[qaa] at h;obtain ⟨i,hi,h⟩:=bN h;rw[qa0] at h;obtain ⟨z,hz,rfl⟩:=h;refine⟨rfl,z,by simp[zeroValue,typeInfo,hi,hz],?_⟩;rw[VR];exact⟨_,rfl,by rw[bL]; exact⟨z,_,rfl,qX z,by rw[bL]; exact⟨_,_,rfl,y9,An⟩⟩⟩
theorem wE {t xt:TypeId} {x y:A} {c:Bool} {cv:Value} (h:pV P x t c=some y) (hx:VR H g w x cv):∃ d,(Instr.typeAssert cv xt t c).run P w=.ok d w/\VR H g w y d:=by
 unfold pV at h;split at h
 ·cases h
 ·cases h
 ·rename_i u hn hu;split at h
  ·rename_i t' z;rw[VR] at hx;obtain ⟨v,rfl,hv⟩:=hx;rw[bP] at h;split at h
   ·rename_i ht;have ht:=qan ht;subst ht;have hr:(Instr.typeAssert (.iface t' v) xt t' c).run P w=.ok (if c then .tuple #[v,.bool true] else v) w:=by
     unfold Instr.typeAssert;rw[qa1,qap hu];simp only[qaT]
     cases u<;>first | exact absurd hu (hn _) | simp
    refine⟨_,hr,?_⟩;cases c with
    | false=>simp only[Z8,qaG] at h; subst h; exact hv
    | true=>
     simp only[qaa,qaG] at h;subst h;rw[qaf rfl,VR];exact⟨_,rfl,by rw[bL]; exact⟨v,_,rfl,hv,by rw[bL]; exact⟨_,_,rfl,y9,An⟩⟩⟩
   ·rename_i ht;obtain ⟨rfl,z,hz,hv2⟩:=xB (H:=H) (g:=g) (w:=w) h;have ht:¬ t'=t:=λe=>ht (by rw[e]; simp);refine⟨_,?_,hv2⟩;unfold Instr.typeAssert;rw[qa1,qap hu];simp only[qaT]
    cases u<;>first | exact absurd hu (hn _) | simp[ht,hz]
  ·rw[VR] at hx;subst hx;obtain ⟨rfl,z,hz,hv2⟩:=xB (H:=H) (g:=g) (w:=w) h;refine⟨_,?_,hv2⟩;unfold Instr.typeAssert;rw[qa1,qap hu];simp only[qaT]
   cases u<;>first | exact absurd hu (hn _) | simp[hz]
  ·cases h
end
section
open Go.RowKit
def iL (F:Fence):Prop:=F.depth=none/\(∀ f,F.fn f)/\F.alive=false
theorem CP:iL Fence.wide:=⟨rfl,λ_=>trivial,rfl⟩
theorem rL {F:Fence} (h:iL F) (P:Program) (m:Machine):m.fenced P F:=λg _=>
 ⟨λha=>(by rw[h.2.2] at ha; cases ha),.inl (h.2.1 _),λf _=>h.2.1 f,λd hd=>(by rw[h.1] at hd; cases hd)⟩
theorem iw {F:Fence} {n:Nat} {P:Program} {f:FuncId} {args:Array Value} {w:World} {R:Ending->World->Prop} (hF:iL F) (h:Calls P f args w R):CallsIn F n P f args w R:=
 ⟨hF.2.1 f,λcs _=>let ⟨e,w',fr,r,s,x⟩:=h cs; ⟨e,w',fr,r,(by cases e with
  | returned v=>exact(StepsIn.of_steps s).mono λm _=>rL hF P m
  | panicked v=>exact(StepsIn.of_steps s).mono λm _=>rL hF P m
  | outgrown=>exact s),x⟩⟩
def G0 (S:Nat->Nat->Prop):Gh:=⟨λ_=>none,λ_=>[],S,λ_=>LS⟩
def fX (P:Program) (glob:Nat->Option (List Value)) (k:Nat) (args:List A) (r:A):Prop:=
 ∀ (S:Nat->Nat->Prop) (w:World) (cargs:List Value),(∀ k o,w.heap.size<=k->S k o)->(∀ (G:Nat) (vs:List Value),glob G=some vs->bS [] (G0 S) w G 0 vs)->bL [] (G0 S) w args cargs ->
  Calls P k cargs.toArray w λe w'=>∃ c,e=.returned c/\Below w.heap.size w w'/\VR [] (G0 S) w' r c
variable {H H':Heap} {g g':Gh} {w0 w w':World}
mutual
theorem pJ {G:Nat->Nat->Nat->A} {S:Nat->Nat->Prop} (hS:∀ k o,ft H g k o->S k o) (hG:∀ b o m cl c,VR H g w (.sl b o m cl) c->VR [] (G0 S) w (G b o m) c):∀ (a:A) (c:Value),VR H g w a c->VR [] (G0 S) w (cZ G a) c
 | .any,_,_=>ZR
 | .v x,c,h=>by simp only[cZ]; rw[VR] at h ⊢; exact h
 | .ptr ..,_,_=>ZR
 | .ep ..,_,_=>ZR
 | .ip _,_,_=>ZR
 | .imm els clip,c,h=>by
  simp only[cZ]
  rw[VR] at h ⊢;obtain ⟨a,cap,ds,es,h1,h2,h3,h4,h5,h6⟩:=h;have hv:=jX hS hG els ds h6;have hl:(dM G els).length=els.length:=by rw[<-hv.length,h6.length]
  exact⟨a,cap,ds,es,by rw[hl]; exact h1,by rw[hl]; exact h2,λh=>(by cases h),h4,λhp=>let ⟨k,off,e1,e2⟩:=h5 (by rw[hl] at hp; exact hp); ⟨k,off,e1,λj v hj=>⟨(e2 j v hj).1,hS _ _ (e2 j v hj).2,λb hb=>by cases hb⟩⟩,hv⟩
 | .sl b o m cl,c,h=>by simp only[cZ]; exact hG b o m cl c h
 | .agg cs,c,h=>by
  simp only[cZ]
  rw[VR] at h ⊢;obtain ⟨ds,h1,h2⟩:=h;exact⟨ds,h1,lA hS hG cs _ h2⟩
 | .tup cs,c,h=>by
  simp only[cZ]
  rw[VR] at h ⊢;obtain ⟨ds,h1,h2⟩:=h;exact⟨ds,h1,lA hS hG cs _ h2⟩
 | .fn f [] [],c,h=>by
  simp only[cZ]
  rw[VR] at h ⊢;obtain ⟨ds,es,h1,h2,h3⟩:=h;rw[bL] at h2 h3;exact⟨ds,es,h1,by rw[bL]; exact h2,by rw[bL]; exact h3⟩
 | .fn _ (_ :: _) _,_,_=>ZR
 | .fn _ [] (_ :: _),_,_=>ZR
 | .yld _,c,h=>ZR
 | .nq _,c,h=>ZR
 | .mr _,c,h=>ZR
 | .mv k ks vs,c,h=>by
  simp only[cZ]
  rw[VR] at h ⊢;obtain ⟨r,arr,cl,h1,h2,h3,h4,h5⟩:=h;exact⟨r,arr,cl,h1,⟨hS _ _ h2,λb hb=>by cases hb⟩,h3,h4,lA hS hG vs _ h5⟩
 | .ifc t x,c,h=>by
  simp only[cZ]
  rw[VR] at h ⊢;obtain ⟨d,h1,h2⟩:=h;exact⟨d,h1,pJ hS hG x d h2⟩
theorem lA {G:Nat->Nat->Nat->A} {S:Nat->Nat->Prop} (hS:∀ k o,ft H g k o->S k o) (hG:∀ b o m cl c,VR H g w (.sl b o m cl) c->VR [] (G0 S) w (G b o m) c):∀ (cs:List A) (ds:List Value),bL H g w cs ds->bL [] (G0 S) w (bu G cs) ds
 | [],_,h=>by simp only[bu]; rw[bL] at h ⊢; exact h
 | a :: as,_,h=>by
  simp only[bu]
  rw[bL] at h ⊢;obtain ⟨d,ds',h1,h2,h3⟩:=h;exact⟨d,ds',h1,pJ hS hG a d h2,lA hS hG as ds' h3⟩
theorem jX {G:Nat->Nat->Nat->A} {S:Nat->Nat->Prop} (hS:∀ k o,ft H g k o->S k o) (hG:∀ b o m cl c,VR H g w (.sl b o m cl) c->VR [] (G0 S) w (G b o m) c):∀ (cs:List (List A)) (ds:List (List Value)),bK H g w cs ds->bK [] (G0 S) w (dM G cs) ds
 | [],_,h=>by simp only[dM]; rw[bK] at h ⊢; exact h
 | a :: as,_,h=>by
  simp only[dM]
  rw[bK] at h ⊢;obtain ⟨d,ds',h1,h2,h3⟩:=h;exact⟨d,ds',h1,lA hS hG a d h2,jX hS hG as ds' h3⟩
end
theorem xG {ds:List (List Value)} {es k o m:Nat} {arr:Array Value} {ty:TypeId} (hd:∀ d∈ds,d.length=es) (ha:w.heap[k]? = some (.cells arr ty (0,0))) (h:∀ (j:Nat) (v:Value),ds.flatten[j]? = some v->arr[j]? = some v) {j:Nat} {v:Value} (hj:((ds.drop o).take m).flatten[j]? = some v):w.cell? ⟨k,o*es+j,none⟩=some v:=by
 rw[qbL w k _ arr ty (0,0) ha];refine h _ v ?_;have e1:ds=ds.take o++((ds.drop o).take m++(ds.drop o).drop m):=by rw[qbQ,qbQ]
 by_cases ho:o<=ds.length
 ·have hl:(ds.take o).flatten.length=o*es:=by
   have:∀ l:List (List Value),(∀ d∈l,d.length=es)->l.flatten.length=l.length*es:=λl hl=>by
    induction l with
    | nil=>simp
    | cons x l ih=>rw[qbt,qar,hl x r8,ih (λd hd=>hl d (by simp[hd])),qae,qbk]; omega
   rw[this _ (λd hd'=>hd d (qaJ hd')),qba,qbP ho]
  rw[e1,qbY,qay o3,hl,show o*es+j - o*es=j by omega,qbY];rw[qat (qad.1 hj).1];exact hj
 ·rw[List.drop_eq_nil_of_le o3] at hj;simp at hj
theorem rY (hr:Rel H g w0 w):∀ (q b o m:Nat) (cl:Bool) (c:Value),VR H g w (.sl b o m cl) c->VR [] (G0 (ft H g)) w (jk q H b o m) c
 | 0,_,_,_,_,_,_=>by simp only[jk]; rw[VR]; trivial
 | q+1,b,o,m,cl,c,h=>by
  simp only[jk]
  split
  ·rename_i es els hb;rw[VR,hb] at h;obtain ⟨h0,a,cap,rfl,h1,h2,h3,_⟩:=h;obtain ⟨hga,hgl⟩:=hr.blk b _ hb;have hv:=jX (λ_ _ h=>h) (λb o m cl c h=>rY hr q b o m cl c h) _ _ ((hga.drop o).take m);have hl:(dM (jk q H) ((els.drop o).take m)).length=m:=by rw[<-hv.length]; simp[hga.length]; omega
   rw[VR];exact⟨a,cap,_,es,by rw[hl],by rw[hl]; exact h1,λh=>(by cases h),λd hd=>hgl d (qaL (qaJ hd)),λhp=>let ⟨k,off,e1,e2⟩:=h3 (by rw[hl] at hp; exact hp); ⟨k,off,e1,λj v hj=>⟨(e2 j v hj).1,(e2 j v hj).2,λb hb=>by cases hb⟩⟩,hv⟩
  ·rw[VR]; trivial
theorem nJ (hr:Rel H g w0 w):∀ (q b o m:Nat) (cl:Bool) (c:Value),VR H g w (.sl b o m cl) c->VR [] (G0 g.S) w (jK q H b o m) c
 | 0,_,_,_,_,_,_=>by simp only[jK]; rw[VR]; trivial
 | q+1,b,o,m,cl,c,h=>by
  simp only[jK]
  split
  ·rename_i wr es els hb;rw[VR,hb] at h;have hS:∀ k o,ft H g k o->g.S k o:=λk o h=>h.1;cases wr with
   | false=>
    obtain ⟨h0,a,cap,rfl,h1,h2,h3,_⟩:=h;obtain ⟨hga,hgl⟩:=hr.blk b _ hb;have hv:=jX hS (λb o m cl c h=>nJ hr q b o m cl c h) _ _ ((hga.drop o).take m);have hl:(dM (jK q H) ((els.drop o).take m)).length=m:=by rw[<-hv.length]; simp[hga.length]; omega
    rw[VR];exact⟨a,cap,_,es,by rw[hl],by rw[hl]; exact h1,λh=>(by cases h),λd hd=>hgl d (qaL (qaJ hd)),λhp=>let ⟨k,off,e1,e2⟩:=h3 (by rw[hl] at hp; exact hp); ⟨k,off,e1,λj v hj=>⟨(e2 j v hj).1,(e2 j v hj).2.1,λb hb=>by cases hb⟩⟩,hv⟩
   | true=>
    obtain ⟨h0,a,cap,rfl,h1,h2,h3,_⟩:=h;obtain ⟨ds,d1,d2,d3⟩:=hr.blk b _ hb;have hv:=jX hS (λb o m cl c h=>nJ hr q b o m cl c h) _ _ ((d1.drop o).take m);have hl:(dM (jK q H) ((els.drop o).take m)).length=m:=by rw[<-hv.length]; simp[d1.length]; omega
    rw[VR];refine⟨a,cap,_,es,by rw[hl],by rw[hl]; exact h1,λh=>(by cases h),λd hd=>d2 d (qaL (qaJ hd)),λhp=>?_,hv⟩;rw[hl] at hp;obtain ⟨k,hk,ha⟩:=h3 hp;obtain ⟨k',arr,ty,m1,m2,m3⟩:=d3 o3;rw[hk] at m1; cases m1;exact⟨k,o*es,ha,λj v hj=>⟨xG d2 m2 m3 hj,hr.own b k _ hk,λb hb=>by cases hb⟩⟩
  ·rw[VR]; trivial
theorem bL.LF {S:Heap}:∀ (o:Nat) {cs:List A} {ds:List Value},bL S g w cs ds->bL S g w (cs.drop o) (ds.drop o)
 | 0,_,_,h=>h
 | o+1,[],_,h=>by rw[bL] at h; subst h; rw[qcV,qcV,bL]
 | o+1,a :: as,_,h=>by rw[bL] at h; obtain ⟨d,ds',rfl,_,h3⟩:=h; exact bL.LF o h3
theorem wg (hr:Rel H g w0 w):∀ (n:Nat) (a:A) (c:Value),VR H g w a c->VR [] (G0 g.S) w (kQ n H a) c
 | 0,a,_,_=>by rw[show kQ 0 H a=.any from rfl,VR]; trivial
 | n+1,a,c,h=>by
  have hm:∀ (cs:List A) (ds:List Value),bL H g w cs ds->bL [] (G0 g.S) w (cs.map (kQ n H)) ds:=λcs=>by
   induction cs with
   | nil=>intro ds h; rw[bL] at h; rw[qdh,bL]; exact h
   | cons a as ih=>intro ds h; rw[bL] at h; obtain ⟨d,ds',h1,h2,h3⟩:=h; rw[qbc,bL]; exact⟨d,ds',h1,wg hr n a d h2,ih ds' h3⟩
  cases a with
  | ptr b o=>
   show VR [] (G0 g.S) w (match H[b]? with | some (.box cs)=>A.ip ((cs.drop o).map (kQ n H)) | _=>.any) c;split
   ·rename_i cs hb;rw[VR,hb] at h;obtain ⟨k,h1,rfl⟩:=h;obtain ⟨k',arr,ty,e1,e2,e3⟩:=hr.blk b _ hb;rw[h1] at e1; cases e1;rw[VR];refine⟨k,o,arr.toList.drop o,rfl,λj v hj=>⟨?_,hr.own b k _ h1,λb hb=>by cases hb⟩,hm _ _ (e3.LF o)⟩;rw[qbL w k _ arr ty (0,0) e2];rw[qbw] at hj;simpa using hj
   ·rw[VR]; trivial
  | fn f p q=>
   rw[VR] at h;obtain ⟨ds,es,h1,h2,h3⟩:=h;show VR [] (G0 g.S) w (.fn f (p.map (kQ n H)) (q.map (kQ n H))) c;rw[VR];exact⟨ds,es,h1,hm _ _ h2,hm _ _ h3⟩
  | agg cs=>
   rw[VR] at h;obtain ⟨ds,h1,h2⟩:=h;show VR [] (G0 g.S) w (.agg (cs.map (kQ n H))) c;rw[VR];exact⟨ds,h1,hm _ _ h2⟩
  | _=>exact pJ (λ_ _ h=>h.1) (λb o m cl c h=>nJ hr 4 b o m cl c h) _ c h
theorem IW (hr:Rel H g w0 w) (a:A) (c:Value) (h:VR H g w a c):VR [] (G0 g.S) w (bp H a) c:=by
 unfold bp;split
 ·rename_i b;split
  ·rename_i k ks vs hb;rw[VR,hb] at h;obtain ⟨r,h1,h2⟩:=h;obtain ⟨r',arr,cl,e1,e2,e3,e4⟩:=hr.blk b _ hb;rw[h1] at e1; cases e1;rw[VR];exact⟨r,arr,cl,h2,⟨hr.own b r 0 h1,λb hb=>by cases hb⟩,e2,e3,lA (λ_ _ h=>h.1) (λb o m cl c h=>nJ hr 4 b o m cl c h) _ _ e4⟩
  ·rw[VR]; trivial
 ·exact wg hr 6 _ c h
 ·exact pJ (λ_ _ h=>h.1) (λb o m cl c h=>nJ hr 4 b o m cl c h) a c h
theorem xM (hr:Rel H g w0 w) (n:Nat):∀ (cs:List A) (ds:List Value),bL H g w cs ds->bL [] (G0 g.S) w (cs.map (kQ n H)) ds
 | [],_,h=>by rw[bL] at h; rw[qdh,bL]; exact h
 | a :: as,_,h=>by rw[bL] at h; obtain ⟨d,ds',h1,h2,h3⟩:=h; rw[qbc,bL]; exact⟨d,ds',h1,wg hr n a d h2,xM hr n as ds' h3⟩
theorem rZ (hr:Rel H g w0 w) (a:A) (c:Value) (h:VR H g w a c):VR [] (G0 (ft H g)) w (snap H a) c:=pJ (λ_ _ h=>h) (λb o m cl c h=>rY hr 4 b o m cl c h) a c h
theorem Bp (hr:Rel H g w0 w) {l:List A} {cs:List Value} (h:bL H g w l cs):bL [] (G0 (ft H g)) w (l.map (snap H)) cs:=by
 obtain ⟨h1,h2⟩:=ew.1 h;refine ew.2 ⟨by simpa using h1,λi a d ha hd=>?_⟩;rw[qaO] at ha;cases hx:l[i]? with
 | none=>rw[hx] at ha; cases ha
 | some x=>rw[hx] at ha; cases ha; exact rZ hr x d (h2 i x d hx hd)
theorem VR.back {S:Nat->Nat->Prop} {x:A} {c:Value} (hS:∀ k o,S k o->ft H g k o) (h:VR [] (G0 S) w x c):VR H g w x c:=
 VR.gh (H:=[]) (g:=G0 S) ⟨λk o _ hs hc=>⟨hc,hS k o hs.1⟩,λb B hB=>(by simp at hB),λk arr cl hs hm=>⟨hm,hS k 0 hs.1⟩⟩ x c h
theorem JH (hr:Rel H g w0 w) {a:A} {c:Value} (h:VR H g w a c):VR H g w (EW H a) c:=by
 unfold EW;split
 ·exact VR.back (λ_ _ h=>h) (rZ hr _ c h)
 ·rw[VR] at h ⊢;obtain ⟨a,cap,ds,es,h1,h2,_,h4,h5,h6⟩:=h;exact⟨a,cap,ds,es,h1,h2,λh=>(by cases h),h4,h5,h6⟩
 ·exact h
theorem AG (hr:Rel H g w0 w):∀ {cs:List A} {ds:List Value},bL H g w cs ds->bL H g w (cs.map (EW H)) ds
 | [],_,h=>h
 | a :: as,_,h=>by
  rw[bL] at h;obtain ⟨d,ds',rfl,h1,h2⟩:=h;rw[qbc,bL];exact⟨d,ds',rfl,JH hr h1,AG hr h2⟩
theorem DG (hr:Rel H g w0 w) {a:A} {c:Value} (h:VR H g w a c):VR H g w (fw H a) c:=by
 unfold fw;split
 ·exact VR.back (λ_ _ h=>h) (rZ hr _ c h)
 ·rw[VR] at h ⊢;obtain ⟨ds,h1,h2⟩:=h;exact⟨ds,h1,AG hr h2⟩
 ·exact h
theorem NP (hr:Rel H g w0 w) {b a:A} {c:Value} (h:VR H g w a c):VR H g w (cw b H a) c:=by
 unfold cw;split
 ·exact DG hr h
 ·exact h
theorem K0 (hr:Rel H g w0 w) {p:Bool} {b a:A} {c:Value} (h:VR H g w a c):VR H g w (IY p b H a) c:=by
 cases p with
 | true=>exact h
 | false=>exact NP hr h
theorem Ext.refl (hr:Rel H g w0 w):Ext H g w H g w:=Ext.below hr (Below.refl _ _)
theorem Ext.trans {H1 H2 H3:Heap} {g1 g2 g3:Gh} {w1 w2 w3:World} (h:Ext H1 g1 w1 H2 g2 w2) (k:Ext H2 g2 w2 H3 g3 w3):Ext H1 g1 w1 H3 g3 w3:=by
 refine⟨λa o v hs hc=>?_,λb B hB=>?_,λa o ho=>k.kept a o (h.kept a o ho),qaC h.size k.size,λa arr cl hs hm=>let ⟨c1,s1⟩:=h.map a arr cl hs hm; k.map a arr cl s1 c1,λa ha hn=>(k.obj a (qaz ha h.size) λb hb=>?_).trans (h.obj a ha hn),λb a hb=>?_⟩
 rotate_right 2
 ·rcases h.fresh b a hb with ⟨c,hc⟩ | hle
  ·exact hn c hc
  ·omega
 ·rcases k.fresh b a hb with ⟨c,hc⟩ | hle
  ·exact h.fresh c a hc
  ·exact .inr (qaC h.size hle)
 ·obtain ⟨c1,s1⟩:=h.cell a o v hs hc;exact k.cell a o v s1 c1
 ·obtain ⟨B2,hB2,t1⟩:=h.blk b B hB;obtain ⟨B3,hB3,t2⟩:=k.blk b B2 hB2;refine⟨B3,hB3,?_⟩;by_cases hB0:B=.hole
  ·subst hB0; trivial
  cases B3 with
  | dead=>cases B with
   | row wr _ _=>cases wr<;>trivial
   | _=>trivial
  | hole=>cases B2 with
   | hole=>cases B with
    | row wr _ _=>cases wr<;>exact False.elim t1
    | hole=>exact absurd rfl hB0
    | _=>exact False.elim t1
   | row wr _ _=>cases wr<;>exact False.elim t2
   | _=>exact False.elim t2
  | box cs3=>cases B2 with
   | box cs2=>cases B with
    | box cs=>exact Eq.trans t2 t1
    | row wr _ _=>cases wr<;>exact False.elim t1
    | rng _=>exact False.elim t1
    | mp _ _ _=>exact False.elim t1
    | dead=>exact False.elim t1
    | hole=>exact absurd rfl hB0
   | row wr _ _=>cases wr<;>exact False.elim t2
   | rng _=>exact False.elim t2
   | mp _ _ _=>exact False.elim t2
   | dead=>exact False.elim t2
   | hole=>cases B with
    | hole=>exact absurd rfl hB0
    | row wr _ _=>cases wr<;>exact False.elim t1
    | _=>exact False.elim t1
  | rng st3=>cases B2 with
   | rng st2=>cases B with
    | rng st=>exact⟨t2.1.trans t1.1,t2.2.trans t1.2⟩
    | row wr _ _=>cases wr<;>exact False.elim t1
    | box _=>exact False.elim t1
    | mp _ _ _=>exact False.elim t1
    | dead=>exact False.elim t1
    | hole=>exact absurd rfl hB0
   | row wr _ _=>cases wr<;>exact False.elim t2
   | box _=>exact False.elim t2
   | mp _ _ _=>exact False.elim t2
   | dead=>exact False.elim t2
   | hole=>cases B with
    | hole=>exact absurd rfl hB0
    | row wr _ _=>cases wr<;>exact False.elim t1
    | _=>exact False.elim t1
  | mp k3 ks3 vs3=>cases B2 with
   | mp k2 ks2 vs2=>cases B with
    | mp _ _ _=>exact Eq.trans t2 t1
    | rng _=>exact False.elim t1
    | row wr _ _=>cases wr<;>exact False.elim t1
    | box _=>exact False.elim t1
    | dead=>exact False.elim t1
    | hole=>exact absurd rfl hB0
   | row wr _ _=>cases wr<;>exact False.elim t2
   | box _=>exact False.elim t2
   | rng _=>exact False.elim t2
   | dead=>exact False.elim t2
   | hole=>cases B with
    | hole=>exact absurd rfl hB0
    | row wr _ _=>cases wr<;>exact False.elim t1
    | _=>exact False.elim t1
  | row wr3 es3 els3=>cases wr3 with
   | true=>cases B2 with
    | box _=>exact False.elim t2
    | rng _=>exact False.elim t2
    | mp _ _ _=>exact False.elim t2
    | dead=>exact False.elim t2
    | hole=>cases B with
     | hole=>exact absurd rfl hB0
     | row wr _ _=>cases wr<;>exact False.elim t1
     | _=>exact False.elim t1
    | row wr2 es2 els2=>cases wr2 with
     | false=>exact False.elim t2
     | true=>cases B with
      | box _=>exact False.elim t1
      | rng _=>exact False.elim t1
      | mp _ _ _=>exact False.elim t1
      | dead=>exact False.elim t1
      | hole=>exact absurd rfl hB0
      | row wr es els=>cases wr with
       | false=>exact False.elim t1
       | true=>
        obtain ⟨a1,a2,a3,a4⟩:=t1;obtain ⟨b1,b2,b3,b4⟩:=t2;refine⟨b1.trans a1,b2.trans a2,b3.trans a3,λk arr ty hk ha=>?_⟩;obtain ⟨arr1,c1,c2⟩:=a4 k arr ty hk ha;obtain ⟨arr2,c3,c4⟩:=b4 k arr1 ty (a3.trans hk) c1;exact⟨arr2,c3,qaC c2 c4⟩
   | false=>cases B2 with
    | box _=>exact False.elim t2
    | rng _=>exact False.elim t2
    | mp _ _ _=>exact False.elim t2
    | dead=>exact False.elim t2
    | hole=>cases B with
     | hole=>exact absurd rfl hB0
     | row wr _ _=>cases wr<;>exact False.elim t1
     | _=>exact False.elim t1
    | row wr2 es2 els2=>cases wr2 with
     | true=>exact False.elim t2
     | false=>cases B with
      | box _=>exact False.elim t1
      | rng _=>exact False.elim t1
      | mp _ _ _=>exact False.elim t1
      | dead=>exact False.elim t1
      | hole=>exact absurd rfl hB0
      | row wr es els=>cases wr with
       | true=>exact False.elim t1
       | false=>
        obtain ⟨a1,⟨r1,a2⟩,a3,a4,a5⟩:=t1;obtain ⟨b1,⟨r2,b2⟩,b3,b4,b5⟩:=t2;refine⟨b1.trans a1,⟨r1++r2,by rw[b2,a2,qaV]⟩,a3,o3,λhl=>?_⟩;obtain ⟨c1,c2⟩:=a5 o3;obtain ⟨d1,d2⟩:=b5 o3;refine⟨d1.trans c1,λj arr ty hj ha=>?_⟩;obtain ⟨arr',e1,e2⟩:=c2 j arr ty hj ha;obtain ⟨arr'',f1,f2⟩:=d2 j arr' ty (c1.trans hj) e1;exact⟨arr'',f1,o3⟩
structure SR (cx:Cx) (s:St) (g:Gh) (w0:World) (a:Act) (w:World):Prop where
 rel:Rel s.H g w0 w
 fr:∀ t,VR s.H g w (look s.fr t) (a.tmps.getD t undef)
 gl:∀ (G:Nat) (vs:List Value),cx.glob G=some vs->bS s.H g w G 0 vs
variable {cx:Cx} {s:St} {a:Act}
structure wz (cx:Cx) (s:St) (g:Gh) (w0:World) (o:Op) (ev:Operand->Value) (w:World):Prop where
 rel:Rel s.H g w0 w
 op:∀ x∈o.operands.toList,VR s.H g w (cM cx s x) (ev x)
 k:∀ x,ev (.const x)=x
theorem JL {G:Nat} {vs:List Value} (h:bS H g w G 0 vs):VR H g w (.ip (vs.map .v)) (.pointer (some ⟨G,0,none⟩)):=by
 rw[VR];exact⟨G,0,vs,rfl,h,ew.2 ⟨r8,λi x d hx hd=>by rw[qaO,hd] at hx; cases hx; rw[VR]⟩⟩
theorem qY {x:Operand} (hf:∀ t,x=.tmp t->VR s.H g w (look s.fr t) (a.tmps.getD t undef)) (gl:∀ (G:Nat) (vs:List Value),cx.glob G=some vs->bS s.H g w G 0 vs):VR s.H g w (cM cx s x) (a.eval x):=by
 cases x with
 | tmp t=>exact hf t rfl
 | const v=>exact qX v
 | global G=>
  show VR s.H g w (match cx.glob G with | some vs=>.ip (vs.map .v) | none=>.any) _;cases hG:cx.glob G with
  | none=>rw[VR]; trivial
  | some vs=>exact JL (gl G vs hG)
 | func f=>
  show VR s.H g w (.fn (.func f) [] []) (.func (.func f) #[] #[]);rw[VR]; exact⟨#[],#[],rfl,An,An⟩
theorem SR.WU (h:SR cx s g w0 a w) (o:Op):wz cx s g w0 o a.eval w:=⟨h.rel,λ_ _=>qY (λt _=>h.fr t) h.gl,λ_=>rfl⟩
variable {o:Op} {ev:Operand->Value}
theorem wz.one (h:wz cx s g w0 o ev w) (x:Operand) (hx:x∈o.operands.toList):VR s.H g w (cM cx s x) (ev x):=h.op x hx
theorem wz.many (h:wz cx s g w0 o ev w) (l:List Operand) (hl:∀ x∈l,x∈o.operands.toList):bL s.H g w (l.map (cM cx s)) (l.map ev):=
 ew.2 ⟨r8,λi x d hx hd=>by
  simp only[qaO,qa0] at hx hd;obtain ⟨y,hy,rfl⟩:=hx;obtain ⟨y',hy',rfl⟩:=hd;rw[hy] at hy'; cases hy';exact h.op y (hl y (qaI hy))⟩
theorem wz.parts (h:wz cx s g w0 o ev w) (l:Array (Nat×Operand)) (hl:∀ p∈l.toList,p.2∈o.operands.toList):oQ s.H g w (l.toList.map λp=>(p.1,cM cx s p.2)) (l.map λ(i,x)=>(i,ev x)).toList:=
 ⟨r8,λi p hp=>by
  simp only[qaO,qa0] at hp;obtain ⟨q,hq,rfl⟩:=hp;refine⟨(q.1,ev q.2),?_,rfl,h.op _ (hl q (qaI hq))⟩;simp[hq]⟩
theorem wz.IA (h:wz cx s g w0 o ev w) (l:Array (Nat×Operand)) (hl:∀ p∈l.toList,p.2∈o.operands.toList):oQ s.H g w (l.toList.map λp=>(p.1,fw s.H (cM cx s p.2))) (l.map λ(i,x)=>(i,ev x)).toList:=
 ⟨r8,λi p hp=>by
  simp only[qaO,qa0] at hp;obtain ⟨q,hq,rfl⟩:=hp;refine⟨(q.1,ev q.2),?_,rfl,DG h.rel (h.op _ (hl q (qaI hq)))⟩;simp[hq]⟩
theorem wz.opt (h:wz cx s g w0 o ev w) (x:Option Operand) (hx:∀ y,x=some y->y∈o.operands.toList):Mz s.H g w (x.map (cM cx s)) (x.map ev):=by
 cases x with
 | none=>trivial
 | some x=>exact h.op x (hx x rfl)
theorem fI (fr:List (Nat×A)) (d t:Nat) (x:A):look ((d,x) :: fr) t=if d=t then x else look fr t:=by
 show (bif Nat.beq d t then x else look fr t)=_;by_cases e:d=t
 ·subst e; simp
 ·have:Nat.beq d t=false:=by cases hb:Nat.beq d t with
   | false=>rfl
   | true=>exact absurd (qan hb) e
  rw[this,qah e]; rfl
theorem SR.step (h:SR cx s g w0 a w) {H':Heap} (hr:Rel H' g' w0 w') (he:Ext s.H g w H' g' w') {dst:Option Nat} {x:A} {c:Value} (hx:VR H' g' w' x c) (hd:∀ d,dst=some d->d<a.tmps.size):SR cx (({ s with H:=H' }:St).put dst x) g' w0 (a.put dst c) w':=by
 have hH:(({ s with H:=H' }:St).put dst x).H=H':=by cases dst<;>rfl
 refine⟨by rw[hH]; exact hr,λt=>?_,λG vs hG=>by rw[hH]; exact(h.gl G vs hG).ext he⟩;rw[hH];cases dst with
 | none=>exact VR.ext he _ _ (h.fr t)
 | some d=>
  show VR H' g' w' (look ((d,x) :: s.fr) t) _;rw[fI];by_cases e:d=t
  ·subst e;rw[qaf rfl];have:=hd d rfl;simp only[Act.put]
   rw[qbf,qcW this];exact hx
  ·rw[qah e];simp only[Act.put]
   rw[qbf,qb8 e,<-qbf];exact VR.ext he _ _ (h.fr t)
def nK (s:St) (g:Gh) (w0 w:World) (lo:Nat) (res:Result Next) (K:A->Heap->Prop):Prop:=
 ∃ c w' x H' g',(res=.ok (.value c) w'∨(res=.ok .skip w'/\c=undef))/\K x H'/\Rel H' g' w0 w'/\Ext s.H g w H' g' w'/\VR H' g' w' x c/\s.H.length<=H'.length/\(∀ b,b<lo->b<s.H.length->H'[b]? = s.H[b]?)/\g'.S=g.S
theorem nK.same {lo:Nat} {res:Result Next} {K:A->Heap->Prop} (h:Rel s.H g w0 w) {x:A} {c:Value} (hres:res=.ok (.value c) w) (hK:K x s.H) (hx:VR s.H g w x c):nK s g w0 w lo res K:=
 ⟨c,w,x,s.H,g,.inl hres,hK,h,Ext.refl h,hx,qab _,λ_ _ _=>rfl,rfl⟩
theorem nK.fresh {lo:Nat} {res:Result Next} {K:A->Heap->Prop} (h:Rel s.H g w0 w) {x:A} {c:Value} (hres:res=.ok (.value c) w') (hb:Below w.heap.size w w') (hK:K x s.H) (hx:VR s.H g w' x c):nK s g w0 w lo res K:=
 ⟨c,w',x,s.H,g,.inl hres,hK,h.kK hb,Ext.below h hb,hx,qab _,λ_ _ _=>rfl,rfl⟩
theorem nK.mI {lo:Nat} {res:Result Value} {res':Result Next} {K:A->Heap->Prop} {x:A} {H':Heap} (h:Step s.H g w0 w lo res x H') (hres:∀ d w',res=.ok d w'->res'=.ok (.value d) w') (hK:K x H'):nK s g w0 w lo res' K:=
 let ⟨d,w',g',e1,e2,e3,e4,e5,e6,e7⟩:=h; ⟨d,w',x,H',g',.inl (hres d w' e1),hK,e2,e3,e4,e5,e6,e7⟩
theorem jY {P:Program} {sem:Sem Value} {d:Value} (h:sem.run P w=.ok d w'):(do pure (.value (<-sem)):Sem Next).run P w=.ok (.value d) w':=by simp[h]
theorem sz {P:Program} {mn:Bool}:∀ {ys:List A} {ds:List Value} {x z:A} {c:Value},GA mn x ys=some z->VR H g w x c->bL H g w ys ds->∃ d,(ds.foldlM (if mn then Builtin.min2 else Builtin.max2) c).run P w=.ok d w/\VR H g w z d
 | [],ds,x,z,c,h,hx,hy=>by
  rw[bL] at hy;subst hy;simp only[GA,qaG] at h;subst h;exact⟨c,r8,hx⟩
 | y :: r,ds,x,z,c,h,hx,hy=>by
  rw[bL] at hy;obtain ⟨d,ds',rfl,hy1,hy2⟩:=hy;simp only[GA] at h;obtain ⟨u,h1,h2⟩:=bN h;unfold Dj at h1;split at h1
  ·rename_i k p l q;obtain ⟨h3,h4⟩:=bJ h1;cases h4;rw[VR] at hx hy1;subst hx; subst hy1;have hu:VR H g w (.v (.int k (if mn=true then (if q<p then q else p) else (if p<q then q else p)))) (.int k (if mn=true then (if q<p then q else p) else (if p<q then q else p))):=y9;obtain ⟨e,e1,e2⟩:=sz (P:=P) h2 hu hy2;refine⟨e,?_,e2⟩;rw[List.foldlM_cons,qa1];cases mn
   ·simp only[qaQ,qcq] at e1 ⊢;simp only[Builtin.max2,gt_iff_lt,qcx,qaT]
    exact e1
   ·simp only[qb4] at e1 ⊢;simp only[Builtin.min2,qcx,qaT]
    exact e1
  ·cases h1
theorem ru {l:Array Operand} {xs:List Operand} (h:l.toList=xs):l=xs.toArray:=by rw[<-h]
theorem Ch {β:Type} {f lo:Nat} {o:Oper} {c:Call} {k:A->Heap->Option β} {r:β} (hs:wz cx s g w0 (.call c) ev w) (h:rH cx f lo o.dst c s k=some r):nK s g w0 w lo ((do let d <-resolve ev c o.type; invoke d.target d.args:Sem Next).run cx.P w) (λx H'=>k x H'=some r):=by
 unfold rH at h;obtain ⟨callee,args,argTypes⟩:=c;simp only at h;split at h
 ·rename_i x t e1 e2;cases ru e1;have ht:argTypes=#[t]:=by rw[<-qdi (xs:=argTypes),e2]
  subst ht;replace h:=bN h;obtain ⟨z,h1,h⟩:=h;obtain ⟨d,e1,e2⟩:=BW (ty:=o.type) h1 (hs.one x (by simp[Op.operands,Call.operands]));exact nK.same hs.rel (by simp[resolve,invoke,builtin,e1]) h e2
 ·rename_i x y t t2 e1 e2;cases ru e1;have ht:argTypes=#[t,t2]:=by rw[<-qdi (xs:=argTypes),e2]
  subst ht;replace h:=bN h;obtain ⟨⟨z,H'⟩,h1,h⟩:=h;exact nK.mI (wD (ty:=o.type) hs.rel h1 (hs.one x (by simp[Op.operands,Call.operands])) (hs.one y (by simp[Op.operands,Call.operands]))) (λd w' e=>by simp[resolve,invoke,builtin,e]) h
 ·rename_i x y t t2 e1 e2;cases ru e1;have ht:argTypes=#[t,t2]:=by rw[<-qdi (xs:=argTypes),e2]
  subst ht;replace h:=bN h;obtain ⟨⟨z,H'⟩,h1,h⟩:=h;exact nK.mI (zY (t2:=t2) (ty:=o.type) hs.rel h1 (hs.one x (by simp[Op.operands,Call.operands])) (hs.one y (by simp[Op.operands,Call.operands]))) (λd w' e=>by simp[resolve,invoke,builtin,e]) h
 ·rename_i x r e1;cases ru e1;replace h:=bN h;obtain ⟨z,h1,h⟩:=h;obtain ⟨d,e1,e2⟩:=sz (P:=cx.P) h1 (hs.one x (by simp[Op.operands,Call.operands])) (hs.many r (by simp[Op.operands,Call.operands]; exact λy hy=>.inr hy));simp only[qb4] at e1;exact nK.same hs.rel (by simp[resolve,invoke,builtin,Builtin.min_,e1]) h e2
 ·rename_i x r e1;cases ru e1;replace h:=bN h;obtain ⟨z,h1,h⟩:=h;obtain ⟨d,e1,e2⟩:=sz (P:=cx.P) h1 (hs.one x (by simp[Op.operands,Call.operands])) (hs.many r (by simp[Op.operands,Call.operands]; exact λy hy=>.inr hy));simp only[qaQ,qcq] at e1;exact nK.same hs.rel (by simp[resolve,invoke,builtin,Builtin.max_,e1]) h e2
 ·cases h
theorem Ez {P:Program} {H:Heap} {t:TypeId} {op:BinOp} {p y:Operand} {x z:A} {c d:Value} (hn:Ng op y=true) (h:MA P t x=some z) (hx:VR H g w x c) (hd:∀ v,y=.const v->d=v) :
  ∃ e,(do eqGuard op t p y c d; binOp op t c d:Sem Value).run P w=.ok e w/\VR H g w z e:=by
 unfold Ng at hn;split at hn
 ·have hd:=hd _ rfl;subst hd;unfold MA at h;split at h
  ·rename_i e els cl hu;cases h;rw[VR] at hx;obtain ⟨a,cap,ds,es,rfl,h1,h2,h3,h4,h5⟩:=hx;have hem:a.isNone=true->els=[]:=λhb=>by
    cases els with
    | nil=>rfl
    | cons x l=>
     obtain ⟨k,off,e1,_⟩:=h4 r8;rw[e1] at hb; cases hb
   refine⟨.bool a.isNone,?_,by rw[VR]; exact⟨_,rfl,hem⟩⟩
   ·have h1:=Lib.run_eql_slice_nil (P:=P) w t e a els.length cap 0 0 hu;have h2:(eqGuard .eql t p (.const (.slice none 0 0)) (.slice a els.length cap) (.slice none 0 0)).run P w=.ok () w:=by cases a<;>rfl
    simp only[qa1,h2,qaT,h1]
  ·cases h
 ·cases hn
theorem CC {H:Heap} {a:A} {c:Value} (h:sS H a=true) (hv:VR H g w a c):(∃ ad,c=.pointer (some ad))∨∃ f x y,c=.func (.func f) x y:=by
 cases a with
 | ptr b o=>
  rw[VR] at hv;simp only[sS,ij] at h;cases hb:H[b]? with
  | none=>rw[hb] at h; cases h
  | some B=>cases B with
   | box _=>rw[hb] at hv; obtain ⟨k,_,e⟩:=hv; exact .inl ⟨_,e⟩
   | _=>rw[hb] at h; cases h
 | ep b i o=>
  rw[VR] at hv;simp only[sS,ij] at h;cases hb:H[b]? with
  | none=>rw[hb] at h; cases h
  | some B=>cases B with
   | row wr _ _=>cases wr with
    | true=>rw[hb] at hv; obtain ⟨_,k,_,e⟩:=hv; exact .inl ⟨_,e⟩
    | false=>rw[hb] at h; cases h
   | _=>rw[hb] at h; cases h
 | ip cs=>rw[VR] at hv; obtain ⟨_,_,_,e,_⟩:=hv; exact .inl ⟨_,e⟩
 | fn f x y=>cases f with
  | func k=>rw[VR] at hv; obtain ⟨_,_,e,_⟩:=hv; exact .inr ⟨_,_,_,e⟩
  | _=>cases h
 | _=>cases h
theorem my {β:Type} {f lo:Nat} {o:Oper} {k:A->Heap->Option β} {r:β} (hs:wz cx s g w0 o.op ev w) (h:bV cx f lo o s k=some r):nK s g w0 w lo ((execOp ev o).run cx.P w) (λx H'=>k x H'=some r):=by
 unfold bV at h;unfold execOp;split at h
 ·rename_i x ho;rw[ho] at hs ⊢; exact nK.same hs.rel rfl h (hs.one x (by simp[Op.operands]))
 ·rename_i x ho;rw[ho] at hs ⊢; exact nK.same hs.rel rfl h (hs.one x (by simp[Op.operands]))
 ·rename_i t ho;rw[ho] at hs ⊢;replace h:=bN h;obtain ⟨⟨y,H'⟩,h1,h⟩:=h;unfold qF at h1;rw[bP] at h1;split at h1
  ·exact nK.mI (wC hs.rel lo h1) (λd w' e=>jY e) h
  exact nK.mI (yf hs.rel lo h1) (λd w' e=>jY e) h
 ·rename_i t x ho;rw[ho] at hs ⊢;replace h:=bN h;obtain ⟨⟨y,H'⟩,h1,h⟩:=h;unfold B6 at h1;rw[bP] at h1;split at h1
  ·exact nK.mI (zX hs.rel lo h1 (hs.one x (by simp[Op.operands]))) (λd w' e=>jY e) h
  exact nK.mI (BQ hs.rel lo h1 (hs.one x (by simp[Op.operands]))) (λd w' e=>jY e) h
 ·rename_i t parts ho;rw[ho] at hs ⊢;replace h:=bN h;obtain ⟨y,h1,h⟩:=h;obtain ⟨d,e1,e2⟩:=yi h1 (hs.parts parts (by simp[Op.operands]; exact λa b h=>⟨a,h⟩));exact nK.same hs.rel (jY e1) h e2
 ·rename_i t n parts ho;rw[ho] at hs ⊢;replace h:=bN h;obtain ⟨y,h1,h⟩:=h;obtain ⟨d,w',e1,e2,e3⟩:=rn hs.rel h1 (hs.IA parts (by simp[Op.operands]; exact λa b h=>⟨a,h⟩));exact nK.fresh hs.rel (jY e1) e2 h e3
 ·rename_i t x ho;rw[ho] at hs ⊢;replace h:=bN h;obtain ⟨y,h1,h⟩:=h;obtain ⟨d,e1,e2⟩:=tq hs.rel h1 (hs.one x (by simp[Op.operands]));exact nK.same hs.rel (jY e1) h e2
 ·rename_i t x y ho;rw[ho] at hs ⊢;replace h:=bN h;obtain ⟨H',h1,h⟩:=h;obtain ⟨w',e1,e2,e3,e4,e5⟩:=yn hs.rel h1 (hs.one x (by simp[Op.operands])) (K0 hs.rel (hs.one y (by simp[Op.operands])));exact⟨undef,w',.any,H',g,.inr ⟨by simp[e1],rfl⟩,h,e2,e3,ZT,e4,e5,rfl⟩
 ·rename_i op t x y t2 ho;rw[ho] at hs ⊢;replace h:=bN h;obtain ⟨z,h1,h⟩:=h;unfold O4 at h1;rw[bP] at h1;split at h1
  ·rename_i hn;obtain ⟨d,e1,e2⟩:=Ez (p:=x) (d:=ev y) hn h1 (hs.one x (by simp[Op.operands])) (λv hv=>by subst hv; exact hs.k v);exact nK.same hs.rel (jY e1) h e2
  obtain ⟨d,e1,e2⟩:=BO (p:=x) (q:=y) h1 (hs.one x (by simp[Op.operands])) (hs.one y (by simp[Op.operands]));exact nK.same hs.rel (jY e1) h e2
 ·rename_i op t x ho;rw[ho] at hs ⊢;replace h:=bN h;obtain ⟨z,h1,h⟩:=h;obtain ⟨d,e1,e2⟩:=EA h1 (hs.one x (by simp[Op.operands]));exact nK.same hs.rel (jY e1) h e2
 ·rename_i t u x ho;rw[ho] at hs ⊢;replace h:=bN h;obtain ⟨z,h1,h⟩:=h;obtain ⟨d,w',e1,e2,e3⟩:=uy hs.rel h1 (hs.one x (by simp[Op.operands]));exact nK.fresh hs.rel (jY e1) e2 h e3
 ·rename_i t x ho;rw[ho] at hs ⊢;replace h:=bN h;obtain ⟨z,h1,h⟩:=h;obtain ⟨d,e1,e2⟩:=BU h1 (hs.one x (by simp[Op.operands]));exact nK.same hs.rel (jY e1) h e2
 ·rename_i fn p q ho;rw[ho] at hs ⊢;refine nK.same hs.rel (c:=.func fn (p.map ev) (q.map ev)) (by simp[Instr.makeFunc]) h ?_;rw[VR];refine⟨_,_,rfl,?_,?_⟩
  ·rw[Array.toList_map]; exact hs.many _ (by simp[Op.operands]; intro x hx; simp[hx])
  ·rw[Array.toList_map]; exact hs.many _ (by simp[Op.operands]; intro x hx; simp[hx])
 ·rename_i t n c ho;rw[ho] at hs ⊢;replace h:=bN h;obtain ⟨⟨y,H'⟩,h1,h⟩:=h;unfold vE at h1;rw[bP] at h1;split at h1
  ·obtain ⟨rfl,d,w',e1,e2,e3⟩:=uC hs.rel h1 (hs.one n (by simp[Op.operands])) (hs.one c (by simp[Op.operands]));exact nK.fresh hs.rel (jY e1) e2 h e3
  exact nK.mI (ml hs.rel lo h1 (hs.one n (by simp[Op.operands])) (hs.one c (by simp[Op.operands]))) (λd w' e=>jY e) h
 ·rename_i t x lo' hi mx ho;rw[ho] at hs ⊢;replace h:=bN h;obtain ⟨z,h1,h⟩:=h;replace h1:=bJ h1;obtain ⟨hhm,h1⟩:=h1;obtain ⟨d,e1,e2⟩:=ym hs.rel h1 (hs.one x (by simp[Op.operands])) (hs.opt lo' (by rintro y rfl; simp[Op.operands])) (hs.opt hi (by rintro y rfl; simp[Op.operands])) (hs.opt mx (by rintro y rfl; simp[Op.operands])) (by cases mx<;>cases hi<;>simp at hhm ⊢);exact nK.same hs.rel (jY e1) h e2
 ·rename_i t x i ho;rw[ho] at hs ⊢;replace h:=bN h;obtain ⟨z,h1,h⟩:=h;obtain ⟨d,e1,e2⟩:=sw h1 (hs.one x (by simp[Op.operands]));exact nK.same hs.rel (jY e1) h e2
 ·rename_i t x i ho;rw[ho] at hs ⊢;replace h:=bN h;obtain ⟨z,h1,h⟩:=h;obtain ⟨d,e1,e2⟩:=yj h1 (hs.one x (by simp[Op.operands]));exact nK.same hs.rel (jY e1) h e2
 ·rename_i t x i ho;rw[ho] at hs ⊢;replace h:=bN h;obtain ⟨z,h1,h⟩:=h;obtain ⟨d,e1,e2⟩:=sx hs.rel h1 (hs.one x (by simp[Op.operands])) (hs.one i (by simp[Op.operands]));exact nK.same hs.rel (jY e1) h e2
 ·rename_i t x i ho;rw[ho] at hs ⊢;replace h:=bN h;obtain ⟨z,h1,h⟩:=h;obtain ⟨d,e1,e2⟩:=yk h1 (hs.one x (by simp[Op.operands])) (hs.one i (by simp[Op.operands]));exact nK.same hs.rel (jY e1) h e2
 ·rename_i x i ho;rw[ho] at hs ⊢;replace h:=bN h;obtain ⟨z,h1,h⟩:=h;obtain ⟨d,e1,e2⟩:=uz h1 (hs.one x (by simp[Op.operands]));exact nK.same hs.rel (jY e1) h e2
 ·rename_i x ho;rw[ho] at hs ⊢;obtain ⟨y,h1,h⟩:=bN h;obtain ⟨hn,e0⟩:=bJ h1;cases e0;have hv:=hs.one x (by simp[Op.operands]);refine nK.same hs.rel (c:=ev x) ?_ h hv;rcases CC hn hv with ⟨ad,e⟩ | ⟨f,a,b,e⟩
  ·simp only[e]; rfl
  ·simp only[e]; rfl
 ·rename_i t ho;rw[ho] at hs ⊢;replace h:=bN h;obtain ⟨⟨y,H'⟩,h1,h⟩:=h;exact nK.mI (uD hs.rel lo h1) (λd w' e=>jY e) h
 ·rename_i t m i x ho;rw[ho] at hs ⊢;replace h:=bN h;obtain ⟨H',h1,h⟩:=h;obtain ⟨w',e1,e2,e3,e4,e5⟩:=qp hs.rel h1 (hs.one m (by simp[Op.operands])) (hs.one i (by simp[Op.operands])) (hs.one x (by simp[Op.operands]));exact⟨undef,w',.any,H',g,.inr ⟨by simp[e1],rfl⟩,h,e2,e3,ZT,e4,e5,rfl⟩
 ·rename_i t m i x ho;rw[ho] at hs ⊢;replace h:=bN h;obtain ⟨H',h1,h⟩:=h;obtain ⟨w',e1,e2,e3,e4,e5⟩:=qp hs.rel h1 (hs.one m (by simp[Op.operands])) (hs.one i (by simp[Op.operands])) (hs.one x (by simp[Op.operands]));exact⟨undef,w',.any,H',g,.inr ⟨by simp[e1],rfl⟩,h,e2,e3,ZT,e4,e5,rfl⟩
 ·rename_i t m i c ho;rw[ho] at hs ⊢;replace h:=bN h;obtain ⟨z,h1,h⟩:=h;obtain ⟨d,e1,e2⟩:=wF hs.rel h1 (hs.one m (by simp[Op.operands])) (hs.one i (by simp[Op.operands]));exact nK.same hs.rel (jY e1) h e2
 ·rename_i x t u c ho;rw[ho] at hs ⊢;replace h:=bN h;obtain ⟨z,h1,h⟩:=h;obtain ⟨d,e1,e2⟩:=wE h1 (hs.one x (by simp[Op.operands]));exact nK.same hs.rel (jY e1) h e2
 ·rename_i c ho;rw[ho] at hs ⊢;exact Ch hs h
 ·cases h
end
section
open Go.RowKit
variable {H H':Heap} {g g':Gh} {w0 w w':World}
theorem Rel.kill (hr:Rel H g w0 w) {b:Nat} (hb:b<H.length):Rel (H.set b .dead) (g.put b none []) w0 w/\Ext H g w (H.set b .dead) (g.put b none []) w:=by
 have hget:∀ c,c≠b->(H.set b .dead)[c]? = H[c]?:=λc hc=>qao (qbi hc);have hgetb:(H.set b aA.dead)[b]? = some .dead:=qaE hb;have hmu:∀ {c k},(g.put b none []).mu c=some k->c≠b/\g.mu c=some k:=λ{c k} h=>by
  by_cases e:c=b
  ·subst e; rw[Gh.bQ] at h; cases h
  ·exact⟨e,by rwa [Gh.aL _ _ _ e] at h⟩
 have he:Ext H g w (H.set b .dead) (g.put b none []) w:=by
  have hst:∀ {k o},ft H g k o->ft (H.set b .dead) (g.put b none []) k o:=λ{k o} hs=>by
   refine⟨hs.1,λc hck=>?_⟩;obtain ⟨h1,h2⟩:=hmu hck;obtain ⟨es,els,h3,h4⟩:=hs.2 c h2;exact⟨es,els,by rw[hget c h1]; exact h3,h4⟩
  refine⟨λk o v hs hc=>⟨hc,hst hs⟩,λc B' hB'=>?_,λ_ _ h=>h,qab _,λk arr cl hs hm=>⟨hm,hst hs⟩,λ_ _ _=>rfl,λc k h=>.inl ⟨c,(hmu h).2⟩⟩
  ·by_cases e:c=b
   ·subst e;refine⟨.dead,hgetb,?_⟩;cases B' with
    | row wr _ _=>cases wr<;>trivial
    | _=>trivial
   ·refine⟨B',by rw[hget c e]; exact hB',?_⟩;cases B' with
    | box _=>exact Gh.aL _ _ _ e
    | row wr es els=>cases wr with
     | true=>exact⟨rfl,rfl,Gh.aL _ _ _ e,λk arr ty hk' ha=>⟨arr,ha,qab _⟩⟩
     | false=>exact⟨rfl,⟨[],by rw[Gh.fm _ _ _ e]; simp⟩,(hr.blk c _ hB').len,qab _,λ_=>⟨Gh.aL _ _ _ e,λk arr ty hk' ha=>⟨arr,ha,qab _⟩⟩⟩
    | rng _=>exact⟨Gh.aL _ _ _ e,rfl⟩
    | mp _ _ _=>exact Gh.aL _ _ _ e
    | dead=>trivial
    | hole=>trivial
 refine⟨⟨hr.below,λc k hck=>?_,λc d k h1 h2=>hr.inj c d k (hmu h1).2 (hmu h2).2,hr.A5 he,hr.zo he,λc B' hB'=>?_⟩,he⟩
 ·obtain ⟨_,h2⟩:=hmu hck;have:=hr.dom c k h2;exact⟨by simpa using this.1,this.2⟩
 ·by_cases e:c=b
  ·subst e;rw[hgetb] at hB'; cases hB';exact Gh.bQ _ _ _ _
  ·rw[hget c e] at hB';have h:=hr.blk c B' hB';cases B' with
   | box cs=>obtain ⟨k,arr,ty,h1,h2,h3⟩:=h; exact⟨k,arr,ty,(Gh.aL _ _ _ e).trans h1,h2,bL.ext he _ _ h3⟩
   | row wr es els=>cases wr with
    | true=>
     obtain ⟨ds,h1,h2,h3⟩:=h;exact⟨ds,bK.ext he _ _ h1,h2,λhp=>let ⟨k,arr,ty,e1,e2,e3⟩:=h3 hp; ⟨k,arr,ty,(Gh.aL _ _ _ e).trans e1,e2,e3⟩⟩
    | false=>
     obtain ⟨h1,h2⟩:=h;refine⟨?_,?_⟩
     ·rw[Gh.fm _ _ _ e]; exact bK.ext he _ _ h1
     ·rw[Gh.fm _ _ _ e]; exact h2
   | rng st=>obtain ⟨k,h1,h2⟩:=h; exact⟨k,(Gh.aL _ _ _ e).trans h1,h2⟩
   | mp _ _ _=>obtain ⟨k,arr,cl,h1,h2,h3,h4⟩:=h; exact⟨k,arr,cl,(Gh.aL _ _ _ e).trans h1,h2,h3,bL.ext he _ _ h4⟩
   | dead=>exact(Gh.aL _ _ _ e).trans h
   | hole=>exact(Gh.aL _ _ _ e).trans h
theorem DM (hr:Rel H g w0 w) {lo:Nat} {x:A} {c:Value} {r:A×Heap} (hk:oW lo x H=some r) (h:VR H g w x c):∃ g',Rel r.2 g' w0 w/\Ext H g w r.2 g' w/\VR r.2 g' w r.1 c/\r.2.length=H.length/\(∀ b,b<lo->b<H.length->r.2[b]? = H[b]?)/\g'.S=g.S:=by
 unfold oW at hk;split at hk
 ·rename_i b o n cl;split at hk
  ·rename_i es els hb;obtain ⟨hlo,hk⟩:=bJ hk;cases hk;have hlo:lo<=b:=by simpa using hlo
   have hbl:=(qad.1 hb).1;obtain ⟨h1,h2⟩:=hr.kill hbl;refine⟨_,h1,h2,?_,r8,λb' hb' _=>qao o3,rfl⟩;rw[VR,hb] at h;obtain ⟨h0,a,cap,rfl,e1,e2,e3,_⟩:=h;obtain ⟨ds,d1,d2,d3⟩:=hr.blk b _ hb;have hv:=jX (S:=ft H g) (λ_ _ h=>h) (λb o m cl c h=>rY hr 4 b o m cl c h) _ _ ((d1.drop o).take n);have hl:(dM (jk 4 H) ((els.drop o).take n)).length=n:=by rw[<-hv.length]; simp[d1.length]; omega
   rw[VR];refine⟨a,cap,(ds.drop o).take n,es,by rw[hl],by rw[hl]; exact e1,λh=>(by cases h),λd hd=>d2 d (qaL (qaJ hd)),λhp=>?_,?_⟩
   ·rw[hl] at hp;obtain ⟨k,hk,ha⟩:=e3 hp;obtain ⟨k',arr,ty,m1,m2,m3⟩:=d3 o3;rw[hk] at m1; cases m1;refine⟨k,o*es,ha,λj v hj=>⟨xG d2 m2 m3 hj,hr.own b k _ hk,λc hc=>?_⟩⟩
    exfalso
    by_cases e:c=b
    ·subst e; rw[Gh.bQ] at hc; cases hc
    ·rw[Gh.aL _ _ _ e] at hc;exact e (hr.inj c b k hc hk)
   ·exact bK.ext h2 _ _ (bK.gh (H:=[]) (g:=G0 (ft H g)) ⟨λk o _ hs hc=>⟨hc,hs.1⟩,λb B hB=>(by simp at hB),λk arr cl hs hm=>⟨hm,hs.1⟩⟩ _ _ hv)
  ·rename_i es els hb;cases hk;refine⟨g,hr,Ext.refl hr,?_,rfl,λ_ _ _=>rfl,rfl⟩;exact VR.back (λ_ _ h=>h) (by have:=rY hr 5 b o n cl c h; unfold jk at this; rw[hb] at this; exact this)
  ·cases hk
 ·rename_i b o;split at hk
  ·rename_i cs hb;obtain ⟨hlo,hk⟩:=bJ hk;cases hk;rw[Z9] at hlo;have hlo':lo<=b:=qai hlo.1;have ho:o=0:=qan hlo.2;subst ho;have hbl:=(qad.1 hb).1;obtain ⟨h1,h2⟩:=hr.kill hbl;refine⟨_,h1,h2,?_,r8,λb' hb' _=>qao o3,rfl⟩;rw[VR,hb] at h;obtain ⟨k,hk,rfl⟩:=h;obtain ⟨k',arr,ty,m1,m2,m3⟩:=hr.blk b _ hb;rw[hk] at m1; cases m1;rw[VR];refine⟨k,0,arr.toList,rfl,λj v hj=>⟨?_,hr.own b k _ hk,λc hc=>?_⟩,bL.ext h2 _ _ m3⟩
   ·rw[qaU,qbL w k j arr ty (0,0) m2]; simpa using hj
   ·exfalso
    by_cases e:c=b
    ·subst e; rw[Gh.bQ] at hc; cases hc
    ·rw[Gh.aL _ _ _ e] at hc;exact e (hr.inj c b k hc hk)
  ·cases hk
 ·cases hk;exact⟨g,hr,Ext.refl hr,h,rfl,λ_ _ _=>rfl,rfl⟩
 ·cases hk
theorem Rel.Zn (hr:Rel H g w0 w) {k:Nat} {arr:Array Value} {ty:TypeId} (hk:w0.heap.size<=k) (hw:w.heap[k]? = some (.cells arr ty (0,0))) (hn:∀ b,g.mu b≠some k) (f:Nat×Nat) :
  Rel H g w0 (w.putObj k (.cells arr ty f))/\zD H g w H g (w.putObj k (.cells arr ty f))/\∀ {H0:Heap} {g0:Gh} {c0:Nat},Ext H0 g0 w H g w->g0.mu c0=some k->Ext H0 g0 w H g (w.putObj k (.cells arr ty f)):=by
 have hlt:k<w.heap.size:=(qaj.1 hw).1;have hoth:∀ j,j≠k->(w.putObj k (.cells arr ty f)).heap[j]? = w.heap[j]?:=λj hj=>qbI hj;have hsz:(w.putObj k (.cells arr ty f)).heap.size=w.heap.size:=r8;have hcell:∀ j o v,w.cell? ⟨j,o,none⟩=some v->(w.putObj k (.cells arr ty f)).cell? ⟨j,o,none⟩=some v:=λj o v hc=>by
  by_cases e:j=k
  ·subst e;rw[qbL w j o arr ty (0,0) hw] at hc;rw[qbL _ j o arr ty f (qc8 hlt)];exact hc
  ·exact(qca (a:=⟨j,o,none⟩) (hoth j e)).trans hc
 have hne:∀ {c j},g.mu c=some j->j≠k:=λ{c j} h e=>hn c (e ▸ h);have he:zD H g w H g (w.putObj k (.cells arr ty f)):=by
  refine⟨λj o v hs hc=>⟨hcell j o v hc,hs⟩,λc C hC=>⟨C,hC,?_⟩,λj marr cl hs hm=>⟨(hoth j (λe=>by subst e; rw[hw] at hm; cases hm)).trans hm,hs⟩⟩;cases C with
  | box _=>rfl
  | row wr es els=>cases wr with
   | true=>exact⟨rfl,rfl,rfl,λj arr ty hj ha=>⟨arr,(hoth j (hne hj)).trans ha,qab _⟩⟩
   | false=>exact⟨rfl,⟨[],r8⟩,(hr.blk c _ hC).len,qab _,λ_=>⟨rfl,λj arr ty hj ha=>⟨arr,(hoth j (hne hj)).trans ha,qab _⟩⟩⟩
  | rng _=>exact⟨rfl,rfl⟩
  | mp _ _ _=>rfl
  | dead=>trivial
  | hole=>trivial
 refine⟨⟨hr.below.trans ((Below.refl w0.heap.size w).grown (qdQ w k _) (hr.below.size) (λj e=>by cases e; exact hk)),λc j hc=>⟨(hr.dom c j hc).1,(hr.dom c j hc).2.1,by rw[hsz]; exact(hr.dom c j hc).2.2⟩,hr.inj,(by rw[hsz]; exact hr.out),hr.own,λc C hC=>?_⟩,he,λ{H0 g0 c0} hp hc0=>⟨λj o v hs hc=>let ⟨q1,q2⟩:=hp.cell j o v hs hc; ⟨hcell j o v q1,q2⟩,λc C hC=>?_,λj x h=>(hoth j (λe=>by subst e; rw[hw] at h; cases h)).trans h,by rw[hsz]; exact qab _,λj marr cl hs hm=>⟨(hoth j (λe=>by subst e; rw[hw] at hm; cases hm)).trans hm,(hp.map j marr cl hs hm).2⟩,λj _ hj=>hoth j (λe=>hj c0 (e ▸ hc0)),hp.fresh⟩⟩
 rotate_left 1
 ·obtain ⟨C',hC',ht⟩:=hp.blk c C hC;refine⟨C',hC',?_⟩;cases C with
  | row wr es els=>cases wr with
   | true=>cases C' with
    | row wr' es' els'=>cases wr' with
     | true=>
      obtain ⟨t1,t2,t3,t4⟩:=ht;exact⟨t1,t2,t3,λj arr ty hj ha=>⟨arr,(hoth j (hne (t3.trans hj))).trans ha,qab _⟩⟩
     | false=>exact ht
    | _=>exact ht
   | false=>cases C' with
    | row wr' es' els'=>cases wr' with
     | true=>exact ht
     | false=>
      obtain ⟨t1,t2,t3,t4,t5⟩:=ht;exact⟨t1,t2,t3,t4,λhl=>⟨(t5 hl).1,λj arr ty hj ha=>⟨arr,(hoth j (hne ((t5 hl).1.trans hj))).trans ha,qab _⟩⟩⟩
    | _=>exact ht
  | _=>cases C'<;>exact ht
 have h:=hr.blk c C hC;cases C with
 | box cs=>obtain ⟨j,arr',ty',h1,h2,h3⟩:=h; exact⟨j,arr',ty',h1,(hoth j (hne h1)).trans h2,bL.gh he _ _ h3⟩
 | row wr es els=>cases wr with
  | true=>
   obtain ⟨ds,h1,h2,h3⟩:=h;exact⟨ds,bK.gh he _ _ h1,h2,λhp=>let ⟨j,arr',ty',e1,e2,e3⟩:=h3 hp; ⟨j,arr',ty',e1,(hoth j (hne e1)).trans e2,e3⟩⟩
  | false=>
   obtain ⟨h1,h2⟩:=h;exact⟨bK.gh he _ _ h1,h2⟩
 | rng st=>obtain ⟨j,h1,h2⟩:=h; exact⟨j,h1,(hoth j (hne h1)).trans h2⟩
 | mp _ _ _=>obtain ⟨j,marr,cl,h1,h2,h3,h4⟩:=h; exact⟨j,marr,cl,h1,(hoth j (hne h1)).trans h2,h3,bL.gh he _ _ h4⟩
 | dead=>exact h
 | hole=>exact h
theorem wH {w:World} {k n:Nat} {arr:Array Value} {ty:TypeId} (hw:w.heap[k]? = some (.cells arr ty (0,0))):w.freeze ⟨k,n,none⟩ 1=w.putObj k (.cells arr ty (n,n+1)):=by
 unfold World.freeze World.putObj;rw[qah (by decide)];congr 1;apply Array.ext
 ·simp
 ·intro i h1 h2;have hi:i<w.heap.size:=by simpa using h1
  rw[qd7,Array.getElem_setIfInBounds];by_cases h:k=i
  ·subst h;have e:w.heap[k]=.cells arr ty (0,0):=by
    have:=(qaj.1 hw).2;exact this
   rw[qaf rfl,qaf rfl,e];simp
  ·rw[qah h,qah h]
theorem zZ {P:Program} (hr:Rel H g w0 w) {lo:Nat} {s t:TypeId} {x:A} {c:Value} {r:A×Heap} (h:GB P s t x H lo=some r) (hx:VR H g w x c) :
  Step H g w0 w lo ((convert s t c).run P w) r.1 r.2:=by
 unfold GB at h;split at h
 ·rename_i e hs;split at h
  ·rename_i he;split at h
   ·rename_i b o n cl;split at h
    ·rename_i es els hb;obtain ⟨hc,hk⟩:=bJ h;rw[Z9] at hc;have hst:s=t:=qan hc.1;have hn:0<n:=qai hc.2;subst hst;have hx0:=hx;rw[VR,hb] at hx;obtain ⟨h0,a,cap,rfl,e1,e2,e3,_⟩:=hx;obtain ⟨k,hk1,rfl⟩:=e3 hn;obtain ⟨ds,d1,d2,d3⟩:=hr.blk b _ hb;obtain ⟨k',arr,ty,m1,m2,m3⟩:=d3 o3;rw[hk1] at m1; cases m1;obtain ⟨g',r1,r2,r3,r4,r5,r6⟩:=DM hr hk hx0;have hkk:r.2=H.set b .dead:=by
      simp only[oW,hb] at hk;obtain ⟨_,hk⟩:=bJ hk;cases hk; rfl
     have hno:∀ c,g'.mu c≠some k:=λc hc=>by
      have hcl:=(r1.dom c k hc).1;rw[r4] at hcl;obtain ⟨C,hC⟩:∃ C,H[c]? = some C:=⟨_,Z7 hcl⟩
      obtain ⟨C',hC',hbt⟩:=r2.blk c C hC;by_cases ecb:c=b
      ·subst ecb;rw[hkk,qaE hcl] at hC';cases hC';have:=r1.blk c .dead (by rw[hkk,qaE hcl]);rw[show g'.mu c=none from this] at hc; cases hc
      ·rw[hkk,qao (qbi ecb),hC] at hC';cases hC';have hmu:g.mu c=some k∨C=.dead∨C=.hole:=by
        cases C with
        | box _=>left; exact(show g'.mu c=g.mu c from hbt).symm.trans hc
        | row wr es' els'=>cases wr with
         | true=>left; exact hbt.2.2.1.symm.trans hc
         | false=>left; exact(hbt.2.2.2.2 rfl).1.symm.trans hc
        | rng _=>left; exact hbt.1.symm.trans hc
        | mp _ _ _=>left; exact(show g'.mu c=g.mu c from hbt).symm.trans hc
        | dead=>right; left; rfl
        | hole=>right; right; rfl
       rcases hmu with h1 | rfl | rfl
       ·exact ecb (hr.inj c b k h1 hk1)
       ·have:=r1.blk c .dead (by rw[hkk,qao (qbi ecb)]; exact hC);rw[show g'.mu c=none from this] at hc; cases hc
       ·have:=r1.blk c .hole (by rw[hkk,qao (qbi ecb)]; exact hC);rw[show g'.mu c=none from this] at hc; cases hc
     obtain ⟨q1,q0,q2⟩:=r1.Zn (hr.dom b k hk1).2.1 m2 hno (arr.size,arr.size+1);refine⟨_,_,g',?_,q1,q2 r2 hk1,VR.gh q0 _ _ r3,qc3 r4.symm,r5,r6⟩;have hsh:w.shape? k=some (ty,arr.size):=by unfold World.shape?; rw[m2]
     rw[<-wH m2];simp[convert,qap hs,qap he,markStringish,hsh]
    ·cases h
   ·cases h
  ·cases h
 ·cases h
end
section
open Go.RowKit
variable {H H':Heap} {g g':Gh} {w0 w w':World} {cx:Cx} {s:St} {a:Act} {F:Fence} {n:Nat}
def iJ (H:Heap) (g:Gh) (w0 w:World) (lo:Nat) (r:R) (e:Ending) (w':World):Prop:=∃ g',Rel r.2 g' w0 w'/\Ext H g w r.2 g' w'/\H.length<=r.2.length/\(∀ b,b<lo->b<H.length->r.2[b]? = H[b]?)/\g'.S=g.S ∧
  match r.1,e with
  | .ret x,.returned c=>VR r.2 g' w' x c
  | .pan x,.panicked ch=>∃ c,ch=[{ v:=c,recovered:=false }]/\VR r.2 g' w' x c
  | _,_=>False
structure rl (cx:Cx) (Bs:Heap->Gh->World->Prop) (call:bB):Prop where
 up:∀ (H:Heap) (g:Gh) (w:World) (H':Heap) (g':Gh) (w':World),Bs H g w->Ext H g w H' g' w'->Bs H' g' w'
 yl:∀ (b:Nat) (args:List A) (H:Heap) (lo:Nat) (r:R),call (cx.P.funcs.size+b) args H lo=some r->∀ (F:Fence) (n l:Nat) (g:Gh) (w0 w:World) (cargs:List Value),iL F->Bs H g w->Rel H g w0 w ->
  (∀ (G:Nat) (vs:List Value),cx.glob G=some vs->bS H g w G 0 vs)->bL H g w args cargs->g.mu b=some l->YieldAt F n cx.P l cargs.toArray w (iJ H g w0 w lo r)
structure eO (cx:Cx) (Bs:Heap->Gh->World->Prop) (call:bB):Prop extends rl cx Bs call where
 fn:∀ (k:Nat) (args:List A) (H:Heap) (lo:Nat) (r:R),k<cx.P.funcs.size->call k args H lo=some r->∀ (F:Fence) (n:Nat) (g:Gh) (w0 w:World) (cargs:List Value),iL F->F.round=none->Bs H g w->Rel H g w0 w ->
  (∀ (G:Nat) (vs:List Value),cx.glob G=some vs->bS H g w G 0 vs)->bL H g w args cargs->CallsIn F n cx.P k cargs.toArray w (iJ H g w0 w lo r)
 ct:∀ (k:Nat) (args:List A) (H:Heap) (lo:Nat) (r:R),k<cx.P.funcs.size->cx.cut k≠0->cx.cut k<=H.length->call k args H lo=some r->r.2.length=H.length/\∀ b,cx.cut k<=b->r.2[b]? = H[b]?
theorem kz {P:Program} {k:Nat} (hk:dk P k=true):k<P.funcs.size:=by
 unfold dk at hk;cases hf:P.funcs[k]? with
 | none=>rw[hf] at hk; cases hk
 | some fn=>exact(qaj.1 hf).1
def lK (cx:Cx):Prop:=∀ k args r,(cx.isOrc k=true∨cx.isOrcV k=true∨cx.deep k=true)->cx.C k args=some r->fX cx.P cx.glob k args r
theorem O6 {ev:Operand->Value} {c:Call} {gop:Operand} (hc:c.callee=.value gop) {k:Nat} {ds es:Array Value} (hv:ev gop=.func (.func k) ds es) (hk:dk cx.P k=true) (ty:TypeId) (w:World) :
  (do let d <-resolve ev c ty; invoke d.target d.args:Sem Next).run cx.P w=.ok (.enter k (ds++c.args.map ev++es)) w:=by
 unfold dk at hk;cases hf:cx.P.funcs[k]? with
 | none=>rw[hf] at hk; cases hk
 | some fn=>
  rw[hf] at hk;simp only[Z9,qa3] at hk;have h1:¬ fn.body=none:=by intro hb; rw[hb] at hk; simp at hk
  have h2:¬ fn.name = "runtime.NumGoroutine" := by simpa using hk.2
  simp[resolve,hc,hv,Deferred.ofValue,invoke,callFunc,program,Sem.run,hf,h1,h2]
theorem mo {ev:Operand->Value} {o:Oper} {k:Nat} {args:List A} (hs:wz cx s g w0 o.op ev w) (h:callee? cx s o.op=some (k,args)):dk cx.P k=true ∧
  ∃ cargs:List Value,(execOp ev o).run cx.P w=.ok (.enter k cargs.toArray) w/\bL s.H g w args cargs:=by
 unfold callee? at h;split at h
 ·rename_i c ho;rw[ho] at hs;split at h
  ·rename_i gop hgop;split at h
   ·rename_i k' first cap hf
    obtain ⟨hcb,h⟩:=bJ h;cases h;have hgv:=hs.one gop (by simp[Op.operands,Call.operands,hgop]);rw[hf,VR] at hgv;obtain ⟨ds,es,hev,h1,h2⟩:=hgv;refine⟨hcb,ds.toList++(c.args.toList.map ev)++es.toList,?_,(h1.append (hs.many _ (λx hx=>by simp[Op.operands,Call.operands,hgop]; exact .inr (by simpa using hx)))).append h2⟩;have:=O6 (cx:=cx) hgop hev hcb o.type w;unfold execOp;rw[ho];refine this.trans ?_;congr 2;apply qcc;simp
   ·cases h
  ·cases h
 ·cases h
theorem I4 {ev:Operand->Value} {o:Oper} {b:Nat} {args:List A} (hs:wz cx s g w0 o.op ev w) (h:yldOf? cx s o.op=some (b,args)) (hb:AU s.H b=true) :
  ∃ (l:Nat) (cargs:List Value),(execOp ev o).run cx.P w=(Instr.yield l cargs.toArray).run cx.P w/\bL s.H g w args cargs/\g.mu b=some l:=by
 have hblk:∃ st,s.H[b]? = some (.rng st):=by
  unfold AU at hb;split at hb
  ·rename_i st h; exact⟨st,h⟩
  ·cases hb
 obtain ⟨st,hst⟩:=hblk;unfold yldOf? at h;split at h
 ·rename_i c ho;rw[ho] at hs;split at h
  ·rename_i gop hgop;split at h
   ·rename_i b' hf;cases h;have hgv:=hs.one gop (by simp[Op.operands,Call.operands,hgop]);rw[hf,VR,hst] at hgv;obtain ⟨l,hl,hev⟩:=hgv;refine⟨l,c.args.toList.map ev,?_,hs.many _ (λx hx=>by simp[Op.operands,Call.operands,hgop]; exact .inr (by simpa using hx)),hl⟩;unfold execOp;rw[ho];have ea:(c.args.toList.map ev).toArray=c.args.map ev:=by apply qcc; simp
    rw[ea];simp[resolve,hgop,hev,Deferred.ofValue,invoke]
   ·cases h
  ·cases h
 ·cases h
theorem Marks.n7 {B:Nat} {W W':World} {ds:List Deferred} (h:Marks B W ds) (hk:∀ (k:Nat) (x:Option (List Deferred)),W.heap[k]? = some (.deferred x)->W'.heap[k]? = some (.deferred x)):Marks B W' ds:=by
 obtain ⟨rs,e,h2,h3⟩:=h;exact⟨rs,e,h2,λr hr=>⟨(h3 r hr).1,hk r _ (h3 r hr).2⟩⟩
structure Mb where
 B:Nat
 base:List Deferred
 free:Bool
def jP (mb:Mb) (W:World) (ds:List Deferred):Prop:=∃ ms,ds=ms++mb.base/\Marks mb.B W ms/\(mb.free=false->ms=[])
theorem jP.n7 {mb:Mb} {W W':World} {ds:List Deferred} (h:jP mb W ds) (hk:∀ (k:Nat) (x:Option (List Deferred)),W.heap[k]? = some (.deferred x)->W'.heap[k]? = some (.deferred x)):jP mb W' ds:=
 let ⟨ms,e,h1,h2⟩:=h; ⟨ms,e,h1.n7 hk,h2⟩
theorem jP.start (B:Nat) (W:World) (ds:List Deferred) (fr:Bool):jP ⟨B,ds,fr⟩ W ds:=⟨[],rfl,Marks.nil _ _,λ_=>rfl⟩
structure Good (cx:Cx) (N:Nat) (mb:Mb) (lo:Nat) (H0:Heap) (gs:Gh) (ws w0:World) (s:St) (g:Gh) (a:Act) (w:World):Prop where
 sr:SR cx s g w0 a w
 ext:Ext H0 gs ws s.H g w
 len:H0.length<=s.H.length
 low:∀ b,b<lo->b<H0.length->s.H[b]? = H0[b]?
 siz:a.tmps.size=N
 dfr:jP mb w a.defers
 mbw:mb.B<=w.heap.size
 st:g.S=gs.S
variable {N lo:Nat} {mb:Mb} {H0:Heap} {gs:Gh} {ws:World} {Bs:Heap->Gh->World->Prop}
theorem Act.rV (a:Act) (d:Option Nat) (v:Value):(a.put d v).tmps.size=a.tmps.size:=by cases d<;>simp[Act.put]
theorem Act.A9 (a:Act) (d:Option Nat) (v:Value):(a.put d v).defers=a.defers:=by cases d<;>rfl
theorem Good.step (h:Good cx N mb lo H0 gs ws w0 s g a w) {H':Heap} (hr:Rel H' g' w0 w') (he:Ext s.H g w H' g' w') (hl:s.H.length<=H'.length) (hlo:∀ b,b<lo->b<s.H.length->H'[b]? = s.H[b]?) (hst:g'.S=g.S) {dst:Option Nat} {x:A} {c:Value} (hx:VR H' g' w' x c) (hd:∀ d,dst=some d->d<N) :
  Good cx N mb lo H0 gs ws w0 (({ s with H:=H' }:St).put dst x) g' (a.put dst c) w':=by
 have hH:(({ s with H:=H' }:St).put dst x).H=H':=by cases dst<;>rfl
 refine⟨h.sr.step hr he hx (by rw[h.siz]; exact hd),by rw[hH]; exact h.ext.trans he,by rw[hH]; exact qaC h.len hl,λb hb hb'=>?_,by rw[Act.rV]; exact h.siz,by rw[Act.A9]; exact h.dfr.n7 he.kept,qaC h.mbw he.size,hst.trans h.st⟩;rw[hH,hlo b hb (qaz hb' h.len)];exact h.low b hb hb'
theorem Good.same (h:Good cx N mb lo H0 gs ws w0 s g a w) {dst:Option Nat} {x:A} {c:Value} (hx:VR s.H g w x c) (hd:∀ d,dst=some d->d<N):Good cx N mb lo H0 gs ws w0 (s.put dst x) g (a.put dst c) w:=
 h.step (H':=s.H) h.sr.rel (Ext.refl h.sr.rel) (qab _) (λ_ _ _=>rfl) rfl hx hd
theorem EB {x:A} {p q:Option R} {r:R} {H:Heap} {g:Gh} {w:World} {c:Value} (h:bn x p q=some r) (hv:VR H g w x c):∃ b,c=.bool b/\(if b=true then p else q)=some r:=by
 cases x with
 | nq els=>
  rw[VR] at hv;obtain ⟨b,rfl,hb⟩:=hv;refine⟨b,rfl,?_⟩;simp only[bn,O3] at h;cases els with
  | nil=>
   obtain ⟨e,h⟩:=ED h;cases b
   ·exact h
   ·simp only[qb4]; rw[e]; exact h
  | cons a l=>
   cases b with
   | false=>exact h
   | true=>cases hb rfl
 | v y=>
  cases y with
  | bool b=>
   rw[VR] at hv;subst hv;refine⟨b,rfl,?_⟩;cases b<;>exact h
  | _=>cases h
 | _=>cases h
theorem rv {β:Type} {x:A} {p q:Option β} {r:β} (h:dP x p q=some r):∃ b,x=.v (.bool b)/\(if b then p else q)=some r:=by
 unfold dP at h;split at h
 ·rename_i b; exact⟨b,rfl,by cases b<;>exact h⟩
 ·cases h
theorem gx {Q:Exit->Act->World->Prop} {next:Act->World->Prop} {o:Oper} {res:Result Next} {c:Value} {w':World} (h:res=.ok (.value c) w'∨(res=.ok .skip w'/\c=undef)) (hn:next (a.put o.dst c) w'):o.uponIn F n cx.P a next Q res:=by
 rcases h with rfl | ⟨rfl,rfl⟩<;>exact hn
theorem eL {Q:Exit->Act->World->Prop} {next:Act->World->Prop} {o:Oper} (hF:iL F) (hnd:∀ c,o.op≠.defer c) (h:o.uponIn F n cx.P a next Q ((execOp a.eval o).run cx.P w)):o.wpIn F n cx.P a w next Q:=by
 refine⟨λf _=>hF.2.1 f,?_⟩;rw[qd9 _ _ _ hnd];exact h
theorem pf {β:Type} {f lo:Nat} {o:Oper} {k:A->Heap->Option β} {r:β} (h:bV cx f lo o s k=some r):∀ c,o.op≠.defer c:=λc hc=>by
 unfold bV at h; rw[hc] at h; cases h
theorem Cj {call:bB} (hcall:eO cx Bs call) (horc:lK cx) (hF:iL F) {f:Nat} {o:Oper} {k:St->Option R} {pan:A->St->Option R} {r:R} {next:Act->World->Prop} {Q:Exit->Act->World->Prop}
  (hb0:Bs H0 gs ws) (hg:Good cx N mb lo H0 gs ws w0 s g a w) (hd:∀ d,o.dst=some d->d<N) (h:uW cx call f lo o s k pan=some r)
  (hk:∀ s' g' a' w',Good cx N mb lo H0 gs ws w0 s' g' a' w'->k s'=some r->next a' w')
  (hp:∀ x s' g' w' c,Good cx N mb lo H0 gs ws w0 s' g' a w'->VR s'.H g' w' x c->pan x s'=some r->Q (.panic [{ v:=c,recovered:=false }]) a w'):o.wpIn F n cx.P a w next Q:=by
 have hs:=hg.sr.WU o.op;have direct:bV cx f lo o s (λx H=>k ({ s with H:=H }.put o.dst x))=some r->o.wpIn F n cx.P a w next Q:=λh=>by
  obtain ⟨c,w',x,H',g',e1,e2,e3,e4,e5,e6,e7,e8⟩:=my hs h;exact eL hF (pf h) (gx e1 (hk _ _ _ _ (hg.step e3 e4 e6 e7 e8 e5 hd) e2))
 unfold uW at h;split at h
 ·rename_i c x y ho;obtain ⟨z,h0,h⟩:=bN h;obtain ⟨b,hb,h0⟩:=rv h0;have hc:=hs.one c (by rw[ho]; simp[Op.operands]);have hx:=hs.one x (by rw[ho]; simp[Op.operands]);have hy:=hs.one y (by rw[ho]; simp[Op.operands]);rw[hb,VR] at hc;refine eL hF (by rw[ho]; simp) (gx (c:=if b then a.eval x else a.eval y) (w':=w) (.inl ?_) ?_)
  ·unfold execOp;rw[ho];simp[hc,asBool]
  ·cases b
   ·cases h0; exact hk _ _ _ _ (hg.same hy hd) h
   ·cases h0; exact hk _ _ _ _ (hg.same hx hd) h
 ·rename_i x ho;have hx:=hs.one x (by rw[ho]; simp[Op.operands]);unfold KO at h;split at h
  ·rename_i t y hy;rw[hy] at hx;have hx':=hx;rw[VR] at hx;obtain ⟨d,hd',_⟩:=hx;refine eL hF (by rw[ho]; simp) ?_;have hrun:(execOp a.eval o).run cx.P w=.halt (.panic (a.eval x)) w:=by
    unfold execOp;rw[ho];show (do pure (.value (<-Instr.panic (a.eval x))):Sem Next).run cx.P w=_;rw[hd'];simp[Instr.panic,goPanic,Sem.run,Result.andThen]
   rw[hrun];exact hp _ s g w _ hg hx' h
  ·cases h
 ·rename_i t' n' parts ho;rw[bP] at h;split at h
  ·obtain ⟨q,h1,h2⟩:=bN h;obtain ⟨d,w',g',e1,e2,e3,e4,e5,e6,e7⟩:=tJ hg.sr.rel lo h1 (hs.IA parts (by rw[ho]; simp[Op.operands]; exact λa b h=>⟨a,h⟩));refine eL hF (by rw[ho]; simp) (gx (.inl ?_) (hk _ _ _ _ (hg.step e2 e3 e5 e6 e7 e4 hd) h2));unfold execOp;rw[ho];exact jY e1
  ·exact direct h
 ·rename_i t' n' c' ho;rw[bP] at h;split at h
  ·obtain ⟨q,h1,h2⟩:=bN h;obtain ⟨d,w',g',e1,e2,e3,e4,e5,e6,e7⟩:=ml hg.sr.rel lo h1 (hs.one n' (by rw[ho]; simp[Op.operands])) (hs.one c' (by rw[ho]; simp[Op.operands]));refine eL hF (by rw[ho]; simp) (gx (.inl ?_) (hk _ _ _ _ (hg.step e2 e3 e5 e6 e7 e4 hd) h2));unfold execOp;rw[ho];exact jY e1
  ·exact direct h
 ·rename_i t' t'' x ho;rw[bP] at h;split at h
  ·obtain ⟨q,h1,h2⟩:=bN h;obtain ⟨d,w',g',e1,e2,e3,e4,e5,e6,e7⟩:=zZ hg.sr.rel h1 (hs.one x (by rw[ho]; simp[Op.operands]));refine eL hF (by rw[ho]; simp) (gx (.inl ?_) (hk _ _ _ _ (hg.step e2 e3 e5 e6 e7 e4 hd) h2));unfold execOp;rw[ho];exact jY e1
  ·exact direct h
 ·rename_i c ho;rw[bP] at h;split at h
  ·rw[uT] at h;unfold Me at h;split at h
   ·rename_i p hy;obtain ⟨b,args⟩:=p;obtain ⟨hrb,h⟩:=bJ h;obtain ⟨l,cargs,hrun,hv,hl⟩:=I4 hs hy hrb;refine eL hF (by rw[ho]; simp) ?_;replace h:=bN h;obtain ⟨⟨out,H'⟩,hy,h⟩:=h;obtain ⟨fn',tm',as',bo',hrun',hR⟩:=hcall.yl b args s.H lo (out,H') hy F (n - 1) l g w0 w cargs hF (hcall.up _ _ _ _ _ _ hb0 hg.ext) hg.sr.rel hg.sr.gl hv hl;rw[hrun,hrun',Oper.uponIn_round];refine⟨λhd=>(by rw[hF.1] at hd; cases hd),hR.mono ?_⟩
    rintro e w' ⟨g',e1,e2,e3,e4,e6,e5⟩
    cases out with
    | ret x=>
     cases e with
     | returned c'=>exact hk _ _ _ _ (hg.step e1 e2 e3 e4 e6 e5 hd) h
     | panicked _=>exact e5.elim
     | outgrown=>exact e5.elim
    | pan x=>cases h
   replace h:=bN h;obtain ⟨⟨k',args⟩,hce,h⟩:=h;obtain ⟨hcb,cargs,hrun,hv⟩:=mo hs hce;refine eL hF (by rw[ho]; simp) ?_;rw[hrun,Oper.uponIn_enter];refine⟨λhd=>(by rw[hF.1] at hd; cases hd),?_⟩;rw[bP] at h;split at h
   ·rename_i hiso;replace h:=bN h;obtain ⟨y,hy,h⟩:=h;have hr:=hg.sr.rel;have hst:∀ k o,w.heap.size<=k->ft s.H g k o:=λk o hk=>⟨hr.out k o hk,λb hb=>absurd (hr.dom b k hb).2.2 o3⟩
    have hcallok:=horc k' _ y (.inl hiso) hy (ft s.H g) w cargs hst (λG vs hG j v hj=>let ⟨e1,e2⟩:=hg.sr.gl G vs hG j v hj; ⟨e1,e2,λb hb=>by cases hb⟩) (Bp hr hv);refine(iw hF hcallok).mono ?_
    rintro e w' ⟨c',rfl,hb,hvr⟩
    exact hk _ _ _ _ (hg.step (H':=s.H) (hr.kK hb) (Ext.below hr hb) (qab _) (λ_ _ _=>rfl) rfl (VR.back (λ_ _ h=>h) hvr) hd) h
   ·replace h:=bN h;obtain ⟨⟨out,H'⟩,hy,h⟩:=h;have hci:CallsIn F.plain (n - 1) cx.P k' cargs.toArray w _:=hcall.fn k' args s.H lo (out,H') (kz hcb) hy F.plain (n - 1) g w0 w cargs hF rfl (hcall.up _ _ _ _ _ _ hb0 hg.ext) hg.sr.rel hg.sr.gl hv;have hci':CallsIn F (n - 1) cx.P k' cargs.toArray w _:=hci;refine hci'.mono ?_
    rintro e w' ⟨g',e1,e2,e3,e4,e6,e5⟩
    cases out with
    | ret x=>
     cases e with
     | returned c'=>exact hk _ _ _ _ (hg.step e1 e2 e3 e4 e6 e5 hd) h
     | panicked _=>exact e5.elim
     | outgrown=>exact e5.elim
    | pan x=>
     cases e with
     | returned _=>exact e5.elim
     | panicked ch=>
      obtain ⟨c',rfl,hvr⟩:=e5;have hg':=hg.step (dst:=none) (x:=x) e1 e2 e3 e4 e6 hvr (λd hd=>by cases hd);exact hp x { s with H:=H' } g' w' c' hg' hvr h
     | outgrown=>exact e5.elim
  ·exact direct h
 ·exact direct h
theorem lT {ops:Array Oper} {o:Oper} {t:Nat} {want:Bool} (h:cJ ops o=some (t,want)) {b:Bool} (hg:a.tmps.getD t undef=.bool b):Region.wanted o (yielded ops a.tmps)=(b==want):=by
 rw[lh] at h;split at h
 ·rename_i j want' hgd;cases hd:(ops[j]?).bind (·.dst) with
  | none=>rw[hd] at h; cases h
  | some t'=>
   rw[hd] at h;cases h;have ht:a.tmps[t]? = some (.bool b):=by
    rw[qbf] at hg;cases hx:a.tmps[t]? with
    | none=>rw[hx] at hg; cases hg
    | some v=>rw[hx] at hg; simp at hg; rw[hg]
   simp only[Region.wanted,hgd,yielded,hd,Z6,ht]
   cases b<;>cases want<;>rfl
 ·cases h
theorem n6 {ops:Array Oper} {o:Oper} {t:Nat} {want:Bool} (h:cJ ops o=some (t,want)) {y:Array Value} (hg:a.tmps.getD t undef=.tuple y):Region.wanted o (yielded ops a.tmps)=false:=by
 rw[lh] at h;split at h
 ·rename_i j want' hgd;cases hd:(ops[j]?).bind (·.dst) with
  | none=>rw[hd] at h; cases h
  | some t'=>
   rw[hd] at h;cases h;rw[qbf] at hg;simp only[Region.wanted,hgd,yielded,hd,Z6]
   cases hx:a.tmps[t]? with
   | none=>cases want<;>rfl
   | some v=>rw[hx] at hg; simp at hg; subst hg; cases want<;>rfl
 ·cases h
theorem py {β:Type} {x:A} {want:Bool} {p q:Option β} {r:β} (h:sm x want p q=some r):(∃ b,x=.v (.bool b)/\(if b==want then p else q)=some r)∨∃ y,x=.v (.tuple y)/\q=some r:=by
 unfold sm at h;split at h
 ·rename_i b; exact .inl ⟨b,rfl,by cases b<;>cases want<;>exact h⟩
 ·exact .inr ⟨_,rfl,h⟩
 ·cases h
end
section
open Go.RowKit
variable {H H':Heap} {g g':Gh} {w0 w w':World}
theorem ult {b:Nat} {H:Heap} {B:aA} (h:H[b]? = some B):decide (b<H.length)=true:=qac (qad.1 h).1
mutual
theorem VR.under:∀ (a:A) (c:Value),VR H g w a c->A.under H.length a=true
 | .any,_,_=>rfl
 | .v _,_,_=>rfl
 | .ptr b o,c,h=>by
  rw[VR] at h;cases hb:H[b]? with
  | none=>rw[hb] at h; exact h.elim
  | some B=>exact ult hb
 | .ep b i o,c,h=>by
  rw[VR] at h;cases hb:H[b]? with
  | none=>rw[hb] at h; exact h.elim
  | some B=>exact ult hb
 | .ip cs,c,h=>by rw[VR] at h; obtain ⟨_,_,ds,_,_,h3⟩:=h; rw[A.under]; exact bL.under cs ds h3
 | .imm els cl,c,h=>by rw[VR] at h; obtain ⟨_,_,ds,_,_,_,_,_,_,h6⟩:=h; rw[A.under]; exact bK.under els ds h6
 | .sl b o n cl,c,h=>by
  rw[VR] at h;cases hb:H[b]? with
  | none=>rw[hb] at h; exact h.elim
  | some B=>exact ult hb
 | .nq _,_,_=>rfl
 | .mr b,c,h=>by
  rw[VR] at h;cases hb:H[b]? with
  | none=>rw[hb] at h; exact h.elim
  | some B=>exact ult hb
 | .mv k ks vs,c,h=>by rw[VR] at h; obtain ⟨_,_,_,_,_,_,_,h5⟩:=h; rw[A.under]; exact bL.under vs _ h5
 | .yld b,c,h=>by
  rw[VR] at h;cases hb:H[b]? with
  | none=>rw[hb] at h; exact h.elim
  | some B=>exact ult hb
 | .agg cs,c,h=>by rw[VR] at h; obtain ⟨ds,_,h2⟩:=h; rw[A.under]; exact bL.under cs _ h2
 | .tup cs,c,h=>by rw[VR] at h; obtain ⟨ds,_,h2⟩:=h; rw[A.under]; exact bL.under cs _ h2
 | .fn f p q,c,h=>by rw[VR] at h; obtain ⟨ds,es,_,h2,h3⟩:=h; rw[A.under,bL.under p _ h2,bL.under q _ h3]; rfl
 | .ifc t x,c,h=>by rw[VR] at h; obtain ⟨d,_,h2⟩:=h; rw[A.under]; exact VR.under x d h2
theorem bL.under:∀ (cs:List A) (ds:List Value),bL H g w cs ds->bw H.length cs=true
 | [],_,_=>rfl
 | a :: as,_,h=>by rw[bL] at h; obtain ⟨d,ds',_,h2,h3⟩:=h; rw[bw,VR.under a d h2,bL.under as ds' h3]; rfl
theorem bK.under:∀ (cs:List (List A)) (ds:List (List Value)),bK H g w cs ds->aH H.length cs=true
 | [],_,_=>rfl
 | a :: as,_,h=>by rw[bK] at h; obtain ⟨d,ds',_,h2,h3⟩:=h; rw[aH,bL.under a d h2,bK.under as ds' h3]; rfl
end
theorem nL.under {b:Nat} {B:aA} (h:nL H g w b B):B.under H.length=true:=by
 cases B with
 | box cs=>obtain ⟨_,_,_,_,_,h3⟩:=h; exact bL.under cs _ h3
 | row wr es els=>cases wr with
  | true=>obtain ⟨ds,h1,_⟩:=h; exact bK.under els ds h1
  | false=>exact bK.under els _ h.1
 | rng _=>rfl
 | mp _ _ _=>obtain ⟨_,_,_,_,_,_,h4⟩:=h; exact bL.under _ _ h4
 | dead=>rfl
 | hole=>rfl
structure mX (L:Nat) (H:Heap) (g:Gh) (H':Heap) (g':Gh):Prop where
 stab:∀ k o,ft H g k o->ft H' g' k o
 blk:∀ b,b<L->H'[b]? = H[b]?
 mu:∀ (b:Nat) (B:aA),b<L->H[b]? = some B->g'.mu b=g.mu b
 ga:∀ (b es:Nat) (els:List (List A)),b<L->H[b]? = some (.row false es els)->g'.ga b=g.ga b
 lr:∀ (b:Nat) (st:ku),b<L->H[b]? = some (.rng st)->g'.lr b=g.lr b
theorem bS.to {L:Nat} (ha:mX L H g H' g') {k off:Nat} {ds:List Value} (h:bS H g w k off ds):bS H' g' w k off ds:=λj v hj=>⟨(h j v hj).1,ha.stab _ _ (h j v hj).2⟩
mutual
theorem VR.to {L:Nat} (ha:mX L H g H' g'):∀ (a:A) (c:Value),A.under L a=true->VR H g w a c->VR H' g' w a c
 | .any,_,_,_=>ZT
 | .v x,c,_,h=>by rw[VR] at h ⊢; exact h
 | .ptr b o,c,hu,h=>by
  rw[A.under] at hu;have hu:=qai hu;rw[VR] at h ⊢;rw[ha.blk b hu];cases hb:H[b]? with
  | none=>rw[hb] at h; exact h
  | some B=>
   rw[hb] at h;have hm:=ha.mu b B hu hb;cases B with
   | box _=>obtain ⟨k,h1,h2⟩:=h; exact⟨k,hm.trans h1,h2⟩
   | _=>exact h
 | .ep b i o,c,hu,h=>by
  rw[A.under] at hu;have hu:=qai hu;rw[VR] at h ⊢;rw[ha.blk b hu];cases hb:H[b]? with
  | none=>rw[hb] at h; exact h
  | some B=>
   rw[hb] at h;have hm:=ha.mu b B hu hb;cases B with
   | row wr es els=>cases wr with
    | true=>obtain ⟨h0,k,h1,h2⟩:=h; exact⟨h0,k,hm.trans h1,h2⟩
    | false=>exact h
   | _=>exact h
 | .ip cs,c,hu,h=>by
  rw[A.under] at hu;rw[VR] at h ⊢;obtain ⟨k,off,ds,h1,h2,h3⟩:=h;exact⟨k,off,ds,h1,h2.to ha,bL.to ha cs ds hu h3⟩
 | .imm els cl,c,hu,h=>by
  rw[A.under] at hu;rw[VR] at h ⊢;obtain ⟨a,cap,ds,es,h1,h2,h3,h4,h5,h6⟩:=h;exact⟨a,cap,ds,es,h1,h2,h3,h4,λhp=>let ⟨k,off,e1,e2⟩:=h5 hp; ⟨k,off,e1,e2.to ha⟩,bK.to ha els ds hu h6⟩
 | .sl b o n cl,c,hu,h=>by
  rw[A.under] at hu;have hu:=qai hu;rw[VR] at h ⊢;rw[ha.blk b hu];cases hb:H[b]? with
  | none=>rw[hb] at h; exact h
  | some B=>
   rw[hb] at h;have hm:=ha.mu b B hu hb;cases B with
   | row wr es els=>cases wr with
    | true=>
     obtain ⟨h0,a,cap,h1,h2,h3,h4,h5⟩:=h;exact⟨h0,a,cap,h1,h2,h3,λhp=>let ⟨k,e1,e2⟩:=h4 hp; ⟨k,hm.trans e1,e2⟩,λp q r t=>let ⟨k,arr,ty,e1,e2,e3,e4⟩:=h5 p q r t; ⟨k,arr,ty,hm.trans e1,e2,e3,e4⟩⟩
    | false=>
     obtain ⟨h0,a,cap,h1,h2,h3,h4,h5⟩:=h;exact⟨h0,a,cap,h1,h2,h3,λhp=>let ⟨k,off,e1,e2⟩:=h4 hp; ⟨k,off,e1,by rw[ha.ga b es els hu hb]; exact e2.to ha⟩,λp q r t=>let ⟨k,arr,ty,e1,e2,e3,e4⟩:=h5 p q r t; ⟨k,arr,ty,hm.trans e1,e2,e3,e4⟩⟩
   | _=>exact h
 | .nq _,c,hu,h=>by rw[VR] at h ⊢; exact h
 | .mr b,c,hu,h=>by
  rw[A.under] at hu;have hu:=qai hu;rw[VR] at h ⊢;rw[ha.blk b hu];cases hb:H[b]? with
  | none=>rw[hb] at h; exact h
  | some B=>
   rw[hb] at h;have hm:=ha.mu b B hu hb;cases B with
   | mp _ _ _=>obtain ⟨k,e1,e2⟩:=h; exact⟨k,hm.trans e1,e2⟩
   | _=>exact h
 | .mv k ks vs,c,hu,h=>by
  rw[A.under] at hu;rw[VR] at h ⊢;obtain ⟨r,arr,cl,h1,h2,h3,h4,h5⟩:=h;exact⟨r,arr,cl,h1,ha.stab _ _ h2,h3,h4,bL.to ha vs _ hu h5⟩
 | .yld b,c,hu,h=>by
  rw[A.under] at hu;have hu:=qai hu;rw[VR] at h ⊢;rw[ha.blk b hu];cases hb:H[b]? with
  | none=>rw[hb] at h; exact h
  | some B=>
   rw[hb] at h;have hm:=ha.mu b B hu hb;cases B with
   | rng _=>obtain ⟨k,e1,e2⟩:=h; exact⟨k,hm.trans e1,e2⟩
   | _=>exact h
 | .agg cs,c,hu,h=>by
  rw[A.under] at hu;rw[VR] at h ⊢;obtain ⟨ds,h1,h2⟩:=h;exact⟨ds,h1,bL.to ha cs _ hu h2⟩
 | .tup cs,c,hu,h=>by
  rw[A.under] at hu;rw[VR] at h ⊢;obtain ⟨ds,h1,h2⟩:=h;exact⟨ds,h1,bL.to ha cs _ hu h2⟩
 | .fn f p q,c,hu,h=>by
  rw[A.under,Z9] at hu;rw[VR] at h ⊢;obtain ⟨ds,es,h1,h2,h3⟩:=h;exact⟨ds,es,h1,bL.to ha p _ hu.1 h2,bL.to ha q _ hu.2 h3⟩
 | .ifc t x,c,hu,h=>by
  rw[A.under] at hu;rw[VR] at h ⊢;obtain ⟨d,h1,h2⟩:=h;exact⟨d,h1,VR.to ha x d hu h2⟩
theorem bL.to {L:Nat} (ha:mX L H g H' g'):∀ (cs:List A) (ds:List Value),bw L cs=true->bL H g w cs ds->bL H' g' w cs ds
 | [],_,_,h=>by rw[bL] at h ⊢; exact h
 | a :: as,_,hu,h=>by
  rw[bw,Z9] at hu;rw[bL] at h ⊢;obtain ⟨d,ds',h1,h2,h3⟩:=h;exact⟨d,ds',h1,VR.to ha a d hu.1 h2,bL.to ha as ds' hu.2 h3⟩
theorem bK.to {L:Nat} (ha:mX L H g H' g'):∀ (cs:List (List A)) (ds:List (List Value)),aH L cs=true->bK H g w cs ds->bK H' g' w cs ds
 | [],_,_,h=>by rw[bK] at h ⊢; exact h
 | a :: as,_,hu,h=>by
  rw[aH,Z9] at hu;rw[bK] at h ⊢;obtain ⟨d,ds',h1,h2,h3⟩:=h;exact⟨d,ds',h1,bL.to ha a d hu.1 h2,bK.to ha as ds' hu.2 h3⟩
end
theorem nL.to {L:Nat} (ha:mX L H g H' g') {b:Nat} {B:aA} (hb:b<L) (hB:H[b]? = some B) (hu:B.under L=true) (h:nL H g w b B):nL H' g' w b B:=by
 have hm:=ha.mu b B hb hB;cases B with
 | box cs=>obtain ⟨k,arr,ty,h1,h2,h3⟩:=h; exact⟨k,arr,ty,hm.trans h1,h2,bL.to ha cs _ hu h3⟩
 | row wr es els=>cases wr with
  | true=>obtain ⟨ds,h1,h2,h3⟩:=h; exact⟨ds,bK.to ha els _ hu h1,h2,λhp=>let ⟨k,arr,ty,e1,e2⟩:=h3 hp; ⟨k,arr,ty,hm.trans e1,e2⟩⟩
  | false=>
   have hga:=ha.ga b es els hb hB;exact⟨by rw[hga]; exact bK.to ha els _ hu h.1,by rw[hga]; exact h.2⟩
 | rng st=>obtain ⟨k,h1,h2⟩:=h; exact⟨k,hm.trans h1,by rw[ha.lr b st hb hB]; exact h2⟩
 | mp _ _ _=>obtain ⟨k,arr,cl,h1,h2,h3,h4⟩:=h; exact⟨k,arr,cl,hm.trans h1,h2,h3,bL.to ha _ _ hu h4⟩
 | dead=>exact hm.trans h
 | hole=>exact hm.trans h
theorem Rel.back (hr:Rel H g w0 w) (hr':Rel H' g' w0 w') (he:Ext H g w H' g' w') (hst:g'.S=g.S) (hlow:∀ b,b<H.length->H'[b]? = H[b]?):Rel H g w0 w'/\Ext H g w H g w'/\mX H.length H' g' H g:=by
 have hbt:∀ (b:Nat) (B:aA),H[b]? = some B->BT g w g' w' b B B:=λb B hB=>by
  obtain ⟨B',hB',ht⟩:=he.blk b B hB;rw[hlow b (qad.1 hB).1,hB] at hB';cases hB';exact ht
 have hmu:∀ (b:Nat) (B:aA),H[b]? = some B->g'.mu b=g.mu b:=λb B hB=>by
  have ht:=hbt b B hB;cases B with
  | box _=>exact ht
  | row wr es els=>cases wr with
   | true=>exact ht.2.2.1
   | false=>exact(ht.2.2.2.2 rfl).1
  | rng _=>exact ht.1
  | mp _ _ _=>exact ht
  | dead=>
   have h1:g.mu b=none:=hr.blk b _ hB;have h2:g'.mu b=none:=hr'.blk b .dead (by rw[hlow b (qad.1 hB).1]; exact hB);rw[h1,h2]
  | hole=>
   have h1:g.mu b=none:=hr.blk b _ hB;have h2:g'.mu b=none:=hr'.blk b .hole (by rw[hlow b (qad.1 hB).1]; exact hB);rw[h1,h2]
 have hga:∀ (b es:Nat) (els:List (List A)),H[b]? = some (.row false es els)->g'.ga b=g.ga b:=λb es els hB=>by
  obtain ⟨_,⟨r,e1⟩,e2,_,_⟩:=hbt b _ hB;have h2:=(hr'.blk b _ (by rw[hlow b (qad.1 hB).1]; exact hB)).len;rw[e1,qar,e2] at h2;have:r=[]:=qaw o3;rw[e1,this,qaW]
 have ag:mX H.length H' g' H g:=by
  refine⟨λk o hs=>⟨hst ▸ hs.1,λb hb=>?_⟩,λb hb=>(hlow b hb).symm,λb B hb hB=>(hmu b B (by rw[<-hlow b hb]; exact hB)).symm,λb es els hb hB=>(hga b es els (by rw[<-hlow b hb]; exact hB)).symm,λb st hb hB=>(show g'.mu b=g.mu b/\g'.lr b=g.lr b from hbt b (.rng st) (by rw[<-hlow b hb]; exact hB)).2.symm⟩;have hlt:=(hr.dom b k hb).1;have hB:=Z7 hlt;obtain ⟨es,els,h1,h2⟩:=hs.2 b ((hmu b _ hB).trans hb);exact⟨es,els,by rw[<-hlow b hlt]; exact h1,h2⟩
 refine⟨⟨hr'.below,λb k hb=>?_,hr.inj,(λk o hk=>hst ▸ hr'.out k o hk),hr.own,λb B hB=>?_⟩,⟨λk o v hs hc=>⟨(he.cell k o v hs hc).1,hs⟩,λb B hB=>⟨B,hB,?_⟩,he.kept,he.size,λk arr cl hs hm=>⟨(he.map k arr cl hs hm).1,hs⟩,he.obj,λb k h=>.inl ⟨b,h⟩⟩,ag⟩
 ·have h1:=hr.dom b k hb;have h2:=hr'.dom b k ((hmu b _ (Z7 h1.1)).trans hb);exact⟨h1.1,h1.2.1,h2.2.2⟩
 ·have hlt:=(qad.1 hB).1;exact nL.to ag hlt (by rw[hlow b hlt]; exact hB) (hr.blk b B hB).under (hr'.blk b B (by rw[hlow b hlt]; exact hB))
 ·have ht:=hbt b B hB;cases B with
  | box _=>rfl
  | row wr es els=>cases wr with
   | true=>exact⟨rfl,rfl,rfl,ht.2.2.2⟩
   | false=>exact⟨rfl,⟨[],r8⟩,ht.2.2.1,qab _,λ_=>⟨rfl,(ht.2.2.2.2 rfl).2⟩⟩
  | rng _=>exact⟨rfl,rfl⟩
  | mp _ _ _=>rfl
  | dead=>trivial
  | hole=>trivial
def Gh.cut (g:Gh) (L:Nat):Gh:={ g with mu:=λb=>if b<L then g.mu b else none }
theorem Rel.cut (hr:Rel H g w0 w) {L:Nat} (hL:L<=H.length) (hu:∀ (b:Nat) B,b<L->H[b]? = some B->B.under L=true):Rel (H.take L) (g.cut L) w0 w/\mX L H g (H.take L) (g.cut L):=by
 have hmu:∀ {b k},(g.cut L).mu b=some k->b<L/\g.mu b=some k:=λ{b k} h=>by
  simp only[Gh.cut] at h;split at h
  ·rename_i hb; exact⟨hb,h⟩
  ·cases h
 have hget:∀ b,b<L->(H.take L)[b]? = H[b]?:=λb hb=>by rw[qaA,qaf hb]
 have ag:mX L H g (H.take L) (g.cut L):=by
  refine⟨λk o hs=>⟨hs.1,λb hb=>?_⟩,λb hb=>hget b hb,λb B hb _=>by simp[Gh.cut,hb],λb es els _ _=>rfl,λb st _ _=>rfl⟩;obtain ⟨h1,h2⟩:=hmu hb;obtain ⟨es,els,h3,h4⟩:=hs.2 b h2;exact⟨es,els,by rw[hget b h1]; exact h3,h4⟩
 refine⟨⟨hr.below,λb k hb=>?_,λb c k h1 h2=>hr.inj b c k (hmu h1).2 (hmu h2).2,hr.out,(λb k o h=>hr.own b k o (hmu h).2),λb B hB=>?_⟩,ag⟩
 ·obtain ⟨h1,h2⟩:=hmu hb;have:=hr.dom b k h2;exact⟨H4,this.2⟩
 ·have hb:b<L:=by have:=(qad.1 hB).1; rw[qba] at this; omega
  rw[hget b hb] at hB;exact nL.to ag hb hB (hu b B hb hB) (hr.blk b B hB)
theorem Ext.cut {H0:Heap} {gs:Gh} {ws:World} (he:Ext H0 gs ws H g w) {L:Nat} (hL:H0.length<=L):Ext H0 gs ws (H.take L) (g.cut L) w:=by
 have hst:∀ {k o},ft H g k o->ft (H.take L) (g.cut L) k o:=λ{k o} h2=>by
  refine⟨h2.1,λb hb=>?_⟩;simp only[Gh.cut] at hb;split at hb
  ·rename_i hlt;obtain ⟨es,els,h3,h4⟩:=h2.2 b hb;exact⟨es,els,by rw[qaA,qaf hlt]; exact h3,h4⟩
  ·cases hb
 refine⟨λk o v hs hc=>?_,λb B hB=>?_,he.kept,he.size,λk arr cl hs hm=>⟨(he.map k arr cl hs hm).1,hst (he.map k arr cl hs hm).2⟩,he.obj,λb k h=>he.fresh b k (by
  simp only[Gh.cut] at h;split at h
  ·exact h
  ·cases h)⟩
 ·obtain ⟨h1,h2⟩:=he.cell k o v hs hc;refine⟨h1,h2.1,λb hb=>?_⟩;simp only[Gh.cut] at hb;split at hb
  ·rename_i hlt;obtain ⟨es,els,h3,h4⟩:=h2.2 b hb;exact⟨es,els,by rw[qaA,qaf hlt]; exact h3,h4⟩
  ·cases hb
 ·obtain ⟨B',hB',ht⟩:=he.blk b B hB;have hb:b<L:=qaz (qad.1 hB).1 hL;refine⟨B',by rw[qaA,qaf hb]; exact hB',?_⟩;have e:(g.cut L).mu b=g.mu b:=by simp[Gh.cut,hb]
  cases B with
  | box _=>cases B' with
   | box _=>exact e.trans ht
   | row wr _ _=>exact ht
   | rng _=>exact ht
   | mp _ _ _=>exact ht
   | dead=>trivial
   | hole=>exact ht
  | row wr es els=>cases wr with
   | true=>cases B' with
    | box _=>exact ht
    | rng _=>exact ht
    | mp _ _ _=>exact ht
    | row wr' es' els'=>cases wr' with
     | true=>exact⟨ht.1,ht.2.1,e.trans ht.2.2.1,ht.2.2.2⟩
     | false=>exact ht
    | dead=>trivial
    | hole=>exact ht
   | false=>cases B' with
    | box _=>exact ht
    | rng _=>exact ht
    | mp _ _ _=>exact ht
    | row wr' es' els'=>cases wr' with
     | true=>exact ht
     | false=>
      obtain ⟨h1,h2,h3,h4,h5⟩:=ht;exact⟨h1,h2,h3,h4,λhl=>⟨e.trans (h5 hl).1,(h5 hl).2⟩⟩
    | dead=>trivial
    | hole=>exact ht
  | rng st=>cases B' with
   | rng st'=>exact⟨e.trans ht.1,ht.2⟩
   | dead=>trivial
   | hole=>exact ht
   | box _=>exact ht
   | mp _ _ _=>exact ht
   | row wr _ _=>cases wr<;>exact ht
  | mp _ _ _=>cases B' with
   | mp _ _ _=>exact e.trans ht
   | rng _=>exact ht
   | dead=>trivial
   | hole=>exact ht
   | box _=>exact ht
   | row wr _ _=>cases wr<;>exact ht
  | dead=>cases B'<;>exact ht
  | hole=>trivial
end
section
open Go.RowKit
variable {H H1:Heap} {g g1:Gh} {w0 w w1:World}
def Gh.tL (g:Gh) (H:Heap) (m:Nat):Gh:={ g.cut m with S:=λk o=>g.S k o/\∀ c,m<=c->g.mu c=some k->∃ es els,H[c]? = some (.row false es els)/\o<es*els.length }
theorem mN {g:Gh} {m b k:Nat} (h:(g.cut m).mu b=some k):b<m/\g.mu b=some k:=by
 simp only[Gh.cut] at h;split at h
 ·rename_i hb; exact⟨hb,h⟩
 ·cases h
theorem Rel.tL (hr:Rel H g w0 w) {m:Nat} (hm:m<=H.length) (hu:∀ (b:Nat) B,b<m->H[b]? = some B->B.under m=true):Rel (H.take m) (g.tL H m) w0 w/\mX m H g (H.take m) (g.tL H m):=by
 have hget:∀ b,b<m->(H.take m)[b]? = H[b]?:=λb hb=>by rw[qaA,qaf hb]
 have ag:mX m H g (H.take m) (g.tL H m):=by
  refine⟨λk o hs=>⟨⟨hs.1,λc _ hc=>hs.2 c hc⟩,λb hb=>?_⟩,λb hb=>hget b hb,λb B hb _=>by simp[Gh.tL,Gh.cut,hb],λb es els _ _=>rfl,λb st _ _=>rfl⟩;obtain ⟨h1,h2⟩:=mN hb;obtain ⟨es,els,h3,h4⟩:=hs.2 b h2;exact⟨es,els,by rw[hget b h1]; exact h3,h4⟩
 refine⟨⟨hr.below,λb k hb=>?_,λb c k h1 h2=>hr.inj b c k (mN h1).2 (mN h2).2,λk o hk=>⟨hr.out k o hk,λc _ hc=>absurd (hr.dom c k hc).2.2 o3⟩,λb k o hb=>⟨hr.own b k o (mN hb).2,λc hc hck=>?_⟩,λb B hB=>?_⟩,ag⟩
 ·obtain ⟨h1,h2⟩:=mN hb;have:=hr.dom b k h2;exact⟨H4,this.2⟩
 ·obtain ⟨h1,h2⟩:=mN hb;have:=hr.inj b c k h2 hck;omega
 ·have hb:b<m:=by have:=(qad.1 hB).1; rw[qba] at this; omega
  rw[hget b hb] at hB;exact nL.to ag hb hB (hu b B hb hB) (hr.blk b B hB)
theorem Rel.join (hr:Rel H g w0 w) {m:Nat} (hm:m<=H.length) (hr1:Rel H1 g1 w0 w1) (he:Ext (H.take m) (g.tL H m) w H1 g1 w1) (hm1:m<=H1.length) (hS:g1.S=(g.tL H m).S) (hu:∀ (b:Nat) B,b<m->H1[b]? = some B->B.under m=true) :
  ∃ g2,Rel (H1.take m++H.drop m) g2 w0 w1/\Ext H g w (H1.take m++H.drop m) g2 w1/\g2.S=g.S/\mX m H1 g1 (H1.take m++H.drop m) g2:=by
 have lo:∀ b,b<m->(H1.take m++H.drop m)[b]? = H1[b]?:=λb hb=>by
  rw[qat H4,qaA,qaf hb]
 have hi:∀ b,m<=b->(H1.take m++H.drop m)[b]? = H[b]?:=λb hb=>by
  rw[qay H4,qba,qbw,qbP hm1];congr 1; omega
 have tk:∀ b,b<m->(H.take m)[b]? = H[b]?:=λb hb=>by rw[qaA,qaf hb]
 let g2:Gh:={ mu:=λb=>if b<m then g1.mu b else g.mu b,ga:=λb=>if b<m then g1.ga b else g.ga b,S:=g.S,lr:=λb=>if b<m then g1.lr b else g.lr b }
 have mlo:∀ b,b<m->g2.mu b=g1.mu b:=λb hb=>qaf hb;have mhi:∀ b,m<=b->g2.mu b=g.mu b:=λb hb=>qah o3;have glo:∀ b,b<m->g2.ga b=g1.ga b:=λb hb=>qaf hb;have ghi:∀ b,m<=b->g2.ga b=g.ga b:=λb hb=>qah o3;have llo:∀ b,b<m->g2.lr b=g1.lr b:=λb hb=>qaf hb;have lhi:∀ b,m<=b->g2.lr b=g.lr b:=λb hb=>qah o3;have nof:∀ {c k},m<=c->g.mu c=some k->∀ b,(g.tL H m).mu b≠some k:=λ{c k} hc hk b hb=>by
  obtain ⟨h1,h2⟩:=mN hb;have:=hr.inj b c k h2 hk;omega
 have same:∀ {c k},m<=c->g.mu c=some k->w1.heap[k]? = w.heap[k]?:=λ{c k} hc hk=>he.obj k (hr.dom c k hk).2.2 (nof hc hk);have hne:∀ {b c k},b<m->m<=c->g1.mu b=some k->g.mu c=some k->False:=λ{b c k} _ hc hb hk=>by
  rcases he.fresh b k hb with ⟨c',hc'⟩ | hl
  ·exact nof hc hk c' hc'
  ·have:=(hr.dom c k hk).2.2;omega
 have toB:∀ {k o},ft H g k o->ft (H.take m) (g.tL H m) k o:=λ{k o} hs=>⟨⟨hs.1,λc _ hc=>hs.2 c hc⟩,λb hb=>by
  obtain ⟨h1,h2⟩:=mN hb;obtain ⟨es,els,h3,h4⟩:=hs.2 b h2;exact⟨es,els,by rw[tk b h1]; exact h3,h4⟩⟩
 have stab:∀ k o,ft H1 g1 k o->ft (H1.take m++H.drop m) g2 k o:=λk o hs=>by
  have h1:(g.tL H m).S k o:=by rw[<-hS]; exact hs.1
  refine⟨h1.1,λb hb=>?_⟩;by_cases e:b<m
  ·rw[mlo b e] at hb;obtain ⟨es,els,h3,h4⟩:=hs.2 b hb;exact⟨es,els,by rw[lo b e]; exact h3,h4⟩
  ·rw[mhi b o3] at hb;obtain ⟨es,els,h3,h4⟩:=h1.2 b o3 hb;exact⟨es,els,by rw[hi b o3]; exact h3,h4⟩
 have ag:mX m H1 g1 (H1.take m++H.drop m) g2:=⟨stab,lo,λb B hb _=>mlo b hb,λb es els hb _=>glo b hb,λb st hb _=>llo b hb⟩
 have hx:Ext H g w (H1.take m++H.drop m) g2 w1:=by
  refine⟨λk o v hs hc=>?_,λb B hB=>?_,he.kept,he.size,λk arr cl hs hmm=>?_,λk hk hn=>he.obj k hk λb hb=>hn b (mN hb).2,λb k hb=>?_⟩
  ·obtain ⟨h1,h2⟩:=he.cell k o v (toB hs) hc;exact⟨h1,stab k o h2⟩
  ·by_cases e:b<m
   ·obtain ⟨B',hB',ht⟩:=he.blk b B (by rw[tk b e]; exact hB);refine⟨B',by rw[lo b e]; exact hB',?_⟩;have hm0:(g.tL H m).mu b=g.mu b:=qaf e;have hm2:=mlo b e;have hg2:=glo b e;have hl2:=llo b e;unfold BT at ht ⊢;rw[hm2,hg2,hl2,<-hm0];exact ht
   ·refine⟨B,by rw[hi b o3]; exact hB,?_⟩;have hm2:=mhi b o3;have hg2:=ghi b o3;cases B with
    | box _=>exact hm2
    | row wr es els=>cases wr with
     | true=>exact⟨rfl,rfl,hm2,λk arr ty hk ha=>⟨arr,(same o3 hk).trans ha,qab _⟩⟩
     | false=>exact⟨rfl,⟨[],by rw[hg2]; simp⟩,(hr.blk b _ hB).len,qab _,λ_=>⟨hm2,λk arr ty hk ha=>⟨arr,(same o3 hk).trans ha,qab _⟩⟩⟩
    | rng _=>exact⟨hm2,lhi b o3⟩
    | mp _ _ _=>exact hm2
    | dead=>trivial
    | hole=>trivial
  ·obtain ⟨h1,h2⟩:=he.map k arr cl (toB hs) hmm;exact⟨h1,stab k 0 h2⟩
  ·by_cases e:b<m
   ·rw[mlo b e] at hb;rcases he.fresh b k hb with ⟨c,hc⟩ | hl
    ·exact .inl ⟨c,(mN hc).2⟩
    ·exact .inr hl
   ·rw[mhi b o3] at hb;exact .inl ⟨b,hb⟩
 refine⟨g2,⟨hr1.below,λb k hb=>?_,λb c k h1 h2=>?_,λk o hk=>hr.out k o (qaC he.size hk),hr.zo hx,λb B hB=>?_⟩,hx,rfl,ag⟩
 ·by_cases e:b<m
  ·rw[mlo b e] at hb;have:=hr1.dom b k hb;exact⟨ZW,this.2⟩
  ·rw[mhi b o3] at hb;have:=hr.dom b k hb;exact⟨ZW,this.2.1,qaz this.2.2 he.size⟩
 ·by_cases e1:b<m
  ·by_cases e2:c<m
   ·rw[mlo b e1] at h1; rw[mlo c e2] at h2; exact hr1.inj b c k h1 h2
   ·rw[mlo b e1] at h1; rw[mhi c o3] at h2; exact(hne e1 o3 h1 h2).elim
  ·by_cases e2:c<m
   ·rw[mhi b o3] at h1; rw[mlo c e2] at h2; exact(hne e2 o3 h2 h1).elim
   ·rw[mhi b o3] at h1; rw[mhi c o3] at h2; exact hr.inj b c k h1 h2
 ·by_cases e:b<m
  ·rw[lo b e] at hB;exact nL.to ag e hB (hu b B e hB) (hr1.blk b B hB)
  ·rw[hi b o3] at hB;have h:=hr.blk b B hB;have hm2:=mhi b o3;have hg2:=ghi b o3;cases B with
   | box cs=>obtain ⟨k,arr,ty,h1,h2,h3⟩:=h; exact⟨k,arr,ty,hm2.trans h1,(same o3 h1).trans h2,bL.ext hx _ _ h3⟩
   | row wr es els=>cases wr with
    | true=>
     obtain ⟨ds,h1,h2,h3⟩:=h;exact⟨ds,bK.ext hx _ _ h1,h2,λhp=>let ⟨k,arr,ty,e1,e2,e3⟩:=h3 hp; ⟨k,arr,ty,hm2.trans e1,(same o3 e1).trans e2,e3⟩⟩
    | false=>
     obtain ⟨h1,h2⟩:=h;exact⟨by rw[hg2]; exact bK.ext hx _ _ h1,by rw[hg2]; exact h2⟩
   | rng st=>obtain ⟨k,h1,h2⟩:=h; exact⟨k,hm2.trans h1,by rw[lhi b o3]; exact(same o3 h1).trans h2⟩
   | mp _ _ _=>obtain ⟨k,arr,cl,h1,h2,h3,h4⟩:=h; exact⟨k,arr,cl,hm2.trans h1,(same o3 h1).trans h2,h3,bL.ext hx _ _ h4⟩
   | dead=>exact hm2.trans h
   | hole=>exact hm2.trans h
end
section
open Go.RowKit
variable {H H':Heap} {g g':Gh} {w0 w w':World} {cx:Cx} {s:St} {a:Act} {F:Fence} {n:Nat} {N lo:Nat} {mb:Mb} {H0:Heap} {gs:Gh} {ws:World} {Bs:Heap->Gh->World->Prop}
def su (cx:Cx) (Bs:Heap->Gh->World->Prop) (s:St) (o:Oper) (x:A):Prop:=∀ (F:Fence) (n:Nat) (g:Gh) (w0 W:World) (ev:Operand->Value),iL F->wz cx s g w0 o.op ev W->(∀ (G:Nat) (vs:List Value),cx.glob G=some vs->bS s.H g W G 0 vs)->Bs s.H g W ->
 BB F n cx.P o ev W λv W'=>VR s.H g W' x v/\Rel s.H g w0 W'/\Ext s.H g W s.H g W'
theorem Ha {β:Type} {f lo:Nat} {dst:Option Nat} {c:Call} (k:A->Heap->Option β):rH cx f lo dst c s k=(rH cx f lo dst c s (λx H=>some (x,H))).bind λr=>k r.1 r.2:=by
 unfold rH;split<;>simp[qaN]
theorem jU {β:Type} {f lo:Nat} {o:Oper} (k:A->Heap->Option β):bV cx f lo o s k=(bV cx f lo o s (λx H=>some (x,H))).bind λr=>k r.1 r.2:=by
 unfold bV;split
 case h_27=>exact Ha k
 all_goals simp[qaN]
theorem uX {f lo:Nat} {o:Oper} {r:A×Heap} (h:bV cx f lo o s (λx H=>some (x,H))=some r) (hh:yP o.op=false):∃ x,r=(x,s.H):=by
 unfold bV at h;split at h
 all_goals first
  | cases h; done
  | (rename_i ho; rw[ho] at hh; cases hh; done)
  | (cases h; exact⟨_,rfl⟩)
  | (obtain ⟨y,_,h⟩:=bN h; cases h; exact⟨_,rfl⟩)
theorem ma {P:Program} {o:Oper} {ev:Operand->Value} {c:Value} {Rr:Value->World->Prop} (h:(execOp ev o).run P w=.ok (.value c) w'∨((execOp ev o).run P w=.ok .skip w'/\c=undef)) (hr:Rr c w'):BB F n P o ev w Rr:=by
 unfold BB;rcases h with h | ⟨h,rfl⟩<;>rw[h]<;>exact hr
theorem tF {f lo:Nat} {o:Oper} {x:A} (h:bV cx f lo o s (λx H=>some (x,H))=some (x,s.H)):su cx Bs s o x:=by
 intro F n g w0 W ev hF hs hgl hbs;obtain ⟨c,w',x',H',g',e1,e2,e3,e4,e5,e6,e7,e8⟩:=my hs h;cases e2;obtain ⟨r1,r2,r3⟩:=Rel.back hs.rel e3 e4 e8 (λ_ _=>rfl);exact ma e1 ⟨VR.to r3 x c (VR.under x c e5) e5,r1,r2⟩
theorem pg {call:bB} (hcall:eO cx Bs call) (horc:lK cx) {f:Nat} {o:Oper} {x:A} (h:jm cx call f o s=some x):su cx Bs s o x:=by
 have direct:∀ {lo:Nat},yP o.op=false->bV cx f lo o s (λx _=>some x)=some x->su cx Bs s o x:=λ{lo} hh h=>by
  rw[jU] at h;obtain ⟨q,h1,h2⟩:=bN h;obtain ⟨x',rfl⟩:=uX h1 hh;cases h2;exact tF h1
 unfold jm at h;split at h
 ·rename_i c x y ho;obtain ⟨b,hb,h⟩:=rv h;intro F n g w0 W ev hF hs hgl hbs;have hc:=hs.one c (by rw[ho]; simp[Op.operands]);have hx:=hs.one x (by rw[ho]; simp[Op.operands]);have hy:=hs.one y (by rw[ho]; simp[Op.operands]);rw[hb,VR] at hc;refine ma (c:=if b then ev x else ev y) (w':=W) (.inl ?_) ⟨by cases b<;>cases h<;>assumption,hs.rel,Ext.refl hs.rel⟩;unfold execOp;rw[ho];simp[hc,asBool]
 ·cases h
 ·cases h
 ·cases h
 ·cases h
 ·cases h
 ·cases h
 ·cases h
 ·cases h
 ·rename_i c ho;rw[bP] at h;split at h
  ·rw[yy] at h;replace h:=bN h;obtain ⟨x0,h,hx0⟩:=h;cases hx0;replace h:=bN h;obtain ⟨⟨k',args⟩,hce,h⟩:=h;rw[bP] at h;split at h
   ·rename_i hiso;have hy:=h;intro F n g w0 W ev hF hs hgl hbs;obtain ⟨hcb,cargs,hrun,hv⟩:=mo hs hce;unfold BB;rw[hrun];have hr:=hs.rel;have hst:∀ k o,W.heap.size<=k->ft s.H g k o:=λk o hk=>⟨hr.out k o hk,λb hb=>absurd (hr.dom b k hb).2.2 o3⟩
    have hcallok:=horc k' _ x (.inr (.inl hiso)) hy (ft s.H g) W cargs hst (λG vs hG j v hj=>let ⟨e1,e2⟩:=hgl G vs hG j v hj; ⟨e1,e2,λb hb=>by cases hb⟩) (Bp hr hv);refine(iw hF hcallok).mono ?_
    rintro e w' ⟨c',rfl,hb,hvr⟩
    exact⟨VR.back (λ_ _ h=>h) hvr,hr.kK hb,Ext.below hr hb⟩
   ·replace h:=bN h;obtain ⟨⟨out,H'⟩,hy,h⟩:=h;cases out with
    | pan x=>cases h
    | ret y=>
     obtain ⟨hu,h⟩:=bJ (show (bif A.under s.H.length y then some y else none)=some x from h);cases h;intro F n g w0 W ev hF hs hgl hbs;obtain ⟨hcb,cargs,hrun,hv⟩:=mo hs hce;unfold BB;rw[hrun];have hci:CallsIn F.plain (n - 1) cx.P k' cargs.toArray W _:=hcall.fn k' args s.H s.H.length (.ret x,H') (kz hcb) hy F.plain (n - 1) g w0 W cargs hF rfl hbs hs.rel hgl hv;have hci':CallsIn F (n - 1) cx.P k' cargs.toArray W _:=hci;refine hci'.mono ?_
     rintro e w' ⟨g',e1,e2,e3,e4,e6,e5⟩
     cases e with
     | returned c'=>
      obtain ⟨r1,r2,r3⟩:=Rel.back hs.rel e1 e2 e6 (λb hb=>e4 b hb hb);exact⟨VR.to r3 x c' hu e5,r1,r2⟩
     | panicked _=>exact e5.elim
     | outgrown=>exact e5.elim
  ·split at h
   ·rename_i hcl;rw[jU] at h;obtain ⟨q,h1,h2⟩:=bN h;have hq:∃ x,q=(x,s.H):=by
     unfold bV at h1;rw[ho] at h1;simp only at h1;unfold rH at h1;split at h1
     ·obtain ⟨y,_,h1⟩:=bN h1; cases h1; exact⟨_,rfl⟩
     ·rename_i he _ _; rw[hcl] at he; cases he
     ·rename_i he _ _; rw[hcl] at he; cases he
     ·rename_i he _; rw[hcl] at he; cases he
     ·rename_i he _; rw[hcl] at he; cases he
     ·cases h1
    obtain ⟨x',rfl⟩:=hq;cases h2;exact tF h1
   ·cases h
 ·rename_i h1 h2 h3 h4 h5 h6 h8 h9 h10 h7;refine direct ?_ h;cases ho:o.op<;>first
   | rfl
   | exact absurd ho (by intro hh; first | exact h2 _ hh | exact h3 _ _ hh | exact h4 _ _ _ hh | exact h5 _ _ _ hh | exact h6 _ hh | exact h7 _ hh | exact h8 _ _ hh | exact h9 _ _ _ _ hh | exact h10 _ _ _ _ hh)
def Fact (cx:Cx) (Bs:Heap->Gh->World->Prop) (ops:Array Oper) (s:St) (o:Oper) (x:A):Prop:=
 (o.guard=none/\su cx Bs s o x)∨∃ t want,cJ ops o=some (t,want)/\((∃ b,look s.fr t=.v (.bool b)/\if b==want then su cx Bs s o x else x=.v undef)∨((∃ y,look s.fr t=.v (.tuple y))/\x=.v undef))
theorem Bw {o:Oper} {next:Act->World->Prop} {Q:Exit->Act->World->Prop} {Rr:Value->World->Prop} (hF:iL F) (hnd:∀ c,o.op≠.defer c) (h:BB F n cx.P o a.eval w Rr) (hn:∀ v w',Rr v w'->next (a.put o.dst v) w'):o.wpIn F n cx.P a w next Q:=by
 refine eL hF hnd ?_;unfold BB at h;split at h
 ·rename_i hr; rw[hr]; exact hn _ _ h
 ·rename_i hr; rw[hr]; exact hn _ _ h
 ·rename_i hr;rw[hr,Oper.uponIn_enter];refine⟨λhd=>(by rw[hF.1] at hd; cases hd),?_⟩;refine h.mono ?_;intro e w' he;cases e with
  | returned c=>exact hn _ _ he
  | panicked _=>exact he.elim
  | outgrown=>exact he.elim
 ·rename_i hr;rw[hr];exact⟨λhd=>(by rw[hF.1] at hd; cases hd),h.mono hn⟩
 ·rename_i hr;rw[hr];refine⟨λhd=>(by rw[hF.1] at hd; cases hd),?_⟩;refine h.mono ?_;intro e w' he;cases e with
  | returned c=>exact hn _ _ he
  | panicked _=>exact he.elim
  | outgrown=>exact he.elim
 ·exact h.elim
theorem yI {call:bB} {f:Nat} {o:Oper} {x:A} (h:jm cx call f o s=some x):∀ c,o.op≠.defer c:=λc hc=>by
 unfold jm at h; rw[hc] at h; exact pf (show bV cx f 0 o s (λa _=>some a)=some x from h) c hc
theorem g7 {call:bB} (hcall:eO cx Bs call) (hb0:Bs H0 gs ws) (horc:lK cx) (hF:iL F) {f:Nat} {ops:Array Oper} {k:E->St->Option R} {r:R} {Q:Exit->Act->World->Prop}
  (hk:∀ s' g' a' w',Good cx N mb lo H0 gs ws w0 s' g' a' w'->k .normal s'=some r->Q .normal a' w')
  (hp:∀ x s' g' a' w' c,Good cx N mb lo H0 gs ws w0 s' g' a' w'->VR s'.H g' w' x c->k (.pan x) s'=some r->Q (.panic [{ v:=c,recovered:=false }]) a' w') :
  ∀ (os:List Oper) (s:St) (g:Gh) (a:Act) (w:World),(∀ o∈os,∀ d,o.dst=some d->d<N)->Good cx N mb lo H0 gs ws w0 s g a w->gZ cx call f lo ops os s k=some r->wpListIn F n cx.P ops Q os a w
 | [],s,g,a,w,_,hg,h=>hk s g a w hg h
 | o :: os,s,g,a,w,hd,hg,h=>by
  have hd0:=hd o r8;have ih:=λs g a w hg h=>g7 (f:=f) (ops:=ops) hcall hb0 horc hF hk hp os s g a w (λo ho=>hd o (by simp[ho])) hg h;have one:uW cx call f lo o s (λs=>gZ cx call f lo ops os s k) (λa s=>k (.pan a) s)=some r->o.wpIn F n cx.P a w (wpListIn F n cx.P ops Q os) Q:=λh=>
   Cj hcall horc hF hb0 hg hd0 h (λs' g' a' w' hg' h'=>ih s' g' a' w' hg' h') (λx s' g' w' c hg' hv h'=>hp x s' g' a w' c hg' hv h')
  have val:∀ {x:A},jm cx call f o s=some x->gZ cx call f lo ops os (s.put o.dst x) k=some r->o.wpIn F n cx.P a w (wpListIn F n cx.P ops Q os) Q:=λ{x} hx h=>
   Bw hF (yI hx) (pg hcall horc hx F n g w0 w a.eval hF (hg.sr.WU o.op) hg.sr.gl (hcall.up _ _ _ _ _ _ hb0 hg.ext)) λv w' hv=>
    ih _ _ _ _ (hg.step (H':=s.H) hv.2.1 hv.2.2 (qab _) (λ_ _ _=>rfl) rfl hv.1 hd0) h
  have skip:gZ cx call f lo ops os (s.put o.dst (.v undef)) k=some r->(∀ f,o.about cx.P w a.eval=some f->F.fn f)/\wpListIn F n cx.P ops Q os (a.put o.dst undef) w:=λh=>
   ⟨λf _=>hF.2.1 f,ih _ _ _ _ (hg.same y9 hd0) h⟩
  unfold gZ at h;unfold wpListIn;split at h
  ·rename_i hgd;rw[qaf (by simp[Region.wanted,hgd])];exact one h
  ·rename_i x hgd;split at h
   ·cases h
   ·rename_i t want hgs;have hv:=hg.sr.fr t;rw[bP] at h;split at h
    ·obtain ⟨x,h0,h⟩:=bN h;rcases py h0 with ⟨b,hb,h0⟩ | ⟨y,hb,h0⟩
     ·rw[hb,VR] at hv;rw[lT hgs hv];split at h0
      ·rename_i hbw;rw[qaf hbw];exact val h0 h
      ·rename_i hbw;rw[qah hbw];cases h0;exact skip h
     ·rw[hb,VR] at hv;rw[n6 hgs hv];cases h0;rw[qah r8];exact skip h
    ·rcases py h with ⟨b,hb,h⟩ | ⟨y,hb,h⟩
     ·rw[hb,VR] at hv;rw[lT hgs hv];split at h
      ·rename_i hbw;rw[qaf hbw];exact one h
      ·rename_i hbw;rw[qah hbw];exact skip h
     ·rw[hb,VR] at hv;rw[n6 hgs hv,qah r8];exact skip h
theorem AY (s:St) (dst:Option Nat) (x:A) (u:Nat) (h:dst≠some u):look (s.put dst x).fr u=look s.fr u:=by
 cases dst with
 | none=>rfl
 | some d=>
  show look ((d,x) :: s.fr) u=_;rw[fI,qah (λe=>h (by rw[e]))]
theorem E6 (s:St) (d:Nat) (x:A):look (s.put (some d) x).fr d=x:=by
 show look ((d,x) :: s.fr) d=_;rw[fI,qaf rfl]
theorem uZ {call:bB} (hcall:eO cx Bs call) (horc:lK cx) {f:Nat} {ops:Array Oper} {k:St->Option R} {r:R}:∀ (os:List Oper) (s:St),kW cx call f ops os s k=some r ->
  ∃ z,k z=some r/\z.H=s.H/\(∀ t,(∀ o∈os,o.dst≠some t)->look z.fr t=look s.fr t) ∧
   ∀ (i:Nat) o,os[i]? = some o->∃ si x,si.H=s.H/\(∀ t,(∀ (j:Nat) o',j<i->os[j]? = some o'->o'.dst≠some t)->look si.fr t=look s.fr t)/\(∀ t,(∀ (j:Nat) o',i<=j->os[j]? = some o'->o'.dst≠some t)->look si.fr t=look z.fr t) ∧
    (∀ t,o.dst=some t->(∀ (j:Nat) o',i<j->os[j]? = some o'->o'.dst≠some t)->look z.fr t=x)/\Fact cx Bs ops si o x
 | [],s,h=>⟨s,h,rfl,λ_ _=>rfl,λi o h=>by simp at h⟩
 | o :: os,s,h=>by
  have fin:∀ (s':St) (x:A),s'.H=s.H->(∀ u,look s'.fr u=look s.fr u)->Fact cx Bs ops s' o x->kW cx call f ops os (s'.put o.dst x) k=some r ->
    ∃ z,k z=some r/\z.H=s.H/\(∀ t,(∀ o'∈o :: os,o'.dst≠some t)->look z.fr t=look s.fr t) ∧
     ∀ (i:Nat) o1,(o :: os)[i]? = some o1->∃ si x,si.H=s.H/\(∀ t,(∀ (j:Nat) o',j<i->(o :: os)[j]? = some o'->o'.dst≠some t)->look si.fr t=look s.fr t)/\(∀ t,(∀ (j:Nat) o',i<=j->(o :: os)[j]? = some o'->o'.dst≠some t)->look si.fr t=look z.fr t) ∧
      (∀ t,o1.dst=some t->(∀ (j:Nat) o',i<j->(o :: os)[j]? = some o'->o'.dst≠some t)->look z.fr t=x)/\Fact cx Bs ops si o1 x:=by
   intro s' x hH hl hf h;obtain ⟨z,h1,h2,h3,h4⟩:=uZ hcall horc os (s'.put o.dst x) h;have hpH:(s'.put o.dst x).H=s.H:=by rw[<-hH]; cases o.dst<;>rfl
   have hz:∀ t,(∀ o'∈o :: os,o'.dst≠some t)->look z.fr t=look s.fr t:=λt ht=>by
    rw[h3 t (λo' ho'=>ht o' (by simp[ho'])),AY _ _ _ _ (ht o r8),hl]
   refine⟨z,h1,h2.trans hpH,hz,λi o1 ho1=>?_⟩;cases i with
   | zero=>
    simp at ho1;subst ho1;refine⟨s',x,hH,λt _=>hl t,λt ht=>?_,λt hd ht=>?_,hf⟩
    ·have hall:∀ o'∈o :: os,o'.dst≠some t:=λo' ho'=>by
      obtain ⟨j,hj,rfl⟩:=qa2 ho';exact ht j _ (qav _) (Z7 hj)
     rw[hz t hall,hl]
    ·rw[h3 t (λo' ho'=>by
      obtain ⟨j,hj,rfl⟩:=qa2 ho';exact ht (j+1) _ o3 r8),hd,E6]
   | succ i=>
    obtain ⟨si,x1,g1,g2,g3,g4,g5⟩:=h4 i o1 (by simpa using ho1);refine⟨si,x1,g1.trans hpH,λt ht=>?_,λt ht=>?_,λt hd ht=>?_,g5⟩
    ·rw[g2 t (λj o' hj ho'=>ht (j+1) o' o3 (by simpa using ho')),AY _ _ _ _ (ht 0 o o3 rfl),hl]
    ·exact g3 t (λj o' hj ho'=>ht (j+1) o' o3 (by simpa using ho'))
    ·exact g4 t hd (λj o' hj ho'=>ht (j+1) o' o3 (by simpa using ho'))
  unfold kW at h;split at h
  ·rename_i hgd;obtain ⟨x,h1,h2⟩:=bN h;exact fin s x rfl (λ_=>rfl) (.inl ⟨hgd,pg hcall horc h1⟩) h2
  ·rename_i q hgd;split at h
   ·cases h
   ·rename_i t want hgs;obtain ⟨x,h1,h2⟩:=bN h;refine fin s x rfl (λ_=>rfl) (.inr ⟨t,want,hgs,?_⟩) h2;rcases py h1 with ⟨b,hb,h1⟩ | ⟨y,hb,h1⟩
    ·refine .inl ⟨b,hb,?_⟩;split at h1
     ·rename_i hbw; rw[qaf hbw]; exact pg hcall horc h1
     ·rename_i hbw; rw[qah hbw]; cases h1; rfl
    ·cases h1; exact .inr ⟨⟨y,hb⟩,rfl⟩
theorem pP {ops:Array Oper} {N:Nat} (jT:wO ops N=true) {i j:Nat} (h:qn ops i j):j<i:=by
 have lt:∀ {i o e},ops[i]? = some o->e∈o.after->Region.binds .any e=true->e.on<i:=λ{i o e} ho he hb=>by
  have hi:i<ops.size:=(qaj.1 ho).1;have h:=qak.1 jT i (qaR.2 hi);simp only[ho,Z9] at h;have:=qcw.1 h.1.1.1.2 e he;rw[hb] at this; simpa using this
 induction h with
 | edge ho he hb=>exact lt ho he hb
 | thru ho he hb _ ih=>exact Nat.lt_trans ih (lt ho he hb)
theorem oh {ops:Array Oper} {N:Nat} (jT:wO ops N=true) {i:Nat} {o:Oper} (ho:ops[i]? = some o):(∀ j d,i≠j->o.dst=some d->cQ ops j≠some d)/\(∀ j t,cQ ops j=some t->t∈o.looksAt ops->i=j∨gQ ops i j=true∨gQ ops j i=true):=by
 have hi:i<ops.size:=(qaj.1 ho).1;have h:=qak.1 jT i (qaR.2 hi);simp only[ho,Z9] at h;obtain ⟨⟨⟨⟨⟨_,_⟩,_⟩,h4⟩,h5⟩,_⟩:=h;have lt:∀ {j t},cQ ops j=some t->j<ops.size:=λ{j t} hj=>by
  unfold cQ at hj;cases hx:ops[j]? with
  | none=>rw[hx] at hj; cases hj
  | some _=>exact(qaj.1 hx).1
 refine⟨λj d hij hd hj=>?_,λj t hj ht=>?_⟩
 ·have:=qak.1 h4 j (qaR.2 (lt hj));rw[hd,hj] at this;simp at this;exact hij this
 ·have:=qak.1 h5 j (qaR.2 (lt hj));rw[hj] at this;simp[ht] at this;rcases this with (h | h) | h
  ·exact .inl h
  ·exact .inr (.inl h)
  ·exact .inr (.inr h)
theorem yE {call:bB} (hcall:eO cx Bs call) (hb0:Bs H0 gs ws) (horc:lK cx) (hF:iL F) (hmx:cx.P.follows .mixedOrders=true) {f m:Nat} {ops:Array Oper} {k:E->St->Option R} {r:R} {Q:Exit->Act->World->Prop} (jT:wO ops N=true) (chkt:gE ops m=true)
  (hg:Good cx N mb lo H0 gs ws w0 s g a w) (hd:∀ o∈ops.toList,∀ d,o.dst=some d->d<N)
  (h:kW cx call f ops (ops.toList.take m) s (λs=>gZ cx call f lo ops (ops.toList.drop m) s k)=some r)
  (hk:∀ s' g' a' w',Good cx N mb lo H0 gs ws w0 s' g' a' w'->k .normal s'=some r->Q .normal a' w')
  (hp:∀ x s' g' a' w' c,Good cx N mb lo H0 gs ws w0 s' g' a' w'->VR s'.H g' w' x c->k (.pan x) s'=some r->Q (.panic [{ v:=c,recovered:=false }]) a' w'):LW F n cx.P ops Q a w:=by
 obtain ⟨z,hz,hzH,hzk,hfacts⟩:=uZ hcall horc _ s h;have hr:=hg.sr.rel;have hget:∀ {i o},i<m->ops[i]? = some o->(ops.toList.take m)[i]? = some o:=λ{i o} him ho=>by
  rw[qaA,qaf him,qaZ]; exact ho
 have hget':∀ {i o},(ops.toList.take m)[i]? = some o->i<m/\ops[i]? = some o:=λ{i o} ho=>by
  rw[qaA] at ho;split at ho
  ·rename_i him; exact⟨him,by rwa [qaZ] at ho⟩
  ·cases ho
 have hdst:∀ {i o},ops[i]? = some o->cQ ops i=o.dst:=λ{i o} ho=>by unfold cQ; rw[ho]; rfl
 refine Ff (F:=F) ⟨hF.1,hF.2.1⟩ hmx N m hg.siz jT chkt (λW=>Rel s.H g w0 W/\Ext s.H g w s.H g W) (λW W'=>Ext s.H g W s.H g W') (λi v W=>∀ t,cQ ops i=some t->VR s.H g W (look z.fr t) v)
  (λi v W W' hv he t ht=>VR.ext he _ _ (hv t ht)) ⟨hr.kK (Below.refl _ _).drew,Ext.below hr (Below.refl _ _).drew⟩ ?_ ?_
 ·rintro i o him ho a' W ⟨hrW,heW⟩ h1 h2 hsz
  obtain ⟨si,x,g1,g2,g3,g4,g5⟩:=hfacts i o (hget him ho);obtain ⟨c4,c5⟩:=oh jT ho;have hlook:∀ t∈o.looksAt ops,VR s.H g W (look si.fr t) (a'.tmps.getD t undef):=λt ht=>by
   by_cases hj:∃ j,cQ ops j=some t/\gQ ops i j=true
   ·obtain ⟨j,hjt,hjb⟩:=hj;have hji:=pP jT (iu i j hjb);have hv:=h1 t ht j hjt hjb t hjt;rw[g3 t (λj' o' hij' ho' hd'=>by
     obtain ⟨_,ho''⟩:=hget' ho';obtain ⟨c4',_⟩:=oh jT ho'';exact c4' j t o3 hd' hjt)]
    exact hv
   ·have hno:∀ j,cQ ops j=some t->gQ ops i j=false:=λj hjt=>by
     cases hb:gQ ops i j with
     | false=>rfl
     | true=>exact absurd ⟨j,hjt,hb⟩ hj
    have hs:=h2 t ht hno;unfold slot at hs;rw[hs,g2 t (λj o' hji ho' hd'=>by
     obtain ⟨hjm,ho''⟩:=hget' ho';have hjt:cQ ops j=some t:=(hdst ho'').trans hd';rcases c5 j t hjt ht with h | h | h
     ·omega
     ·rw[hno j hjt] at h; cases h
     ·have:=pP jT (iu j i h); omega)]
    exact VR.ext heW _ _ (hg.sr.fr t)
  have hopr:wz cx si g w0 o.op a'.eval W:=⟨by rw[g1]; exact hrW,λy hy=>qY (λt ht=>by
    rw[g1];refine hlook t ?_;subst ht;unfold Oper.looksAt;exact qa8.2 (.inl (qdv.2 ⟨.tmp t,hy,rfl⟩))) (λG vs hG=>by rw[g1]; exact(hg.sr.gl G vs hG).ext heW),λ_=>rfl⟩
  have hx:∀ t,cQ ops i=some t->look z.fr t=x:=λt ht=>g4 t ((hdst ho).symm.trans ht) (λj o' hij ho' hd'=>by
   obtain ⟨_,ho''⟩:=hget' ho';exact c4 j t o3 ((hdst ho).symm.trans ht) ((hdst ho'').trans hd'))
  have run:su cx Bs si o x->BB F n cx.P o a'.eval W (λv w'=>(∀ t,cQ ops i=some t->VR s.H g w' (look z.fr t) v)/\(Rel s.H g w0 w'/\Ext s.H g w s.H g w')/\Ext s.H g W s.H g w'):=λhpo=>by
   refine(hpo F n g w0 W a'.eval hF hopr (λG vs hG=>by rw[g1]; exact(hg.sr.gl G vs hG).ext heW) (by rw[g1]; exact hcall.up _ _ _ _ _ _ hb0 (hg.ext.trans heW))).mono ?_
   rintro v w' ⟨k1,k2,k3⟩
   rw[g1] at k1 k2 k3;exact⟨λt ht=>by rw[hx t ht]; exact k1,⟨k2,heW.trans k3⟩,k3⟩
  rcases g5 with ⟨hgd,hpo⟩ | ⟨t,want,hgs,hor⟩
  ·rw[qaf (by simp[Region.wanted,hgd])];exact run hpo
  ·have htl:t∈o.looksAt ops:=by
    rw[lh] at hgs;unfold Oper.looksAt;split at hgs
    ·rename_i j want' hgd;cases hdj:(ops[j]?).bind (·.dst) with
     | none=>rw[hdj] at hgs; cases hgs
     | some t'=>
      rw[hdj] at hgs;cases hgs;refine qa8.2 (.inr ?_);rw[hgd];simp[hdj]
    ·cases hgs
   have hv:=hlook t htl;have sk:x=.v undef->(∀ t',cQ ops i=some t'->VR s.H g W (look z.fr t') undef)/\(Rel s.H g w0 W/\Ext s.H g w s.H g W)/\Ext s.H g W s.H g W:=λhcond=>
    ⟨λt' ht'=>by rw[hx t' ht',hcond,VR],⟨hrW,heW⟩,Ext.refl hrW⟩
   rcases hor with ⟨b,hlb,hcond⟩ | ⟨⟨y,hlb⟩,hcond⟩
   ·rw[hlb,VR] at hv;rw[lT hgs hv];split at hcond
    ·rename_i hbw;rw[qaf hbw];exact run hcond
    ·rename_i hbw;rw[qah hbw];exact sk hcond
   ·rw[hlb,VR] at hv;rw[n6 hgs hv,qah r8];exact sk hcond
 ·rintro a' W ⟨hrW,heW⟩ hdf hsz hv hno _
  refine g7 (f:=f) (ops:=ops) hcall hb0 horc hF hk hp _ z g a' W (λo ho=>hd o (qaL ho)) ⟨⟨by rw[hzH]; exact hrW,λt=>?_,λG vs hG=>by rw[hzH]; exact(hg.sr.gl G vs hG).ext heW⟩,by rw[hzH]; exact hg.ext.trans heW,by rw[hzH]; exact hg.len,by rw[hzH]; exact hg.low,hsz,(by rw[hdf]; exact hg.dfr.n7 heW.kept),qaC hg.mbw heW.size,hg.st⟩ hz;rw[hzH];by_cases ht:∃ i,i<m/\cQ ops i=some t
  ·obtain ⟨i,him,hit⟩:=ht;exact hv i t him hit t hit
  ·have hs:=hno t (λi him hit=>ht ⟨i,him,hit⟩);unfold slot at hs;rw[hs,hzk t (λo ho hd'=>by
    obtain ⟨i,hi,rfl⟩:=qa2 ho;obtain ⟨him,ho'⟩:=hget' (Z7 hi);exact ht ⟨i,him,(hdst ho').trans hd'⟩)]
   exact VR.ext heW _ _ (hg.sr.fr t)
end
section
variable {cx:Cx} {call:bB} {f:Nat} {ops:Array Oper}
def oK (cx:Cx) (call:bB) (f:Nat) (ops:Array Oper) (o:Oper) (s:St):Option A:=match o.guard with
 | none=>jm cx call f o s
 | some _=>match cJ ops o with
  | none=>none
  | some (g,w)=>sm (look s.fr g) w (jm cx call f o s) (some (.v undef))
theorem ua {β:Type} {o:Oper} {s:St} (k:A->Option β):vd cx call f o s k=(jm cx call f o s).bind k:=by
 have one:(bV cx f 0 o s λa _=>k a)=(bV cx f 0 o s λa _=>some a).bind k:=by
  rw[jU,jU (k:=λa _=>some a),qaN]; rfl
 unfold vd jm;split
 ·rfl
 ·rfl
 ·rfl
 ·rfl
 ·rfl
 ·rfl
 ·rfl
 ·rfl
 ·rfl
 ·rw[bP,bP];split
  ·rw[yy,yy]; simp only[qaN,Z6]
  ·split
   ·exact one
   ·rfl
 ·exact one
theorem wo {β:Type} {r:β}:∀ (ds:List Nat) (l:List A) (k:List (Nat×A)->Option β),Ja ds l k=some r->∃ fr l',fr.map (·.1)=ds/\l=fr.map (·.2)++l'/\k fr=some r
 | [],l,k,h=>⟨[],l,rfl,rfl,h⟩
 | d :: ds,[],k,h=>by cases h
 | d :: ds,a :: l,k,h=>by
  obtain ⟨fr,l',h1,h2,h3⟩:=wo ds l _ h;exact⟨(d,a) :: fr,l',by simp[h1],by simp[h2],h3⟩
theorem Co:∀ {a b:List (Nat×A)} {l':List A},a.map (·.1)=b.map (·.1)->a.map (·.2)=b.map (·.2)++l'->a=b
 | [],[],_,_,_=>rfl
 | [],_ :: _,_,h,_=>by simp at h
 | _ :: _,[],_,h,_=>by simp at h
 | (x,y) :: a,(z,t) :: b,l',h,k=>by
  simp only[qbc,qa9,qaS] at h k;obtain ⟨rfl,h⟩:=h;obtain ⟨rfl,k⟩:=k;rw[Co h k]
theorem vQ (dl:List (Nat×A)) (s:St) (o:Oper) (x:A):(fp dl s).put o.dst x=fp (Cd o.dst x dl) s:=by
 cases o.dst<;>rfl
theorem Iz (s:St):fp [] s=s:=rfl
theorem xD (a b:List (Nat×A)) (s:St):fp a (fp b s)=fp (a++b) s:=by simp[fp]
theorem qb {t:Nat}:∀ {dl:List (Nat×A)} {s:St},kU t (dl.map (·.1))=false->look (fp dl s).fr t=look s.fr t
 | [],s,_=>rfl
 | (d,x) :: dl,s,h=>by
  simp only[qbc,kU,bP] at h;split at h
  ·cases h
  ·rename_i hd;show look ((d,x) :: (dl++s.fr)) t=_;rw[fI,qah (λe=>hd (by simp[e]))];exact qb (dl:=dl) (s:=s) h
theorem kJ (t:Nat):∀ (a b:List Nat),kU t (a++b)=(kU t a || kU t b)
 | [],b=>rfl
 | x :: a,b=>by
  simp only[qaS,kU,bP]
  split
  ·rfl
  ·exact kJ t a b
def w7 (ops:Array Oper) (g:Nat) (w:Bool):List Nat->List Oper->Prop
 | _,[]=>True
 | ds,o :: os=>vx ops g w ds o=true/\w7 ops g w (mO o++ds) os
theorem fM (g:Nat) (w:Bool):∀ (os:List Oper) (ds:List Nat),os=(cG ops g w ds os).1++(cG ops g w ds os).2/\w7 ops g w ds (cG ops g w ds os).1
 | [],ds=>⟨rfl,trivial⟩
 | o :: os,ds=>by
  unfold cG;rw[bP];split
  ·rename_i h;obtain ⟨h1,h2⟩:=fM g w os (mO o++ds);exact⟨by rw[qaS,<-h1],h,h2⟩
  ·exact⟨rfl,trivial⟩
theorem vy {g:Nat} {w:Bool} {ds:List Nat} {o:Oper} (h:vx ops g w ds o=true):o.guard≠none/\kU g (mO o)=false/\∃ t w',cJ ops o=some (t,w')/\((t=g/\w'=w)∨kU t ds=true):=by
 unfold vx at h;split at h
 ·cases h
 ·rename_i q hq;split at h
  ·cases h
  ·rename_i t w' hgs;rw[bP] at h;split at h
   ·cases h
   ·rename_i hm;refine⟨by rw[hq]; simp,by simpa using hm,t,w',hgs,?_⟩;rw[bP] at h;split at h
    ·rename_i hb;refine .inl ⟨qan hb,?_⟩;cases w<;>cases w'<;>simp at h<;>rfl
    ·exact .inr h
theorem w7.out {g:Nat} {w:Bool}:∀ {ds:List Nat} {os:List Oper},w7 ops g w ds os->(∀ o∈os,kU g (mO o)=false/\o.guard≠none)/\kU g (jL os)=false
 | _,[],_=>⟨λo ho=>(by cases ho),rfl⟩
 | ds,o :: os,h=>by
  obtain ⟨h1,h2⟩:=vy h.1;obtain ⟨h3,h4⟩:=w7.out h.2;refine⟨λo' ho'=>?_,?_⟩
  ·rcases qaD.1 ho' with rfl | ho'
   ·exact⟨h2.1,h1⟩
   ·exact h3 o' ho'
  ·rw[jL,kJ,h4,h2.1]; rfl
variable {X:Type} {E:List Oper->St->Option X} {Q:Oper->Prop}
theorem Ej (hE:∀ o os s,Q o->E (o :: os) s=(oK cx call f ops o s).bind λx=>E os (s.put o.dst x)) {g:Nat} {w:Bool} (rest:List Oper):∀ (os:List Oper) (ds:List Nat) (dl:List (Nat×A)) (s:St),w7 ops g w ds os->(∀ o∈os,Q o)->(look (fp dl s).fr g=.v (.bool (!w))∨∃ y,look (fp dl s).fr g=.v (.tuple y)) ->
  (∀ t,kU t ds=true->look (fp dl s).fr t=.v undef)->E (os++rest) (fp dl s)=E rest (fp (tf (jL os)++dl) s)
 | [],ds,dl,s,_,_,_,_=>rfl
 | o :: os,ds,dl,s,hr,hq,hg,hd=>by
  obtain ⟨hgd,hm,t,w',hgs,hor⟩:=vy hr.1;have hv:oK cx call f ops o (fp dl s)=some (.v undef):=by
   unfold oK;cases hgu:o.guard with
   | none=>exact absurd hgu hgd
   | some q=>
    rw[hgs];rcases hor with ⟨rfl,rfl⟩ | hmem
    ·rcases hg with hg | ⟨y,hg⟩
     ·simp only[hg,sm]; cases w'<;>rfl
     ·simp only[hg,sm]
    ·simp only[hd t hmem,undef,sm]
  rw[qaS,hE o _ _ (hq o r8),hv,Z6,vQ];have hlk:∀ t,look (fp (Cd o.dst (.v undef) dl) s).fr t=if kU t (mO o)=true then .v undef else look (fp dl s).fr t:=λt=>by
   cases hdo:o.dst with
   | none=>simp[mO,hdo,kU,Cd]
   | some d=>
    show look ((d,.v undef) :: (dl++s.fr)) t=_;rw[fI];simp only[mO,hdo,kU,bP]
    by_cases e:d=t
    ·subst e; simp
    ·rw[qah e];rw[qah (by simp[e])];rfl
  rw[Ej hE rest os (mO o++ds) _ s hr.2 (λo' ho'=>hq o' (by simp[ho'])) (by rw[hlk,qah (by simp[hm])]; exact hg) (λt ht=>?_)]
  ·congr 2;cases hdo:o.dst with
   | none=>simp[jL,mO,hdo,Cd]
   | some d=>simp[jL,mO,hdo,tf,Cd]
  ·rw[hlk];split
   ·rfl
   ·rename_i hn;rw[kJ] at ht;exact hd t (by simpa [hn] using ht)
theorem pd:∀ (a b:List Oper),jL (a++b)=jL b++jL a
 | [],b=>by simp[jL]
 | o :: a,b=>by simp[jL,pd a b]
theorem yD {asm:Option (Nat×Bool)} {g d:Nat} {a b:Operand} {os:List Oper} (h:yC ops asm g os=some (d,a,b)):∃ o os',os=o :: os'/\vS ops asm o=true/\o.op=.pick (.tmp g) a b/\o.dst=some d:=by
 unfold yC at h;split at h
 ·rename_i o os';rw[bP] at h;split at h
  ·rename_i hp;split at h
   ·rename_i t x y d' ho hd;rw[bP] at h;split at h
    ·rename_i ht;cases h;exact⟨o,os',rfl,hp,by rw[ho,qan ht],hd⟩
    ·cases h
   ·cases h
  ·cases h
 ·cases h
theorem vT {asm:Option (Nat×Bool)} {o:Oper} {s:St} (h:vS ops asm o=true) (ha:∀ g w,asm=some (g,w)->look s.fr g=.v (.bool w)):oK cx call f ops o s=jm cx call f o s:=by
 unfold vS at h;unfold oK;split at h
 ·rename_i hg; rw[hg]
 ·rename_i q hq;split at h
  ·rename_i g w t w' hgs;rw[bP] at h;split at h
   ·rename_i ht;have:=qan ht;subst this;rw[hq,hgs];simp only[ha t w rfl,sm]
    cases w<;>cases w'<;>first | rfl | (simp at h)
   ·cases h
  ·cases h
theorem vu (hE:∀ o os s,Q o->E (o :: os) s=(oK cx call f ops o s).bind λx=>E os (s.put o.dst x)) (hpick:∀ o c a b,o.op=.pick c a b->Q o) {β:Type} {r:β} {asm:Option (Nat×Bool)} {g:Nat} {w:Bool} {os:List Oper} {s:St} {vals:Option (Nat×Operand)->List Oper->Option (List A)} {k:List Oper->List (Nat×A)->Option β}
  (hq:∀ o∈(cG ops g w [] os).1,Q o) (ha:∀ g w,asm=some (g,w)->look s.fr g=.v (.bool w)/\∀ o∈os,kU g (mO o)=false)
  (hv:look s.fr g=.v (.bool w)->∀ fin l,vals fin (cG ops g w [] os).1=some l->∃ dl,l=(AA cx fin dl s).map (·.2)/\dl.map (·.1)=jL (cG ops g w [] os).1/\∀ rest,E ((cG ops g w [] os).1++rest) s=E rest (fp dl s))
  (h:PN ops asm g w os s vals (R2 cx s) k=some r):∃ pre rest fr,os=pre++rest/\k rest fr=some r/\fr.map (·.1)=jL pre/\∀ rest',E (pre++rest') s=E rest' (fp fr s):=by
 obtain ⟨hsp,hrun⟩:=fM (ops:=ops) g w os [];obtain ⟨hro,hgn⟩:=hrun.out;have hskip:(look s.fr g=.v (.bool (!w))∨∃ y,look s.fr g=.v (.tuple y))->∀ rest,E ((cG ops g w [] os).1++rest) s=E rest (fp (tf (jL (cG ops g w [] os).1)) s):=λhg rest=>by
  have:=Ej hE rest _ [] [] s hrun hq hg (λt ht=>by cases ht);simpa [Iz] using this
 have hmu:∀ ds:List Nat,(tf ds).map (·.1)=ds:=λds=>by simp[tf,Function.comp_def]
 unfold PN at h;split at h
 ·rename_i d a b hep;obtain ⟨o,os',hrest,hpl,hop,hdst⟩:=yD hep;obtain ⟨l,hl,h⟩:=bN h;obtain ⟨fr,l',e1,e2,e3⟩:=wo _ _ _ h;obtain ⟨bb,hb,hl⟩:=rv hl;rw[hrest,qc7] at e3;have fin:∀ (dl:List (Nat×A)) (x:Operand),l=(AA cx (some (d,x)) dl s).map (·.2)->dl.map (·.1)=jL (cG ops g w [] os).1->(∀ rest,E ((cG ops g w [] os).1++rest) s=E rest (fp dl s))->x=(if bb then a else b) ->
    ∃ pre rest fr,os=pre++rest/\k rest fr=some r/\fr.map (·.1)=jL pre/\∀ rest',E (pre++rest') s=E rest' (fp fr s):=by
   intro dl x h1 h2 h3 h4;have hfr:AA cx (some (d,x)) dl s=fr:=Co (l':=l') (by rw[e1]; simp[AA,h2]) (by rw[<-h1,e2]);refine⟨(cG ops g w [] os).1++[o],os',fr,?_,e3,?_,?_⟩
   ·rw[qaV,qbB,<-hrest]; exact hsp
   ·rw[e1,pd]; simp[jL,mO,hdst]
   ·intro rest';rw[qaV,qbB,h3,hE o _ _ (hpick o _ _ _ hop)];have hgl:look (fp dl s).fr g=.v (.bool bb):=by rw[qb (by rw[h2]; exact hgn),hb]
    have hval:oK cx call f ops o (fp dl s)=jm cx call f o (fp dl s):=vT hpl λg' w' hga=>by
     obtain ⟨ha1,ha2⟩:=ha g' w' hga;rw[qb ?_,ha1];rw[h2];have:∀ (l:List Oper),(∀ o∈l,kU g' (mO o)=false)->kU g' (jL l)=false:=by
      intro l
      induction l with
      | nil=>intro _; rfl
      | cons o' l ih=>intro hh; rw[jL,kJ,ih (λo'' ho''=>hh o'' (by simp[ho''])),hh o' r8]; rfl
     exact this _ λo' ho'=>ha2 o' (by rw[hsp]; simp[ho'])
    rw[hval];have:jm cx call f o (fp dl s)=some (cM cx (fp dl s) x):=by
     unfold jm;rw[hop];show dP (cM cx (fp dl s) (.tmp g)) _ _=_;rw[show cM cx (fp dl s) (.tmp g)=.v (.bool bb) from hgl];subst h4;cases bb<;>rfl
    rw[this,Z6,vQ,hdst];show E rest' (fp ((d,cM cx (fp dl s) x) :: dl) s)=_;rw[<-hfr]; rfl
  cases bb with
  | true=>
   rw[qaf rfl] at hl;cases w with
   | true=>
    obtain ⟨dl,h1,h2,h3⟩:=hv hb _ _ hl;exact fin dl a h1 h2 h3 rfl
   | false=>
    cases hl;exact fin _ a rfl (hmu _) (hskip (.inl hb)) rfl
  | false=>
   rw[qah r8] at hl;cases w with
   | true=>
    cases hl;exact fin _ b rfl (hmu _) (hskip (.inl hb)) rfl
   | false=>
    obtain ⟨dl,h1,h2,h3⟩:=hv hb _ _ hl;exact fin dl b h1 h2 h3 rfl
 ·obtain ⟨l,hl,h⟩:=bN h;obtain ⟨fr,l',e1,e2,e3⟩:=wo _ _ _ h;have fin:∀ (dl:List (Nat×A)),l=(AA cx none dl s).map (·.2)->dl.map (·.1)=jL (cG ops g w [] os).1->(∀ rest,E ((cG ops g w [] os).1++rest) s=E rest (fp dl s)) ->
    ∃ pre rest fr,os=pre++rest/\k rest fr=some r/\fr.map (·.1)=jL pre/\∀ rest',E (pre++rest') s=E rest' (fp fr s):=by
   intro dl h1 h2 h3;have hfr:dl=fr:=Co (l':=l') (by rw[e1,h2]) (by rw[<-e2,h1]; rfl);subst hfr;exact⟨_,_,dl,hsp,e3,h2,h3⟩
  rcases py hl with ⟨bb,hb,hl⟩ | ⟨y,hb,hl⟩
  ·split at hl
   ·rename_i hbw;have hbw:bb=w:=by simpa using hbw
    subst hbw;obtain ⟨dl,h1,h2,h3⟩:=hv hb _ _ hl;exact fin dl h1 h2 h3
   ·rename_i hbw;have hbw:bb = !w:=by cases bb<;>cases w<;>simp at hbw ⊢
    subst hbw;cases hl;exact fin _ rfl (hmu _) (hskip (.inl hb))
  ·cases hl;exact fin _ rfl (hmu _) (hskip (.inr ⟨y,hb⟩))
theorem kF (hE:∀ o os s,Q o->E (o :: os) s=(oK cx call f ops o s).bind λx=>E os (s.put o.dst x)) (hpick:∀ o c a b,o.op=.pick c a b->Q o):∀ (q:Nat) (asm:Option (Nat×Bool)) (fin:Option (Nat×Operand)) (os:List Oper) (dl:List (Nat×A)) (s:St) (l:List A),qK cx call f ops q asm fin os dl s=some l->(∀ o∈os,Q o) ->
  (∀ g w,asm=some (g,w)->look (fp dl s).fr g=.v (.bool w)/\∀ o∈os,kU g (mO o)=false) ->
  ∃ dl',l=(AA cx fin dl' s).map (·.2)/\dl'.map (·.1)=jL os++dl.map (·.1)/\∀ rest,E (os++rest) (fp dl s)=E rest (fp dl' s)
 | 0,_,_,_,_,_,_,h,_,_=>by cases h
 | q+1,asm,fin,[],dl,s,l,h,_,_=>by cases h; exact⟨dl,rfl,rfl,λ_=>rfl⟩
 | q+1,asm,fin,o :: os,dl,s,l,h,hq,ha=>by
  unfold qK at h;rw[bP] at h;split at h
  ·rename_i hpl;rw[ua] at h;obtain ⟨x,hx,h⟩:=bN h;obtain ⟨dl',h1,h2,h3⟩:=kF hE hpick q asm fin os _ s l h (λo' ho'=>hq o' (by simp[ho'])) (λg w hg=>by
    obtain ⟨k1,k2⟩:=ha g w hg;refine⟨?_,λo' ho'=>k2 o' (by simp[ho'])⟩;have hm:=k2 o r8;cases hd:o.dst with
    | none=>exact k1
    | some d=>
     simp only[mO,hd] at hm;show look ((d,x) :: (dl++s.fr)) g=_;rw[fI,qah (λe=>by simp[kU,e] at hm)];exact k1)
   refine⟨dl',h1,?_,λrest=>?_⟩
   ·rw[h2];cases hd:o.dst<;>simp[jL,mO,hd,Cd]
   ·rw[qaS,hE o _ _ (hq o r8),vT hpl (λg w hg=>(ha g w hg).1),hx,Z6,vQ,h3]
  ·split at h
   ·cases h
   ·rename_i t w hgs;obtain ⟨_,h⟩:=bJ h;obtain ⟨pre,rest,fr,h1,h2,h3,h4⟩:=vu (E:=λos' s'=>E os' s') hE hpick (λo' ho'=>hq o' (by
     rw[(fM (ops:=ops) t w (o :: os) []).1]; simp[ho'])) ha (λhlk fin' l' hl'=>by
     obtain ⟨dl2,k1,k2,k3⟩:=kF hE hpick q (some (t,w)) fin' _ [] (fp dl s) l' hl' (λo' ho'=>hq o' (by
      rw[(fM (ops:=ops) t w (o :: os) []).1]; simp[ho'])) (λg' w' hg'=>by
      cases hg';exact⟨hlk,λo' ho'=>((fM (ops:=ops) t w (o :: os) []).2.out.1 o' ho').1⟩)
     exact⟨dl2,k1,by simpa using k2,k3⟩) h
    rw[h1] at hq ha ⊢;have hnm:∀ g,(∀ o∈pre,kU g (mO o)=false)->kU g (jL pre)=false:=by
     intro g;clear h1 h2 h3 h4 hq ha
     induction pre with
     | nil=>intro _; rfl
     | cons o' l ih=>intro hh; rw[jL,kJ,ih (λo'' ho''=>hh o'' (by simp[ho''])),hh o' r8]; rfl
    obtain ⟨dl',k1,k2,k3⟩:=kF hE hpick q asm fin rest (fr++dl) s l h2 (λo' ho'=>hq o' (by simp[ho'])) (λg' w' hg'=>by
     obtain ⟨m1,m2⟩:=ha g' w' hg';refine⟨?_,λo' ho'=>m2 o' (by simp[ho'])⟩;rw[<-xD,qb (by rw[h3]; exact hnm g' λo' ho'=>m2 o' (by simp[ho']))];exact m1)
    refine⟨dl',k1,by rw[k2,pd]; simp[h3],λrest'=>?_⟩;rw[qaV,h4,xD,k3]
end
section
open Go.RowKit
variable {P:Program} {H H':Heap} {g g':Gh} {w0 w w':World} {cx:Cx} {s:St} {z:Nat->Bool} {f lo:Nat}
def cD (z:Nat->Bool) (H:Heap):Heap:=H.mapIdx λb B=>bif z b then .hole else B
theorem gy (z:Nat->Bool) (H:Heap) (b:Nat):(cD z H)[b]? = (H[b]?).map λB=>bif z b then .hole else B:=by simp[cD,List.getElem?_mapIdx]
theorem dL (z:Nat->Bool) (H:Heap):(cD z H).length=H.length:=by simp[cD]
theorem fU {b:Nat} (h:z b=false):(cD z H)[b]? = H[b]?:=by rw[gy,h]; cases H[b]?<;>rfl
theorem vG {b:Nat} {B:aA} (h:z b=true) (hB:H[b]? = some B):(cD z H)[b]? = some .hole:=by rw[gy,h,hB]; rfl
theorem ic {B:aA} (h:z H.length=false):cD z (H++[B])=cD z H++[B]:=by
 refine qbz λb=>?_;rw[gy];by_cases hb:b<H.length
 ·rw[qat hb,qat (by rw[dL]; exact hb),gy]
 ·by_cases e:b=H.length
  ·subst e;rw[qay (qab _),qay (by rw[dL]; exact qab _),dL,h];simp
  ·rw[qa4 r9,qa4 (by simp[dL]; omega)];rfl
theorem nA {b:Nat} {B:aA} (h:z b=false):cD z (H.set b B)=(cD z H).set b B:=by
 refine qbz λc=>?_;rw[gy,qbX,qbX,dL];by_cases e:b=c
 ·subst e;rw[qaf rfl,qaf rfl,h];split<;>rfl
 ·rw[qah e,qah e,gy]
theorem CB {z':Nat->Bool} {b:Nat} {B:aA} (hB:H[b]? = some B) (h1:z' b=false) (h2:∀ c,c≠b->z' c=z c):cD z' H=(cD z H).set b B:=by
 refine qbz λc=>?_;rw[gy,qbX,dL];by_cases e:b=c
 ·subst e;rw[qaf rfl,qaf (qad.1 hB).1,h1,hB];rfl
 ·rw[qah e,gy,h2 c (qbi e)]
theorem vF (h:∀ b,z b=false):cD z H=H:=by
 refine qbz λc=>?_;rw[gy,h];cases H[c]?<;>rfl
theorem xa {a:A} {c:Value} {b:Nat} (h:VR H g w a c) (hb:blk? a=some b):∃ B,H[b]? = some B/\B≠.hole:=by
 cases a with
 | ptr b' o=>
  cases hb;rw[VR] at h;cases hq:H[b]? with
  | none=>rw[hq] at h; exact h.elim
  | some B=>rw[hq] at h; exact⟨B,rfl,λe=>by subst e; exact h.elim⟩
 | ep b' i o=>
  cases hb;rw[VR] at h;cases hq:H[b]? with
  | none=>rw[hq] at h; exact h.elim
  | some B=>rw[hq] at h; exact⟨B,rfl,λe=>by subst e; exact h.elim⟩
 | sl b' o n cl=>
  cases hb;rw[VR] at h;cases hq:H[b]? with
  | none=>rw[hq] at h; exact h.elim
  | some B=>rw[hq] at h; exact⟨B,rfl,λe=>by subst e; exact h.elim⟩
 | mr b'=>
  cases hb;rw[VR] at h;cases hq:H[b]? with
  | none=>rw[hq] at h; exact h.elim
  | some B=>rw[hq] at h; exact⟨B,rfl,λe=>by subst e; exact h.elim⟩
 | _=>cases hb
theorem Dh {a:A} {c:Value} {b:Nat} (h:VR (cD z H) g w a c) (hb:blk? a=some b):z b=false:=by
 obtain ⟨B,h1,h2⟩:=xa h hb;cases hz:z b with
 | false=>rfl
 | true=>
  rw[gy,hz] at h1;cases hq:H[b]? with
  | none=>rw[hq] at h1; cases h1
  | some B'=>rw[hq] at h1; cases h1; exact absurd rfl h2
theorem Rel.Hu:∀ (q:Nat) {H:Heap} {g:Gh},Rel H g w0 w->∃ g',Rel (H++List.replicate q .hole) g' w0 w/\Ext H g w (H++List.replicate q .hole) g' w/\g'.S=g.S
 | 0,H,g,hr=>⟨g,by simpa using hr,by simpa using Ext.refl hr,rfl⟩
 | q+1,H,g,hr=>by
  obtain ⟨h1,h2⟩:=hr.push (Below.refl _ w) .hole none [] (λk hk=>by cases hk) (λ_=>Gh.bQ _ _ _ _);obtain ⟨g',e1,e2,e3⟩:=Rel.Hu q h1;have e:H++List.replicate (q+1) aA.hole=H++[.hole]++List.replicate q .hole:=by rw[List.replicate_succ,qaV]; rfl
  rw[e];exact⟨g',e1,h2.trans e2,e3⟩
theorem Rel.fill (hr:Rel H g w0 w) {w':World} (hb:Below w.heap.size w w') {b:Nat} (hB0:H[b]? = some .hole) {cs:List A} {arr:Array Value} {ty:TypeId} (hw:w'.heap[w.heap.size]? = some (.cells arr ty (0,0)))
  (hv:Ext H g w (H.set b (.box cs)) (g.put b (some w.heap.size) []) w'->bL (H.set b (.box cs)) (g.put b (some w.heap.size) []) w' cs arr.toList) :
  Rel (H.set b (.box cs)) (g.put b (some w.heap.size) []) w0 w'/\Ext H g w (H.set b (.box cs)) (g.put b (some w.heap.size) []) w':=by
 have hsz:w.heap.size<w'.heap.size:=(qaj.1 hw).1;have hbl:b<H.length:=(qad.1 hB0).1;have hget:∀ c,c≠b->(H.set b (.box cs))[c]? = H[c]?:=λc hc=>qao (qbi hc);have hgetb:(H.set b (aA.box cs))[b]? = some (.box cs):=by rw[qaE (by simpa using hbl)]
 have hmub:g.mu b=none:=hr.blk b _ hB0;have he:Ext H g w (H.set b (.box cs)) (g.put b (some w.heap.size) []) w':=by
  refine⟨λk o v hs hc=>?_,λc B' hB'=>?_,λk o ho=>(hb.block k (qaj.1 ho).1).trans ho,hb.size,λk marr cl hs hm=>?_,λk hk _=>hb.block k hk,λc k h=>?_⟩
  rotate_right 1
  ·by_cases e:c=b
   ·subst e; rw[Gh.bQ] at h; cases h; exact .inr (qab _)
   ·exact .inl ⟨c,by rwa [Gh.aL _ _ _ e] at h⟩
  ·have hlt:=qbW w ⟨k,o,none⟩ hc;refine⟨(hb.cell (p:=⟨k,o,none⟩) hlt).trans hc,hs.1,λc hck=>?_⟩;have hne:c≠b:=λe=>by subst e; rw[Gh.bQ] at hck; cases hck; exact absurd hlt (qcg _)
   rw[Gh.aL _ _ _ hne] at hck;obtain ⟨es,els,h3,h4⟩:=hs.2 c hck;exact⟨es,els,by rw[hget c hne]; exact h3,h4⟩
  ·by_cases e:c=b
   ·subst e;rw[hB0] at hB'; cases hB';exact⟨_,hgetb,trivial⟩
   ·refine⟨B',by rw[hget c e]; exact hB',?_⟩;cases B' with
    | box _=>exact Gh.aL _ _ _ e
    | row wr es els=>cases wr with
     | true=>exact⟨rfl,rfl,Gh.aL _ _ _ e,λk arr ty hk' ha=>⟨arr,eG hb ha,qab _⟩⟩
     | false=>exact⟨rfl,⟨[],by rw[Gh.fm _ _ _ e]; simp⟩,(hr.blk c _ hB').len,qab _,λ_=>⟨Gh.aL _ _ _ e,λk arr ty hk' ha=>⟨arr,eG hb ha,qab _⟩⟩⟩
    | rng _=>exact⟨Gh.aL _ _ _ e,rfl⟩
    | mp _ _ _=>exact Gh.aL _ _ _ e
    | dead=>trivial
    | hole=>trivial
  ·have hlt:=(qaj.1 hm).1;refine⟨(hb.block k hlt).trans hm,hs.1,λc hck=>?_⟩;have hne:c≠b:=λe=>by subst e; rw[Gh.bQ] at hck; cases hck; exact absurd hlt (qcg _)
   rw[Gh.aL _ _ _ hne] at hck;obtain ⟨es,els,h3,h4⟩:=hs.2 c hck;exact⟨es,els,by rw[hget c hne]; exact h3,h4⟩
 refine⟨⟨hr.below.trans (hb.mono hr.below.size),λc k hck=>?_,λc d k h1 h2=>?_,hr.A5 he,hr.zo he,λc B' hB'=>?_⟩,he⟩
 ·by_cases e:c=b
  ·subst e; rw[Gh.bQ] at hck; cases hck;exact⟨by simpa using hbl,hr.below.size,hsz⟩
  ·rw[Gh.aL _ _ _ e] at hck;obtain ⟨h1,h2,h3⟩:=hr.dom c k hck;exact⟨by simpa using h1,h2,qaz h3 hb.size⟩
 ·by_cases e:c=b
  ·by_cases e':d=b
   ·rw[e,e']
   ·subst e;rw[Gh.bQ] at h1; cases h1;rw[Gh.aL _ _ _ e'] at h2;exact absurd (hr.dom d _ h2).2.2 (qcg _)
  ·by_cases e':d=b
   ·subst e';rw[Gh.bQ] at h2; cases h2;rw[Gh.aL _ _ _ e] at h1;exact absurd (hr.dom c _ h1).2.2 (qcg _)
   ·rw[Gh.aL _ _ _ e] at h1;rw[Gh.aL _ _ _ e'] at h2;exact hr.inj c d k h1 h2
 ·by_cases e:c=b
  ·subst e;rw[hgetb] at hB'; cases hB';exact⟨w.heap.size,arr,ty,Gh.bQ _ _ _ _,hw,hv he⟩
  ·rw[hget c e] at hB';have h:=hr.blk c B' hB';cases B' with
   | box cs=>obtain ⟨k,arr,ty,h1,h2,h3⟩:=h; exact⟨k,arr,ty,(Gh.aL _ _ _ e).trans h1,eG hb h2,bL.ext he _ _ h3⟩
   | row wr es els=>cases wr with
    | true=>
     obtain ⟨ds,h1,h2,h3⟩:=h;exact⟨ds,bK.ext he _ _ h1,h2,λhp=>let ⟨k,arr,ty,e1,e2,e3⟩:=h3 hp; ⟨k,arr,ty,(Gh.aL _ _ _ e).trans e1,eG hb e2,e3⟩⟩
    | false=>
     obtain ⟨h1,h2⟩:=h;refine⟨?_,?_⟩
     ·rw[Gh.fm _ _ _ e]; exact bK.ext he _ _ h1
     ·rw[Gh.fm _ _ _ e]; exact h2
   | rng st=>obtain ⟨k,h1,h2⟩:=h; exact⟨k,(Gh.aL _ _ _ e).trans h1,eG hb h2⟩
   | mp _ _ _=>obtain ⟨k,arr,cl,h1,h2,h3,h4⟩:=h; exact⟨k,arr,cl,(Gh.aL _ _ _ e).trans h1,eG hb h2,h3,bL.ext he _ _ h4⟩
   | dead=>exact(Gh.aL _ _ _ e).trans h
   | hole=>exact(Gh.aL _ _ _ e).trans h
theorem BX (hr:Rel H g w0 w) {t:TypeId} {b:Nat} {cs:List A} (hB0:H[b]? = some .hole) (hz:iD P t=some cs) :
  ∃ d w' g',(Instr.alloc t true (.tuple #[])).run P w=.ok d w'/\Rel (H.set b (.box cs)) g' w0 w'/\Ext H g w (H.set b (.box cs)) g' w'/\VR (H.set b (.box cs)) g' w' (.ptr b 0) d/\g'.S=g.S:=by
 obtain ⟨i,z,hi,hzz,rfl⟩:=il hz;have hb:Below w.heap.size w (w.alloc (.cells z.cells t)):=(Below.refl _ w).alloc (qab _) _;obtain ⟨h1,h2⟩:=hr.fill hb hB0 (cs:=z.cells.toList.map BF) (qbM w _) (λhe=>kh _);refine⟨.pointer (some ⟨w.heap.size,0,none⟩),_,_,by simp[Instr.alloc,zeroValue,typeInfo,hi,hzz,newVar,newRow,newObj]; rfl,h1,h2,?_,rfl⟩;rw[VR,qaE (by simpa using (qad.1 hB0).1)];exact⟨w.heap.size,Gh.bQ _ _ _ _,rfl⟩
def gP (H:Heap) (b:Nat):Option (List (List A)):=match H[b]? with | some (.row false _ els)=>some els | _=>none
theorem xF {H:Heap} {b:Nat} {C:aA} (h:H[b]? = some C) (hC:∀ es els,C≠aA.row false es els):gP H b=none:=by
 unfold gP;rw[h];cases C with
 | row wr es els=>cases wr with
  | true=>rfl
  | false=>exact absurd rfl (hC es els)
 | _=>rfl
theorem wh {H H':Heap} (h:∀ b,gP H b=gP H' b):∀ q,jk q H=jk q H'
 | 0=>rfl
 | q+1=>by
  funext b o m
  have hb:=h b;have gen:∀ K:Heap,jk (q+1) K b o m=match gP K b with | some els=>.imm (dM (jk q K) ((els.drop o).take m)) false | none=>.any:=λK=>by
   unfold jk gP;cases K[b]? with
   | none=>rfl
   | some B=>cases B with
    | row wr es els=>cases wr<;>rfl
    | _=>rfl
  rw[gen H,gen H',hb,wh h q]
theorem ta {H H':Heap} (h:∀ b,gP H b=gP H' b):snap H=snap H':=by
 funext a
 unfold snap;rw[wh h 4]
theorem xo {H H':Heap} (h:∀ b,gP H b=gP H' b):fw H=fw H':=by
 funext a
 unfold fw EW;rw[ta h]
def xA (z:Nat->Bool) (r:A×Heap):A×Heap:=(r.1,cD z r.2)
theorem di {α β γ:Type} {q:Option α} {F:α->Option β} {G:α->Option γ} {h:γ->β} (hh:∀ a,F a=(G a).map h):q.bind F=(q.bind G).map h:=by
 cases q with
 | none=>rfl
 | some a=>exact hh a
theorem z7 {t:TypeId} {a x:A} (hb:∀ b,blk? a=some b->z b=false):jz P t a x (cD z H) lo=(jz P t a x H lo).map (cD z):=by
 unfold jz;cases cY P t with
 | none=>rfl
 | some n=>
  cases x.cells? with
  | none=>rfl
  | some xs=>
   simp only[Z6]
   cases (n==0 || !(xs.length==n)) with
   | true=>rfl
   | false=>
    simp only[Z8]
    cases a with
    | ptr b o=>
     have hz:=hb b rfl;simp only[fU hz]
     split
     ·rename_i cs _;cases (decide (lo<=b)&&decide (o+n<=cs.length)) with
      | false=>rfl
      | true=>simp only[qaa,qaY,nA hz]
     ·rfl
    | ep b i o=>
     have hz:=hb b rfl;simp only[fU hz]
     split
     ·rename_i es els _;split
      ·rename_i cs _;cases (decide (lo<=b)&&decide (o+n<=cs.length)) with
       | true=>simp only[qaa,qaY,nA hz]
       | false=>
        simp only[Z8]
        cases (decide (lo<=b)&&Nat.beq o 0&&Nat.beq (n / es*es) n&&decide (i+n / es<=els.length)) with
        | true=>simp only[qaa,qaY,nA hz]
        | false=>rfl
      ·rfl
     ·rfl
    | _=>rfl
theorem vX {t:TypeId} {cs:List A} (hz:z H.length=false):rowOf P t cs (cD z H)=(rowOf P t cs H).map (xA z):=by
 unfold rowOf;split
 ·cases cY P _ with
  | none=>rfl
  | some es=>
   simp only[Z6]
   rename_i n e _;cases (Nat.beq es 0 || Nat.beq n 0 || !Nat.beq cs.length (n*es)) with
   | true=>rfl
   | false=>simp only[Z8,qaY,xA,ic hz,dL]
 ·rfl
theorem Ac {t:TypeId} {c:Bool} (hz:z H.length=false):qF c P t (cD z H)=(qF c P t H).map (xA z):=by
 unfold qF;cases c with
 | true=>
  simp only[qaa]
  unfold mj;cases iD P t with
  | none=>rfl
  | some cs=>exact vX hz
 | false=>
  simp only[Z8]
  unfold nO;cases iD P t with
  | none=>rfl
  | some cs=>simp only[qaY,xA,ic hz,dL]
theorem EE {t:TypeId} {x:A} {c:Bool} (hz:z H.length=false):B6 c P t x (cD z H)=(B6 c P t x H).map (xA z):=by
 unfold B6;cases c with
 | true=>
  simp only[qaa]
  unfold xb;cases x.cells? with
  | none=>rfl
  | some cs=>exact vX hz
 | false=>
  simp only[Z8]
  unfold BP;cases x.cells? with
  | none=>rfl
  | some cs=>simp only[qaY,xA,ic hz,dL]
theorem sB {w:Bool} {t:TypeId} {n c:A} (hz:z H.length=false):cR w P t n c (cD z H)=(cR w P t n c H).map (xA z):=by
 unfold cR;refine di λe=>di λes=>di λby_=>di λzz=>di λn=>di λc=>?_;cases (es==0 || !(zz.length==es) || !decide (c*by_<=dt) || !decide (c<=dt) || !decide (n<=c)) with
 | true=>rfl
 | false=>
  simp only[Z8]
  cases n==c with
  | true=>simp only[qaa,qaY,xA,ic hz,dL]
  | false=>cases n==0 with
   | true=>simp only[qaa,Z8,qaY,xA,ic hz,dL]
   | false=>rfl
theorem CA {t:TypeId} {n c:A} {b w:Bool} (hz:z H.length=false):vE b w P t n c (cD z H)=(vE b w P t n c H).map (xA z):=by
 unfold vE;cases b with
 | false=>exact sB hz
 | true=>
  simp only[qaa]
  unfold jy;refine di λe=>di λes=>di λby_=>di λzz=>di λn=>di λc=>?_;cases (es==0 || !(zz.length==es) || !decide (c*by_<=dt) || !decide (c<=dt) || !(n==c))<;>rfl
theorem Am {a:A} (hb:∀ b,blk? a=some b->z b=false):els? (cD z H) a=els? H a:=by
 cases a with
 | sl b o n c=>simp only[els?,fU (hb b rfl)]
 | v x=>cases x<;>rfl
 | _=>rfl
theorem BR {t:TypeId} {x y:A} (hx:∀ b,blk? x=some b->z b=false) (hy:∀ b,blk? y=some b->z b=false):oU P t x y (cD z H) lo=(oU P t x y H lo).map (xA z):=by
 unfold oU;rw[Am hy];refine di λe=>di λes=>di λys=>?_;cases (es==0 || !(ys.all λcs=>cs.length==es&&cs.all A.cell)) with
 | true=>rfl
 | false=>
  simp only[Z8]
  cases x with
  | sl b o n c=>
   have hz:=hx b rfl;simp only[fU hz]
   split
   ·rename_i es' els _;cases (decide (lo<=b)&&es'==es) with
    | true=>simp only[qaa,qaY,xA,nA hz]
    | false=>rfl
   ·rfl
  | _=>rfl
theorem EN {t2:TypeId} {by_:Nat} {zz:List A} {a:A} (hb:∀ b,blk? a=some b->z b=false):Cf P (cD z H) t2 by_ zz a=Cf P H t2 by_ zz a:=by
 unfold Cf;rw[Am hb]
theorem yg {t t2:TypeId} {wr:Bool} {x y:A} (hz:z H.length=false) (hx:∀ b,blk? x=some b->z b=false) (hy:∀ b,blk? y=some b->z b=false):bU P t t2 wr x y (cD z H) lo=(bU P t t2 wr x y H lo).map (xA z):=by
 unfold bU;simp only[EN hy]
 refine di λe=>di λes=>di λby_=>di λzz=>di λys=>?_;cases (es==0 || by_==0 || !(zz.length==es) || !(ys.all λcs=>cs.length==es&&cs.all A.cell)) with
 | true=>rfl
 | false=>
  simp only[Z8]
  cases x with
  | imm xs cl=>cases cl with
   | false=>rfl
   | true=>
    simp only[]
    cases !decide ((xs.length+ys.length)*by_<=dt) with
    | true=>rfl
    | false=>
     simp only[Z8]
     cases wr&&xs.isEmpty with
     | true=>simp only[qaa,qaY,xA,ic hz,dL]
     | false=>
      simp only[Z8]
      cases (xs.all λcs=>cs.length==es&&cs.all A.cell) with
      | true=>simp only[qaa,qaY,xA,ic hz,dL]
      | false=>rfl
  | sl b o n c=>
   have hzb:=hx b rfl;simp only[fU hzb]
   split
   ·rename_i es' els _;cases (!decide ((n+ys.length)*by_<=dt) || !(es'==es) || !decide (o+n<=els.length)) with
    | true=>rfl
    | false=>
     simp only[Z8]
     cases c with
     | true=>simp only[qaa,qaY,xA,ic hz,dL]
     | false=>
      simp only[Z8]
      cases (decide (lo<=b)&&o==0&&n==els.length) with
      | true=>simp only[qaa,qaY,xA,nA hzb]
      | false=>rfl
   ·rfl
  | _=>rfl
theorem IX {a x:A} (hrow:∀ b,gP (cD z H) b=gP H b):cw a (cD z H) x=cw a H x:=by
 unfold cw;rw[xo hrow]
theorem Fj {p:Bool} {a x:A} (hrow:∀ b,gP (cD z H) b=gP H b):IY p a (cD z H) x=IY p a H x:=by
 cases p with
 | true=>rfl
 | false=>exact IX hrow
theorem G8 {o:Oper} {fr:List (Nat×A)} (he:eF o=true) (hz:z H.length=false) (hrow:∀ b,gP (cD z H) b=gP H b) (hop:∀ y∈o.op.operands.toList,∀ b,blk? (cM cx ⟨fr,H⟩ y)=some b->z b=false) :
  bV cx f lo o ⟨fr,cD z H⟩ (λa H=>some (a,H))=(bV cx f lo o ⟨fr,H⟩ (λa H=>some (a,H))).map (xA z):=by
 have ho:∀ x,cM cx ⟨fr,cD z H⟩ x=cM cx ⟨fr,H⟩ x:=λx=>by cases x<;>rfl
 have bm:∀ (q:Option (A×Heap)),(q.map (xA z)).bind (λr=>some (r.1,r.2))=(q.bind λr=>some (r.1,r.2)).map (xA z):=λq=>by cases q<;>rfl
 unfold eF at he;split at he
 ·rename_i t ad v h;unfold bV;simp only[h,ho]
  rw[Fj hrow,z7 (hop ad (by rw[h]; simp[Op.operands]))];cases jz cx.P t (cM cx ⟨fr,H⟩ ad) (IY (cx.pin f t) (cM cx ⟨fr,H⟩ ad) H (cM cx ⟨fr,H⟩ v)) H lo<;>rfl
 ·rename_i t h;unfold bV;simp only[h,ho]
  rw[Ac hz,bm]
 ·rename_i t v h;unfold bV;simp only[h,ho]
  rw[EE hz,bm]
 ·rename_i t l c h;unfold bV;simp only[h,ho]
  rw[CA hz,bm]
 ·rename_i c h;unfold bV;simp only[h]
  have hopc:∀ y∈c.args.toList,∀ b,blk? (cM cx ⟨fr,H⟩ y)=some b->z b=false:=λy hy=>hop y (by rw[h]; simp[Op.operands,Call.operands]; exact .inr (by simpa using hy));split at he
  ·rename_i hca;unfold rH;simp only[hca]
   split
   all_goals first | (rename_i hh _ _; cases hh; done) | (rename_i hh _ _; injection hh with hh; cases hh; done) | skip
   ·rename_i x y t t2 _ hargs _;simp only[ho]
    rw[yg hz (hopc x (by rw[hargs]; simp)) (hopc y (by rw[hargs]; simp)),bm]
   all_goals first | rfl | (rename_i hh _; injection hh with hh; cases hh; done)
  ·rename_i hca;unfold rH;simp only[hca]
   split
   all_goals first | (rename_i hh _ _; cases hh; done) | (rename_i hh _ _; injection hh with hh; cases hh; done) | skip
   ·rename_i x y t t2 _ hargs _;simp only[ho]
    rw[BR (hopc x (by rw[hargs]; simp)) (hopc y (by rw[hargs]; simp)),bm]
   all_goals first | rfl | (rename_i hh _; injection hh with hh; cases hh; done)
  ·cases he
 ·cases he
end
section
open Go.RowKit
section
variable {F:Fence} {n:Nat} {P:Program} {ops:Array Oper} {Q:Exit->Act->World->Prop}
def Jk (F:Fence) (n:Nat) (P:Program) (o:Oper) (ev:Operand->Value) (w:World) (R:Value->World->Prop) (Rp:List PanicEntry->World->Prop):Prop:=
 BB F n P o ev w R∨∃ f args w',(execOp ev o).run P w=.ok (.enter f args) w'/\CallsIn F (n - 1) P f args w' λ
   | .returned v,w''=>R v w''
   | .panicked ch,w''=>Rp ch w''
   | _,_=>False
theorem wx (hWF:Di F) {i:Nat} {o:Oper} (ho:ops[i]? = some o) (hp:od o=true) {a:Act} {w:World} {K:Act->World->Prop} {R:Value->World->Prop}
  (h:if Region.wanted o (yielded ops a.tmps)=true then Jk F n P o a.eval w R (λch w'=>Q (.panic ch) a w') else R undef w) (hK:∀ v w',R v w'->K (a.put o.dst v) w'):wpOpIn F n P ops Q i K a w:=by
 by_cases hw:Region.wanted o (yielded ops a.tmps)=true
 ·rw[qaf hw] at h;rcases h with h | ⟨f,args,w',h1,h2⟩
  ·exact mV hWF ho hp (by rw[qaf hw]; exact h) hK
  ·unfold wpOpIn;simp only[ho]
   rw[qaf hw];refine⟨λf _=>hWF.2 f,?_⟩;rw[qd9 _ _ _ (λc hc=>by unfold od at hp; rw[hc] at hp; cases hp),h1];have hd:F.depth.isSome=true->1<=n:=λhs=>by rw[hWF.1] at hs; cases hs
   simp only[Oper.uponIn]
   exact⟨hd,h2.mono λe w'' he=>by cases e<;>first | exact hK _ _ he | exact he | exact he.elim⟩
 ·exact mV hWF ho hp (by rw[qah hw] at h ⊢; exact h) hK
theorem vV {a0:Act} {w0:World} (hWF:Di F) (hm:P.follows .mixedOrders=true) (N m:Nat) (hN:a0.tmps.size=N) (jT:wO ops N=true) (chkt:gE ops m=true)
  (I:(Nat->Prop)->Act->World->Prop) (h0:∀ D,(∀ i,¬ D i)->I D a0 w0.drew)
  (hstep:∀ (D D':Nat->Prop) i o,i<m->ops[i]? = some o->(∀ j,D j->j<m)->¬ D i->(∀ j,gQ ops i j=true->D j)->(∀ j k,D j->gQ ops j k=true->D k)->(∀ j,D' j↔j=i∨D j)->∀ (a:Act) (w:World),I D a w->a.tmps.size=N->a.defers=a0.defers ->
   if Region.wanted o (yielded ops a.tmps)=true then Jk F n P o a.eval w (λv w'=>I D' (a.put o.dst v) w') (λch w'=>Q (.panic ch) a w') else I D' (a.put o.dst undef) w)
  (hend:∀ (D:Nat->Prop) (a:Act) (w:World),(∀ i,i<m->D i)->(∀ j,D j->j<m)->I D a w->a.defers=a0.defers->a.tmps.size=N->wpListIn F n P ops Q (ops.toList.drop m) a w) :
  LW F n P ops Q a0 w0:=by
 have chk1:∀ i o,ops[i]? = some o->od o=true/\(∀ e∈o.after,Region.binds .any e=true->e.on<i):=by
  intro i o ho;have hi:i<ops.size:=(qaj.1 ho).1;have h:=qak.1 jT i (qaR.2 hi);simp only[ho,Z9] at h;obtain ⟨⟨⟨⟨⟨h1,h2⟩,h3⟩,h4⟩,h5⟩,h6⟩:=h;refine⟨h1,λe he hb=>?_⟩;have:=qcw.1 h3 e he;rw[hb] at this; simpa using this
 have hm2:m<=ops.size:=by
  simp only[gE,Z9,qag] at chkt;exact chkt.1.1
 have main:∀ (fuel:Nat) (listed:Array Bool) (a:Act) (w:World),En ops listed<=fuel->listed.size=ops.size->I (λi=>fJ ops listed i) a w->a.defers=a0.defers->a.tmps.size=N ->
   (∀ i o,ops[i]? = some o->fJ ops listed i->∀ e∈o.after,Region.binds .any e=true->fJ ops listed e.on)->(∀ i,m<=i->¬ fJ ops listed i)->wpAnyIn F n P .any ops Q fuel listed a w:=by
  have getD_eq:∀ (listed:Array Bool) (i:Nat),i<listed.size->listed.getD i true=listed.getD i false:=λlisted i hi=>by simp[hi]
  intro fuel
  induction fuel with
  | zero=>
   intro listed a w hu hls hI hdf hsz hcl hnt;have all:∀ i,i<ops.size->fJ ops listed i:=λi hi=>by
    cases hc:listed.getD i false with
    | true=>exact hc
    | false=>
     have hmem:i∈(List.range ops.size).filter (λi=>!listed.getD i true):=qdd.2 ⟨qaR.2 hi,by rw[getD_eq _ _ o3,hc]; rfl⟩;have:=qcj hmem;unfold En at hu; omega
   have hmm:m=ops.size:=qde hm2 (qb1 λh=>hnt m (qab _) (all m h));exact sa chkt 0 ops.size o3 hm2 0 listed a w (qab _) hls (λi hi=>⟨λ_=>hi,λ_=>all i hi⟩)
    (by rw[<-hmm]; exact hend _ a w (λi hi=>all i o3) (λj hj=>qbs λhle=>hnt j hle hj) hI hdf hsz)
  | succ fuel ih=>
   intro listed a w hu hls hI hdf hsz hcl hnt;by_cases hall:∀ i,i<m->fJ ops listed i
   ·refine sa chkt (ops.size - m) m o3 (qab _) (fuel+1) listed a w ?_ hls (λi hi=>⟨λh=>qbs λhle=>hnt i hle h,λh=>hall i h⟩)
     (hend _ a w hall (λj hj=>qbs λhle=>hnt j hle hj) hI hdf hsz)
    refine qaC ?_ hu;unfold En;have:((List.range ops.size).filter λi=>decide (m<=i)).length=ops.size - m:=by
     rw[<-qbF];have:∀ s,(List.range s).countP (λi=>decide (m<=i))=s - m:=by
      intro s
      induction s with
      | zero=>simp
      | succ s ih=>rw[qdf,List.countP_append,ih]; simp[List.countP_cons]; split<;>omega
     exact this _
    rw[<-this];rw[<-qbF,<-qbF];refine qdY λi hi h=>?_;have hi:=qaR.1 hi;have hn:=hnt i (by simpa using h);unfold fJ at hn;rw[getD_eq _ _ o3];simpa using hn
   ·simp only[qd5] at hall;obtain ⟨i0,hi0,hni0⟩:=hall;refine⟨λhrd=>?_,λi hi=>?_⟩
    ·exfalso
     have:∀ i,i<m->fJ ops listed i:=by
      intro i
      induction i using Nat.strongRecOn with
      | _ i ih2=>
       intro hi;cases hc:listed.getD i false with
       | true=>exact hc
       | false=>
        have:i∈Region.ready .any ops listed:=by
         refine qcE.2 ⟨by rw[getD_eq _ _ o3]; exact hc,_,qbb o3,λe he hb=>?_⟩;have hlt:=(chk1 i _ (qbb o3)).2 e he hb;exact ih2 e.on hlt o3
        rw[hrd] at this; cases this
     exact hni0 (this i0 hi0)
    obtain ⟨hun,o,ho,hall⟩:=qcE.1 hi;have his:i<ops.size:=(qaj.1 ho).1;have him:i<m:=qbs λhle=>by
     simp only[gE,Z9] at chkt;have h1:=qak.1 chkt.1.2 i (qaR.2 his);simp only[qbo,qag] at h1;have h2:=qak.1 (h1.resolve_left o3) i0 (qaR.2 hi0);exact hni0 (nr hcl i i0 ⟨o,ho,hall⟩ h2)
    obtain ⟨c1,c3⟩:=chk1 i o ho;have hnot:¬ fJ ops listed i:=by unfold fJ; rw[<-getD_eq _ _ o3,hun]; simp
    have come_set:∀ k,fJ ops (listed.setIfInBounds i true) k↔k=i∨fJ ops listed k:=λk=>by
     unfold fJ;by_cases e:k=i
     ·subst e; simp[hls,his]
     ·rw[qcv false (qbi e)]; simp[e]
    have hlt:∀ j,fJ ops listed j->j<m:=λj hj=>qbs λhle=>hnt j hle hj;refine wx hWF ho c1 (R:=λv w'=>I (λk=>fJ ops (listed.setIfInBounds i true) k) (a.put o.dst v) w') (hstep _ _ i o him ho hlt hnot (λj hb=>nr hcl i j ⟨o,ho,hall⟩ hb) (λj k hj hb=>?_) come_set a w hI hsz hdf) ?_
    ·cases hoj:ops[j]? with
     | none=>exact absurd (Array.getElem?_eq_none_iff.1 hoj) (by have:=hlt j hj; omega)
     | some oj=>exact nr hcl j k ⟨oj,hoj,hcl j oj hoj hj⟩ hb
    ·intro v w' hI';refine ih _ _ _ ?_ (by simpa using hls) hI' ?_ ?_ ?_ ?_
     ·have:=filter_lt (λk=>!listed.getD k true) (λk=>!(listed.setIfInBounds i true).getD k true) (List.range ops.size) (λx hx hq=>by
       by_cases e:i=x
       ·subst e; rw[hun]; rfl
       ·rw[qcv true e] at hq; exact hq) ⟨i,qaR.2 his,by rw[hun]; rfl,by simp[hls,his]⟩
      unfold En at *; omega
     ·cases hd:o.dst<;>simp[Act.put,hdf]
     ·cases hd:o.dst<;>simp[Act.put,hsz]
     ·intro k ok hok hk e he hb;rw[come_set];rcases (come_set k).1 hk with rfl | hk
      ·rw[ho] at hok; cases hok;exact .inr (hall e he hb)
      ·exact .inr (hcl k ok hok hk e he hb)
     ·intro k hk hc;rcases (come_set k).1 hc with rfl | hc
      ·omega
      ·exact hnt k hk hc
 have h00:∀ i,¬ fJ ops (Array.replicate ops.size false) i:=λi hc=>by
  unfold fJ at hc;by_cases h:i<ops.size<;>simp[Array.getD,h] at hc
 refine FD hm (main _ _ _ _ ?_ r8 (h0 _ h00) rfl hN ?_ ?_)
 ·unfold En;exact qaC (qda _ _) r8
 ·intro i o _ hc; exact absurd hc (h00 i)
 ·intro i _ hc; exact h00 i hc
end
variable {H H':Heap} {g g':Gh} {w0 w w':World} {cx:Cx} {s:St} {a:Act} {F:Fence} {n:Nat} {N lo:Nat} {mb:Mb} {H0:Heap} {gs:Gh} {ws:World} {Bs:Heap->Gh->World->Prop} {f:Nat} {ops:Array Oper}
theorem va {call:bB} {o:Oper} {fr:List (Nat×A)} {H H':Heap} (hk:cp o=0):jm cx call f o ⟨fr,H⟩=jm cx call f o ⟨fr,H'⟩:=by
 have ho:∀ x,cM cx ⟨fr,H⟩ x=cM cx ⟨fr,H'⟩ x:=λx=>by cases x<;>rfl
 have hof:cM cx ⟨fr,H⟩=cM cx ⟨fr,H'⟩:=funext ho;unfold cp at hk;unfold jm bV;split at hk
 all_goals first
  | (rename_i h; simp only[h,ho,hof]; done)
  | (rename_i h; simp only[h,ho,hof]; rfl)
  | (cases hk; done)
  | (split at hk<;>cases hk; done)
theorem EX {H H':Heap} {a:A} (h:vg a=true):fw H a=fw H' a:=by
 unfold vg at h;unfold fw;split
 ·cases h
 ·rename_i cs;congr 1;refine qec λc hc=>?_;have:=qak.1 h c hc;unfold LL at this;unfold EW;split
  ·cases this
  ·rfl
  ·rfl
 ·rfl
theorem vi:∀ {l:List A},rM l=true->∀ a∈l,vg a=true
 | [],_,a,ha=>by cases ha
 | x :: l,h,a,ha=>by
  unfold rM at h;cases hx:vg x with
  | false=>rw[hx] at h; cases h
  | true=>
   rw[hx] at h;rcases qaD.1 ha with rfl | ha
   ·exact hx
   ·exact vi h a ha
theorem Aw {call:bB} {o:Oper} {fr:List (Nat×A)} {H H':Heap} (hk:cp o=2) (hf:rM (partsOf cx ⟨fr,H⟩ o.op)=true):jm cx call f o ⟨fr,H⟩=jm cx call f o ⟨fr,H'⟩:=by
 have ho:∀ x,cM cx ⟨fr,H⟩ x=cM cx ⟨fr,H'⟩ x:=λx=>by cases x<;>rfl
 unfold cp at hk;split at hk<;>first | (cases hk; done) | (split at hk<;>cases hk; done) | skip
 rename_i t len parts h;have hf:=vi hf;unfold partsOf at hf;rw[h] at hf;simp only[] at hf;unfold jm bV;simp only[h]
 have:(parts.toList.map λp=>(p.1,fw H (cM cx ⟨fr,H⟩ p.2)))=parts.toList.map λp=>(p.1,fw H' (cM cx ⟨fr,H'⟩ p.2)):=by
  refine qec λp hp=>?_;rw[<-ho,EX (hf _ (qdb.2 ⟨p,hp,rfl⟩))]
 rw[this]
theorem qe {H H':Heap} {x:A} (hb:∀ b,blk? x=some b->H'[b]? = H[b]?):ij H x=ij H' x:=by
 unfold ij;cases x with
 | ptr b o=>simp only[]; rw[hb b rfl]
 | ep b i o=>simp only[]; rw[hb b rfl]
 | sl b o n c=>simp only[]; rw[hb b rfl]
 | mr b=>simp only[]; rw[hb b rfl]
 | _=>rfl
theorem yJ {call:bB} {o:Oper} {fr:List (Nat×A)} {H H':Heap} (hk:cp o=1) (hb:∀ b,blk? (addrOf cx ⟨fr,H⟩ o.op)=some b->H'[b]? = H[b]?):jm cx call f o ⟨fr,H⟩=jm cx call f o ⟨fr,H'⟩:=by
 have ho:∀ x,cM cx ⟨fr,H⟩ x=cM cx ⟨fr,H'⟩ x:=λx=>by cases x<;>rfl
 have hof:cM cx ⟨fr,H⟩=cM cx ⟨fr,H'⟩:=funext ho;unfold cp at hk;split at hk<;>first | (cases hk; done) | skip
 ·rename_i t x h;unfold addrOf at hb;rw[h] at hb;simp only[] at hb;unfold jm bV;simp only[h]
  have:lL cx.P t (cM cx ⟨fr,H⟩ x) H=lL cx.P t (cM cx ⟨fr,H'⟩ x) H':=by
   rw[<-ho];unfold lL;cases hx:cM cx ⟨fr,H⟩ x with
   | ptr b o=>simp only[]; rw[hb b (by rw[hx]; rfl)]
   | ep b i o=>simp only[]; rw[hb b (by rw[hx]; rfl)]
   | _=>rfl
  rw[this]
 ·rename_i t x i h;unfold addrOf at hb;rw[h] at hb;simp only[] at hb;unfold jm bV;simp only[h]
  have:gX cx.P t (cM cx ⟨fr,H⟩ x) i H=gX cx.P t (cM cx ⟨fr,H'⟩ x) i H':=by
   rw[<-ho];unfold gX;rw[qe hb]
  rw[this]
 ·rename_i t x i h;unfold addrOf at hb;rw[h] at hb;simp only[] at hb;unfold jm bV;simp only[h]
  have:dA cx.P t (cM cx ⟨fr,H⟩ x) (cM cx ⟨fr,H⟩ i) H=dA cx.P t (cM cx ⟨fr,H'⟩ x) (cM cx ⟨fr,H'⟩ i) H':=by
   rw[<-ho,<-ho];unfold dA;rw[qe hb];cases hx:cM cx ⟨fr,H⟩ x with
   | ptr b o=>rfl
   | ep b i o=>simp only[]; rw[hb b (by rw[hx]; rfl)]
   | sl b o n c=>simp only[]; rw[hb b (by rw[hx]; rfl)]
   | _=>rfl
  rw[this]
 ·rename_i t x lo hi mx h;unfold addrOf at hb;rw[h] at hb;simp only[] at hb;unfold jm bV;simp only[h]
  have:∀ a b c,eK cx.P t (cM cx ⟨fr,H⟩ x) a b c H=eK cx.P t (cM cx ⟨fr,H'⟩ x) a b c H':=λa b c=>by
   rw[<-ho];generalize hx:cM cx ⟨fr,H⟩ x=y at hb ⊢;unfold eK;split
   ·rfl
   ·rfl
   ·rename_i hb';rw[hb _ rfl]
   ·rfl
   ·rename_i hb';rw[hb _ rfl]
   ·rfl
  simp only[this]
  simp only[hof]
 ·rename_i x h;unfold addrOf at hb;rw[h] at hb;simp only[] at hb;unfold jm bV;simp only[h]
  have:Ey (cM cx ⟨fr,H⟩ x) H=Ey (cM cx ⟨fr,H'⟩ x) H':=by
   rw[<-ho];have hr:=qe hb;unfold Ey;cases hx:cM cx ⟨fr,H⟩ x with
   | ptr b o=>rw[hx] at hr; simp only[sS,hr]
   | ep b i o=>rw[hx] at hr; simp only[sS,hr]
   | fn q _ _=>cases q<;>rfl
   | _=>rfl
  rw[this]
 ·rename_i t1 t2 x h;unfold addrOf at hb;rw[h] at hb;simp only[] at hb;unfold jm bV;simp only[h]
  have:bt cx.P t1 t2 (cM cx ⟨fr,H⟩ x) H=bt cx.P t1 t2 (cM cx ⟨fr,H'⟩ x) H':=by
   rw[<-ho];have he:Al H (cM cx ⟨fr,H⟩ x)=Al H' (cM cx ⟨fr,H⟩ x):=by
    unfold Al els?;cases hx:cM cx ⟨fr,H⟩ x with
    | sl b o n c=>simp only[]; rw[hb b (by rw[hx]; rfl)]
    | v y=>rfl
    | _=>rfl
   generalize cM cx ⟨fr,H⟩ x=z at he;unfold bt;split
   ·rw[he]
   ·rfl
   ·rfl
  rw[this]
 ·rename_i t x q c h;unfold addrOf at hb;rw[h] at hb;simp only[] at hb;unfold jm bV;simp only[h]
  have:fZ cx.P t (cM cx ⟨fr,H⟩ x) (cM cx ⟨fr,H⟩ q) c H=fZ cx.P t (cM cx ⟨fr,H'⟩ x) (cM cx ⟨fr,H'⟩ q) c H':=by
   rw[<-ho,<-ho];unfold fZ;cases hx:cM cx ⟨fr,H⟩ x with
   | mr b=>simp only[]; rw[hb b (by rw[hx]; rfl)]
   | _=>rfl
  rw[this]
 ·rename_i c h;split at hk<;>first | (cases hk; done) | skip
  rename_i hc;unfold addrOf at hb;rw[h] at hb;simp only[] at hb;unfold jm bV;simp only[h,hc]
  have hi:jW (.call c)=false:=by unfold jW; simp only[hc]
  rw[hi,Z8,Z8];unfold rH;simp only[hc]
  cases hx:c.args.toList with
  | nil=>rfl
  | cons y l=>
   rw[hx] at hb;simp only[] at hb;cases l with
   | nil=>
    cases c.argTypes.toList with
    | nil=>rfl
    | cons t ts=>cases ts with
     | nil=>
      simp only[]
      have:sy cx.P t (cM cx ⟨fr,H⟩ y) H=sy cx.P t (cM cx ⟨fr,H'⟩ y) H':=by
       rw[<-ho];unfold sy;rw[qe hb]
      rw[this]
     | cons _ _=>rfl
   | cons _ _=>rfl
theorem kO {H:Heap} {x:A} {b:Nat} (h:ij H x=true) (hb:blk? x=some b):∃ B,H[b]? = some B:=by
 unfold ij at h;cases x with
 | ptr b' o=>cases hb; cases hq:H[b]? with
  | none=>simp only[hq] at h; cases h
  | some B=>exact⟨B,rfl⟩
 | ep b' i o=>cases hb; cases hq:H[b]? with
  | none=>simp only[hq] at h; cases h
  | some B=>exact⟨B,rfl⟩
 | sl b' o n c=>cases hb; cases hq:H[b]? with
  | none=>simp only[hq] at h; cases h
  | some B=>exact⟨B,rfl⟩
 | mr b'=>cases hb; cases hq:H[b]? with
  | none=>simp only[hq] at h; cases h
  | some B=>exact⟨B,rfl⟩
 | _=>cases hb
theorem xl {call:bB} {o:Oper} {s:St} {x:A} {b:Nat} (hk:cp o=1) (h1:jm cx call f o s=some x) (hb:blk? (addrOf cx s o.op)=some b):∃ B,s.H[b]? = some B:=by
 unfold cp at hk;unfold addrOf at hb;split at hk<;>first | (cases hk; done) | skip
 ·rename_i t y hx;rw[hx] at hb;simp only[] at hb;unfold jm bV at h1;simp only[hx] at h1;obtain ⟨_,h1,_⟩:=bN h1;unfold lL at h1;obtain ⟨_,_,h1⟩:=bN h1;obtain ⟨_,h1⟩:=fq h1;generalize cM cx s y=z at hb h1;cases z with
  | ptr b2 o2=>cases hb; cases hq:s.H[b]? with
   | none=>simp only[hq] at h1; cases h1
   | some B=>exact⟨B,rfl⟩
  | ep b2 i2 o2=>cases hb; cases hq:s.H[b]? with
   | none=>simp only[hq] at h1; cases h1
   | some B=>exact⟨B,rfl⟩
  | sl b2 o2 n2 c2=>cases h1
  | mr _=>cases h1
  | _=>cases hb
 ·rename_i t y q hx;rw[hx] at hb;simp only[] at hb;unfold jm bV at h1;simp only[hx] at h1;obtain ⟨_,h1,_⟩:=bN h1;unfold gX at h1;exact kO (bJ h1).1 hb
 ·rename_i t y q hx;rw[hx] at hb;simp only[] at hb;unfold jm bV at h1;simp only[hx] at h1;obtain ⟨_,h1,_⟩:=bN h1;unfold dA at h1;obtain ⟨_,_,h1⟩:=bN h1;exact kO (bJ h1).1 hb
 ·rename_i t y q1 q2 q3 hx;rw[hx] at hb;simp only[] at hb;unfold jm bV at h1;simp only[hx] at h1;obtain ⟨_,h1,_⟩:=bN h1;obtain ⟨_,h1⟩:=bJ h1;generalize cM cx s y=z at hb h1;unfold eK at h1;split at h1
  ·cases hb
  ·cases hb
  ·cases hb;(iterate 3 obtain ⟨_,_,h1⟩:=bN h1);obtain ⟨hc,_⟩:=bJ h1;rw[Z9] at hc;have hc:=hc.2;cases hq:s.H[b]? with
   | none=>rw[hq] at hc; cases hc
   | some B=>exact⟨B,rfl⟩
  ·cases hb
  ·cases hb;(iterate 3 obtain ⟨_,_,h1⟩:=bN h1);obtain ⟨hc,_⟩:=bJ h1;rw[Z9] at hc;have hc:=hc.2;cases hq:s.H[b]? with
   | none=>rw[hq] at hc; cases hc
   | some B=>exact⟨B,rfl⟩
  ·cases h1
 ·rename_i y hx;rw[hx] at hb;simp only[] at hb;unfold jm bV at h1;simp only[hx] at h1;obtain ⟨_,h1,_⟩:=bN h1;unfold Ey at h1;obtain ⟨hn,_⟩:=bJ h1;generalize cM cx s y=z at hb hn;cases z with
  | ptr b2 o2=>exact kO (x:=.ptr b2 o2) hn hb
  | ep b2 i2 o2=>exact kO (x:=.ep b2 i2 o2) hn hb
  | sl b2 o2 n2 c2=>cases hn
  | mr _=>cases hn
  | _=>cases hb
 ·rename_i t1 t2 y hx;rw[hx] at hb;simp only[] at hb;unfold jm bV at h1;simp only[hx] at h1;obtain ⟨_,h1,_⟩:=bN h1;generalize cM cx s y=z at hb h1;cases z with
  | sl b2 o2 n2 c2=>
   cases hb;cases hq:s.H[b]? with
   | some B=>exact⟨B,rfl⟩
   | none=>
    unfold bt at h1;split at h1
    ·rename_i heq;split at h1
     ·obtain ⟨_,h1,_⟩:=bN h1;simp only[Al,els?,hq] at h1;cases h1
     ·cases h1
    ·rename_i heq;cases heq
    ·obtain ⟨_,h1,_⟩:=bN h1;cases h1
  | ptr _ _=>
   unfold bt at h1;split at h1
   ·split at h1
    ·obtain ⟨_,h1,_⟩:=bN h1;cases h1
    ·cases h1
   ·rename_i heq;cases heq
   ·obtain ⟨_,h1,_⟩:=bN h1;cases h1
  | ep _ _ _=>
   unfold bt at h1;split at h1
   ·split at h1
    ·obtain ⟨_,h1,_⟩:=bN h1;cases h1
    ·cases h1
   ·rename_i heq;cases heq
   ·obtain ⟨_,h1,_⟩:=bN h1;cases h1
  | mr _=>
   unfold bt at h1;split at h1
   ·split at h1
    ·obtain ⟨_,h1,_⟩:=bN h1;cases h1
    ·cases h1
   ·rename_i heq;cases heq
   ·obtain ⟨_,h1,_⟩:=bN h1;cases h1
  | _=>cases hb
 ·rename_i t y q c hx;rw[hx] at hb;simp only[] at hb;unfold jm bV at h1;simp only[hx] at h1;obtain ⟨_,h1,_⟩:=bN h1;generalize cM cx s y=z at hb h1;unfold fZ at h1;obtain ⟨_,_,h1⟩:=bN h1;obtain ⟨_,_,h1⟩:=bN h1;cases z with
  | mr b2=>cases hb; cases hq:s.H[b]? with
   | none=>simp only[hq] at h1; cases h1
   | some B=>exact⟨B,rfl⟩
  | ptr _ _=>cases h1
  | ep _ _ _=>cases h1
  | sl _ _ _ _=>cases h1
  | _=>cases hb
 ·rename_i c hx;split at hk<;>first | (cases hk; done) | skip
  rename_i hc;rw[hx] at hb;simp only[] at hb;unfold jm bV at h1;simp only[hx,hc] at h1;have hi:jW (.call c)=false:=by unfold jW; simp only[hc]
  rw[hi,Z8] at h1;unfold rH at h1;simp only[hc] at h1;cases hargs:c.args.toList with
  | nil=>rw[hargs] at hb; cases hb
  | cons y l=>
   rw[hargs] at hb h1;simp only[] at hb h1;split at h1<;>first | (cases h1; done) | skip
   all_goals first
    | (rename_i hh _ _; injection hh with hh; cases hh; done)
    | (rename_i hh _; injection hh with hh; cases hh; done)
    | skip
   rename_i x' t' _ hl _;cases hl;obtain ⟨_,h1,_⟩:=bN h1;unfold sy at h1;exact kO (bJ h1).1 hb
theorem u1 {call:bB} {o:Oper} {fr:List (Nat×A)} {H H':Heap} (hk:cp o=2∨(cp o=4/\xC cx o=true)) (h:∀ b,gP H b=gP H' b):jm cx call f o ⟨fr,H⟩=jm cx call f o ⟨fr,H'⟩:=by
 have ho:∀ x,cM cx ⟨fr,H⟩ x=cM cx ⟨fr,H'⟩ x:=λx=>by cases x<;>rfl
 have hof:cM cx ⟨fr,H⟩=cM cx ⟨fr,H'⟩:=funext ho;rcases hk with hk | ⟨_,hk⟩
 ·unfold cp at hk;split at hk<;>first | (cases hk; done) | (rename_i c _; split at hk<;>cases hk; done) | skip
  rename_i t len parts ho;unfold jm bV;simp only[ho,hof,xo h]
 ·unfold xC at hk;split at hk
  ·rename_i c hc;split at hk
   ·rename_i q hq;rw[Z9] at hk;have hi:jW o.op=true:=by unfold jW; rw[hc]; simp only[hq]
    unfold jm;simp only[hc] at hi ⊢;rw[hi,qaa,qaa];unfold kH fS;simp only[hq]
    have hfv:∀ K,cM cx ⟨fr,K⟩ (.func q)=.fn (.func q) [] []:=λ_=>rfl;rw[hfv,hfv];unfold tM;simp only[hk.1,hk.2,qaa,hof,ta h]
   ·cases hk
  ·cases hk
theorem Hc {call:bB} {o:Oper} {s:St} {H H':Heap} (hk:J3 cx s o=true) (h:∀ b,gP H b=gP H' b):jm cx call f o ⟨s.fr,H⟩=jm cx call f o ⟨s.fr,H'⟩:=by
 have ho:∀ x,cM cx ⟨s.fr,H⟩ x=cM cx ⟨s.fr,H'⟩ x:=λx=>by cases x<;>rfl
 have ho2:∀ x,cM cx ⟨s.fr,H'⟩ x=cM cx s x:=λx=>by cases x<;>rfl
 have hof:cM cx ⟨s.fr,H⟩=cM cx ⟨s.fr,H'⟩:=funext ho;have hof2:cM cx ⟨s.fr,H'⟩=cM cx s:=funext ho2;unfold J3 at hk;split at hk
 ·rename_i c hc;have hi:jW (.call c)=true:=by
   cases hi:jW (.call c) with
   | true=>rfl
   | false=>rw[hi] at hk; cases hk
  rw[hi,qaa] at hk;have e1:kH cx ⟨s.fr,H⟩ (.call c)=kH cx s (.call c):=by unfold kH; rw[hof,hof2]
  have e2:kH cx ⟨s.fr,H'⟩ (.call c)=kH cx s (.call c):=by unfold kH; rw[hof2]
  have e3:fS cx ⟨s.fr,H⟩ (.call c)=fS cx ⟨s.fr,H'⟩ (.call c):=by unfold fS; rw[hof]
  unfold jm;simp only[hc]
  rw[hi,qaa,qaa,e1,e2,e3];split at hk
  ·rename_i q first cap hfv
   rw[Z9] at hk;rw[hfv];unfold tM;simp only[hk.1,hk.2,qaa,ta h]
  ·cases hk
 ·cases hk
theorem EG {o:Oper} {x:A} {H':Heap} (he:B7 o=true) (h:bV cx f lo o s (λa H=>some (a,H))=some (x,H')):∀ b,gP H' b=gP s.H b:=by
 have new:∀ B,(∀ es els,B≠aA.row false es els)->∀ b,gP (s.H++[B]) b=gP s.H b:=λB hB b=>by
  unfold gP;by_cases hb:b<s.H.length
  ·rw[qat hb]
  ·rw[qay o3,qa4 (by omega:s.H.length<=b)];cases hx:[B][b - s.H.length]? with
   | none=>rfl
   | some C=>
    have:C=B:=by
     have:=qaI hx;simpa using this
    subst this;cases C with
    | row wr es els=>cases wr with
     | true=>rfl
     | false=>exact absurd rfl (hB es els)
    | _=>rfl
 have setb:∀ c B B0,s.H[c]? = some B0->(∀ es els,B0≠aA.row false es els)->(∀ es els,B≠aA.row false es els)->∀ b,gP (s.H.set c B) b=gP s.H b:=λc B B0 h0 h1 h2 b=>by
  by_cases hb:b=c
  ·subst hb;rw[xF (qaE (qad.1 h0).1) h2,xF h0 h1]
  ·unfold gP;rw[qao (qbi hb)]
 have nb:∀ cs es els,aA.box cs≠aA.row false es els:=λ_ _ _ h=>by cases h
 have nt:∀ es els es' els',aA.row true es els≠aA.row false es' els':=λ_ _ _ _ h=>by cases h
 have row:∀ {t cs y K},rowOf cx.P t cs s.H=some (y,K)->∃ es els,K=s.H++[.row true es els]:=λ{t cs y K} h=>by
  unfold rowOf at h;split at h
  ·obtain ⟨es,_,h⟩:=bN h;obtain ⟨_,h⟩:=fq h;cases h;exact⟨_,_,rfl⟩
  ·cases h
 unfold B7 at he;split at he
 ·rename_i t ad v ho;unfold bV at h;simp only[ho] at h;obtain ⟨K,h1,h⟩:=bN h;cases h;unfold jz at h1;obtain ⟨nn,_,h1⟩:=bN h1;obtain ⟨xs,_,h1⟩:=bN h1;obtain ⟨_,h1⟩:=fq h1;split at h1
  ·split at h1
   ·rename_i hb;obtain ⟨_,h1⟩:=bJ h1;cases h1;exact setb _ _ _ hb (nb _) (nb _)
   ·cases h1
  ·split at h1
   ·rename_i hb;split at h1
    ·rw[bP] at h1;split at h1
     ·cases h1;exact setb _ _ _ hb (nt _ _) (nt _ _)
     ·obtain ⟨_,h1⟩:=bJ h1;cases h1;exact setb _ _ _ hb (nt _ _) (nt _ _)
    ·cases h1
   ·cases h1
  ·cases h1
 ·rename_i t ho;unfold bV at h;simp only[ho] at h;obtain ⟨⟨y,K⟩,h1,h⟩:=bN h;cases h;unfold qF at h1;rw[bP] at h1;split at h1
  ·unfold mj at h1;obtain ⟨cs,_,h1⟩:=bN h1;obtain ⟨es,els,rfl⟩:=row h1;exact new _ (nt _ _)
  ·unfold nO at h1;obtain ⟨cs,_,h1⟩:=qa0.1 h1;cases h1;exact new _ (nb _)
 ·rename_i t v ho;unfold bV at h;simp only[ho] at h;obtain ⟨⟨y,K⟩,h1,h⟩:=bN h;cases h;unfold B6 at h1;rw[bP] at h1;split at h1
  ·unfold xb at h1;obtain ⟨cs,_,h1⟩:=bN h1;obtain ⟨es,els,rfl⟩:=row h1;exact new _ (nt _ _)
  ·unfold BP at h1;obtain ⟨cs,_,h1⟩:=qa0.1 h1;cases h1;exact new _ (nb _)
 ·rename_i t a b ho;have hab:a=b:=qan he;subst hab;unfold bV at h;simp only[ho] at h;obtain ⟨⟨y,K⟩,h1,h⟩:=bN h;cases h;unfold vE at h1;rw[bP] at h1;split at h1
  ·unfold jy at h1;(iterate 6 obtain ⟨_,_,h1⟩:=bN h1);obtain ⟨_,h1⟩:=fq h1;cases h1;exact λ_=>rfl
  ·unfold cR at h1;(iterate 4 obtain ⟨_,_,h1⟩:=bN h1);obtain ⟨n,hn,h1⟩:=bN h1;obtain ⟨c,hc,h1⟩:=bN h1;rw[hn] at hc;cases hc;obtain ⟨_,h1⟩:=fq h1;rw[show (n==n)=true from r8,qaa] at h1;cases h1;exact new _ (nt _ _)
 ·rename_i c ho;unfold bV at h;simp only[ho] at h;split at he
  ·rename_i hca;unfold rH at h;simp only[hca] at h;split at h
   all_goals first | (rename_i hh _ _; cases hh; done) | (rename_i hh _ _; injection hh with hh; cases hh; done) | skip
   ·rename_i x y t t2 _ hargs _;obtain ⟨⟨z,K⟩,h1,h⟩:=bN h;cases h;unfold oU at h1;(iterate 3 obtain ⟨_,_,h1⟩:=bN h1);obtain ⟨_,h1⟩:=fq h1;split at h1
    ·split at h1
     ·rename_i hb;obtain ⟨_,h1⟩:=bJ h1;cases h1;exact setb _ _ _ hb (nt _ _) (nt _ _)
     ·cases h1
    ·cases h1
   all_goals first | (cases h; done) | (rename_i hh _; injection hh with hh; cases hh; done)
  ·cases he
 ·cases he
theorem sH {o:Oper} {x:A} {H':Heap} (he:eF o=true) (h:bV cx f lo o s (λa H=>some (a,H))=some (x,H')):s.H.length<=H'.length/\∀ b,b<s.H.length->(∀ c,blk? (dR cx s o.op)=some c->b≠c)->H'[b]? = s.H[b]?:=by
 have new:∀ B,s.H.length<=(s.H++[B]).length/\∀ b,b<s.H.length->(∀ c,blk? (dR cx s o.op)=some c->b≠c)->(s.H++[B])[b]? = s.H[b]?:=λB=>⟨r8,λb hb _=>qat hb⟩
 have setb:∀ c B,blk? (dR cx s o.op)=some c->s.H.length<=(s.H.set c B).length/\∀ b,b<s.H.length->(∀ c,blk? (dR cx s o.op)=some c->b≠c)->(s.H.set c B)[b]? = s.H[b]?:=λc B hc=>⟨r8,λb _ hb=>qao (qbi (hb c hc))⟩
 have row:∀ {t cs y K},rowOf cx.P t cs s.H=some (y,K)->∃ B,K=s.H++[B]:=λ{t cs y K} h=>by
  unfold rowOf at h;split at h
  ·obtain ⟨es,_,h⟩:=bN h;obtain ⟨_,h⟩:=fq h;cases h;exact⟨_,rfl⟩
  ·cases h
 unfold eF at he;split at he
 ·rename_i t ad v ho;unfold bV at h;simp only[ho] at h;obtain ⟨K,h1,h⟩:=bN h;cases h;unfold jz at h1;obtain ⟨nn,_,h1⟩:=bN h1;obtain ⟨xs,_,h1⟩:=bN h1;obtain ⟨_,h1⟩:=fq h1;have ht:dR cx s o.op=cM cx s ad:=by unfold dR; rw[ho]
  cases hx:cM cx s ad with
  | ptr b oo=>
   simp only[hx] at h1;split at h1
   ·obtain ⟨_,h1⟩:=bJ h1;cases h1;exact setb b _ (by rw[ht,hx]; rfl)
   ·cases h1
  | ep b i oo=>
   simp only[hx] at h1;split at h1
   ·split at h1
    ·rw[bP] at h1;split at h1
     ·cases h1;exact setb b _ (by rw[ht,hx]; rfl)
     ·obtain ⟨_,h1⟩:=bJ h1;cases h1;exact setb b _ (by rw[ht,hx]; rfl)
    ·cases h1
   ·cases h1
  | _=>simp only[hx] at h1; cases h1
 ·rename_i t ho;unfold bV at h;simp only[ho] at h;obtain ⟨⟨y,K⟩,h1,h⟩:=bN h;cases h;unfold qF at h1;rw[bP] at h1;split at h1
  ·unfold mj at h1;obtain ⟨cs,_,h1⟩:=bN h1;obtain ⟨B,rfl⟩:=row h1;exact new B
  ·unfold nO at h1;obtain ⟨cs,_,h1⟩:=qa0.1 h1;cases h1;exact new _
 ·rename_i t v ho;unfold bV at h;simp only[ho] at h;obtain ⟨⟨y,K⟩,h1,h⟩:=bN h;cases h;unfold B6 at h1;rw[bP] at h1;split at h1
  ·unfold xb at h1;obtain ⟨cs,_,h1⟩:=bN h1;obtain ⟨B,rfl⟩:=row h1;exact new B
  ·unfold BP at h1;obtain ⟨cs,_,h1⟩:=qa0.1 h1;cases h1;exact new _
 ·rename_i t l c ho;unfold bV at h;simp only[ho] at h;obtain ⟨⟨y,K⟩,h1,h⟩:=bN h;cases h;unfold vE at h1;rw[bP] at h1;split at h1
  ·unfold jy at h1;(iterate 6 obtain ⟨_,_,h1⟩:=bN h1);obtain ⟨_,h1⟩:=fq h1;cases h1;exact⟨qab _,λ_ _ _=>rfl⟩
  unfold cR at h1;(iterate 6 obtain ⟨_,_,h1⟩:=bN h1);obtain ⟨_,h1⟩:=fq h1;rw[bP] at h1;split at h1
  ·cases h1; exact new _
  ·obtain ⟨_,h1⟩:=bJ h1;cases h1; exact new _
 ·rename_i c ho;have ht:∀ x r,c.args.toList=x :: r->dR cx s o.op=cM cx s x:=λx r hc=>by unfold dR; rw[ho]; simp only[hc]
  unfold bV at h;simp only[ho] at h;split at he
  ·rename_i hca;unfold rH at h;simp only[hca] at h;split at h
   all_goals first | (rename_i hh _ _; cases hh; done) | (rename_i hh _ _; injection hh with hh; cases hh; done) | skip
   ·rename_i x y t t2 _ hargs _;obtain ⟨⟨z,K⟩,h1,h⟩:=bN h;cases h;have ht:=ht x [y] hargs;unfold bU at h1;(iterate 5 obtain ⟨_,_,h1⟩:=bN h1);obtain ⟨_,h1⟩:=fq h1;cases hx:cM cx s x with
    | imm xs cl=>
     simp only[hx] at h1;cases cl with
     | false=>cases h1
     | true=>
      simp only[] at h1;obtain ⟨_,h1⟩:=fq h1;rw[bP] at h1;split at h1
      ·cases h1; exact new _
      ·obtain ⟨_,h1⟩:=bJ h1;cases h1; exact new _
    | sl b oo nn cl=>
     simp only[hx] at h1;split at h1
     ·obtain ⟨_,h1⟩:=fq h1;rw[bP] at h1;split at h1
      ·cases h1; exact new _
      ·obtain ⟨_,h1⟩:=bJ h1;cases h1;exact setb b _ (by rw[ht,hx]; rfl)
     ·cases h1
    | _=>simp only[hx] at h1; cases h1
   all_goals first | (cases h; done) | (rename_i hh _; injection hh with hh; cases hh; done)
  ·rename_i hca;unfold rH at h;simp only[hca] at h;split at h
   all_goals first | (rename_i hh _ _; cases hh; done) | (rename_i hh _ _; injection hh with hh; cases hh; done) | skip
   ·rename_i x y t t2 _ hargs _;obtain ⟨⟨z,K⟩,h1,h⟩:=bN h;cases h;have ht:=ht x [y] hargs;unfold oU at h1;(iterate 3 obtain ⟨_,_,h1⟩:=bN h1);obtain ⟨_,h1⟩:=fq h1;cases hx:cM cx s x with
    | sl b oo nn cl=>
     simp only[hx] at h1;split at h1
     ·obtain ⟨_,h1⟩:=bJ h1;cases h1;exact setb b _ (by rw[ht,hx]; rfl)
     ·cases h1
    | _=>simp only[hx] at h1; cases h1
   all_goals first | (cases h; done) | (rename_i hh _; injection hh with hh; cases hh; done)
  ·cases he
 ·cases he
def Alike (s s':St):Prop:=s'.H=s.H/\∀ t,look s'.fr t=look s.fr t
theorem Alike.refl (s:St):Alike s s:=⟨rfl,λ_=>rfl⟩
theorem Alike.trans {a b c:St} (h1:Alike a b) (h2:Alike b c):Alike a c:=⟨h2.1.trans h1.1,λt=>(h2.2 t).trans (h1.2 t)⟩
theorem iy (s:St) (d:Option Nat) (x:A) (t:Nat):look (s.put d x).fr t=if d=some t then x else look s.fr t:=by
 cases d with
 | none=>simp[St.put]
 | some d=>
  show look ((d,x) :: s.fr) t=_;rw[fI];by_cases e:d=t
  ·subst e; simp
  ·rw[qah e,qah (by simpa using e)]
theorem iU (s:St) (d:Option Nat) (x:A):(s.put d x).H=s.H:=by cases d<;>rfl
theorem Alike.lit {s:St} {t:Nat} {x:A} (h:look s.fr t=x):Alike s (s.put (some t) x):=⟨rfl,λt'=>by
 rw[iy];split
 ·rename_i e;cases e;exact h.symm
 ·rfl⟩
def nm (cx:Cx) (call:bB) (f lo:Nat) (ops:Array Oper) (m:Nat) (fl:List (Nat×A)) (i:Nat) (o:Oper) (s s':St) (x:A):Prop:=
 (du i fl=some x/\Alike (s.put o.dst x) s') ∨
 (du i fl=none/\eF o=true/\∃ H',bV cx f lo o s (λa H=>some (a,H))=some (x,H')/\Alike (({ s with H:=H' }:St).put o.dst x) s') ∨
 (du i fl=none/\eF o=false/\jm cx call f o s=some x/\Alike (s.put o.dst x) s'/\((lq fl ops m i=true/\((qU cx o=true∨AB ops i fl=true)∨J3 cx s o=true))∨cp o=0∨cp o=1∨((cp o=2∨(cp o=4/\xC cx o=true))/\LA ops m i=true)∨(cp o=2/\rM (partsOf cx s o.op)=true)))
def OU (cx:Cx) (call:bB) (f:Nat) (ops:Array Oper) (fl:List (Nat×A)) (i:Nat) (o:Oper) (s s':St) (x:A):Prop:=
 ∃ t w,cJ ops o=some (t,w)/\du i fl=none/\eF o=false/\cp o=0/\Alike (s.put o.dst x) s'/\((∃ b,look s.fr t=.v (.bool b)/\if b==w then jm cx call f o s=some x else x=.v undef)∨((∃ y,look s.fr t=.v (.tuple y))/\x=.v undef))
def OV (cx:Cx) (call:bB) (f lo:Nat) (ops:Array Oper) (m:Nat) (fl:List (Nat×A)) (i:Nat) (o:Oper) (s s':St) (x:A):Prop:=
 ∃ t w b,cJ ops o=some (t,w)/\du i fl=none/\look s.fr t=.v (.bool b)/\((b==w)=true/\nm cx call f lo ops m fl i o s s' x∨(b==w)=false/\x=.v undef/\Alike (s.put o.dst x) s')
def oB (cx:Cx) (call:bB) (f lo:Nat) (ops:Array Oper) (m:Nat) (fl:List (Nat×A)) (i:Nat) (o:Oper) (s s':St) (x:A):Prop:=
 (o.guard=none/\nm cx call f lo ops m fl i o s s' x)∨OU cx call f ops fl i o s s' x∨OV cx call f lo ops m fl i o s s' x
theorem nm.alike {call:bB} {o:Oper} {m:Nat} {fl:List (Nat×A)} {i:Nat} {s s' s2:St} {x:A} (h:nm cx call f lo ops m fl i o s s' x) (h2:Alike s' s2):nm cx call f lo ops m fl i o s s2 x:=by
 rcases h with ⟨a,b⟩ | ⟨a,b,H',c,d⟩ | ⟨a,b,c,d,e⟩
 ·exact .inl ⟨a,b.trans h2⟩
 ·exact .inr (.inl ⟨a,b,H',c,d.trans h2⟩)
 ·exact .inr (.inr ⟨a,b,c,d.trans h2,e⟩)
theorem oB.alike {call:bB} {o:Oper} {m:Nat} {fl:List (Nat×A)} {i:Nat} {s s' s2:St} {x:A} (h:oB cx call f lo ops m fl i o s s' x) (h2:Alike s' s2):oB cx call f lo ops m fl i o s s2 x:=by
 rcases h with ⟨a,b⟩ | ⟨t,w,a,b,c,d,e,g⟩ | ⟨t,w,b,a1,a2,a3,a4⟩
 ·exact .inl ⟨a,b.alike h2⟩
 ·exact .inr (.inl ⟨t,w,a,b,c,d,e.trans h2,g⟩)
 ·refine .inr (.inr ⟨t,w,b,a1,a2,a3,?_⟩);rcases a4 with ⟨c,d⟩ | ⟨c,d,e⟩
  ·exact .inl ⟨c,d.alike h2⟩
  ·exact .inr ⟨c,d,e.trans h2⟩
theorem nm.look {call:bB} {o:Oper} {m:Nat} {fl:List (Nat×A)} {i:Nat} {s s':St} {x:A} (h:nm cx call f lo ops m fl i o s s' x) (t:Nat):look s'.fr t=if o.dst=some t then x else look s.fr t:=by
 rcases h with ⟨_,b⟩ | ⟨_,_,H',_,d⟩ | ⟨_,_,_,d,_⟩
 ·rw[b.2,iy]
 ·rw[d.2,iy]
 ·rw[d.2,iy]
theorem oB.look {call:bB} {o:Oper} {m:Nat} {fl:List (Nat×A)} {i:Nat} {s s':St} {x:A} (h:oB cx call f lo ops m fl i o s s' x) (t:Nat):look s'.fr t=if o.dst=some t then x else look s.fr t:=by
 rcases h with ⟨_,b⟩ | ⟨_,_,_,_,_,_,e,_⟩ | ⟨_,_,_,_,_,_,a4⟩
 ·exact b.look t
 ·rw[e.2,iy]
 ·rcases a4 with ⟨_,d⟩ | ⟨_,_,e⟩
  ·exact d.look t
  ·rw[e.2,iy]
theorem nm.heap {call:bB} {o:Oper} {m:Nat} {fl:List (Nat×A)} {i:Nat} {s s':St} {x:A} (h:nm cx call f lo ops m fl i o s s' x):(eF o=false∨(du i fl).isSome=true->s'.H=s.H)/\s.H.length<=s'.H.length/\∀ b,b<s.H.length->(eF o=true->du i fl=none->∀ c,blk? (dR cx s o.op)=some c->b≠c)->s'.H[b]? = s.H[b]?:=by
 rcases h with ⟨_,e⟩ | ⟨hn,he,H',h1,e⟩ | ⟨_,he,_,e,_⟩
 ·rw[e.1,iU];exact⟨λ_=>rfl,qab _,λ_ _ _=>rfl⟩
 ·obtain ⟨t1,t2⟩:=sH he h1;rw[e.1,iU];exact⟨λh'=>(by rw[he,hn] at h'; rcases h' with h' | h'<;>cases h'),t1,λb hb hc=>t2 b hb (hc he hn)⟩
 ·rw[e.1,iU];exact⟨λ_=>rfl,qab _,λ_ _ _=>rfl⟩
theorem oB.heap {call:bB} {o:Oper} {m:Nat} {fl:List (Nat×A)} {i:Nat} {s s':St} {x:A} (h:oB cx call f lo ops m fl i o s s' x):(eF o=false∨(du i fl).isSome=true->s'.H=s.H)/\s.H.length<=s'.H.length/\∀ b,b<s.H.length->(eF o=true->du i fl=none->∀ c,blk? (dR cx s o.op)=some c->b≠c)->s'.H[b]? = s.H[b]?:=by
 rcases h with ⟨_,b⟩ | ⟨_,_,_,_,_,_,e,_⟩ | ⟨_,_,_,_,_,_,a4⟩
 ·exact b.heap
 ·rw[e.1,iU];exact⟨λ_=>rfl,qab _,λ_ _ _=>rfl⟩
 ·rcases a4 with ⟨_,d⟩ | ⟨_,_,e⟩
  ·exact d.heap
  ·rw[e.1,iU];exact⟨λ_=>rfl,qab _,λ_ _ _=>rfl⟩
def gW (ops:Array Oper) (i j:Nat):Prop:=(gQ ops i j || gQ ops j i)=false
theorem jI {i:Nat} {e:A}:∀ {l:List (Nat×A)},mK ops i e l=true->∀ p∈l,gW ops i p.1->apart p.2 e=true
 | [],_,p,hp,_=>by cases hp
 | q :: l,h,p,hp,hu=>by
  unfold mK at h;cases hb:(gQ ops i q.1 || gQ ops q.1 i) with
  | true=>
   rw[hb] at h;rcases qaD.1 hp with rfl | hp
   ·unfold gW at hu; rw[hb] at hu; cases hu
   ·exact jI h p hp hu
  | false=>
   rw[hb] at h;cases ha:apart q.2 e with
   | false=>rw[ha] at h; cases h
   | true=>
    rw[ha] at h;rcases qaD.1 hp with rfl | hp
    ·exact ha
    ·exact jI h p hp hu
theorem kb {i:Nat} {a:A}:∀ {l:List (Nat×A)},np ops i a l=true->∀ p∈l,gW ops i p.1->apart a p.2=true
 | [],_,p,hp,_=>by cases hp
 | q :: l,h,p,hp,hu=>by
  unfold np at h;cases hb:(gQ ops i q.1 || gQ ops q.1 i) with
  | true=>
   rw[hb] at h;rcases qaD.1 hp with rfl | hp
   ·unfold gW at hu; rw[hb] at hu; cases hu
   ·exact kb h p hp hu
  | false=>
   rw[hb] at h;cases ha:apart a q.2 with
   | false=>rw[ha] at h; cases h
   | true=>
    rw[ha] at h;rcases qaD.1 hp with rfl | hp
    ·exact ha
    ·exact kb h p hp hu
theorem beq_spec {a b:Nat} (h:Nat.beq a b=true):a=b:=qan h
def Tr (cx:Cx) (call:bB) (f lo:Nat) (ops:Array Oper) (m:Nat) (fl:List (Nat×A)) (k:St->Option R) (r:R) (os:List Oper) (i:Nat) (effs seen:List (Nat×A)) (s:St):Prop:=
  ∃ (σ:Nat->St) (xs:Nat->A),Alike s (σ 0)/\k (σ os.length)=some r/\∀ (j:Nat) o,os[j]? = some o->oB cx call f lo ops m fl (i+j) o (σ j) (σ (j+1)) (xs j) ∧
   (du (i+j) fl=none->eF o=true->(∀ p∈seen,gW ops (i+j) p.1->apart p.2 (dR cx (σ j) o.op)=true)/\∀ (j':Nat) o',j'<j->os[j']? = some o'->eF o'=false->cp o'=1->lq fl ops m (i+j')=false->gW ops (i+j) (i+j')->apart (addrOf cx (σ j') o'.op) (dR cx (σ j) o.op)=true) ∧
   (eF o=false->cp o=1->lq fl ops m (i+j)=false->(∀ p∈effs,gW ops (i+j) p.1->apart (addrOf cx (σ j) o.op) p.2=true)/\∀ (j':Nat) o',j'<j->os[j']? = some o'->du (i+j') fl=none->eF o'=true->gW ops (i+j) (i+j')->apart (addrOf cx (σ j) o.op) (dR cx (σ j') o'.op)=true)
theorem tv {call:bB} {m:Nat} {fl:List (Nat×A)} {k:St->Option R} {r:R} (hfe:∀ i o a,du i fl=some a->ops[i]? = some o->eF o=true) (hV:∀ {o:Oper} {s:St} (k:A->Option R),vd cx call f o s k=(jm cx call f o s).bind k):∀ (os:List Oper) (i:Nat) (effs seen:List (Nat×A)) (s:St),(∀ j o,os[j]? = some o->ops[i+j]? = some o)->g8 cx call f lo ops m fl i os effs seen s k=some r->Tr cx call f lo ops m fl k r os i effs seen s
 | [],i,effs,seen,s,_,h=>⟨λ_=>s,λ_=>.any,Alike.refl _,h,λj o ho=>by simp at ho⟩
 | o :: os,i,effs,seen,s,hos,h=>by
  have hos':∀ j o,os[j]? = some o->ops[i+1+j]? = some o:=λj o' ho'=>by
   have:=hos (j+1) o' (by simpa using ho');rwa [show i+1+j=i+(j+1) by omega]
  have hoi:ops[i]? = some o:=by simpa using hos 0 o r8
  have finG:∀ (s1 s':St) (x:A) (effs' seen':List (Nat×A)),Alike s s1->oB cx call f lo ops m fl i o s1 s' x->(∀ p∈effs,p∈effs')->(∀ p∈seen,p∈seen')->(du i fl=none->eF o=true->(i,dR cx s1 o.op)∈effs'/\∀ p∈seen,gW ops i p.1->apart p.2 (dR cx s1 o.op)=true) ->
    (eF o=false->cp o=1->lq fl ops m i=false->(i,addrOf cx s1 o.op)∈seen'/\∀ p∈effs,gW ops i p.1->apart (addrOf cx s1 o.op) p.2=true)->g8 cx call f lo ops m fl (i+1) os effs' seen' s' k=some r->Tr cx call f lo ops m fl k r (o :: os) i effs seen s:=by
   intro s1 s' x effs' seen' hal hst he1 hs1 hce hcp h;obtain ⟨σ,xs,g0,g1,g2⟩:=tv hfe hV os (i+1) effs' seen' s' hos' h;refine⟨λj=>match j with | 0=>s1 | j+1=>σ j,λj=>match j with | 0=>x | j+1=>xs j,hal,g1,λj o1 ho1=>?_⟩;cases j with
   | zero=>
    simp at ho1;subst ho1;refine⟨hst.alike g0,λhn he=>⟨(hce hn he).2,λj' o' hj'=>o3⟩,λhe hk ho=>⟨(hcp he hk ho).2,λj' o' hj'=>o3⟩⟩
   | succ j=>
    obtain ⟨q2,q3,q4⟩:=g2 j o1 (by simpa using ho1);have e:i+1+j=i+(j+1):=o3;rw[e] at q2 q3 q4;refine⟨q2,λhn he=>⟨λp hp=>(q3 hn he).1 p (hs1 p hp),λj' o' hj' ho' he' hk' hod hu=>?_⟩,λhe hk hod=>⟨λp hp=>(q4 he hk hod).1 p (he1 p hp),λj' o' hj' ho' hn' he' hu=>?_⟩⟩
    ·cases j' with
     | zero=>
      simp at ho';subst ho';exact(q3 hn he).1 _ (hcp he' hk' hod).1 hu
     | succ j'=>
      refine(q3 hn he).2 j' o' o3 (by simpa using ho') he' hk' ?_ ?_
      ·rw[show i+1+j'=i+(j'+1) by omega]; exact hod
      ·rw[show i+1+j'=i+(j'+1) by omega]; exact hu
    ·cases j' with
     | zero=>
      simp at ho';subst ho';exact(q4 he hk hod).1 _ (hce hn' he').1 hu
     | succ j'=>
      refine(q4 he hk hod).2 j' o' o3 (by simpa using ho') ?_ he' ?_
      ·rw[show i+1+j'=i+(j'+1) by omega]; exact hn'
      ·rw[show i+1+j'=i+(j'+1) by omega]; exact hu
  have doB:∀ (s1:St),Alike s s1->(∀ s' x,nm cx call f lo ops m fl i o s1 s' x->oB cx call f lo ops m fl i o s1 s' x)->uY cx call f lo ops m fl i o effs seen s1 (λeffs seen s=>g8 cx call f lo ops m fl (i+1) os effs seen s k)=some r->Tr cx call f lo ops m fl k r (o :: os) i effs seen s:=by
   intro s1 hal hA h;have fin:∀ (s':St) (x:A) (effs' seen':List (Nat×A)),nm cx call f lo ops m fl i o s1 s' x->(∀ p∈effs,p∈effs')->(∀ p∈seen,p∈seen')->(du i fl=none->eF o=true->(i,dR cx s1 o.op)∈effs'/\∀ p∈seen,gW ops i p.1->apart p.2 (dR cx s1 o.op)=true) ->
     (eF o=false->cp o=1->lq fl ops m i=false->(i,addrOf cx s1 o.op)∈seen'/\∀ p∈effs,gW ops i p.1->apart (addrOf cx s1 o.op) p.2=true)->g8 cx call f lo ops m fl (i+1) os effs' seen' s' k=some r->Tr cx call f lo ops m fl k r (o :: os) i effs seen s:=λs' x effs' seen' hst=>finG s1 s' x effs' seen' hal (hA _ _ hst)
   unfold uY at h;cases hfl:du i fl with
   | some a=>
    simp only[hfl] at h;have he:=hfe i o a hfl hoi;exact fin _ a effs seen (.inl ⟨hfl,Alike.refl _⟩) (λp hp=>hp) (λp hp=>hp) (λh'=>(by rw[hfl] at h'; cases h')) (λh'=>(by rw[he] at h'; cases h')) h
   | none=>
   simp only[hfl] at h;rw[bP] at h;split at h
   ·rename_i he;obtain ⟨hsn,h⟩:=bJ h;rw[jU] at h;obtain ⟨⟨x,H'⟩,h1,h⟩:=bN h;exact fin _ x _ seen (.inr (.inl ⟨hfl,he,H',h1,Alike.refl _⟩)) (λp hp=>by simp[hp]) (λp hp=>hp) (λ_ _=>⟨r8,jI hsn⟩) (λh'=>(by rw[he] at h'; cases h')) h
   ·rename_i he;have he:eF o=false:=by simpa using he
    rw[bP] at h;split at h
    ·rename_i hod;simp only[Z9,qbo] at hod;rw[hV] at h;obtain ⟨x,h1,h⟩:=bN h;exact fin _ x effs seen (.inr (.inr ⟨hfl,he,h1,Alike.refl _,.inl hod⟩)) (λp hp=>hp) (λp hp=>hp) (λ_ h'=>(by rw[he] at h'; cases h')) (λ_ _ h'=>(by rw[hod.1] at h'; cases h')) h
    ·rename_i hod;rw[bP] at h;split at h
     ·rename_i hk;rw[hV] at h;obtain ⟨x,h1,h⟩:=bN h;have hk:=beq_spec hk;exact fin _ x effs seen (.inr (.inr ⟨hfl,he,h1,Alike.refl _,.inr (.inl hk)⟩)) (λp hp=>hp) (λp hp=>hp) (λ_ h'=>(by rw[he] at h'; cases h')) (λ_ h' _=>(by rw[hk] at h'; cases h')) h
     ·rw[bP] at h;split at h
      ·rename_i hk;have hk:=beq_spec hk;obtain ⟨hap,h⟩:=bJ h;rw[hV] at h;obtain ⟨x,h1,h⟩:=bN h;exact fin _ x effs _ (.inr (.inr ⟨hfl,he,h1,Alike.refl _,.inr (.inr (.inl hk))⟩)) (λp hp=>hp) (λp hp=>by simp[hp]) (λ_ h'=>(by rw[he] at h'; cases h')) (λ_ _ _=>⟨r8,kb hap⟩) h
      ·rename_i hk1;rw[bP] at h;split at h
       ·rename_i hk;simp only[Z9,qbo] at hk;have hk2:cp o=2∨(cp o=4/\xC cx o=true):=hk.1.imp beq_spec (λh=>⟨beq_spec h.1,h.2⟩);rw[hV] at h;obtain ⟨x,h1,h⟩:=bN h;exact fin _ x effs seen (.inr (.inr ⟨hfl,he,h1,Alike.refl _,.inr (.inr (.inr (.inl ⟨hk2,hk.2⟩)))⟩)) (λp hp=>hp) (λp hp=>hp) (λ_ h'=>(by rw[he] at h'; cases h')) (λ_ h' _=>(by rcases hk2 with hk2 | hk2<;>(first | rw[hk2] at h' | rw[hk2.1] at h')<;>cases h')) h
       obtain ⟨hk,h⟩:=bJ h;have hk:=beq_spec hk;obtain ⟨hfl2,h⟩:=bJ h;rw[hV] at h;obtain ⟨x,h1,h⟩:=bN h;exact fin _ x effs seen (.inr (.inr ⟨hfl,he,h1,Alike.refl _,.inr (.inr (.inr (.inr ⟨hk,hfl2⟩)))⟩)) (λp hp=>hp) (λp hp=>hp) (λ_ h'=>(by rw[he] at h'; cases h')) (λ_ h' _=>(by rw[hk] at h'; cases h')) h
  have doS:∀ (s1:St),Alike s s1->(∀ s',Alike (s1.put o.dst (.v undef)) s'->oB cx call f lo ops m fl i o s1 s' (.v undef))->yF cx ops m fl i o effs seen s1 (λeffs seen s=>g8 cx call f lo ops m fl (i+1) os effs seen s k)=some r->Tr cx call f lo ops m fl k r (o :: os) i effs seen s:=by
   intro s1 hal hA h;have fin:=λeffs' seen'=>finG s1 (s1.put o.dst (.v undef)) (.v undef) effs' seen' hal (hA _ (Alike.refl _));unfold yF at h;rw[bP] at h;split at h
   ·rename_i he;obtain ⟨hsn,h⟩:=bJ h;exact fin _ seen (λp hp=>by simp[hp]) (λp hp=>hp) (λ_ _=>⟨r8,jI hsn⟩) (λh'=>(by rw[he] at h'; cases h')) h
   ·rename_i he;have he:eF o=false:=by simpa using he
    rw[bP] at h;split at h
    ·rename_i hk;rw[bP] at h;split at h
     ·rename_i hod;exact fin effs seen (λp hp=>hp) (λp hp=>hp) (λ_ h'=>(by rw[he] at h'; cases h')) (λ_ _ h'=>(by rw[hod] at h'; cases h')) h
     ·obtain ⟨hap,h⟩:=bJ h;exact fin effs _ (λp hp=>hp) (λp hp=>by simp[hp]) (λ_ h'=>(by rw[he] at h'; cases h')) (λ_ _ _=>⟨r8,kb hap⟩) h
    ·rename_i hk;exact fin effs seen (λp hp=>hp) (λp hp=>hp) (λ_ h'=>(by rw[he] at h'; cases h')) (λ_ h' _=>(by rw[h'] at hk; exact absurd rfl hk)) h
  unfold g8 at h;cases hgd:o.guard with
  | some _=>
   simp only[hgd] at h;cases hgs:cJ ops o with
   | none=>rw[hgs] at h; cases h
   | some tw=>
    obtain ⟨t,w⟩:=tw;simp only[hgs] at h;rw[bP] at h;split at h
    ·rename_i hc;simp only[Z9,qa3,qdD] at hc;obtain ⟨⟨hk,he⟩,hn⟩:=hc;have hk:=beq_spec hk;obtain ⟨x,h0,h⟩:=bN h;refine finG s _ x effs seen (Alike.refl _) (.inr (.inl ⟨t,w,hgs,hn,he,hk,Alike.refl _,?_⟩)) (λp hp=>hp) (λp hp=>hp) (λ_ h'=>(by rw[he] at h'; cases h')) (λ_ h' _=>(by rw[hk] at h'; cases h')) h;rcases py h0 with ⟨b,hb,h0⟩ | ⟨y,hb,h0⟩
     ·refine .inl ⟨b,hb,?_⟩;split at h0
      ·rename_i hbw; rw[qaf hbw]; exact h0
      ·rename_i hbw; rw[qah hbw]; cases h0; rfl
     ·cases h0; exact .inr ⟨⟨y,hb⟩,rfl⟩
    ·obtain ⟨hn,h⟩:=bJ h;simp only[qdD] at hn;obtain ⟨b,hb,h⟩:=rv h;have hl:look (s.put (some t) (.v (.bool b))).fr t=.v (.bool b):=by rw[iy,qaf rfl]
     cases b with
     | true=>
      simp only[qb4] at h;cases w with
      | true=>exact doB _ (Alike.lit hb) (λs' x hE=>.inr (.inr ⟨t,true,true,hgs,hn,hl,.inl ⟨rfl,hE⟩⟩)) h
      | false=>exact doS _ (Alike.lit hb) (λs' hE=>.inr (.inr ⟨t,false,true,hgs,hn,hl,.inr ⟨rfl,rfl,hE⟩⟩)) h
     | false=>
      simp only[qaQ,qcq] at h;cases w with
      | true=>exact doS _ (Alike.lit hb) (λs' hE=>.inr (.inr ⟨t,true,false,hgs,hn,hl,.inr ⟨rfl,rfl,hE⟩⟩)) h
      | false=>exact doB _ (Alike.lit hb) (λs' x hE=>.inr (.inr ⟨t,false,false,hgs,hn,hl,.inl ⟨rfl,hE⟩⟩)) h
  | none=>
   simp only[hgd] at h;exact doB s (Alike.refl _) (λs' x hE=>.inl ⟨hgd,hE⟩) h
theorem zl {fl:List (Nat×A)} {m i e:Nat} (h:lq fl ops m i=true) (he:e<m) (hf:dW ops e=true) (hn:du e fl=none):e=i∨gQ ops i e=true∨gQ ops e i=true:=by
 have:=qak.1 h e (qaR.2 he);simp only[qbo,qa3,qa5] at this;rcases this with (((h | h) | h) | h) | h
 ·rw[hf] at h; cases h
 ·rw[hn] at h; cases h
 ·exact .inl h
 ·exact .inr (.inl h)
 ·exact .inr (.inr h)
theorem B9 {m i j:Nat} (h:yv ops m=true) (hj:j<m) (hij:i<j) (h1:dW ops i=true) (h2:dW ops j=true):gQ ops j i=true:=by
 have:=qak.1 (qak.1 h i (qaR.2 o3)) j (qaR.2 hj);simpa [h1,h2,hij] using this
theorem Ah {m i j:Nat} (h:uN cx f ops m=true) (hj:j<m) (hij:i<j) (h1:dW ops i=true) (h2:dW ops j=true) (h3:vz cx f ops i=false) (h4:vz cx f ops j=false):gQ ops j i=true:=by
 have:=qak.1 (qak.1 h i (qaR.2 o3)) j (qaR.2 hj);simpa [h1,h2,h3,h4,hij] using this
theorem vf {i:Nat}:∀ {fl:List (Nat×A)},AB ops i fl=true->∀ j a,du j fl=some a->gQ ops i j=true
 | [],_,j,a,h=>by cases h
 | p :: l,h,j,a,hj=>by
  unfold AB at h;cases hb:gQ ops i p.1 with
  | false=>rw[hb] at h; cases h
  | true=>
   rw[hb] at h;unfold du at hj;cases he:Nat.beq p.1 j with
   | true=>rw[<-qan he]; exact hb
   | false=>rw[he] at hj; exact vf h j a hj
structure Ok (cx:Cx) (ops:Array Oper) (m:Nat) (H H1:Heap) (fl:List (Nat×A)):Prop where
 at_:∀ i a,du i fl=some a->i<m/\∃ o t b cs,ops[i]? = some o/\o.op=.alloc t/\a=.ptr b 0/\H.length<=b/\H1[b]? = some (.box cs)/\iD cx.P t=some cs
 inj:∀ i j b,du i fl=some (.ptr b 0)->du j fl=some (.ptr b 0)->i=j
 all:∀ b,H.length<=b->b<H1.length->∃ i,du i fl=some (.ptr b 0)
 len:H.length<=H1.length
 low:∀ b,b<H.length->H1[b]? = H[b]?
theorem Ok.none {m:Nat} {H:Heap}:Ok cx ops m H H []:=⟨λi a h=>(by cases h),λi j b h=>(by cases h),λb h1 h2=>o3,qab _,λ_ _=>rfl⟩
theorem qE {β:Type} {m:Nat} {r:β}:∀ (os:List Oper) (i:Nat) (H:Heap) (k:List (Nat×A)->Heap->Option β),(∀ j o,os[j]? = some o->ops[i+j]? = some o)->i+os.length<=m->ahead cx f i os H k=some r ->
  ∃ fl H1,k fl H1=some r/\Ok cx ops m H H1 fl/\(∀ j a,du j fl=some a->i<=j)/\(∀ j,du j fl=none->i<=j->j<i+os.length->vz cx f ops j=false)
 | [],i,H,k,_,_,h=>⟨[],H,h,.none,λj a h=>(by cases h),λj _ h1 h2=>(by simp at h2; omega)⟩
 | o :: os,i,H,k,hos,hm,h=>by
  have hos':∀ j o,os[j]? = some o->ops[i+1+j]? = some o:=λj o' ho'=>by
   have:=hos (j+1) o' (by simpa using ho');rwa [show i+1+j=i+(j+1) by omega]
  have hoi:ops[i]? = some o:=by simpa using hos 0 o r8
  simp only[qae] at hm;unfold ahead at h;cases hft:yK cx f o with
  | none=>
   simp only[hft] at h;obtain ⟨fl,H1,h1,h2,h3,h4⟩:=qE (m:=m) os (i+1) H k hos' o3 h;refine⟨fl,H1,h1,h2,λj a hj=>by have:=h3 j a hj; omega,λj hj h5 h6=>?_⟩;by_cases e:j=i
   ·subst e; unfold vz; rw[hoi]; simp[hft]
   ·exact h4 j hj o3 (by simp at h6; omega)
  | some t=>
   simp only[hft] at h;obtain ⟨⟨y,H2⟩,ha,h⟩:=bN h;unfold nO at ha;obtain ⟨cs,hz,ha⟩:=qa0.1 ha;cases ha;obtain ⟨fl,H1,h1,h2,h3,h4⟩:=qE (m:=m) os (i+1) _ _ hos' o3 h;have hop:o.op=.alloc t:=by
    unfold yK at hft;split at hft
    ·rename_i t' ho;obtain ⟨_,e⟩:=fq hft;cases e; exact ho
    ·cases hft
   have hl2:=h2.len;simp only[qar,qae,qaq] at hl2;have hnew:H1[H.length]? = some (.box cs):=by rw[h2.low _ r8]; exact fg _ _
   have hof:∀ j,du j ((i,A.ptr H.length 0) :: fl)=if i=j then some (.ptr H.length 0) else du j fl:=λj=>by
    show (bif Nat.beq i j then some (A.ptr H.length 0) else du j fl)=_;by_cases e:i=j
    ·subst e; simp
    ·rw[qah e,show Nat.beq i j=false from by cases hh:Nat.beq i j with | false=>rfl | true=>exact absurd (qan hh) e]; rfl
   have hni:du i fl=none:=by
    cases hh:du i fl with
    | none=>rfl
    | some a=>have:=h3 i a hh; omega
   refine⟨(i,.ptr H.length 0) :: fl,H1,h1,⟨λj a hj=>?_,λj j' b hj hj'=>?_,λb hb1 hb2=>?_,o3,λb hb=>?_⟩,λj a hj=>?_,λj hj h5 h6=>?_⟩
   ·rw[hof] at hj;split at hj
    ·rename_i e; subst e; cases hj;exact⟨o3,o,t,_,cs,hoi,hop,rfl,qab _,hnew,hz⟩
    ·obtain ⟨q1,o',t',b,cs',q2,q3,q4,q5,q6⟩:=h2.at_ j a hj;simp only[qar,qae,qaq] at q5;exact⟨q1,o',t',b,cs',q2,q3,q4,o3,q6⟩
   ·rw[hof] at hj hj';have out:∀ j b,du j fl=some (.ptr b 0)->b≠H.length:=λj b hj e=>by
     obtain ⟨_,_,_,b',_,_,_,q4,q5,_⟩:=h2.at_ j _ hj;cases q4;simp only[qar,qae,qaq] at q5;omega
    split at hj<;>split at hj'
    ·omega
    ·cases hj; exact absurd rfl (out _ _ hj')
    ·cases hj'; exact absurd rfl (out _ _ hj)
    ·exact h2.inj j j' b hj hj'
   ·by_cases e:b=H.length
    ·subst e; exact⟨i,by rw[hof,qaf rfl]⟩
    ·obtain ⟨j,hj⟩:=h2.all b r9 hb2;refine⟨j,?_⟩;rw[hof,qah (λe=>by subst e; rw[hni] at hj; cases hj)];exact hj
   ·rw[h2.low b r9,qat hb]
   ·rw[hof] at hj;split at hj
    ·omega
    ·have:=h3 j a hj; omega
   ·rw[hof] at hj;split at hj
    ·cases hj
    ·exact h4 j hj o3 (by simp at h6; omega)
open Classical in
theorem qx {call:bB} {fl:List (Nat×A)} {H1:Heap} (hcall:eO cx Bs call) (hb0:Bs H0 gs ws) (horc:lK cx) (hF:iL F) (hmx:cx.P.follows .mixedOrders=true) {m:Nat} {k:E->St->Option R} {r:R} {Q:Exit->Act->World->Prop} (jT:wO ops N=true) (chkt:gE ops m=true) (hch:∀ i j,j<m->i<j->dW ops i=true->dW ops j=true->du i fl=none->du j fl=none->gQ ops j i=true) (hfl:Ok cx ops m s.H H1 fl)
  (hg:Good cx N mb lo H0 gs ws w0 s g a w) (hd:∀ o∈ops.toList,∀ d,o.dst=some d->d<N)
  {kk:St->Option R} (hkk:∀ s,kk s=some r->gZ cx call f lo ops (ops.toList.drop m) s k=some r) (h:g8 cx call f lo ops m fl 0 (ops.toList.take m) [] [] ⟨s.fr,H1⟩ kk=some r)
  (hk:∀ s' g' a' w',Good cx N mb lo H0 gs ws w0 s' g' a' w'->k .normal s'=some r->Q .normal a' w')
  (hp:∀ x s' g' a' w' c,Good cx N mb lo H0 gs ws w0 s' g' a' w'->VR s'.H g' w' x c->k (.pan x) s'=some r->Q (.panic [{ v:=c,recovered:=false }]) a' w'):LW F n cx.P ops Q a w:=by
 have hfe:∀ i o a,du i fl=some a->ops[i]? = some o->eF o=true:=λi o a h1 h2=>by
  obtain ⟨_,o',t,_,_,q1,q2,_⟩:=hfl.at_ i a h1;rw[h2] at q1; cases q1;unfold eF; rw[q2]
 obtain ⟨σ,xs,hσ0,hz,htr⟩:=tv hfe (λk=>ua k) _ _ _ _ _ (λj o ho=>by
  rw[qaA] at ho;split at ho
  ·rw[qaU]; rw[qaZ] at ho; exact ho
  ·cases ho) h
 have hσH:(σ 0).H=H1:=hσ0.1;have hσf:∀ t,look (σ 0).fr t=look s.fr t:=hσ0.2;have hm2:m<=ops.size:=by
  simp only[gE,Z9,qag] at chkt;exact chkt.1.1
 have hlen:(ops.toList.take m).length=m:=by rw[qba]; simp; omega
 rw[hlen] at hz;replace hz:=hkk _ hz;have hget:∀ {i o},i<m->ops[i]? = some o->(ops.toList.take m)[i]? = some o:=λ{i o} him ho=>by
  rw[qaA,qaf him,qaZ]; exact ho
 have hop:∀ i,i<m->∃ o,ops[i]? = some o:=λi hi=>⟨_,qbb o3⟩
 have hdst:∀ {i o},ops[i]? = some o->cQ ops i=o.dst:=λ{i o} ho=>by unfold cQ; rw[ho]; rfl
 have heff:∀ {i o},ops[i]? = some o->dW ops i=eF o:=λ{i o} ho=>by unfold dW; rw[ho]
 have hlt:∀ {i j},gQ ops i j=true->j<i:=λ{i j} hb=>pP jT (iu i j hb);have hsel:∀ j,j<m->∀ o,ops[j]? = some o->oB cx call f lo ops m fl j o (σ j) (σ (j+1)) (xs j):=λj hj o ho=>by
  have:=(htr j o (hget hj ho)).1;rwa [qaU] at this
 have fstep:∀ j,j<m->∀ o,ops[j]? = some o->∀ t,look (σ (j+1)).fr t=if o.dst=some t then xs j else look (σ j).fr t:=λj hj o ho t=>(hsel j hj o ho).look t
 have fkeep:∀ t i j,i<=j->j<=m->(∀ q,i<=q->q<j->cQ ops q≠some t)->look (σ j).fr t=look (σ i).fr t:=by
  intro t i j hij
  induction j with
  | zero=>
   intro _ _; obtain rfl:i=0:=o3;rfl
  | succ j ih=>
   intro hjm hq;by_cases e:i=j+1
   ·subst e; rfl
   ·obtain ⟨o,ho⟩:=hop j o3;rw[fstep j o3 o ho,qah (by rw[<-hdst ho]; exact hq j o3 o3)];exact ih o3 o3 (λq h1 h2=>hq q h1 o3)
 have hstep:∀ j,j<m->∀ o,ops[j]? = some o->(dW ops j=false∨(du j fl).isSome=true->(σ (j+1)).H=(σ j).H)/\(σ j).H.length<=(σ (j+1)).H.length/\∀ b,b<(σ j).H.length->(dW ops j=true->du j fl=none->∀ c,blk? (dR cx (σ j) o.op)=some c->b≠c)->(σ (j+1)).H[b]? = (σ j).H[b]?:=λj hj o ho=>by
  have h:=(hsel j hj o ho).heap;rw[heff ho];exact h
 have hlenm:∀ i j,i<=j->j<=m->(σ i).H.length<=(σ j).H.length:=by
  intro i j hij
  induction j with
  | zero=>
   intro _; obtain rfl:i=0:=o3;exact qab _
  | succ j ih=>
   intro hjm;by_cases e:i=j+1
   ·subst e; exact qab _
   ·obtain ⟨o,ho⟩:=hop j o3;exact qaC (ih o3 o3) (hstep j o3 o ho).2.1
 have hsame:∀ i j,i<=j->j<=m->(∀ q,i<=q->q<j->dW ops q=false∨(du q fl).isSome=true)->(σ j).H=(σ i).H:=by
  intro i j hij
  induction j with
  | zero=>
   intro _ _; obtain rfl:i=0:=o3;rfl
  | succ j ih=>
   intro hjm hq;by_cases e:i=j+1
   ·subst e; rfl
   ·obtain ⟨o,ho⟩:=hop j o3;rw[(hstep j o3 o ho).1 (hq j o3 o3)];exact ih o3 o3 (λq h1 h2=>hq q h1 o3)
 have hblk:∀ i j,i<=j->j<=m->∀ b,b<(σ i).H.length->(∀ q o,i<=q->q<j->ops[q]? = some o->dW ops q=true->du q fl=none->∀ c,blk? (dR cx (σ q) o.op)=some c->b≠c)->(σ j).H[b]? = (σ i).H[b]?:=by
  intro i j hij
  induction j with
  | zero=>
   intro _ b _ _; obtain rfl:i=0:=o3;rfl
  | succ j ih=>
   intro hjm b hb hq;by_cases e:i=j+1
   ·subst e; rfl
   ·obtain ⟨o,ho⟩:=hop j o3;rw[(hstep j o3 o ho).2.2 b (qaz hb (hlenm i j o3 o3)) (λhe hn=>hq j o o3 o3 ho he hn)];exact ih o3 o3 b hb (λq o h1 h2=>hq q o h1 o3)
 have hnf:∀ {q},dW ops q=true->¬ (du q fl=none)->(du q fl).isSome=true:=λ_ h=>by cases hh:du _ fl with | none=>exact absurd hh h | some _=>rfl
 let zm:(Nat->Prop)->Nat->Bool:=λD b=>decide (∃ i,du i fl=some (.ptr b 0)/\¬ D i)
 have zmT:∀ (D:Nat->Prop) (b:Nat),zm D b=true↔∃ i,du i fl=some (.ptr b 0)/\¬ D i:=λD b=>by simp only[zm,qag]
 have zmF:∀ (D:Nat->Prop) (b:Nat),zm D b=false↔∀ i,du i fl=some (.ptr b 0)->D i:=λD b=>by
  rw[qce,ne_eq,zmT,not_exists];exact forall_congr' λi=>⟨λh1 h2=>Classical.byContradiction λh3=>h1 ⟨h2,h3⟩,λh1 h2=>h2.2 (h1 h2.1)⟩
 have zmlow:∀ (D:Nat->Prop) (b:Nat),b<s.H.length->zm D b=false:=λD b hb=>(zmF D b).2 λi hi=>by
  obtain ⟨_,_,_,b',_,_,_,q,q2,_⟩:=hfl.at_ i _ hi;cases q; omega
 have zmhi:∀ (D:Nat->Prop) (b:Nat),H1.length<=b->zm D b=false:=λD b hb=>(zmF D b).2 λi hi=>by
  obtain ⟨_,_,_,b',_,_,_,q,_,q2,_⟩:=hfl.at_ i _ hi;cases q;have:=(qad.1 q2).1;omega
 have hlen1:∀ j,j<=m->H1.length<=(σ j).H.length:=λj hj=>by
  have:=hlenm 0 j o3 hj;rw[hσH] at this; exact this
 refine vV (F:=F) ⟨hF.1,hF.2.1⟩ hmx N m hg.siz jT chkt (λD a' W=>∃ (p:Nat) (g':Gh),p<=m/\(∀ i,i<m->dW ops i=true->du i fl=none->(D i↔i<p))/\(∀ i b,du i fl=some (.ptr b 0)->¬ D i->(σ p).H[b]? = H1[b]?)/\Rel (cD (zm D) (σ p).H) g' w0 W/\Ext s.H g w (cD (zm D) (σ p).H) g' W/\(∀ b,b<lo->b<s.H.length->(σ p).H[b]? = s.H[b]?)/\g'.S=g.S ∧
   (∀ t i,i<m->cQ ops i=some t->D i->VR (cD (zm D) (σ p).H) g' W (xs i) (slot a' t))/\(∀ t,(∀ i,i<m->cQ ops i=some t->¬ D i)->VR (cD (zm D) (σ p).H) g' W (look s.fr t) (slot a' t))) ?_ ?_ ?_
 ·intro D hD;have hr:=hg.sr.rel;obtain ⟨g',r1,r2,r3⟩:=Rel.Hu (H1.length - s.H.length) (hr.kK (Below.refl _ _).drew);have r2:=(Ext.below hr (Below.refl _ _).drew).trans r2;have hH0:cD (zm D) (σ 0).H=s.H++List.replicate (H1.length - s.H.length) .hole:=by
   rw[hσH];refine qbz λb=>?_;by_cases hb:b<s.H.length
   ·rw[fU (zmlow D b hb),qat hb]; exact hfl.low b hb
   ·by_cases hb1:b<H1.length
    ·obtain ⟨i,hi⟩:=hfl.all b o3 hb1;rw[vG ((zmT D b).2 ⟨i,hi,hD i⟩) (Z7 hb1),qay o3,qbJ,qaf o3]
    ·have hl1:=hfl.len;rw[qa4 (by rw[dL]; exact qb1 hb1),qa4 r9]
  refine⟨0,g',qav _,λi _ _ _=>⟨λh=>absurd h (hD i),λh=>o3⟩,λi b _ _=>by rw[hσH],by rw[hH0]; exact r1,by rw[hH0]; exact r2,λb _ hb=>by rw[hσH]; exact hfl.low b hb,r3,λt i _ _ h=>absurd h (hD i),λt _=>?_⟩;rw[hH0];exact VR.ext r2 _ _ (hg.sr.fr t)
 ·rintro D D' i o him ho hDm hDi hbef hcl hD' a' W ⟨p,g',hpm,hpe,hpb,hrW,heW,hlow,hgS,hv1,hv2⟩ hsz _
  obtain ⟨c4,c5⟩:=oh jT ho;obtain ⟨_,htA,htB⟩:=htr i o (hget him ho);rw[qaU] at htA htB;have hDlt:∀ {q},dW ops q=true->du q fl=none->D q->q<p:=λhe hn h=>(hpe _ (hDm _ h) he hn).1 h;have hlook:∀ t∈o.looksAt ops,VR (cD (zm D) (σ p).H) g' W (look (σ i).fr t) (a'.tmps.getD t undef):=λt ht=>by
   by_cases hj:∃ j,cQ ops j=some t/\gQ ops i j=true
   ·obtain ⟨j,hjt,hjb⟩:=hj;have hji:=hlt hjb;have hv:=hv1 t j o3 hjt (hbef j hjb);obtain ⟨oj,hoj⟩:=hop j o3;have e1:look (σ (j+1)).fr t=xs j:=by rw[fstep j o3 oj hoj,qaf (by rw[<-hdst hoj]; exact hjt)]
    rw[fkeep t (j+1) i o3 o3 (λq h1 h2 hq=>by
     obtain ⟨oq,hoq⟩:=hop q o3;obtain ⟨c4',_⟩:=oh jT hoq;exact c4' j t o3 (by rw[<-hdst hoq]; exact hq) hjt),e1]
    exact hv
   ·have hno:∀ j,cQ ops j=some t->gQ ops i j=false:=λj hjt=>by
     cases hb:gQ ops i j with
     | false=>rfl
     | true=>exact absurd ⟨j,hjt,hb⟩ hj
    have hs:=hv2 t (λj hjm hjt hDj=>by
     rcases c5 j t hjt ht with rfl | h | h
     ·exact hDi hDj
     ·rw[hno j hjt] at h; cases h
     ·exact hDi (hcl j i hDj h))
    rw[fkeep t 0 i o3 o3 (λq h1 h2 hq=>by
     rcases c5 q t hq ht with h | h | h
     ·omega
     ·rw[hno q hq] at h; cases h
     ·have:=hlt h; omega),hσf]
    exact hs
  have hopr:wz cx ⟨(σ i).fr,cD (zm D) (σ p).H⟩ g' w0 o.op a'.eval W:=⟨hrW,λy hy=>qY (λt ht=>by
    refine hlook t ?_;subst ht;unfold Oper.looksAt;exact qa8.2 (.inl (qdv.2 ⟨.tmp t,hy,rfl⟩))) (λG vs hG=>(hg.sr.gl G vs hG).ext heW),λ_=>rfl⟩
  have zsame:du i fl=none->zm D'=zm D:=λhn=>funext λb=>by
   have:(zm D' b=true)↔(zm D b=true):=by
    rw[zmT,zmT];constructor
    ·rintro ⟨j,h1,h2⟩; exact⟨j,h1,λh=>h2 ((hD' j).2 (.inr h))⟩
    ·rintro ⟨j,h1,h2⟩
     refine⟨j,h1,λh=>?_⟩;rcases (hD' j).1 h with rfl | h
     ·rw[hn] at h1; cases h1
     ·exact h2 h
   exact qbr.2 this
  have fin:∀ (p':Nat) (g2:Gh) (W':World) (v:Value),p'<=m->(∀ j,j<m->dW ops j=true->du j fl=none->(D' j↔j<p'))->(∀ j b,du j fl=some (.ptr b 0)->¬ D' j->(σ p').H[b]? = H1[b]?)->Rel (cD (zm D') (σ p').H) g2 w0 W'->Ext (cD (zm D) (σ p).H) g' W (cD (zm D') (σ p').H) g2 W'->(∀ b,b<lo->b<s.H.length->(σ p').H[b]? = s.H[b]?)->g2.S=g.S->(∀ d,o.dst=some d->VR (cD (zm D') (σ p').H) g2 W' (xs i) v) ->
    ∃ (p:Nat) (g':Gh),p<=m/\(∀ i,i<m->dW ops i=true->du i fl=none->(D' i↔i<p))/\(∀ i b,du i fl=some (.ptr b 0)->¬ D' i->(σ p).H[b]? = H1[b]?)/\Rel (cD (zm D') (σ p).H) g' w0 W'/\Ext s.H g w (cD (zm D') (σ p).H) g' W'/\(∀ b,b<lo->b<s.H.length->(σ p).H[b]? = s.H[b]?)/\g'.S=g.S ∧
     (∀ t j,j<m->cQ ops j=some t->D' j->VR (cD (zm D') (σ p).H) g' W' (xs j) (slot (a'.put o.dst v) t))/\(∀ t,(∀ j,j<m->cQ ops j=some t->¬ D' j)->VR (cD (zm D') (σ p).H) g' W' (look s.fr t) (slot (a'.put o.dst v) t)):=by
   intro p' g2 W' v h1 h2 h2b h3 h4 h5 h6 h7;refine⟨p',g2,h1,h2,h2b,h3,heW.trans h4,h5,h6,λt j hjm hjt hDj=>?_,λt ht=>?_⟩
   ·rcases (hD' j).1 hDj with rfl | hDj
    ·have hdt:o.dst=some t:=by rw[<-hdst ho]; exact hjt
     rw[hdt,gA (by rw[hsz]; exact hd o (by rw[<-Array.mem_def]; exact qd2 ho) t hdt)];exact h7 t hdt
    ·have hne:j≠i:=λe=>hDi (e ▸ hDj);rw[eD (λhdt=>c4 j t (qbi hne) hdt hjt)];exact VR.ext h4 _ _ (hv1 t j hjm hjt hDj)
   ·rw[eD (λhdt=>ht i him (by rw[hdst ho]; exact hdt) ((hD' i).2 (.inl rfl)))];exact VR.ext h4 _ _ (hv2 t (λj hjm hjt hDj=>ht j hjm hjt ((hD' j).2 (.inr hDj))))
  have rowM:∀ b,gP (cD (zm D) (σ p).H) b=gP (σ p).H b:=λb=>by
   cases hzb:zm D b with
   | false=>unfold gP; rw[fU hzb]
   | true=>
    obtain ⟨j,hj,hDj⟩:=(zmT D b).1 hzb;obtain ⟨_,_,_,b',cs',_,_,q3,_,q5,_⟩:=hfl.at_ j _ hj;cases q3;have hB:=(hpb j b hj hDj).trans q5;unfold gP;rw[vG hzb hB,hB]
  have hwant:(Region.wanted o (yielded ops a'.tmps)=false/\du i fl=none/\(eF o=false∨(σ (i+1)).H=(σ i).H)/\xs i=.v undef)∨(Region.wanted o (yielded ops a'.tmps)=true/\nm cx call f lo ops m fl i o (σ i) (σ (i+1)) (xs i)):=by
   have htl:∀ {t want},cJ ops o=some (t,want)->t∈o.looksAt ops:=λ{t want} hgs=>by
    rw[lh] at hgs;unfold Oper.looksAt;split at hgs
    ·rename_i j want' hgd;cases hdj:(ops[j]?).bind (·.dst) with
     | none=>rw[hdj] at hgs; cases hgs
     | some t'=>
      rw[hdj] at hgs;cases hgs;refine qa8.2 (.inr ?_);rw[hgd];simp[hdj]
    ·cases hgs
   rcases hsel i him o ho with ⟨hgd,hse⟩ | ⟨t,want,hgs,hni,he,hk,hs1,hor⟩ | ⟨t,want,b,hgs,hni,hlb,hor⟩
   ·exact .inr ⟨by simp[Region.wanted,hgd],hse⟩
   ·have hv:=hlook t (htl hgs);rcases hor with ⟨b,hlb,hcond⟩ | ⟨⟨y,hlb⟩,hcond⟩
    ·rw[hlb,VR] at hv;rw[lT hgs hv];split at hcond
     ·rename_i hbw;exact .inr ⟨hbw,.inr (.inr ⟨hni,he,hcond,hs1,.inr (.inl hk)⟩)⟩
     ·rename_i hbw;exact .inl ⟨by simpa using hbw,hni,.inl he,hcond⟩
    ·rw[hlb,VR] at hv;rw[n6 hgs hv];exact .inl ⟨rfl,hni,.inl he,hcond⟩
   ·have hv:=hlook t (htl hgs);rw[hlb,VR] at hv;rw[lT hgs hv];rcases hor with ⟨hbw,hE⟩ | ⟨hbw,hx,hal⟩
    ·exact .inr ⟨hbw,hE⟩
    ·exact .inl ⟨hbw,hni,.inr (by rw[hal.1,iU]),hx⟩
  rcases hwant with ⟨hw,hni,he,hxu⟩ | ⟨hw,hse⟩
  ·rw[qah (by rw[hw]; simp)];cases hee:eF o with
   | false=>
    refine fin p g' W undef hpm (λj hjm hje hjn=>⟨λh'=>?_,λh'=>(hD' j).2 (.inr ((hpe j hjm hje hjn).2 h'))⟩) (λj b hj hnj=>hpb j b hj (λh=>hnj ((hD' j).2 (.inr h)))) (by rw[zsame hni]; exact hrW) (by rw[zsame hni]; exact Ext.refl hrW) hlow hgS (λd _=>by rw[hxu,VR]);rcases (hD' j).1 h' with rfl | h'
    ·rw[heff ho,hee] at hje; cases hje
    ·exact hDlt hje hjn h'
   | true=>
    have hei:dW ops i=true:=by rw[heff ho]; exact hee
    have hpi:p<=i:=qb1 λhlt'=>hDi ((hpe i him hei hni).2 hlt');have hHp:(σ i).H=(σ p).H:=hsame p i hpi o3 (λq h2 h3=>by
     cases hq:dW ops q with
     | false=>exact .inl rfl
     | true=>
      by_cases hnq:du q fl=none
      ·have:=hDlt hq hnq (hbef q (hch q i him h3 hq hei hnq hni)); omega
      ·exact .inr (hnf hq hnq))
    have hH2:(σ (i+1)).H=(σ p).H:=by
     rcases he with he | he
     ·rw[hee] at he; cases he
     ·rw[he,hHp]
    refine fin (i+1) g' W undef o3 (λj hjm hje hjn=>⟨λh'=>?_,λh'=>?_⟩) (λj b hj hnj=>by rw[hH2]; exact hpb j b hj (λh=>hnj ((hD' j).2 (.inr h)))) (by rw[hH2,zsame hni]; exact hrW) (by rw[hH2,zsame hni]; exact Ext.refl hrW) (λb hb hb'=>by rw[hH2]; exact hlow b hb hb') hgS (λd _=>by rw[hxu,VR])
    ·rcases (hD' j).1 h' with rfl | h'
     ·omega
     ·have:=hDlt hje hjn h'; omega
    ·refine(hD' j).2 ?_;by_cases e:j=i
     ·exact .inl e
     ·exact .inr (hbef j (hch j i him o3 hje hei hjn hni))
  rw[qaf hw];refine .inl ?_;rcases hse with ⟨hfi,hs1⟩ | ⟨hni,he,H',h1,hs1⟩ | ⟨hni,he,h1,hs1,hkind⟩
  ·
   obtain ⟨_,o',t,b,cs,q1,q2,q3,q4,q5,q6⟩:=hfl.at_ i _ hfi;rw[ho] at q1; cases q1;have hxi:xs i=.ptr b 0:=q3;have hfb:du i fl=some (.ptr b 0):=by rw[<-hxi]; exact hfi
   have hHb:(σ p).H[b]? = some (.box cs):=(hpb i b hfb hDi).trans q5;have hhole:(cD (zm D) (σ p).H)[b]? = some .hole:=vG ((zmT D b).2 ⟨i,hfb,hDi⟩) hHb;have hmk:cD (zm D') (σ p).H=(cD (zm D) (σ p).H).set b (.box cs):=CB hHb ((zmF D' b).2 λj hj=>(hD' j).2 (.inl (hfl.inj j i b hj hfb))) λc hc=>by
    have:(zm D' c=true)↔(zm D c=true):=by
     rw[zmT,zmT];constructor
     ·rintro ⟨j,h1,h2⟩; exact⟨j,h1,λh=>h2 ((hD' j).2 (.inr h))⟩
     ·rintro ⟨j,h1,h2⟩
      refine⟨j,h1,λh=>?_⟩;rcases (hD' j).1 h with rfl | h
      ·rw[hfb] at h1; cases h1; exact hc rfl
      ·exact h2 h
    exact qbr.2 this
   obtain ⟨d,W',g2,r1,r2,r3,r4,r5⟩:=BX (P:=cx.P) hrW hhole q6;have r1':(execOp a'.eval o).run cx.P W=.ok (.value d) W':=by
    unfold execOp;simp only[q2]
    exact jY r1
   refine ma (.inl r1') ?_;refine fin p g2 W' d hpm (λj hjm hje hjn=>⟨λh'=>?_,λh'=>(hD' j).2 (.inr ((hpe j hjm hje hjn).2 h'))⟩) (λj b' hj hnj=>hpb j b' hj (λh=>hnj ((hD' j).2 (.inr h)))) (by rw[hmk]; exact r2) (by rw[hmk]; exact r3) hlow (r5.trans hgS) (λ_ _=>by rw[hmk,hxi]; exact r4);rcases (hD' j).1 h' with rfl | h'
   ·rw[hfb] at hjn; cases hjn
   ·exact hDlt hje hjn h'
  ·
   have hei:dW ops i=true:=by rw[heff ho]; exact he
   have hpi:p<=i:=qb1 λhlt'=>hDi ((hpe i him hei hni).2 hlt');have hHp:(σ i).H=(σ p).H:=hsame p i hpi o3 (λq h2 h3=>by
    cases hq:dW ops q with
    | false=>exact .inl rfl
    | true=>
     by_cases hnq:du q fl=none
     ·have:=hDlt hq hnq (hbef q (hch q i him h3 hq hei hnq hni)); omega
     ·exact .inr (hnf hq hnq))
   have hst:(⟨(σ i).fr,(σ p).H⟩:St)=σ i:=by rw[<-hHp]
   have hzl:zm D (σ p).H.length=false:=zmhi D _ (hlen1 p hpm);have hbl:∀ y∈o.op.operands.toList,∀ b,blk? (cM cx ⟨(σ i).fr,(σ p).H⟩ y)=some b->zm D b=false:=λy hy b hb=>Dh (hopr.one y hy) (by rw[<-hb]; cases y<;>rfl);have h1m:bV cx f lo o ⟨(σ i).fr,cD (zm D) (σ p).H⟩ (λa H=>some (a,H))=some (xs i,cD (zm D) H'):=by
    rw[G8 he hzl rowM hbl,hst,h1]; rfl
   obtain ⟨c,w',x,H2,g2,e1,e2,e3,e4,e5,e6,e7,e8⟩:=my hopr h1m;cases e2;refine ma e1 ?_;have hH1:(σ (i+1)).H=H':=by rw[hs1.1,iU]
   have hz':=zsame hni;have htch:=sH he h1;refine fin (i+1) g2 w' c o3 (λj hjm hje hjn=>⟨λh'=>?_,λh'=>?_⟩) (λj b hj hnj=>?_) (by rw[hH1,hz']; exact e3) (by rw[hH1,hz']; exact e4) (λb hb hb'=>?_) (e8.trans hgS) (λd _=>by rw[hH1,hz']; first | exact e5 | exact e6 | exact e7)
   ·rcases (hD' j).1 h' with rfl | h'
    ·omega
    ·have:=hDlt hje hjn h'; omega
   ·refine(hD' j).2 ?_;by_cases e:j=i
    ·exact .inl e
    ·exact .inr (hbef j (hch j i him o3 hje hei hjn hni))
   ·have hDj:¬ D j:=λh=>hnj ((hD' j).2 (.inr h));obtain ⟨_,_,_,b',cs',_,_,q3,q4,q5,_⟩:=hfl.at_ j _ hj;cases q3;have hbH:b<(σ i).H.length:=qaz (qad.1 q5).1 (hlen1 i o3);rw[hH1,htch.2 b hbH (λc hc e=>?_),hHp]
    ·exact hpb j b hj hDj
    ·subst e;have hzb:zm D b=true:=(zmT D b).2 ⟨j,hj,hDj⟩;have hza:zm D b=false:=by
      obtain ⟨y,hy,hty⟩:∃ y∈o.op.operands.toList,dR cx (σ i) o.op=cM cx (σ i) y:=by
       have hcs:blk? (dR cx (σ i) o.op)=some b:=hc;unfold dR at hcs ⊢;split at hcs
       ·rename_i t ad v hx; exact⟨ad,by rw[hx]; simp[Op.operands],rfl⟩
       ·rename_i c' hx;split at hcs
        ·rename_i y l hl;refine⟨y,?_,rfl⟩;rw[hx];have:y∈c'.args.toList:=by rw[hl]; simp
         simp[Op.operands,Call.operands];exact .inr (by simpa using this)
        ·cases hcs
       ·cases hcs
      refine hbl y hy b ?_;rw[hst,<-hty]; exact hc
     rw[hzb] at hza; cases hza
   ·have hb2:b<(σ i).H.length:=qaz hb' (by have:=hlenm 0 i o3 o3; rw[hσH] at this; exact qaC hfl.len this);have h3:=(by first | exact e7 b hb (by rw[dL,<-hHp]; exact hb2) | exact e6 b hb (by rw[dL,<-hHp]; exact hb2):(cD (zm D) H')[b]? = (cD (zm D) (σ p).H)[b]?)
    rw[fU (zmlow D b hb'),fU (zmlow D b hb')] at h3;rw[hH1,h3];exact hlow b hb hb'
  ·
   have hun:∀ q,q<m->dW ops q=true->du q fl=none->((i<q/\q<p)∨(p<=q/\q<i))->gW ops i q:=λq hqm hqe hqn hq=>by
    unfold gW;rw[qbh];constructor
    ·cases hb:gQ ops i q with
     | false=>rfl
     | true=>
      have h2:=hDlt hqe hqn (hbef q hb);have h3:=hlt hb;omega
    ·cases hb:gQ ops q i with
     | false=>rfl
     | true=>
      have h2:=hlt hb;have h3:D q:=(hpe q hqm hqe hqn).2 o3;exact absurd (hcl q i h3 hb) hDi
   have hvo:∀ {y:Operand},y∈o.op.operands.toList->∀ {b:Nat},blk? (cM cx (σ i) y)=some b->zm D b=false/\∃ B,(σ p).H[b]? = some B:=λ{y} hy {b} hb=>by
    have hvr:=hopr.one y hy;rw[show cM cx ⟨(σ i).fr,cD (zm D) (σ p).H⟩ y=cM cx (σ i) y from by cases y<;>rfl] at hvr;have hz:=Dh hvr hb;obtain ⟨B,hB,_⟩:=xa hvr hb;rw[fU hz] at hB;exact⟨hz,B,hB⟩
   have haddr:cp o=1->∀ {b:Nat},blk? (addrOf cx (σ i) o.op)=some b->∃ y∈o.op.operands.toList,addrOf cx (σ i) o.op=cM cx (σ i) y:=λh2 {b} hbs=>by
    unfold cp at h2;split at h2<;>first | (cases h2; done) | skip
    ·rename_i t x hx; exact⟨x,by rw[hx]; simp[Op.operands],by unfold addrOf; rw[hx]⟩
    ·rename_i t x q hx; exact⟨x,by rw[hx]; simp[Op.operands],by unfold addrOf; rw[hx]⟩
    ·rename_i t x q hx; exact⟨x,by rw[hx]; simp[Op.operands],by unfold addrOf; rw[hx]⟩
    ·rename_i t x q1 q2 q3 hx; exact⟨x,by rw[hx]; simp[Op.operands],by unfold addrOf; rw[hx]⟩
    ·rename_i x hx; exact⟨x,by rw[hx]; simp[Op.operands],by unfold addrOf; rw[hx]⟩
    ·rename_i t1 t2 x hx; exact⟨x,by rw[hx]; simp[Op.operands],by unfold addrOf; rw[hx]⟩
    ·rename_i t x q c hx; exact⟨x,by rw[hx]; simp[Op.operands],by unfold addrOf; rw[hx]⟩
    ·rename_i c hx;unfold addrOf at hbs ⊢;rw[hx] at hbs ⊢;simp only[] at hbs ⊢;cases hargs:c.args.toList with
     | nil=>rw[hargs] at hbs; cases hbs
     | cons y l=>
      refine⟨y,?_,rfl⟩;have:y∈c.args.toList:=by rw[hargs]; simp
      simp[Op.operands,Call.operands];exact .inr (by simpa using this)
   have hev:jm cx call f o ⟨(σ i).fr,(σ p).H⟩=some (xs i):=by
    have hsi:(⟨(σ i).fr,(σ i).H⟩:St)=σ i:=rfl;rw[<-hsi] at h1;have allSame:(∀ q,q<m->dW ops q=true->du q fl=none->((i<q/\q<p)∨(p<=q/\q<i))->False)->(σ p).H=(σ i).H:=λhno=>by
     rcases qdI i p with hip | hip
     ·exact hsame i p hip hpm (λq h2 h3=>by
       cases hq:dW ops q with
       | false=>exact .inl rfl
       | true=>
        by_cases hnq:du q fl=none
        ·by_cases e:q=i
         ·subst e; rw[heff ho,he] at hq; cases hq
         ·exact(hno q o3 hq hnq (.inl ⟨o3,h3⟩)).elim
        ·exact .inr (hnf hq hnq))
     ·exact(hsame p i hip o3 (λq h2 h3=>by
       cases hq:dW ops q with
       | false=>exact .inl rfl
       | true=>
        by_cases hnq:du q fl=none
        ·exact(hno q o3 hq hnq (.inr ⟨h2,h3⟩)).elim
        ·exact .inr (hnf hq hnq))).symm
    cases hord:lq fl ops m i with
    | true=>
     rw[allSame (λq hqm hqe hqn hq=>by
      have hu:=hun q hqm hqe hqn hq;unfold gW at hu;rw[qbh] at hu;rcases zl hord hqm hqe hqn with h2 | h2 | h2
      ·omega
      ·rw[hu.1] at h2; cases h2
      ·rw[hu.2] at h2; cases h2)]
     exact h1
    | false=>
     rcases hkind with h2 | h2 | h2 | ⟨h2,h3⟩ | ⟨h2,h3⟩
     ·rw[hord] at h2; cases h2.1
     ·rw[va h2 (H':=(σ i).H)]; exact h1
     ·rw[<-yJ h2 (H:=(σ i).H) (λb hb=>?_)]
      ·exact h1
      ·have hbV:∃ B,(σ p).H[b]? = some B:=by
        obtain ⟨y,hy,hay⟩:=haddr h2 hb;exact(hvo hy (by rw[<-hay]; exact hb)).2
       obtain ⟨B,hB⟩:=hbV;have hbp:b<(σ p).H.length:=(qad.1 hB).1;have hap:∀ {e:A} {c:Nat},apart (addrOf cx (σ i) o.op) e=true->blk? e=some c->b≠c:=λ{e c} h4 h5 h6=>by
        have hb':blk? (addrOf cx (σ i) o.op)=some b:=hb;unfold apart at h4;simp only[hb',h5,h6,qc2] at h4;cases h4
       rcases qdI i p with hip | hip
       ·
        have hbi:b<(σ i).H.length∨(σ i).H.length<=b:=qdj _ _;rcases hbi with hbi | hbi
        ·exact hblk i p hip hpm b hbi (λq oq h4 h5 hoq hqe hqn c hc=>by
          by_cases e:q=i
          ·subst e; rw[heff ho,he] at hqe; cases hqe
          ·have hu:=hun q o3 hqe hqn (.inl ⟨o3,h5⟩);have hqA:=(htr q oq (hget o3 hoq)).2.1 (by rw[qaU]; exact hqn) (by rw[<-heff hoq]; exact hqe);simp only[qaU] at hqA;exact hap (hqA.2 i o o3 (hget him ho) he h2 hord (by unfold gW at hu ⊢; rw[Bool.or_comm]; exact hu)) hc)
        ·exfalso
         obtain ⟨B',hB'⟩:=xl (s:=σ i) h2 h1 hb;have:=(qad.1 hB').1;omega
       ·exact(hblk p i hip o3 b hbp (λq oq h4 h5 hoq hqe hqn c hc=>by
         have hu:=hun q o3 hqe hqn (.inr ⟨h4,h5⟩);exact hap ((htB he h2 hord).2 q oq h5 (hget o3 hoq) (by rw[qaU]; exact hqn) (by rw[<-heff hoq]; exact hqe) (by rw[qaU]; exact hu)) hc)).symm
     ·have hrow:∀ i j,i<=j->j<=m->(∀ q,i<=q->q<j->dW ops q=true->du q fl=none->yt ops q=true)->∀ b,gP (σ j).H b=gP (σ i).H b:=by
       intro i j hij
       induction j with
       | zero=>
        intro _ _ b; obtain rfl:i=0:=o3;rfl
       | succ j ih=>
        intro hjm hq b;by_cases e:i=j+1
        ·subst e; rfl
        ·obtain ⟨oj,hoj⟩:=hop j o3;have hprev:=ih o3 o3 (λq h1 h2=>hq q h1 o3) b;have stE:nm cx call f lo ops m fl j oj (σ j) (σ (j+1)) (xs j)->gP (σ (j+1)).H b=gP (σ i).H b:=λhE=>by
          rcases hE with ⟨_,ej⟩ | ⟨hnj,hej,H',hj1,ej⟩ | ⟨_,_,_,ej,_⟩
          ·rw[ej.1,iU];exact hprev
          ·have hc:=hq j o3 o3 (by rw[heff hoj]; exact hej) hnj;unfold yt at hc;rw[hoj] at hc;rw[ej.1,iU];exact(EG hc hj1 b).trans hprev
          ·rw[ej.1,iU];exact hprev
         rcases hsel j o3 oj hoj with ⟨_,hE⟩ | ⟨_,_,_,_,_,_,ej,_⟩ | ⟨_,_,_,_,_,_,a4⟩
         ·exact stE hE
         ·rw[ej.1,iU];exact hprev
         ·rcases a4 with ⟨_,hE⟩ | ⟨_,_,ej⟩
          ·exact stE hE
          ·rw[ej.1,iU];exact hprev
      have hcalm:∀ q,q<m->dW ops q=true->du q fl=none->((i<q/\q<p)∨(p<=q/\q<i))->yt ops q=true:=λq hqm hqe hqn hq=>by
       have hu:=hun q hqm hqe hqn hq;unfold gW at hu;rw[qbh] at hu;have:=qak.1 h3 q (qaR.2 hqm);simp only[hqe,hu.1,hu.2,qbo,qa3,qa5,qaQ,qel,false_or,reduceCtorEq,qau] at this;rcases this with h | h
       ·exact h
       ·omega
      rw[u1 h2 (H':=(σ i).H) (λb=>?_)]
      ·exact h1
      ·rcases qdI i p with hip | hip
       ·exact hrow i p hip hpm (λq h4 h5 hqe hqn=>by
         by_cases e:q=i
         ·subst e; rw[heff ho,he] at hqe; cases hqe
         ·exact hcalm q o3 hqe hqn (.inl ⟨o3,h5⟩)) b
       ·exact(hrow p i hip o3 (λq h4 h5 hqe hqn=>hcalm q o3 hqe hqn (.inr ⟨h4,h5⟩)) b).symm
     ·rw[<-Aw h2 (H:=(σ i).H) h3]; exact h1
   have hevm:jm cx call f o ⟨(σ i).fr,cD (zm D) (σ p).H⟩=some (xs i):=by
    have loc:qU cx o=true->jm cx call f o ⟨(σ i).fr,cD (zm D) (σ p).H⟩=jm cx call f o ⟨(σ i).fr,(σ p).H⟩:=λhl=>by
     unfold qU at hl;simp only[qbo,Z9] at hl;rcases hl with ((hl | hl) | hl) | ⟨hl,hq⟩
     ·exact va (beq_spec hl)
     ·refine(yJ (beq_spec hl) λb hb=>?_).symm;have hb':blk? (addrOf cx (σ i) o.op)=some b:=hb;obtain ⟨y,hy,hay⟩:=haddr (beq_spec hl) hb';exact fU (hvo hy (by rw[<-hay]; exact hb')).1
     ·exact u1 (.inl (beq_spec hl)) rowM
     ·exact u1 (.inr ⟨beq_spec hl,hq⟩) rowM
    have lk:∀ k,cp o=k->(k=0∨k=1∨k=2)->qU cx o=true:=λk hk h=>by
     unfold qU;rcases h with rfl | rfl | rfl<;>rw[hk]<;>rfl
    rcases hkind with ⟨_,(h2 | h2) | h2⟩ | h2 | h2 | ⟨h2 | ⟨h2,h3⟩,_⟩ | ⟨h2,_⟩
    ·rw[loc h2]; exact hev
    ·rw[vF λb=>(zmF D b).2 λj hj=>hbef j (vf h2 j _ hj)]; exact hev
    ·rw[Hc (H':=(σ p).H) h2 rowM]; exact hev
    ·rw[loc (lk 0 h2 (.inl rfl))]; exact hev
    ·rw[loc (lk 1 h2 (.inr (.inl rfl)))]; exact hev
    ·rw[loc (lk 2 h2 (.inr (.inr rfl)))]; exact hev
    ·rw[loc (by unfold qU; rw[h2,h3]; rfl)]; exact hev
    ·rw[loc (lk 2 h2 (.inr (.inr rfl)))]; exact hev
   have hpo:=pg hcall horc hevm;refine(hpo F n g' w0 W a'.eval hF hopr (λG vs hG=>(hg.sr.gl G vs hG).ext heW) (hcall.up _ _ _ _ _ _ hb0 (hg.ext.trans heW))).mono ?_
   rintro v w' ⟨k1,k2,k3⟩
   refine fin p g' w' v hpm (λj hjm hje hjn=>⟨λh'=>?_,λh'=>(hD' j).2 (.inr ((hpe j hjm hje hjn).2 h'))⟩) (λj b hj hnj=>hpb j b hj (λh=>hnj ((hD' j).2 (.inr h)))) (by rw[zsame hni]; exact k2) (by rw[zsame hni]; exact k3) hlow hgS (λd _=>by rw[zsame hni]; exact k1);rcases (hD' j).1 h' with rfl | h'
   ·rw[heff ho,he] at hje; cases hje
   ·exact hDlt hje hjn h'
 ·rintro D a' W hall hDm ⟨p,g',hpm,hpe,hpb,hrW,heW,hlow,hgS,hv1,hv2⟩ hdf hsz
  have hmn:cD (zm D) (σ p).H=(σ p).H:=vF λb=>(zmF D b).2 λj hj=>hall j (hfl.at_ j _ hj).1;rw[hmn] at hrW heW hv1 hv2;have hHm:(σ m).H=(σ p).H:=hsame p m hpm (qab _) (λq h2 h3=>by
   cases hq:dW ops q with
   | false=>exact .inl rfl
   | true=>
    by_cases hnq:du q fl=none
    ·have:=(hpe q h3 hq hnq).1 (hall q h3); omega
    ·exact .inr (hnf hq hnq))
  refine g7 (f:=f) (ops:=ops) hcall hb0 horc hF hk hp _ (σ m) g' a' W (λo ho=>hd o (qaL ho)) ⟨⟨by rw[hHm]; exact hrW,λt=>?_,λG vs hG=>by rw[hHm]; exact(hg.sr.gl G vs hG).ext heW⟩,by rw[hHm]; exact hg.ext.trans heW,?_,λb hb hb'=>?_,hsz,(by rw[hdf]; exact hg.dfr.n7 heW.kept),qaC hg.mbw heW.size,hgS.trans hg.st⟩ hz
  ·rw[hHm];by_cases ht:∃ i,i<m/\cQ ops i=some t
   ·obtain ⟨i,him,hit⟩:=ht;obtain ⟨oi,hoi⟩:=hop i him;have e1:look (σ (i+1)).fr t=xs i:=by rw[fstep i him oi hoi,qaf (by rw[<-hdst hoi]; exact hit)]
    rw[fkeep t (i+1) m o3 (qab _) (λq h1 h2 hq=>by
     obtain ⟨oq,hoq⟩:=hop q h2;obtain ⟨c4',_⟩:=oh jT hoq;exact c4' i t o3 (by rw[<-hdst hoq]; exact hq) hit),e1]
    exact hv1 t i him hit (hall i him)
   ·rw[fkeep t 0 m o3 (qab _) (λq h1 h2 hq=>ht ⟨q,h2,hq⟩),hσf];exact hv2 t (λi him hit=>absurd ⟨i,him,hit⟩ ht)
  ·have:=hlenm 0 m o3 (qab _);rw[hσH] at this;exact qaC hg.len (qaC hfl.len this)
  ·rw[hHm,hlow b hb (qaz hb' hg.len)];exact hg.low b hb hb'
end
section
open Go.RowKit
variable {H H':Heap} {g g':Gh} {w0 w w':World} {cx:Cx} {s:St} {a:Act} {N lo:Nat} {mb:Mb} {H0:Heap} {gs:Gh} {ws:World}
theorem JJ (hr:Rel H g w0 w) {x:A} {c:Value} (h:VR H g w x c):VR H g w (JI H x) c:=by
 unfold JI;split
 ·exact VR.back (λ_ _ h=>h) (rZ hr _ c h)
 ·rw[VR] at h ⊢;obtain ⟨a,cap,ds,es,h1,h2,_,h4,h5,h6⟩:=h;exact⟨a,cap,ds,es,h1,h2,λh=>(by cases h),h4,h5,h6⟩
 ·exact h
theorem AH (hr:Rel H g w0 w):∀ {cs:List A} {ds:List Value},bL H g w cs ds->bL H g w (cs.map (JI H)) ds
 | [],_,h=>h
 | a :: as,_,h=>by
  rw[bL] at h;obtain ⟨d,ds',rfl,h1,h2⟩:=h;rw[qbc,bL];exact⟨d,ds',rfl,JJ hr h1,AH hr h2⟩
theorem Hg (hr:Rel H g w0 w) {x:A} {c:Value} (h:VR H g w x c):VR H g w (LM H x) c:=by
 unfold LM;split
 ·exact VR.back (λ_ _ h=>h) (rZ hr _ c h)
 ·rw[VR] at h ⊢;obtain ⟨a,cap,ds,es,h1,h2,_,h4,h5,h6⟩:=h;exact⟨a,cap,ds,es,h1,h2,λh=>(by cases h),h4,h5,h6⟩
 ·rw[VR] at h ⊢;obtain ⟨ds,h1,h2⟩:=h;exact⟨ds,h1,AH hr h2⟩
 ·exact h
theorem zB (hr:Rel H g w0 w) (es:Nat) {x:A} {c:Value} (h:VR H g w x c):∃ g',Rel (fj es H x).2 g' w0 w/\Ext H g w (fj es H x).2 g' w/\VR (fj es H x).2 g' w (fj es H x).1 c/\H.length<=(fj es H x).2.length/\(∀ b,b<H.length->(fj es H x).2[b]? = H[b]?)/\g'.S=g.S:=by
 unfold fj;split
 ·rename_i els;rw[bP];split
  ·rename_i hal;rw[VR] at h;obtain ⟨a,cap,ds,es',e1,e2,e3,e4,e5,e6⟩:=h;have hc:cap=els.length:=e3 rfl;have hds:∀ d∈ds,d.length=es:=λd hd=>by
    obtain ⟨i,hi,rfl⟩:=qa2 hd;have hl:=e6.length;obtain ⟨q1,q2⟩:=dh.1 e6;have:=q2 i els[i] ds[i] (Z7 o3) (Z7 hi);rw[this.length];exact qan (qak.1 hal _ (qaB o3))
   obtain ⟨h1,h2⟩:=hr.push (Below.refl _ w) (.row false es els) none ds (λk hk=>by cases hk) (λhe=>⟨by rw[Gh.iG]; exact bK.ext he _ _ e6,by rw[Gh.iG]; exact hds⟩);refine⟨_,h1,h2,?_,r8,λb hb=>qat hb,rfl⟩;rw[VR,fg];refine⟨r8,a,cap,e1,e2,λh=>(by cases h),λhp=>?_,λ_ _ _ h=>o3⟩;obtain ⟨k,off,g1,g2⟩:=e5 hp;refine⟨k,off,g1,?_⟩;rw[Gh.iG,qaM,qaK (by rw[e6.length]; exact qab _)];exact g2.ext h2
  ·exact⟨g,hr,Ext.refl hr,h,qab _,λ_ _=>rfl,rfl⟩
 ·exact⟨g,hr,Ext.refl hr,h,qab _,λ_ _=>rfl,rfl⟩
theorem IT (hr:Rel H g w0 w) (es:Nat) {x:A} {c:Value} (h:VR H g w x c):∃ g',Rel (iV es H x).2 g' w0 w/\Ext H g w (iV es H x).2 g' w/\VR (iV es H x).2 g' w (iV es H x).1 c/\H.length<=(iV es H x).2.length/\(∀ b,b<H.length->(iV es H x).2[b]? = H[b]?)/\g'.S=g.S:=by
 unfold iV;split
 ·rw[VR] at h;obtain ⟨a,cap,ds,es',e1,e2,e3,e4,e5,e6⟩:=h;obtain ⟨h1,h2⟩:=hr.push (Below.refl _ w) (.row true es []) none [] (λk hk=>by cases hk) (λhe=>⟨[],by rw[bK],λd hd=>(by cases hd),λhp=>(by simp at hp)⟩);refine⟨_,h1,h2,?_,r8,λb hb=>qat hb,rfl⟩;rw[VR,fg];exact⟨r8,a,cap,e1,o3,λh=>(by cases h),λhp=>o3,λ_ _ _ h=>(by have:=e3 rfl; simp at this; omega)⟩
 ·exact⟨g,hr,Ext.refl hr,h,qab _,λ_ _=>rfl,rfl⟩
theorem Dr (hr:Rel H g w0 w) {x:A} {c:Value} (h:VR H g w x c):∃ g',Rel (H++[.dead]) g' w0 w/\Ext H g w (H++[.dead]) g' w/\VR (H++[.dead]) g' w x c/\H.length<=(H++[aA.dead]).length/\(∀ b,b<H.length->(H++[aA.dead])[b]? = H[b]?)/\g'.S=g.S:=by
 obtain ⟨h1,h2⟩:=hr.push (Below.refl _ w) .dead none [] (λk hk=>by cases hk) (λhe=>Gh.bQ ..);exact⟨_,h1,h2,VR.ext h2 _ _ h,r8,λb hb=>qat hb,rfl⟩
theorem IU (hr:Rel H g w0 w) (es:Nat) {x:A} {c:Value} (h:VR H g w x c):∃ g',Rel (nH es H x).2 g' w0 w/\Ext H g w (nH es H x).2 g' w/\VR (nH es H x).2 g' w (nH es H x).1 c/\H.length<=(nH es H x).2.length/\(∀ b,b<H.length->(nH es H x).2[b]? = H[b]?)/\g'.S=g.S:=by
 have h1:=zB hr es h;unfold nH;split
 ·rename_i els;unfold fj at h1;simp only at h1;rw[bP] at h1 ⊢;split
  ·rename_i hal;rw[qaf hal] at h1;exact h1
  ·exact Dr hr h
 ·exact Dr hr h
theorem Good.slot (h:Good cx N mb lo H0 gs ws w0 s g a w) {t:Nat} {x:A} (hx:VR s.H g w x (a.tmps.getD t undef)):Good cx N mb lo H0 gs ws w0 ⟨(t,x) :: s.fr,s.H⟩ g a w:=
 ⟨⟨h.sr.rel,λu=>by
  show VR s.H g w (look ((t,x) :: s.fr) u) _;rw[fI]; split
  ·rename_i e; rw[<-e]; exact hx
  ·exact h.sr.fr u,h.sr.gl⟩,h.ext,h.len,h.low,h.siz,h.dfr,h.mbw,h.st⟩
theorem Good.heap (h:Good cx N mb lo H0 gs ws w0 s g a w) (hr:Rel H' g' w0 w) (he:Ext s.H g w H' g' w) (hl:s.H.length<=H'.length) (hlo:∀ b,b<lo->b<s.H.length->H'[b]? = s.H[b]?) (hst:g'.S=g.S):Good cx N mb lo H0 gs ws w0 ⟨s.fr,H'⟩ g' a w:=
 ⟨⟨hr,λt=>VR.ext he _ _ (h.sr.fr t),λG vs hG=>(h.sr.gl G vs hG).ext he⟩,h.ext.trans he,qaC h.len hl,λb hb hb'=>(hlo b hb (qaz hb' h.len)).trans (h.low b hb hb'),h.siz,h.dfr.n7 he.kept,qaC h.mbw he.size,hst.trans h.st⟩
theorem setRow_self {k:Nat} {arr:Array Value} {ty:TypeId} (ha:w.heap[k]? = some (.cells arr ty (0,0))):w.setRow k arr=w:=by
 have e:(w.heap.modify k λ| .cells _ elem frozen=>.cells arr elem frozen | o=>o)=w.heap:=by
  refine Array.ext r8 λi h1 h2=>?_;rw[qd7];split
  ·rename_i hik;subst hik;have hv:=(qaj.1 ha).2;rw[hv]
  ·rfl
 exact(qa7 (λh=>({ w with heap:=h }:World)) e:_=_)
theorem Rel.box (hr:Rel H g w0 w) {b i:Nat} {cs:List A} (hb:H[b]? = some (.box cs)) {x:A} (hx:∀ k arr ty d,g.mu b=some k->w.heap[k]? = some (.cells arr ty (0,0))->arr[i]? = some d->VR H g w x d):Rel (H.set b (.box (cs.set i x))) g w0 w/\Ext H g w (H.set b (.box (cs.set i x))) g w:=by
 obtain ⟨k,arr,ty,h1,h2,h3⟩:=hr.blk b _ hb;have key:Ext H g w (H.set b (.box (cs.set i x))) g (w.setRow k arr)->(w.setRow k arr).heap[k]? = some (.cells arr ty (0,0))->nL (H.set b (.box (cs.set i x))) g (w.setRow k arr) b (.box (cs.set i x)):=λhe hk=>by
  refine⟨k,arr,ty,h1,hk,?_⟩;rw[setRow_self h2] at he ⊢;refine bL.ext he _ _ (ew.2 ⟨by simpa using h3.length,λj y d hy hd=>?_⟩);rw[qbX] at hy;split at hy
  ·rename_i hij;split at hy
   ·cases hy;subst hij;exact hx k arr ty d h1 h2 (by simpa using hd)
   ·cases hy
  ·exact(ew.1 h3).2 _ _ d hy hd
 have:=hr.write (arr':=arr) (B':=.box (cs.set i x)) h1 h2 hb (.inl ⟨cs,_,rfl,rfl⟩) key;rwa [setRow_self h2] at this
def Dk (lo:Nat) (p:Nat×Nat×Nat) (s:St):St:=
 match p.2.1 with
 | 0=>match p.2.2 with
  | 0=>⟨(p.1,LM s.H (look s.fr p.1)) :: s.fr,s.H⟩
  | es+1=>bif Nat.ble 500000 es then (bif Nat.ble 1000000 es then ⟨(p.1,(nH (es - 1000000) s.H (look s.fr p.1)).1) :: s.fr,(nH (es - 1000000) s.H (look s.fr p.1)).2⟩ else ⟨(p.1,(iV (es - 500000) s.H (look s.fr p.1)).1) :: s.fr,(iV (es - 500000) s.H (look s.fr p.1)).2⟩) else ⟨(p.1,(fj es s.H (look s.fr p.1)).1) :: s.fr,(fj es s.H (look s.fr p.1)).2⟩
 | off+1=>match look s.fr p.1 with
  | .ptr b o=>match s.H[b]? with
   | some (.box cs)=>match cs[o+off]? with
    | some c=>bif decide (lo<=b) then match p.2.2 with
     | 0=>⟨s.fr,s.H.set b (.box (cs.set (o+off) (LM s.H c)))⟩
     | es+1=>⟨s.fr,(fj es s.H c).2.set b (.box (cs.set (o+off) (fj es s.H c).1))⟩
     else s
    | none=>s
   | _=>s
  | _=>s
theorem GD (lo:Nat) (p:Nat×Nat×Nat) (s:St):Proofs.Ytebkhfhcipnfgaa.qD lo p s=Dk lo p s:=by
 obtain ⟨t,q,m⟩:=p;cases q with
 | zero=>rfl
 | succ off=>
  simp only[Proofs.Ytebkhfhcipnfgaa.qD,Dk,fb]
  cases look s.fr t with
  | ptr b o=>
   simp only[]
   cases s.H[b]? with
   | none=>rfl
   | some B=>cases B with
    | box cs=>
     simp only[]
     cases cs[o+off]? with
     | none=>rfl
     | some c=>
      simp only[]
      cases decide (lo<=b) with
      | false=>rfl
      | true=>cases m<;>rfl
    | _=>rfl
  | _=>rfl
theorem xH (es:Nat) (x:A):H.length<=(fj es H x).2.length:=by
 unfold fj;split
 ·rw[bP]; split<;>simp
 ·exact qab _
theorem Fi (es:Nat) (x:A):H.length<=(iV es H x).2.length:=by
 unfold iV;split<;>simp
theorem xI (es:Nat) (x:A):(nH es H x).2.length=H.length+1:=by
 unfold nH;split
 ·rw[bP]; split<;>simp
 ·simp
theorem GC (lo:Nat) (p:Nat×Nat×Nat) (s:St):s.H.length<=(Proofs.Ytebkhfhcipnfgaa.qD lo p s).H.length:=by
 rw[GD];unfold Dk;split
 ·split
  ·exact qab _
  ·rw[bP];split
   ·rw[bP];split
    ·exact qaC (Nat.le_succ _) (qc3 (xI ..).symm)
    ·exact Fi ..
   ·exact xH ..
 ·split
  ·split
   ·split
    ·rw[bP];split
     ·split
      ·simp
      ·simpa using xH ..
     ·exact qab _
    ·exact qab _
   ·exact qab _
  ·exact qab _
theorem uF (lo:Nat):∀ (ps:List (Nat×Nat×Nat)) (s:St),Bi ps≠none->s.H.length+1<=(fa lo ps s).H.length
 | [],s,h=>absurd rfl h
 | [p],s,h=>by
  obtain ⟨t,q,m⟩:=p;show s.H.length+1<=(Proofs.Ytebkhfhcipnfgaa.qD lo (t,q,m) s).H.length;cases q with
  | succ q=>exact absurd rfl h
  | zero=>
   unfold Bi at h;simp only at h;rw[bP] at h;split at h
   ·rename_i hm;have hm:1000001<=m:=by simpa [qcQ] using hm
    obtain ⟨m,rfl⟩:∃ e,m=e+1:=⟨m - 1,o3⟩
    unfold Proofs.Ytebkhfhcipnfgaa.qD;simp only
    rw[show Nat.ble 500000 m=true from qbe o3,show Nat.ble 1000000 m=true from qbe o3];simp only[qaa]
    rw[xI];exact qab _
   ·exact absurd rfl h
 | p :: q :: ps,s,h=>qaC (Nat.succ_le_succ (GC lo p s)) (uF lo (q :: ps) _ h)
theorem Good.qD (h:Good cx N mb lo H0 gs ws w0 s g a w) (p:Nat×Nat×Nat):∃ g',Good cx N mb lo H0 gs ws w0 (qD lo p s) g' a w/\s.H.length<=(Proofs.Ytebkhfhcipnfgaa.qD lo p s).H.length/\(p.2.2=0->(Proofs.Ytebkhfhcipnfgaa.qD lo p s).H.length=s.H.length):=by
 rw[GD];unfold Dk;have same:∃ g',Good cx N mb lo H0 gs ws w0 s g' a w/\s.H.length<=s.H.length/\(p.2.2=0->s.H.length=s.H.length):=⟨g,h,qab _,λ_=>rfl⟩
 split
 ·split
  ·exact⟨g,h.slot (Hg h.sr.rel (h.sr.fr _)),qab _,λ_=>rfl⟩
  ·rename_i es he';rw[bP];split
   ·rw[bP];split
    ·obtain ⟨g',h1,h2,h3,h4,h5,h6⟩:=IU h.sr.rel (es - 1000000) (h.sr.fr p.1);exact⟨g',(h.heap h1 h2 h4 (λb _ hb=>h5 b hb) h6).slot h3,h4,λe=>by rw[he'] at e; cases e⟩
    obtain ⟨g',h1,h2,h3,h4,h5,h6⟩:=IT h.sr.rel (es - 500000) (h.sr.fr p.1);exact⟨g',(h.heap h1 h2 h4 (λb _ hb=>h5 b hb) h6).slot h3,h4,λe=>by rw[he'] at e; cases e⟩
   obtain ⟨g',h1,h2,h3,h4,h5,h6⟩:=zB h.sr.rel es (h.sr.fr p.1);exact⟨g',(h.heap h1 h2 h4 (λb _ hb=>h5 b hb) h6).slot h3,h4,λe=>by rw[he'] at e; cases e⟩
 ·rename_i off _;split
  ·rename_i b o _;split
   ·rename_i cs hb;split
    ·rename_i c hc;rw[bP];split
     ·rename_i hlo;have hlo:lo<=b:=by simpa using hlo
      split
      ·obtain ⟨k,arr,ty,m1,m2,m3⟩:=h.sr.rel.blk b _ hb;obtain ⟨h1,h2⟩:=h.sr.rel.box hb (i:=o+off) (x:=LM s.H c) (λk' arr' ty' d n1 n2 n3=>by
        rw[m1] at n1; cases n1;rw[m2] at n2; cases n2;exact Hg h.sr.rel ((ew.1 m3).2 _ _ d hc (by simpa using n3)))
       exact⟨g,h.heap h1 h2 r8 (λb' hb' _=>qao o3) rfl,r8,λ_=>r8⟩
      ·rename_i es he;obtain ⟨k,arr,ty,m1,m2,m3⟩:=h.sr.rel.blk b _ hb;have hl:=m3.length;have hlt:=(qad.1 hc).1;obtain ⟨d,hd⟩:∃ d,arr.toList[o+off]? = some d:=⟨_,Z7 o3⟩
       obtain ⟨g',h1,h2,h3,h4,h5,h6⟩:=zB h.sr.rel es ((ew.1 m3).2 _ _ d hc hd);have hbl:=(qad.1 hb).1;have hb':(fj es s.H c).2[b]? = some (.box cs):=(h5 b hbl).trans hb;have hg2:=h.heap h1 h2 h4 (λb _ hb=>h5 b hb) h6;have hmu:g'.mu b=g.mu b:=by
        obtain ⟨B',n1,n2⟩:=h2.blk b _ hb;rw[hb'] at n1; cases n1;exact n2
       have key:∀ k arr ty d,g'.mu b=some k->w.heap[k]? = some (.cells arr ty (0,0))->arr[o+off]? = some d->VR (fj es s.H c).2 g' w (fj es s.H c).1 d:=by
        intro k' arr' ty' d' n1 n2 n3;rw[hmu,m1] at n1; cases n1;rw[m2] at n2; cases n2;have e:d'=d:=by
         have:arr.toList[o+off]? = some d':=by simpa using n3
         rw[hd] at this; cases this; rfl
        rw[e]; exact h3
       obtain ⟨k1,k2⟩:=h1.box hb' (i:=o+off) (x:=(fj es s.H c).1) key;exact⟨g',hg2.heap k1 k2 r8 (λb' hb' _=>qao o3) rfl,by simpa using h4,λe=>by rw[he] at e; cases e⟩
     ·exact same
    ·exact same
   ·exact same
  ·exact same
theorem Good.acts:∀ (ps:List (Nat×Nat×Nat)) {s:St} {g:Gh},Good cx N mb lo H0 gs ws w0 s g a w->∃ g',Good cx N mb lo H0 gs ws w0 (fa lo ps s) g' a w/\s.H.length<=(fa lo ps s).H.length
 | [],s,g,h=>⟨g,h,qab _⟩
 | p :: ps,s,g,h=>by
  obtain ⟨g',h1,h2,_⟩:=h.qD p;obtain ⟨g'',h3,h4⟩:=Good.acts ps h1;exact⟨g'',h3,qaC h2 h4⟩
theorem JF (hr:Rel H g w0 w) {lo ei:Nat} {x:A} {c:Value} {r:A×Heap} (hk:xc lo ei x H=some r) (h:VR H g w x c):∃ g',Rel r.2 g' w0 w/\Ext H g w r.2 g' w/\VR r.2 g' w r.1 c/\H.length<=r.2.length/\(∀ b,b<lo->b<H.length->r.2[b]? = H[b]?)/\g'.S=g.S:=by
 unfold xc at hk;split at hk
 ·rename_i b o n cl;split at hk
  ·rename_i k els hb;replace hk:=bJ hk;obtain ⟨h0,hk⟩:=hk;simp only[Z9,qag] at h0;obtain ⟨⟨⟨⟨hlo,hk1⟩,hn⟩,hn4⟩,hz⟩:=h0;have hk1:=qan hk1;have hn:=qan hn;subst hk1;have seed:∀ {G:Heap} {gg:Gh},Rel G gg w0 w->Rel (G++[.row false ei []]) (gg.put G.length none []) w0 w/\Ext G gg w (G++[.row false ei []]) (gg.put G.length none []) w:=λhr=>hr.push (Below.refl _ w) (.row false ei []) none [] (λk hk=>by cases hk) (λ_=>⟨by rw[Gh.iG,bK],by rw[Gh.iG]; simp⟩);obtain ⟨r1,x1⟩:=seed hr;obtain ⟨r2,x2⟩:=seed r1;obtain ⟨r3,x3⟩:=seed r2;obtain ⟨r4,x4⟩:=seed r3;have hB:H++[.row false ei [],.row false ei [],.row false ei [],.row false ei []]=H++[.row false ei []]++[.row false ei []]++[.row false ei []]++[.row false ei []]:=r8;have hlt:=(qad.1 hb).1;rw[hB] at hk;have x5:=((x1.trans x2).trans (x3.trans x4))
   have hS:((((g.put H.length none []).put (H++[aA.row false ei []]).length none []).put (H++[aA.row false ei []]++[aA.row false ei []]).length none []).put (H++[aA.row false ei []]++[aA.row false ei []]++[aA.row false ei []]).length none []).S=g.S:=rfl;generalize (((g.put H.length none []).put (H++[aA.row false ei []]).length none []).put (H++[aA.row false ei []]++[aA.row false ei []]).length none []).put (H++[aA.row false ei []]++[aA.row false ei []]++[aA.row false ei []]).length none []=g4 at r4 x4 x5 hS;have hG:(H++[aA.row false ei []]++[aA.row false ei []]++[aA.row false ei []]++[aA.row false ei []])[b]? = some (.row true 1 els):=by rw[<-hB,qat hlt]; exact hb
   have hrow:∀ j,j<4->(H++[aA.row false ei []]++[aA.row false ei []]++[aA.row false ei []]++[aA.row false ei []])[H.length+j]? = some (.row false ei []):=λj hj=>by
    rw[<-hB,qay o3,qdM]
    match j,hj with
    | 0,_=>rfl
    | 1,_=>rfl
    | 2,_=>rfl
    | 3,_=>rfl
   have hlen:(H++[aA.row false ei []]++[aA.row false ei []]++[aA.row false ei []]++[aA.row false ei []]).length=H.length+4:=r8;have hlow:∀ b',b'<lo->b'<H.length->(H++[aA.row false ei []]++[aA.row false ei []]++[aA.row false ei []]++[aA.row false ei []])[b']? = H[b']?:=λb' _ h'=>by rw[<-hB]; exact qat h'
   generalize H++[aA.row false ei []]++[aA.row false ei []]++[aA.row false ei []]++[aA.row false ei []]=G at hk r4 x4 x5 hG hrow hlen hlow;have hbl:=r4.blk b _ hG;cases hk;obtain ⟨ds,d1,d2,d3⟩:=hbl;by_cases h0:els.length=0
   ·have he:els=[]:=qaw h0;have hn0:n=0:=o3;subst he hn0;have hset:G.set b (.row true 1 (List.take 0 [[A.sl H.length 0 0 false],[A.sl (H.length+1) 0 0 false],[A.sl (H.length+2) 0 0 false],[A.sl (H.length+3) 0 0 false]]))=G:=by
     rw[qci];obtain ⟨h1,h2⟩:=qad.1 hG;rw[<-h2]; exact List.set_getElem_self h1
    simp only[hset]
    exact⟨g4,r4,x5,VR.ext x5 _ _ h,o3,hlow,hS⟩
   ·obtain ⟨k,arr,ty,m1,m2,m3⟩:=d3 o3;have hl:=d1.length;have key:∀ j,j<ds.length->∃ a,ds[j]? = some [.slice a 0 0]:=λj hj=>by
     obtain ⟨_,q2⟩:=dh.1 d1;obtain ⟨e,he⟩:∃ e,els[j]? = some e:=⟨_,Z7 o3⟩
     obtain ⟨d,hd⟩:∃ d,ds[j]? = some d:=⟨_,Z7 hj⟩
     have hv:=q2 j e d he hd;have hze:=qak.1 hz e (qaI he);split at hze
     ·rw[bL] at hv;obtain ⟨d0,ds',rfl,hv,hv'⟩:=hv;rw[bL] at hv';subst hv';rw[VR] at hv;obtain ⟨a,cap,ds1,es1,e1,e2,e3,e4,e5,e6⟩:=hv;have:=e3 rfl;subst this;exact⟨a,by rw[hd,e1]; rfl⟩
     ·cases hze
    have hel:(List.take n [[A.sl H.length 0 0 false],[A.sl (H.length+1) 0 0 false],[A.sl (H.length+2) 0 0 false],[A.sl (H.length+3) 0 0 false]]).length=els.length:=r9;have wr:=r4.write (arr':=arr) (B':=.row true 1 (List.take n [[A.sl H.length 0 0 false],[A.sl (H.length+1) 0 0 false],[A.sl (H.length+2) 0 0 false],[A.sl (H.length+3) 0 0 false]])) m1 m2 hG (.inr ⟨1,els,_,rfl,rfl,hel,qab _⟩) (λhe hk=>by
     refine⟨ds,dh.2 ⟨by rw[hel,hl],λi a d ha hd=>?_⟩,d2,λ_=>⟨k,arr,ty,m1,hk,m3⟩⟩;have hi4:i<4:=by have:=(qad.1 ha).1; rw[hel] at this; omega
     have hin:i<n:=by have:=(qad.1 ha).1; rw[hel] at this; omega
     rw[qaA,qaf hin] at ha;have hja:a=[.sl (H.length+i) 0 0 false]:=by
      match i,hi4,ha with
      | 0,_,ha=>exact(qcm ha).symm
      | 1,_,ha=>exact(qcm ha).symm
      | 2,_,ha=>exact(qcm ha).symm
      | 3,_,ha=>exact(qcm ha).symm
     subst hja;obtain ⟨ad,hq⟩:=key i o3;rw[hd] at hq;cases hq;rw[bL];refine⟨_,_,rfl,?_,An⟩;rw[VR,qao o3,hrow i hi4];exact⟨r8,ad,0,rfl,qab _,λh=>rfl,λh=>absurd h (by decide),λ_ _ _ h=>absurd h (by decide)⟩)
    rw[setRow_self m2] at wr;obtain ⟨r6,x6⟩:=wr;exact⟨g4,r6,x5.trans x6,VR.ext (x5.trans x6) _ _ h,r9,λb' h1 h2=>by rw[qao o3]; exact hlow b' h1 h2,hS⟩
  ·cases hk
 ·cases hk
theorem Good.HB {k:St->Option R} {r:R}:∀ (ps:List (Nat×Nat×Nat)) {s:St} {g:Gh},Good cx N mb lo H0 gs ws w0 s g a w->ug lo ps s k=some r->∃ s' g',Good cx N mb lo H0 gs ws w0 s' g' a w/\k s'=some r
 | [],s,g,h,hk=>⟨s,g,h,hk⟩
 | p :: ps,s,g,h,hk=>by
  unfold ug at hk;obtain ⟨q,h1,hk⟩:=bN hk;obtain ⟨t,o,m⟩:=p;cases m with
  | zero=>
   obtain ⟨g',e1,e2,e3,e4,e5,e6⟩:=DM h.sr.rel h1 (h.sr.fr t);exact Good.HB ps ((h.heap e1 e2 (qc3 e4.symm) e5 e6).slot e3) hk
  | succ es=>
   obtain ⟨g',e1,e2,e3,e4,e5,e6⟩:=JF h.sr.rel h1 (h.sr.fr t);exact Good.HB ps ((h.heap e1 e2 e4 e5 e6).slot e3) hk
variable {call:bB} {f:Nat} {ops:Array Oper} {r:R}
theorem xj {o:Oper} {k k':St->Option R} {pan:A->St->Option R} (hk:∀ s,k s=some r->k' s=some r) (h:uW cx call f lo o s k pan=some r):uW cx call f lo o s k' pan=some r:=by
 have one:∀ {x},bV cx f lo x s (λa H=>k ({ s with H:=H }.put o.dst a))=some r->bV cx f lo x s (λa H=>k' ({ s with H:=H }.put o.dst a))=some r:=λ{x} h=>by
  rw[jU] at h ⊢;obtain ⟨p,h1,h2⟩:=bN h;rw[h1];exact hk _ h2
 unfold uW at h ⊢;split
 ·rename_i c x y ho;simp only[ho] at h;obtain ⟨z,h1,h2⟩:=bN h;rw[h1]; exact hk _ h2
 ·rename_i x ho;simp only[ho] at h;exact h
 ·rename_i t' n' parts ho;simp only[ho] at h ⊢;rw[bP] at h ⊢;split
  ·rename_i hc;rw[qaf hc] at h;obtain ⟨z,h1,h2⟩:=bN h;rw[h1]; exact hk _ h2
  ·rename_i hc;rw[qah hc] at h;exact one h
 ·rename_i t' n' parts ho;simp only[ho] at h ⊢;rw[bP] at h ⊢;split
  ·rename_i hc;rw[qaf hc] at h;obtain ⟨z,h1,h2⟩:=bN h;rw[h1]; exact hk _ h2
  ·rename_i hc;rw[qah hc] at h;exact one h
 ·rename_i t' t'' x ho;simp only[ho] at h ⊢;rw[bP] at h ⊢;split
  ·rename_i hc;rw[qaf hc] at h;obtain ⟨z,h1,h2⟩:=bN h;rw[h1]; exact hk _ h2
  ·rename_i hc;rw[qah hc] at h;exact one h
 ·rename_i c ho;simp only[ho] at h ⊢;rw[bP] at h ⊢;split
  ·rename_i hc;rw[qaf hc] at h;rw[uT] at h ⊢;unfold Me at h ⊢;split at h
   ·rename_i p hy;obtain ⟨hrb,h⟩:=bJ h;obtain ⟨x,h3,h4⟩:=bN h;simp only[hrb,qaa,h3,Z6]
    unfold ek at h4 ⊢;split
    ·rename_i y hy; rw[hy] at h4; exact hk _ h4
    ·rename_i y hy; rw[hy] at h4; exact h4
   obtain ⟨p,h1,h2⟩:=bN h;simp only[h1,Z6]
   rw[bP] at h2 ⊢;split
   ·rename_i hi;rw[qaf hi] at h2;obtain ⟨x,h3,h4⟩:=bN h2;rw[h3]; exact hk _ h4
   ·rename_i hi;rw[qah hi] at h2;obtain ⟨x,h3,h4⟩:=bN h2;rw[h3,Z6];unfold ek at h4 ⊢;split
    ·rename_i y hy; rw[hy] at h4; exact hk _ h4
    ·rename_i y hy; rw[hy] at h4; exact h4
  ·rename_i hc;rw[qah hc] at h;exact one h
 ·rename_i h1 h2 h3 h4 h5 h6;have:bV cx f lo o s (λa H=>k ({ s with H:=H }.put o.dst a))=some r:=by
   cases ho:o.op<;>first
    | (simp only[ho] at h; exact h)
    | exact absurd ho (h1 _ _ _)
    | exact absurd ho (h2 _)
    | exact absurd ho (h3 _ _ _)
    | exact absurd ho (h4 _ _ _)
    | exact absurd ho (h5 _ _ _)
    | exact absurd ho (h6 _)
  exact one this
theorem GN {b x:Bool} (h:(bif b then x else false)=true):b=true/\x=true:=by cases b<;>simp_all
theorem qq:∀ {os:List Oper},rq cx f os=true->∀ o∈os,quiet cx f o=true
 | [],_,o,ho=>by cases ho
 | o :: os,h,o',ho'=>by
  unfold rq at h;obtain ⟨h1,h2⟩:=GN h;rcases qaD.1 ho' with rfl | ho'
  ·exact h1
  ·exact qq h2 o' ho'
theorem jV {k:E->St->Option R}:∀ (q:Nat) (os:List Oper) (s:St),jc cx call f lo ops q os s k=some r->gZ cx call f lo ops os s k=some r
 | 0,_,_,h=>by cases h
 | _+1,[],_,h=>h
 | q+1,o :: os,s,h=>by
  have ih:=λs=>jV (k:=k) q os s;unfold jc at h;unfold gZ;cases hgd:o.guard with
  | none=>
   simp only[hgd] at h ⊢;exact xj (λs=>ih s) h
  | some x=>
   simp only[hgd] at h ⊢;cases hgs:cJ ops o with
   | none=>rw[hgs] at h; cases h
   | some p=>
    obtain ⟨t,w⟩:=p;simp only[hgs] at h ⊢;rw[bP] at h;split at h
    ·rename_i hc;rw[Z9] at hc;have hqq:=qq hc.2;have hro:=(fM (ops:=ops) t w (o :: os) []).2.out.1;have hE:∀ (o:Oper) (os:List Oper) (s:St),(quiet cx f o=true/\(o.guard≠none∨∃ c a b,o.op=.pick c a b))->gZ cx call f lo ops (o :: os) s k=(oK cx call f ops o s).bind λx=>gZ cx call f lo ops os (s.put o.dst x) k:=by
      intro o os s ⟨h1,h2⟩;rw[gZ];unfold oK;cases hgd:o.guard with
      | none=>
       simp only
       rcases h2 with h2 | ⟨c,a,b,hp⟩
       ·exact absurd hgd h2
       ·unfold uW jm;rw[hp]
      | some x=>
       simp only
       cases hgs:cJ ops o with
       | none=>rfl
       | some p=>
        obtain ⟨t,w⟩:=p;simp only[h1,qaa]
     obtain ⟨pre,rest,fr,e1,e2,e3,e4⟩:=vu (E:=λos s=>gZ cx call f lo ops os s k) hE (λo c a b hp=>⟨by unfold quiet; rw[hp],.inr ⟨c,a,b,hp⟩⟩) (λo' ho'=>⟨hqq o' ho',.inl (hro o' ho').2⟩) (λg w h=>by cases h) (λhlk fin l hl=>by
      obtain ⟨dl,k1,k2,k3⟩:=kF (E:=λos s=>gZ cx call f lo ops os s k) hE (λo c a b hp=>⟨by unfold quiet; rw[hp],.inr ⟨c,a,b,hp⟩⟩) q (some (t,w)) fin _ [] s l hl (λo' ho'=>⟨hqq o' ho',.inl (hro o' ho').2⟩) (λg' w' hg'=>by
       cases hg'; exact⟨hlk,λo' ho'=>(hro o' ho').1⟩)
      exact⟨dl,k1,by simpa using k2,k3⟩) h
     have:=e4 rest;rw[<-e1] at this;have h3:=jV q rest _ e2;have h4:gZ cx call f lo ops (o :: os) s k=some r:=this.trans h3;rw[gZ,hgd] at h4;simp only[hgs] at h4;exact h4
    ·rw[bP] at h ⊢;split
     ·rename_i hq;rw[qaf hq] at h;obtain ⟨x,h1,h2⟩:=bN h;rw[h1]; exact ih _ h2
     ·rename_i hq;rw[qah hq] at h;unfold sm at h ⊢;split
      ·rename_i b hb;rw[hb] at h;cases b<;>cases w<;>simp only[qaa,Z8] at h ⊢<;>first | exact ih _ h | exact xj (λs=>ih s) h
      ·rename_i y hy; rw[hy] at h; exact ih _ h
      ·rename_i h1 h2;split at h
       ·rename_i b hb; exact absurd hb (h1 b)
       ·rename_i y hy; exact absurd hy (h2 y)
       ·cases h
theorem qI {k k':St->Option R} (hk:∀ s,k s=some r->k' s=some r):∀ {os:List Oper} {s:St},kW cx call f ops os s k=some r->kW cx call f ops os s k'=some r
 | [],s,h=>hk _ h
 | o :: os,s,h=>by
  unfold kW at h ⊢;cases hgd:o.guard with
  | none=>
   simp only[hgd] at h ⊢;obtain ⟨x,h1,h2⟩:=bN h;rw[h1]; exact qI hk h2
  | some q=>
   simp only[hgd] at h ⊢;cases hgs:cJ ops o with
   | none=>rw[hgs] at h; cases h
   | some p=>
    simp only[hgs] at h ⊢;obtain ⟨x,h1,h2⟩:=bN h;rw[h1]; exact qI hk h2
theorem sK {k:St->Option R}:∀ (q:Nat) (os:List Oper) (s:St),sJ cx call f ops q os s k=some r->kW cx call f ops os s k=some r
 | 0,_,_,h=>by cases h
 | _+1,[],_,h=>h
 | q+1,o :: os,s,h=>by
  have ih:=λs=>sK (k:=k) q os s;unfold sJ at h;have hE:∀ (o:Oper) (os:List Oper) (s:St),True->kW cx call f ops (o :: os) s k=(oK cx call f ops o s).bind λx=>kW cx call f ops os (s.put o.dst x) k:=by
   intro o os s _;rw[kW];unfold oK;cases hgd:o.guard with
   | none=>rfl
   | some x=>
    simp only
    cases hgs:cJ ops o with
    | none=>rfl
    | some p=>rfl
  cases hgd:o.guard with
  | none=>
   simp only[hgd] at h;unfold kW;simp only[hgd]
   rw[ua] at h;obtain ⟨x,h1,h2⟩:=bN h;rw[h1]; exact ih _ h2
  | some x=>
   simp only[hgd] at h;cases hgs:cJ ops o with
   | none=>rw[hgs] at h; cases h
   | some p=>
    obtain ⟨t,w⟩:=p;simp only[hgs] at h;obtain ⟨_,h⟩:=bJ h;have hro:=(fM (ops:=ops) t w (o :: os) []).2.out.1;obtain ⟨pre,rest,fr,e1,e2,e3,e4⟩:=vu (E:=λos s=>kW cx call f ops os s k) hE (λ_ _ _ _ _=>trivial) (λ_ _=>trivial) (λg w h=>by cases h) (λhlk fin l hl=>by
     obtain ⟨dl,k1,k2,k3⟩:=kF (E:=λos s=>kW cx call f ops os s k) hE (λ_ _ _ _ _=>trivial) q (some (t,w)) fin _ [] s l hl (λ_ _=>trivial) (λg' w' hg'=>by
      cases hg'; exact⟨hlk,λo' ho'=>(hro o' ho').1⟩)
     exact⟨dl,k1,by simpa using k2,k3⟩) h
    have:=e4 rest;rw[<-e1] at this;exact this.trans (sK q rest _ e2)
end
end Go.Proofs.Ytebkhfhcipnfgaa
