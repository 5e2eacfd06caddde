/-
 The interpreter's operations that write nothing, one by one.
-/
import Derived.Test.YtdmgdjnadbakfaaEvRead
import Derived.DeepKeys
import Derived.Laws.StructEq
namespace Go.Proofs.Ytdmgdjnadbakfaa
open Go.RowKit
variable {P:Program} {H:Heap} {g:Gh} {w0 w:World}
theorem bnd {α β:Type} {x:Option α} {f:α->Option β} {y:β} (h:x.bind f=some y):∃ a,x=some a/\f a=some y:=by
 cases x with
 | none=>cases h
 | some a=>exact⟨a,rfl,h⟩
theorem bcond {α:Type} {b:Bool} {x y:α}:(bif b then x else y)=if b=true then x else y:=by cases b<;>rfl
theorem cnone {α:Type} {b:Bool} {x:Option α} {y:α} (h:(bif b then none else x)=some y):b=false/\x=some y:=by cases b<;>simp_all
theorem csome {α:Type} {b:Bool} {x:Option α} {y:α} (h:(bif b then x else none)=some y):b=true/\x=some y:=by cases b<;>simp_all
theorem CellsAt.drop {k off:Nat} {ds:List Value} (h:CellsAt H g w k off ds) (n:Nat):CellsAt H g w k (off+n) (ds.drop n):=fun j v hj=>by
 rw[List.getElem?_drop] at hj
 rw[Nat.add_assoc]
 exact h (n+j) v hj
theorem CellsAt.take {k off:Nat} {ds:List Value} (h:CellsAt H g w k off ds) (n:Nat):CellsAt H g w k off (ds.take n):=fun j v hj=>by
 rw[List.getElem?_take] at hj
 split at hj
 ·exact h j v hj
 ·cases hj
theorem CellsAt.range {k off:Nat} {ds:List Value} (h:CellsAt H g w k off ds):w.rangeAt k off ds:=fun j v hj=>(h j v hj).1
theorem flat_get {es:Nat}:∀ {ds:List (List Value)},(∀ d∈ds,d.length=es)->∀ {j:Nat} {d:List Value},ds[j]? = some d->∀ i,i<es->ds.flatten[j*es+i]? = d[i]?
 | [],_,j,d,h,i,_=>by simp at h
 | x :: xs,hl,j,d,h,i,hi=>by
  have hx:=hl x (by simp)
  cases j with
  | zero=>simp at h; subst h; simp[List.getElem?_append,hx,hi]
  | succ j =>
   have:=flat_get (ds:=xs) (fun d hd=>hl d (by simp[hd])) (j:=j) (d:=d) (by simpa using h) i hi
   rw[List.flatten_cons,List.getElem?_append_right (by rw[hx,Nat.add_mul]; omega),hx,<-this]
   congr 1
   rw[Nat.add_mul]; omega
theorem flat_length {es:Nat}:∀ {ds:List (List Value)},(∀ d∈ds,d.length=es)->ds.flatten.length=ds.length*es
 | [],_=>by simp
 | x :: xs,hl=>by
  rw[List.flatten_cons,List.length_append,hl x (by simp),flat_length (fun d hd=>hl d (by simp[hd])),List.length_cons,Nat.add_mul]; omega
theorem CellsAt.elem {k off es:Nat} {ds:List (List Value)} (h:CellsAt H g w k off ds.flatten) (hl:∀ d∈ds,d.length=es) {j:Nat} {d:List Value} (hd:ds[j]? = some d):CellsAt H g w k (off+j*es) d:=fun i v hi=>by
 have hdl:d.length=es:=hl d (List.mem_of_getElem? hd)
 have hi':i<es:=by rw[<-hdl]; exact(List.getElem?_eq_some_iff.1 hi).1
 rw[Nat.add_assoc]
 exact h (j*es+i) v (by rw[flat_get hl hd i hi']; exact hi)
theorem CellsAt.sub {k off es:Nat} {ds:List (List Value)} (h:CellsAt H g w k off ds.flatten) (hl:∀ d∈ds,d.length=es) (l m:Nat):CellsAt H g w k (off+l*es) ((ds.drop l).take m).flatten:=fun i v hi=>by
 have hl2:∀ d∈(ds.drop l).take m,d.length=es:=fun d hd=>hl d (List.mem_of_mem_drop (List.mem_of_mem_take hd))
 have hlen:=(List.getElem?_eq_some_iff.1 hi).1
 rw[flat_length hl2] at hlen
 have hes:0<es:=by rcases Nat.eq_zero_or_pos es with h0 | h0; (rw[h0] at hlen; simp at hlen); exact h0
 have hq:i / es<((ds.drop l).take m).length:=Nat.div_lt_of_lt_mul (by rw[Nat.mul_comm]; exact hlen)
 have hdm:=Nat.div_add_mod i es
 have hr:=Nat.mod_lt i hes
 obtain ⟨d,hd⟩:∃ d,((ds.drop l).take m)[i / es]? = some d:=⟨_,List.getElem?_eq_getElem hq⟩
 have e1:=flat_get hl2 hd (i % es) hr
 have e2:i / es*es+i % es=i:=by rw[Nat.mul_comm]; exact hdm
 rw[e2,hi] at e1
 have hd2:ds[l+i / es]? = some d:=by
  rw[List.getElem?_take] at hd
  split at hd
  ·rwa [List.getElem?_drop] at hd
  ·cases hd
 have e3:=flat_get hl hd2 (i % es) hr
 have:=h ((l+i / es)*es+i % es) v (by rw[e3,<-e1])
 rwa [show off+((l+i / es)*es+i % es)=off+l*es+i by rw[Nat.add_mul]; omega] at this
theorem idx_VR {a:A} {c:Value} {j:Nat} (h:idx a=some j) (hv:VR H g w a c):∃ k n,c=.int k n/\0<=n/\n.toNat=j:=by
 unfold idx at h
 split at h
 ·rename_i k n
  replace h:=csome h
  obtain ⟨h1,h2⟩:=h
  rw[VR] at hv
  exact⟨k,n,hv,by simpa using h1,by simpa using h2⟩
 ·cases h
theorem aLoad_sound (hr:Rel H g w0 w) {t:TypeId} {x y:A} {c:Value} (h:aLoad P t x H=some y) (hx:VR H g w x c):∃ d,(Instr.loadAt t c).run P w=.ok d w/\VR H g w y d:=by
 unfold aLoad at h
 replace h:=bnd h
 obtain ⟨n,hn,h⟩:=h
 replace h:=cnone h
 obtain ⟨_,h⟩:=h
 obtain ⟨dd,hu⟩:=desc_of_size hn
 have fin:∀ {k off:Nat} {cs:List A} {ds:List Value},c=.pointer (some ⟨k,off,none⟩)->VRs H g w cs ds->cs.length=n->w.rangeAt k off ds->join P t cs=some y->∃ d,(Instr.loadAt t c).run P w=.ok d w/\VR H g w y d:=by
  intro k off cs ds hc hv hl hcells hj
  obtain ⟨d,h1,h2⟩:=join_VR hj hv
  refine⟨d,?_,h1⟩
  subst hc
  simp only[Instr.loadAt,Instr.sureAddr,Sem.run_bind,Sem.run_pure,Result.andThen_ok]
  exact loadVar_run hn hu (hv.length.trans hl) hcells h2
 have seg:∀ {k:Nat} {arr:Array Value} {ty:TypeId} (o:Nat) (ds:List Value),w.heap[k]? = some (.cells arr ty (0,0))->(∀ (j:Nat) v,ds[j]? = some v->arr[o+j]? = some v)->w.rangeAt k o ds:=fun {k arr ty} o ds hk hd j v hj=>by
  rw[cell_of_row w k (o+j) arr ty (0,0) hk]; exact hd j v hj
 split at h
 ·rename_i b o
  split at h
  ·rename_i cs hb
   replace h:=csome h
   obtain ⟨h1,h2⟩:=h
   have h1:=of_decide_eq_true h1
   rw[VR,hb] at hx
   obtain ⟨k,hk,rfl⟩:=hx
   obtain ⟨k',arr,ty,hk',ha,hv⟩:=hr.blk b _ hb
   rw[hk] at hk'; cases hk'
   refine fin rfl ((hv.drop o).take n) (by simp; omega) (seg o _ ha fun j v hj=>?_) h2
   rw[List.getElem?_take] at hj
   split at hj
   ·rw[List.getElem?_drop] at hj; simpa using hj
   ·cases hj
  ·cases h
 ·rename_i b i o
  split at h
  ·rename_i es els hb
   split at h
   ·rename_i cs hi
    rw[VR,hb] at hx
    obtain ⟨hlt,k,hk,rfl⟩:=hx
    obtain ⟨ds,hv,hl,hrow⟩:=hr.blk b _ hb
    obtain ⟨k',arr,ty,hk',ha,hcell⟩:=hrow (by omega)
    rw[hk] at hk'; cases hk'
    obtain ⟨d,hd,hvd⟩:=hv.get hi
    rw[bcond] at h
    split at h
    rotate_left
    ·replace h:=csome h
     obtain ⟨h1,h2⟩:=h
     simp only[Bool.and_eq_true,Nat.beq_eq] at h1
     obtain ⟨rfl,h1⟩:=h1
     have hcs:cs.length=es:=by rw[<-hvd.length]; exact hl d (List.mem_of_getElem? hd)
     refine fin rfl ((hv.drop i).take (n / cs.length)).flat h1 (seg _ _ ha fun j v hj=>?_) h2
     refine hcell _ v ?_
     have e1:ds.flatten=(ds.take i).flatten++(ds.drop i).flatten:=by rw[<-List.flatten_append,List.take_append_drop]
     have e2:(ds.take i).flatten.length=i*es:=by
      have h3:=hv.length
      rw[flat_length (es:=es) (fun d hd=>hl d (List.mem_of_mem_take hd)),List.length_take,Nat.min_eq_left (by omega)]
     have e3:(ds.drop i).flatten=((ds.drop i).take (n / cs.length)).flatten++((ds.drop i).drop (n / cs.length)).flatten:=by rw[<-List.flatten_append,List.take_append_drop]
     rw[e1,List.getElem?_append_right (by omega),e2,e3]
     rw[List.getElem?_append_left (by
      have:=(List.getElem?_eq_some_iff.1 hj).1
      omega)]
     rw[<-hj]; congr 1; omega
    rename_i h1
    have h2:=h
    have h1:=of_decide_eq_true h1
    refine fin rfl ((hvd.drop o).take n) (by simp; omega) (seg _ _ ha fun j v hj=>?_) h2
    rw[List.getElem?_take] at hj
    split at hj
    ·rw[List.getElem?_drop] at hj
     have hdl:d.length=es:=hl d (List.mem_of_getElem? hd)
     have hoj:o+j<es:=by rw[<-hdl]; exact(List.getElem?_eq_some_iff.1 hj).1
     have:=hcell (i*es+(o+j)) v (by rw[flat_get hl hd _ hoj]; exact hj)
     rwa [<-Nat.add_assoc] at this
    ·cases hj
   ·cases h
  ·cases h
 ·rename_i cs
  replace h:=csome h
  obtain ⟨h1,h2⟩:=h
  have h1:=of_decide_eq_true h1
  rw[VR] at hx
  obtain ⟨k,off,ds,rfl,hc,hv⟩:=hx
  exact fin rfl (hv.take n) (by simp; omega) (hc.take n).range h2
 ·cases h
theorem aExtract_sound {x y:A} {i:Nat} {c:Value} (h:aExtract x i=some y) (hx:VR H g w x c):∃ d,(Instr.extract c i).run P w=.ok d w/\VR H g w y d:=by
 unfold aExtract at h
 split at h
 ·rw[VR] at hx
  obtain ⟨ds,rfl,hv⟩:=hx
  obtain ⟨d,hd,hvd⟩:=hv.get h
  have hd':ds[i]? = some d:=by simpa using hd
  exact⟨d,by simp[Instr.extract,hd'],hvd⟩
 ·cases h
theorem part_run {t:TypeId} {n off:Nat} (hs:sizeT P t=some n) {ds:Array Value} {c:Value} (h:if isAggT P t=true then c=.agg ((ds.toList.drop off).take n).toArray else (ds.toList.drop off).take n=[c]) :
  (part t ds off).run P w=.ok c w:=by
 obtain ⟨d,hu⟩:=desc_of_size hs
 unfold part
 rw[Sem.run_bind,isAgg_run t hu w]
 cases hA:isAggT P t
 ·rw[hA] at h
  simp at h
  have:ds[off]? = some c:=by
   have h0:((ds.toList.drop off).take n)[0]? = some c:=by rw[h]; rfl
   rw[List.getElem?_take] at h0
   split at h0
   ·simpa using h0
   ·cases h0
  simp[this]
 ·rw[hA] at h
  simp at h
  subst h
  simp[sizeOf_run hs]
  apply Array.ext'
  simp[List.take_drop,Nat.add_comm]
theorem aField_sound {t:TypeId} {x y:A} {i:Nat} {c:Value} (h:aField P t x i=some y) (hx:VR H g w x c):∃ d,(Instr.field t c i).run P w=.ok d w/\VR H g w y d:=by
 unfold aField at h
 split at h
 ·rename_i fs cs hu
  replace h:=bnd h
  obtain ⟨f,hf,h⟩:=h
  replace h:=bnd h
  obtain ⟨n,hn,h⟩:=h
  replace h:=csome h
  obtain ⟨h1,h2⟩:=h
  have h1:=of_decide_eq_true h1
  rw[VR] at hx
  obtain ⟨ds,rfl,hv⟩:=hx
  obtain ⟨d,h3,h4⟩:=join_VR h2 ((hv.drop f.offset).take n)
  refine⟨d,?_,h3⟩
  unfold Instr.field
  rw[Sem.run_bind,run_underlying hu w]
  simp[hf,asAgg]
  exact part_run hn h4
 ·cases h
theorem aIndex_sound {t:TypeId} {x i y:A} {c e:Value} (h:aIndex P t x i=some y) (hx:VR H g w x c) (hi:VR H g w i e):∃ d,(Instr.index t c e).run P w=.ok d w/\VR H g w y d:=by
 unfold aIndex at h
 replace h:=bnd h
 obtain ⟨j,hj,h⟩:=h
 obtain ⟨ik,n,rfl,hn0,rfl⟩:=idx_VR hj hi
 split at h
 ·rename_i len el cs hu
  replace h:=bnd h
  obtain ⟨m,hm,h⟩:=h
  replace h:=csome h
  obtain ⟨h1,h2⟩:=h
  simp only[Bool.and_eq_true,decide_eq_true_eq] at h1
  rw[VR] at hx
  obtain ⟨ds,rfl,hv⟩:=hx
  obtain ⟨d,h3,h4⟩:=join_VR h2 ((hv.drop (n.toNat*m)).take m)
  refine⟨d,?_,h3⟩
  have hlt:n<(len:Int):=by omega
  unfold Instr.index
  simp[asIntOf,run_underlying hu,hn0,hlt,sizeOf_run hm]
  exact part_run hm h4
 ·rename_i s hu
  cases hb:s[n.toNat]? with
  | none=>rw[hb] at h; cases h
  | some b =>
   rw[hb] at h
   cases h
   rw[VR] at hx
   subst hx
   refine⟨.int .u8 b.toNat,?_,by rw[VR]⟩
   unfold Instr.index
   simp[asIntOf,run_underlying hu,hn0,hb]
 ·cases h
theorem refOK_ptr {b o:Nat} (h:refOK H (.ptr b o)=true):∃ cs,H[b]? = some (.box cs):=by
 unfold refOK at h; cases hb:H[b]? with
 | none=>simp[hb] at h
 | some B=>cases B<;>simp[hb] at h ⊢
theorem refOK_ep {b i o:Nat} (h:refOK H (.ep b i o)=true):∃ es els,H[b]? = some (.row true es els):=by
 unfold refOK at h; cases hb:H[b]? with
 | none=>simp[hb] at h
 | some B=>cases B with
  | row wr _ _=>cases wr<;>simp[hb] at h ⊢
  | _=>simp[hb] at h
theorem refOK_sl {b o n:Nat} {cl:Bool} (h:refOK H (.sl b o n cl)=true):∃ wr es els,H[b]? = some (.row wr es els):=by
 unfold refOK at h; cases hb:H[b]? with
 | none=>simp[hb] at h
 | some B=>cases B<;>simp[hb] at h ⊢
theorem aFieldAddr_sound {t:TypeId} {x y:A} {i:Nat} {c:Value} (h:aFieldAddr P t x i H=some y) (hx:VR H g w x c) :
  ∃ d,(Instr.fieldAt t c i).run P w=.ok d w/\VR H g w y d:=by
 unfold aFieldAddr at h
 replace h:=csome h
 obtain ⟨hok,h⟩:=h
 split at h
 ·rename_i fs hu
  replace h:=bnd h
  obtain ⟨f,hf,h⟩:=h
  replace h:=bnd h
  obtain ⟨n,hn,h⟩:=h
  replace h:=cnone h
  obtain ⟨hn0,h⟩:=h
  have hn0:n≠0:=by simpa using hn0
  have fin:∀ {k off:Nat},c=.pointer (some ⟨k,off,none⟩)->(Instr.fieldAt t c i).run P w=.ok (.pointer (some ⟨k,off+f.offset,none⟩)) w:=fun {k off} hc=>by
   subst hc
   unfold Instr.fieldAt
   rw[Sem.run_bind,run_underlying hu w]
   simp[hf,Instr.sureAddr,fieldPlace,sizeOf_run hn,hn0,Addr.add_mid]
  split at h
  ·rename_i b o
   cases h
   obtain ⟨cs,hb⟩:=refOK_ptr hok
   rw[VR,hb] at hx
   obtain ⟨k,hk,rfl⟩:=hx
   exact⟨_,fin rfl,by rw[VR,hb]; exact⟨k,hk,rfl⟩⟩
  ·rename_i b j o
   cases h
   obtain ⟨es,els,hb⟩:=refOK_ep hok
   rw[VR,hb] at hx
   obtain ⟨hlt,k,hk,rfl⟩:=hx
   exact⟨_,fin rfl,by rw[VR,hb]; exact⟨hlt,k,hk,by rw[Nat.add_assoc]⟩⟩
  ·cases h
   rw[VR] at hx
   obtain ⟨k,off,ds,rfl,hc,hv⟩:=hx
   exact⟨_,fin rfl,by rw[VR]; exact⟨k,_,_,rfl,hc.drop _,hv.drop _⟩⟩
  ·cases h
 ·cases h
theorem aLen_sound {x y:A} {c:Value} {t ty:TypeId} (h:aLen P t x H=some y) (hx:VR H g w x c):∃ d,(Builtin.len_ #[t] ty #[c]).run P w=.ok d w/\VR H g w y d:=by
 unfold aLen at h
 replace h:=csome h
 obtain ⟨hok,h⟩:=h
 split at h
 ·rename_i s hu
  cases h
  rw[VR] at hx
  subst hx
  exact⟨_,by simp[Builtin.len_,run_underlying hu,goInt]; rfl,by rw[VR]⟩
 ·rename_i e els cl hu
  cases h
  rw[VR] at hx
  obtain ⟨a,cap,ds,es,rfl,_⟩:=hx
  exact⟨_,by simp[Builtin.len_,run_underlying hu,goInt]; rfl,by rw[VR]⟩
 ·rename_i e b o n cl hu
  cases h
  obtain ⟨wr,es,els,hb⟩:=refOK_sl hok
  rw[VR,hb] at hx
  cases wr
  ·obtain ⟨_,a,cap,rfl,_⟩:=hx
   exact⟨_,by simp[Builtin.len_,run_underlying hu,goInt]; rfl,by rw[VR]⟩
  ·obtain ⟨_,a,cap,rfl,_⟩:=hx
   exact⟨_,by simp[Builtin.len_,run_underlying hu,goInt]; rfl,by rw[VR]⟩
 ·cases h
theorem VRss.lens {els:List (List A)} {ds:List (List Value)} (h:VRss H g w els ds) {es j n:Nat} (hl:∀ d∈ds,d.length=es) {cs:List A} (hj:els[j]? = some cs) (hn:cs.length=n):es=n:=by
 obtain ⟨d,hd,hv⟩:=h.get hj
 rw[<-hl d (List.mem_of_getElem? hd),hv.length,hn]
theorem aIndexAddr_sound (hr:Rel H g w0 w) {t:TypeId} {x i y:A} {c e:Value} (h:aIndexAddr P t x i H=some y) (hx:VR H g w x c) (hi:VR H g w i e):∃ d,(Instr.indexAt t c e).run P w=.ok d w/\VR H g w y d:=by
 unfold aIndexAddr at h
 replace h:=bnd h
 obtain ⟨j,hj,h⟩:=h
 obtain ⟨ik,n,rfl,hn0,rfl⟩:=idx_VR hj hi
 replace h:=csome h
 obtain ⟨hok,h⟩:=h
 split at h
 ·rename_i el hu
  replace h:=bnd h
  obtain ⟨m,hm,h⟩:=h
  have fin:∀ {k off len cap:Nat},c=.slice (some ⟨k,off,none⟩) len cap->n.toNat<len->(Instr.indexAt t c (.int ik n)).run P w=.ok (.pointer (some ⟨k,off+n.toNat*m,none⟩)) w:=fun {k off len cap} hc hlt=>by
   subst hc
   have:n<(len:Int):=by omega
   unfold Instr.indexAt
   simp[asIntOf,run_underlying hu,hn0,this,sizeOf_run hm,Addr.add_mid]
  split at h
  ·rename_i els cl
   replace h:=bnd h
   obtain ⟨cs,hcs,h⟩:=h
   replace h:=csome h
   obtain ⟨h1,h⟩:=h
   cases h
   have h1:cs.length=m:=by simpa using h1
   rw[VR] at hx
   obtain ⟨a,cap,ds,es,rfl,h2,h3,h4,h5,h6⟩:=hx
   have hlt:n.toNat<els.length:=(List.getElem?_eq_some_iff.1 hcs).1
   obtain ⟨k,off,rfl,hc⟩:=h5 (by omega)
   obtain rfl:=h6.lens h4 hcs h1
   obtain ⟨d,hd,hv⟩:=h6.get hcs
   exact⟨_,fin rfl hlt,by rw[VR]; exact⟨k,_,d,rfl,hc.elem h4 hd,hv⟩⟩
  ·rename_i b o len cl
   replace h:=csome h
   obtain ⟨hlt,h⟩:=h
   have hlt:=of_decide_eq_true hlt
   rw[VR] at hx
   split at h
   ·rename_i es els hb
    replace h:=csome h
    obtain ⟨h1,h⟩:=h
    cases h
    obtain rfl:es=m:=by simpa using h1
    rw[hb] at hx
    obtain ⟨h2,a,cap,rfl,h3,h4,h5⟩:=hx
    obtain ⟨k,hk,rfl⟩:=h5 (by omega)
    refine⟨_,fin rfl hlt,?_⟩
    rw[VR,hb]
    exact⟨by omega,k,hk,by rw[Nat.add_mul]; rfl⟩
   ·rename_i es els hb
    replace h:=csome h
    obtain ⟨h1,h⟩:=h
    obtain rfl:es=m:=by simpa using h1
    rw[hb] at hx
    obtain ⟨h2,a,cap,rfl,h3,h4,h5,_⟩:=hx
    obtain ⟨k,off,rfl,hc⟩:=h5 (by omega)
    cases hcs:els[o+n.toNat]? with
    | none=>rw[hcs] at h; cases h
    | some cs =>
     rw[hcs] at h
     cases h
     obtain ⟨hga,hgl⟩:=hr.blk b _ hb
     obtain ⟨d,hd,hv⟩:=hga.get hcs
     refine⟨_,fin rfl hlt,?_⟩
     rw[VR]
     refine⟨k,_,d,rfl,hc.elem (fun d hd=>hgl d (List.mem_of_mem_drop (List.mem_of_mem_take hd))) ?_,hv⟩
     rw[List.getElem?_take,if_pos hlt,List.getElem?_drop]; exact hd
   ·cases h
  ·cases h
 ·rename_i len el hu
  replace h:=bnd h
  obtain ⟨m,hm,h⟩:=h
  replace h:=cnone h
  obtain ⟨hlt,h⟩:=h
  have hlt:n.toNat<len:=by simpa using hlt
  have fin:∀ {k off:Nat},c=.pointer (some ⟨k,off,none⟩)->(Instr.indexAt t c (.int ik n)).run P w=.ok (.pointer (some ⟨k,off+n.toNat*m,none⟩)) w:=fun {k off} hc=>by
   subst hc
   have:n<(len:Int):=by omega
   unfold Instr.indexAt
   simp[asIntOf,run_underlying hu,hn0,this,sizeOf_run hm,Addr.add_mid,Instr.sureAddr]
  split at h
  ·rename_i b o
   cases h
   obtain ⟨cs,hb⟩:=refOK_ptr hok
   rw[VR,hb] at hx
   obtain ⟨k,hk,rfl⟩:=hx
   exact⟨_,fin rfl,by rw[VR,hb]; exact⟨k,hk,rfl⟩⟩
  ·rename_i b q o
   obtain ⟨es,els,hb⟩:=refOK_ep hok
   simp only[hb] at h
   rw[VR,hb] at hx
   obtain ⟨hq,k,hk,rfl⟩:=hx
   rw[bcond] at h
   split at h
   ·rename_i hc
    simp only[Bool.and_eq_true,Nat.beq_eq,decide_eq_true_eq] at hc
    obtain ⟨⟨rfl,rfl⟩,hlt2⟩:=hc
    cases h
    exact⟨_,fin rfl,by rw[VR,hb]; exact⟨hlt2,k,hk,by rw[Nat.add_mul]; simp⟩⟩
   ·cases h
    exact⟨_,fin rfl,by rw[VR,hb]; exact⟨hq,k,hk,by rw[Nat.add_assoc]⟩⟩
  ·cases h
   rw[VR] at hx
   obtain ⟨k,off,ds,rfl,hc,hv⟩:=hx
   exact⟨_,fin rfl,by rw[VR]; exact⟨k,_,_,rfl,hc.drop _,hv.drop _⟩⟩
  ·cases h
 ·cases h
theorem aIfc_sound {t:TypeId} {x y:A} {c:Value} (h:aIfc P t x=some y) (hx:VR H g w x c):∃ d,(Instr.makeInterface t c).run P w=.ok d w/\VR H g w y d:=by
 unfold aIfc at h
 split at h
 ·cases h
 ·cases h
 ·rename_i d hn hu
  cases h
  refine⟨.iface t c,?_,by rw[VR]; exact⟨c,rfl,hx⟩⟩
  unfold Instr.makeInterface
  rw[Sem.run_bind,run_underlying hu w]
  cases d<;>first | rfl | exact absurd rfl (hn _)
theorem eqGuard_rep (op:BinOp) (t:TypeId) (x y:Operand) (a b:Value):eqGuard op t x y a b=eqGuard op t (rep (isK x)) (rep (isK y)) a b:=by
 unfold eqGuard
 cases x<;>cases y<;>rfl
theorem eqFsV_run {q:TypeId->Value->Value->Option Bool} {d:Nat} (hq:∀ t x y r,q t x y=some r->∀ w,(Op.equalIn d t x y).run P w=.ok r w) (xs ys:Array Value):∀ (fs:List Field) (r:Bool),eqFsV P q xs ys fs=some r->∀ w,(Op.eqFields d xs ys fs).run P w=.ok r w
 | [],r,h,w=>by cases h; simp[Op.eqFields]
 | [f],r,h,w=>by
  unfold eqFsV at h
  rw[bcond] at h
  unfold Op.eqFields
  split at h
  ·rename_i hn
   cases h
   have hn:f.name = "_" := by simpa using hn
   simp[hn,Op.eqFields]
  ·rename_i hn
   have hn:f.name ≠ "_" := by simpa using hn
   obtain ⟨a,ha,h⟩:=bnd h
   obtain ⟨b,hb,h⟩:=bnd h
   rw[if_pos hn]
   simp only[Sem.run_bind,pureV_run ha w,pureV_run hb w,hq _ _ _ _ h w,Result.andThen_ok]
   cases r<;>simp[Op.eqFields]
 | f :: g :: fs,r,h,w=>by
  unfold eqFsV at h
  rw[bcond] at h
  unfold Op.eqFields
  split at h
  ·rename_i hn
   have hn:f.name = "_" := by simpa using hn
   rw[if_neg (by simp[hn])]
   exact eqFsV_run hq xs ys (g :: fs) r h w
  ·rename_i hn
   have hn:f.name ≠ "_" := by simpa using hn
   obtain ⟨a,ha,h⟩:=bnd h
   obtain ⟨b,hb,h⟩:=bnd h
   obtain ⟨r1,h1,h⟩:=bnd h
   rw[if_pos hn]
   simp only[Sem.run_bind,pureV_run ha w,pureV_run hb w,hq _ _ _ _ h1 w,Result.andThen_ok]
   cases hf:eqFsV P q xs ys (g :: fs) with
   | none=>rw[hf] at h; cases h
   | some r2 =>
    rw[hf] at h; cases h
    have:=eqFsV_run hq xs ys (g :: fs) r2 hf w
    cases r1<;>simp[this]
theorem eqIsV_run {q:TypeId->Value->Value->Option Bool} {d:Nat} (hq:∀ t x y r,q t x y=some r->∀ w,(Op.equalIn d t x y).run P w=.ok r w) (e:TypeId) (c:Nat) (xs ys:Array Value):∀ (is:List Nat) (r:Bool),eqIsV P q e c xs ys is=some r->∀ w,(Op.eqItems d e c xs ys is).run P w=.ok r w
 | [],r,h,w=>by cases h; simp[Op.eqItems]
 | [i],r,h,w=>by
  unfold eqIsV at h
  unfold Op.eqItems
  obtain ⟨a,ha,h⟩:=bnd h
  obtain ⟨b,hb,h⟩:=bnd h
  simp only[Sem.run_bind,pureV_run ha w,pureV_run hb w,hq _ _ _ _ h w,Result.andThen_ok]
  cases r<;>simp[Op.eqItems]
 | i :: j :: is,r,h,w=>by
  unfold eqIsV at h
  unfold Op.eqItems
  obtain ⟨a,ha,h⟩:=bnd h
  obtain ⟨b,hb,h⟩:=bnd h
  obtain ⟨r1,h1,h⟩:=bnd h
  simp only[Sem.run_bind,pureV_run ha w,pureV_run hb w,hq _ _ _ _ h1 w,Result.andThen_ok]
  cases hf:eqIsV P q e c xs ys (j :: is) with
  | none=>rw[hf] at h; cases h
  | some r2 =>
   rw[hf] at h; cases h
   have:=eqIsV_run hq e c xs ys (j :: is) r2 hf w
   cases r1<;>simp[this]
theorem eqV_run (D:Nat):∀ (d:Nat) (t:TypeId) (x y:Value) (r:Bool),eqV P d t x y=some r->∀ w,(Op.equalIn (D+d) t x y).run P w=.ok r w
 | 0,_,_,_,_,h,_=>by cases h
 | d+1,t,x,y,r,h,w=>by
  have ih:=eqV_run D d
  unfold eqV at h
  split at h
  ·rename_i k0 k a k' b hu
   obtain ⟨hk,h⟩:=csome h
   cases h
   have hk:k=k':=by simpa using hk
   subst hk
   simp[Op.equalIn,run_underlying hu]
  ·rename_i a b hu
   cases h
   simp[Op.equalIn,run_underlying hu]
  ·rename_i a b hu
   cases h
   simp[Op.equalIn,run_underlying hu]
  ·rename_i fs xs ys hu
   obtain ⟨hs,h⟩:=cnone h
   have hfs:P.fieldsOf t=fs:=by simp[Program.fieldsOf,hu]
   exact(run_equalIn_struct w (D+d) t xs ys (by rw[hfs]; exact hu) hs).trans (eqFsV_run ih xs ys _ r h w)
  ·rename_i n e xs ys hu
   obtain ⟨i,hi,h⟩:=bnd h
   exact(run_equalIn_array w (D+d) xs ys hu hi).trans (eqIsV_run ih e (P.cellsOf e) xs ys _ r h w)
  ·cases h
theorem aBin_sound {op:BinOp} {t:TypeId} {x y z:A} {c d:Value} {p q:Operand} (h:aBin P op t (isK p) (isK q) x y=some z) (hx:VR H g w x c) (hy:VR H g w y d) :
  ∃ e,(do eqGuard op t p q c d; binOp op t c d:Sem Value).run P w=.ok e w/\VR H g w z e:=by
 unfold aBin at h
 have eqs:∀ {r:Bool} {xs ys:List A} (op:BinOp),eqTop P t (.agg xs) (.agg ys)=some r->VR H g w (.agg xs) c->VR H g w (.agg ys) d->∃ cs ds,c=.agg cs/\d=.agg ds/\(eqGuard op t p q c d).run P w=.ok () w/\(Op.equalIn 10000 t c d).run P w=.ok r w:=by
  intro r xs ys op h hx hy
  unfold eqTop at h
  obtain ⟨hg,h⟩:=cnone h
  obtain ⟨a,ha,h⟩:=bnd h
  obtain ⟨b,hb,h⟩:=bnd h
  obtain rfl:=toV_VR _ ha hx
  obtain rfl:=toV_VR _ hb hy
  rw[VR] at hx hy
  obtain ⟨cs,rfl,_⟩:=hx
  obtain ⟨ds,rfl,_⟩:=hy
  exact⟨cs,ds,rfl,rfl,run_eqGuard_agg w op t p q cs ds hg,eqV_run 9980 20 t _ _ r h w⟩
 split at h
 ·cases hr:eqTop P t (.agg _) (.agg _) with
  | none=>rw[hr] at h; cases h
  | some r =>
   rw[hr] at h; cases h
   obtain ⟨cs,ds,rfl,rfl,h1,h2⟩:=eqs .eql hr hx hy
   exact⟨.bool r,by simp only[Sem.run_bind,h1,Result.andThen_ok,run_eql_struct,h2],by rw[VR]⟩
 ·cases hr:eqTop P t (.agg _) (.agg _) with
  | none=>rw[hr] at h; cases h
  | some r =>
   rw[hr] at h; cases h
   obtain ⟨cs,ds,rfl,rfl,h1,h2⟩:=eqs .neq hr hx hy
   exact⟨.bool (!r),by simp only[Sem.run_bind,h1,Result.andThen_ok,run_neq_struct,h2],by rw[VR]⟩
 replace h:=bnd h
 obtain ⟨a,ha,h⟩:=h
 replace h:=bnd h
 obtain ⟨b,hb,h⟩:=h
 obtain rfl:=toV_VR x ha hx
 obtain rfl:=toV_VR y hb hy
 rw[<-eqGuard_rep] at h
 cases he:pureV P (do eqGuard op t p q c d; binOp op t c d:Sem Value) with
 | none=>rw[he] at h; cases h
 | some e=>rw[he] at h; cases h; exact⟨e,pureV_run he w,ofV_VR e⟩
theorem aUn_sound {op:UnOp} {x z:A} {c:Value} (h:aUn P op x=some z) (hx:VR H g w x c):∃ e,(Op.unary op c).run P w=.ok e w/\VR H g w z e:=by
 unfold aUn at h
 replace h:=bnd h
 obtain ⟨a,ha,h⟩:=h
 obtain rfl:=toV_VR x ha hx
 cases he:pureV P (Op.unary op c) with
 | none=>rw[he] at h; cases h
 | some e=>rw[he] at h; cases h; exact⟨e,pureV_run he w,ofV_VR e⟩
theorem els_slice (hr:Rel H g w0 w) {x:A} {els:List (List A)} {c:Value} (h:els? H x=some els) (hx:VR H g w x c):(∃ s,c=.string s/\x=.v (.string s))∨∃ a cap ds es,c=.slice a els.length cap/\els.length<=cap/\(∀ d∈ds,d.length=es)/\VRss H g w els ds/\(0<els.length->∃ k off,a=some ⟨k,off,none⟩/\w.rangeAt k off ds.flatten):=by
 unfold els? at h
 split at h
 ·cases h
  rw[VR] at hx
  obtain ⟨a,cap,ds,es,rfl,h2,h3,h4,h5,h6⟩:=hx
  exact .inr ⟨a,cap,ds,es,rfl,h2,h4,h6,fun hp=>let ⟨k,off,e1,e2⟩:=h5 hp; ⟨k,off,e1,e2.range⟩⟩
 ·rename_i b o n cl
  split at h
  ·rename_i wr es els' hb
   cases h
   rw[VR,hb] at hx
   cases wr
   ·obtain ⟨h2,a,cap,rfl,h3,h4,h5,_⟩:=hx
    obtain ⟨hga,hgl⟩:=hr.blk b _ hb
    have hlen:((els'.drop o).take n).length=n:=by simp; omega
    refine .inr ⟨a,cap,((g.ga b).drop o).take n,es,by rw[hlen],by omega,fun d hd=>hgl d (List.mem_of_mem_drop (List.mem_of_mem_take hd)),(hga.drop o).take n,fun hp=>?_⟩
    obtain ⟨k,off,e1,e2⟩:=h5 (by omega)
    exact⟨k,off,e1,e2.range⟩
   ·obtain ⟨h2,a,cap,rfl,h3,h4,h5⟩:=hx
    obtain ⟨ds,hv,hl,hrow⟩:=hr.blk b _ hb
    have hlen:((els'.drop o).take n).length=n:=by simp; omega
    refine .inr ⟨a,cap,(ds.drop o).take n,es,by rw[hlen],by omega,fun d hd=>hl d (List.mem_of_mem_drop (List.mem_of_mem_take hd)),(hv.drop o).take n,fun hp=>?_⟩
    obtain ⟨k,hk,rfl⟩:=h5 (by omega)
    obtain ⟨k',arr,ty,hk',ha,hcell⟩:=hrow (by omega)
    rw[hk] at hk'; cases hk'
    have hall:w.rangeAt k 0 ds.flatten:=fun j v hj=>by
     rw[cell_of_row w k (0+j) arr ty (0,0) ha,Nat.zero_add]; exact hcell j v hj
    refine⟨k,_,rfl,fun j v hj=>?_⟩
    have hw:CellsAt [] ⟨fun _=>none,fun _=>[],fun _ _=>True,fun _=>loop0⟩ w k 0 ds.flatten:=fun j v hj=>⟨hall j v hj,trivial,fun b hb=>by cases hb⟩
    have:=(hw.sub hl o n j v hj).1
    rwa [Nat.zero_add] at this
  ·cases h
 ·exact .inl ⟨_,by rw[VR] at hx; exact hx,rfl⟩
 ·cases h
theorem bytes_VR:∀ {els:List (List A)} {l:List UInt8} {ds:List (List Value)},bytesOf els=some l->VRss H g w els ds->∃ ns:List Int,ds=ns.map (fun n=>[.int .u8 n])/\l=ns.map (fun n=>n.toNat.toUInt8)
 | [],_,_,h,hv=>by simp only[bytesOf,Option.some.injEq] at h; rw[VRss] at hv; exact⟨[],by simp[hv],by simp[<-h]⟩
 | e :: r,l,ds,h,hv=>by
  unfold bytesOf at h
  split at h
  ·rename_i heq; cases heq
  ·rename_i n r' heq
   cases heq
   cases hr:bytesOf r with
   | none=>rw[hr] at h; cases h
   | some l' =>
    rw[hr] at h
    cases h
    rw[VRss] at hv
    obtain ⟨d,ds',rfl,h1,h2⟩:=hv
    obtain ⟨ns,rfl,rfl⟩:=bytes_VR hr h2
    rw[VRs] at h1
    obtain ⟨x,xs,rfl,h3,h4⟩:=h1
    rw[VR] at h3
    rw[VRs] at h4
    exact⟨n :: ns,by simp[h3,h4],by simp⟩
  ·cases h
theorem foldl_push (ns:List Int):∀ r:ByteArray,ns.foldl (fun r n=>r.push (UInt8.ofNat n.toNat)) r=⟨r.data++(ns.map (fun n=>n.toNat.toUInt8)).toArray⟩:=by
 induction ns with
 | nil=>intro r; simp
 | cons n ns ih =>
  intro r
  rw[List.foldl_cons,ih]
  simp[ByteArray.push]
end Go.Proofs.Ytdmgdjnadbakfaa
