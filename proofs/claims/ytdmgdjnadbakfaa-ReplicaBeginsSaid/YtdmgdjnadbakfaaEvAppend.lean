/-
 append and copy: as the model's.
-/
import Derived.Test.YtdmgdjnadbakfaaEvWrite2
namespace Go.Proofs.Ytdmgdjnadbakfaa
open Go.RowKit
variable {P:Program} {H:Heap} {g:Gh} {w0 w:World}
theorem notInt_run {t:TypeId} (h:notInt P t=true):P.underlying t=some .string∨∃ e,P.underlying t=some (.slice e):=by
 unfold notInt at h
 split at h
 ·rename_i e hu; exact .inr ⟨e,hu⟩
 ·rename_i hu; exact .inl hu
 ·cases h
theorem isIntT_run {t:TypeId} (h:isIntT P t=true):∃ k,P.underlying t=some (.int k):=by
 unfold isIntT at h
 split at h
 ·rename_i k hu; exact⟨k,hu⟩
 ·cases h
def Src (P:Program) (t2:TypeId) (i:TypeInfo) (c:Value) (m:Nat) (news:List Value) (w w2:World):Prop :=
 (notInt P t2=true/\(Builtin.lenOf c).run P w=.ok m w/\(Builtin.firstCells i.size m c).run P w2=.ok news.toArray w2)∨∃ z,isIntT P t2=true/\c=.int .i64 (m:Int)/\i.zero=some z/\m*i.bytes<=281474976710656/\m<=140737488355328/\i.size≠0/\news.toArray=Builtin.zeroCells z.cells m
set_option maxHeartbeats 800000 in
theorem run_append_room2 {t t2 ty e:TypeId} {i:TypeInfo} (ht:P.underlying t=some (.slice e)) (hi:P.info? e=some i) {a:Addr} {n cap m:Nat} {c:Value} {news:List Value} (h2:Src P t2 i c m news w w) (hroom:n+m<=cap):(Builtin.append_ #[t,t2] ty #[.slice (some a) n cap,c]).run P w=((storeCells (a.add (n*i.size)) news).run P w).andThen fun _ w'=>.ok (.slice (some a) (n+m) cap) w':=by
 rcases h2 with ⟨h2,hlen,hf⟩ | ⟨z,h2,rfl,hz,h3,h4,h6,h5⟩
 ·have hd:=notInt_run h2
  rcases hd with hd | ⟨e2,hd⟩<;>simp[Builtin.append_,run_underlying ht,run_underlying hd,sizeOf,typeInfo,hi,hlen,hf,hroom]
 ·obtain ⟨k,hd⟩:=isIntT_run h2
  have hw:IntKind.i64.wrap (m:Int)=(m:Int):=by simp only[IntKind.wrap,IntKind.bits,IntKind.signed]; simp; omega
  have hb:¬ (281474976710656<(m:Int)*(i.bytes:Int)):=by rw[<-Int.natCast_mul]; omega
  have hn0:¬ ((m:Int)<0):=by omega
  have e5:news=(Builtin.zeroCells z.cells m).toList:=by rw[<-h5]
  by_cases hm:m=0
  ·subst hm
   have:news=[]:=by rw[e5]; simp[Builtin.zeroCells]
   subst this
   have hroom':n<=cap:=by omega
   have hw0:IntKind.i64.wrap (0:Int)=(0:Int):=by decide
   simp[Builtin.append_,run_underlying ht,run_underlying hd,sizeOf,typeInfo,zeroValue,asInt,asIntOf,hi,hz,hroom',hw0]
  ·have hms:¬ (m*i.size=0):=Nat.mul_ne_zero hm h6
   simp[Builtin.append_,run_underlying ht,run_underlying hd,sizeOf,typeInfo,zeroValue,asInt,asIntOf,hi,hz,hroom,hw,hb,hn0,e5]
   intro h0; exact absurd h0 hms
set_option maxHeartbeats 800000 in
theorem run_append_room0 {t t2 ty e:TypeId} {i:TypeInfo} (ht:P.underlying t=some (.slice e)) (hi:P.info? e=some i) {n cap:Nat} {base:Option Addr} {c:Value} (h2:Src P t2 i c 0 [] w w) (hroom:n<=cap):(Builtin.append_ #[t,t2] ty #[.slice base n cap,c]).run P w=.ok (.slice base n cap) w:=by
 rcases h2 with ⟨h2,hlen,hf⟩ | ⟨z,h2,rfl,hz,h3,h4,h6,h5⟩
 ·have hd:=notInt_run h2
  rcases hd with hd | ⟨e2,hd⟩<;>cases base<;>simp[Builtin.append_,run_underlying ht,run_underlying hd,sizeOf,typeInfo,hi,hlen,hf,hroom,storeCells]
 ·obtain ⟨k,hd⟩:=isIntT_run h2
  have hw:IntKind.i64.wrap (0:Int)=(0:Int):=by decide
  cases base<;>simp[Builtin.append_,run_underlying ht,run_underlying hd,sizeOf,typeInfo,zeroValue,asInt,asIntOf,hi,hz,hroom,hw,storeCells]
set_option maxHeartbeats 800000 in
theorem run_append_grow2 {t t2 ty e:TypeId} {i:TypeInfo} {z:Value} (ht:P.underlying t=some (.slice e)) (hi:P.info? e=some i) (hz:i.zero=some z) {base:Option Addr} {n cap m:Nat} {c:Value} {news olds:List Value} (h2:Src P t2 i c m news w w.drew)
  (hfo:(Builtin.firstCells i.size n (.slice base n cap)).run P w.drew=.ok olds.toArray w.drew) (hg:cap<n+m) (h63:n+m<=9223372036854775807) (hfit:Builtin.nextslicecap (n+m) cap*i.bytes<=281474976710656) :
  (Builtin.append_ #[t,t2] ty #[.slice base n cap,c]).run P w=.ok (.slice (some ⟨w.heap.size,0,none⟩) (n+m) (grownCap w (n+m) cap e)) (w.drew.alloc (.cells (olds.toArray++news.toArray++Builtin.zeroCells z.cells (grownCap w (n+m) cap e - (n+m))) e)):=by
 have hn:¬ (n+m<=cap):=by omega
 have h63':¬ (9223372036854775807<((n:Int)+(m:Int))):=by omega
 have h48':¬ (281474976710656<Builtin.nextslicecap (n+m) cap*i.bytes):=by omega
 rcases h2 with ⟨h2,hlen,hf⟩ | ⟨z',h2,rfl,hz',h3,h4,h6,h5⟩
 ·have hd:=notInt_run h2
  rcases hd with hd | ⟨e2,hd⟩
  all_goals
   simp[Builtin.append_,run_underlying ht,run_underlying hd,sizeOf,typeInfo,zeroValue,hi,hz,hlen,hn,h63',h48',Question.forced,hf,hfo,newRow,grownCap]
   congr 2
   apply Array.ext'
   simp[List.append_assoc]
 ·obtain ⟨k,hd⟩:=isIntT_run h2
  rw[hz] at hz'; cases hz'
  have hw:IntKind.i64.wrap (m:Int)=(m:Int):=by simp only[IntKind.wrap,IntKind.bits,IntKind.signed]; simp; omega
  have hb:¬ (281474976710656<(m:Int)*(i.bytes:Int)):=by rw[<-Int.natCast_mul]; omega
  have hn0:¬ ((m:Int)<0):=by omega
  have e5:news=(Builtin.zeroCells z.cells m).toList:=by rw[<-h5]
  have hmax:IntKind.i64.max=9223372036854775807:=by decide
  have h63m:¬ (IntKind.i64.max<((n:Int)+(m:Int))):=by rw[hmax]; exact h63'
  by_cases hm:m=0
  ·subst hm
   have:news=[]:=by rw[e5]; simp[Builtin.zeroCells]
   subst this
   have hw0:IntKind.i64.wrap (0:Int)=(0:Int):=by decide
   have hn':¬ (n<=cap):=by omega
   have g63:¬ (9223372036854775807<(n:Int)):=by omega
   have g48:¬ (281474976710656<Builtin.nextslicecap n cap*i.bytes):=h48'
   simp[Builtin.append_,run_underlying ht,run_underlying hd,sizeOf,typeInfo,zeroValue,asInt,asIntOf,hi,hz,hw0,hn',g63,g48,hfo,Question.forced,newRow,grownCap]
  ·simp[Builtin.append_,run_underlying ht,run_underlying hd,sizeOf,typeInfo,zeroValue,asInt,asIntOf,hi,hz,hw,hb,hn0,e5,hn,h63',h63m,h48',Question.forced,hfo,newRow,grownCap]
   intro h0; exact absurd h0 (Nat.mul_ne_zero hm h6)
theorem take_flat_get {ds:List (List Value)} {m:Nat} {j:Nat} {v:Value} (h:(ds.take m).flatten[j]? = some v):ds.flatten[j]? = some v:=by
 have:ds.flatten=(ds.take m).flatten++(ds.drop m).flatten:=by rw[<-List.flatten_append,List.take_append_drop]
 rw[this,List.getElem?_append_left (List.getElem?_eq_some_iff.1 h).1]
 exact h
theorem src_run (hr:Rel H g w0 w) {y:A} {ys:List (List A)} {c:Value} {es:Nat} (h:els? H y=some ys) (hy:VR H g w y c) (hes:∀ cs∈ys,cs.length=es) :
  ∃ ds,VRss H g w ys ds/\(∀ d∈ds,d.length=es)/\∀ w',(∀ a,w'.cell? a=w.cell? a)->(Builtin.lenOf c).run P w'=.ok ys.length w'/\∀ m,m<=ys.length->(Builtin.firstCells es m c).run P w'=.ok (ds.take m).flatten.toArray w':=by
 have lens:∀ {ds:List (List Value)},VRss H g w ys ds->∀ d∈ds,d.length=es:=fun {ds} hv d hd=>by
  obtain ⟨i,hi,rfl⟩:=List.getElem_of_mem hd
  have hl:=hv.length
  obtain ⟨d',hd',hv'⟩:=hv.get (i:=i) (List.getElem?_eq_getElem (by omega))
  rw[List.getElem?_eq_getElem hi] at hd'
  cases hd'
  rw[hv'.length]
  exact hes _ (List.getElem_mem _)
 rcases els_slice hr h hy with ⟨s,rfl,rfl⟩ | ⟨a,cap,ds,es',rfl,h2,h3,h4,h5⟩
 ·simp only[els?,Option.some.injEq] at h
  have hv:VRss H g w ys (s.data.toList.map fun b=>[.int .u8 b.toNat]):=by
   rw[<-h]
   refine VRss_iff.2 ⟨by simp,fun i a d ha hd=>?_⟩
   simp only[List.getElem?_map,Option.map_eq_some_iff] at ha hd
   obtain ⟨b,hb,rfl⟩:=ha
   obtain ⟨b',hb',rfl⟩:=hd
   rw[hb] at hb'; cases hb'
   rw[VRs]; exact⟨_,[],rfl,by rw[VR],by rw[VRs]⟩
  have hn:ys.length=s.size:=by rw[<-h,List.length_map,Array.length_toList]; rfl
  refine⟨_,hv,lens hv,fun w' _=>⟨by rw[hn]; rfl,fun m hm=>?_⟩⟩
  have e:(Array.map (fun b:UInt8=>Value.int IntKind.u8 (b.toNat:Int)) (s.extract 0 m).data)=((s.data.toList.map fun b=>[Value.int .u8 (b.toNat:Int)]).take m).flatten.toArray:=by
   rw[<-List.map_take,flat_single]
   apply Array.ext'
   simp[ByteArray.data_extract,List.map_take]
  simp only[Builtin.firstCells]
  rw[e]
  rfl
 ·refine⟨ds,h4,lens h4,fun w' hw'=>⟨rfl,fun m hm=>?_⟩⟩
  have hl:=h4.length
  cases a with
  | none =>
   have:ys.length=0:=by
    by_cases hp:0<ys.length
    ·obtain ⟨k,off,e1,_⟩:=h5 hp; cases e1
    ·omega
   obtain rfl:m=0:=by omega
   simp[Builtin.firstCells]
  | some a =>
   refine run_firstCells_some (P:=P) w' es m a _ cap _ (take_flat_length (lens h4) (by omega)) fun j v hj=>?_
   rw[hw']
   by_cases hp:0<ys.length
   ·obtain ⟨k,off,e1,hc⟩:=h5 hp
    cases e1
    rw[Addr.add_mid]
    exact hc j v (take_flat_get hj)
   ·obtain rfl:m=0:=by omega
    simp at hj
theorem VRss.one {els:List (List A)} {ds:List (List Value)} (h:VRss H g w els ds) (hc:∀ cs∈els,∀ a∈cs,a.cell=true):∀ x∈ds.flatten,x.oneCell'=true:=fun x hx=>by
 obtain ⟨d,hd,hxd⟩:=List.mem_flatten.1 hx
 obtain ⟨i,hi,rfl⟩:=List.getElem_of_mem hd
 have hl:=h.length
 obtain ⟨d',hd',hv'⟩:=h.get (i:=i) (List.getElem?_eq_getElem (by omega))
 rw[List.getElem?_eq_getElem hi] at hd'
 cases hd'
 obtain ⟨j,hj,rfl⟩:=List.getElem_of_mem hxd
 have hl':=hv'.length
 obtain ⟨x',hx',hvx⟩:=hv'.get (i:=j) (List.getElem?_eq_getElem (by omega))
 rw[List.getElem?_eq_getElem hj] at hx'
 cases hx'
 exact cell_one (hc _ (List.getElem_mem _) _ (List.getElem_mem _)) hvx
def isCells:Obj->Bool
 | .cells ..=>true
 | _=>false
theorem Rel.grow (hr:Rel H g w0 w) {b es:Nat} {els new:List (List A)} (hB:H[b]? = some (.row false es els)) {w':World} {γ:List (List Value)} {ko:Option Nat} (hbelow:Below w0.heap.size w w')
  (hcell:∀ k o v,Stab H g k o->w.cell? ⟨k,o,none⟩=some v->w'.cell? ⟨k,o,none⟩=some v)
  (hobj:∀ k,k<w.heap.size->g.mu b≠some k->w'.heap[k]? = w.heap[k]?) (hkept:∀ (k:Nat) (o:Obj),w.heap[k]? = some o->isCells o=false->w'.heap[k]? = some o) (hsize:w.heap.size<=w'.heap.size)
  (hnew:VRss (H.set b (.row false es (els++new))) (g.put b ko (g.ga b++γ)) w' new γ∨VRss H g w new γ) (hγ:∀ d∈γ,d.length=es)
  (hko:(ko=g.mu b/\∀ k arr ty,g.mu b=some k->w.heap[k]? = some (.cells arr ty (0,0))->∃ arr',w'.heap[k]? = some (.cells arr' ty (0,0))/\arr.size<=arr'.size)∨(ko=some w.heap.size/\w.heap.size<w'.heap.size/\new≠[])) :
  Rel (H.set b (.row false es (els++new))) (g.put b ko (g.ga b++γ)) w0 w'/\Ext H g w (H.set b (.row false es (els++new))) (g.put b ko (g.ga b++γ)) w':=by
 have hlt:b<H.length:=(List.getElem?_eq_some_iff.1 hB).1
 have hlen:=(hr.blk b _ hB).len
 have hother:∀ c k,c≠b->g.mu c=some k->w'.heap[k]? = w.heap[k]?:=fun c k hc hk=>hobj k (hr.dom c k hk).2.2 fun h=>hc (hr.inj c b k hk h)
 have hkb:∀ k,ko=some k->g.mu b=some k∨k=w.heap.size:=fun k hk=>by
  rcases hko with ⟨h1,_⟩ | ⟨h1,_⟩
  ·exact .inl (h1 ▸ hk)
  ·rw[h1] at hk; cases hk; exact .inr rfl
 have he:Ext H g w (H.set b (.row false es (els++new))) (g.put b ko (g.ga b++γ)) w':=by
  refine⟨fun k o v hs hc=>⟨hcell k o v hs hc,hs.1,fun c hck=>?_⟩,fun c C hC=>?_,fun k x h=>hkept k _ h rfl,hsize,fun k arr cl hs hm=>⟨hkept k _ hm rfl,hs.1,fun c hck=>?_⟩,fun k hk hn=>hobj k hk (hn b),fun c k h=>?_⟩
  rotate_right 1
  ·by_cases e:c=b
   ·subst e
    rw[Gh.put_mu] at h
    rcases hkb k h with h1 | h1
    ·exact .inl ⟨c,h1⟩
    ·exact .inr (Nat.le_of_eq h1.symm)
   ·exact .inl ⟨c,by rwa [Gh.put_mu' _ _ _ e] at h⟩
  ·by_cases e:c=b
   ·subst e
    rw[Gh.put_mu] at hck
    refine⟨es,els++new,by rw[List.getElem?_set_self hlt],?_⟩
    rcases hkb k hck with h1 | rfl
    ·obtain ⟨es',els',h2,h3⟩:=hs.2 c h1
     rw[hB] at h2; cases h2
     have:=Nat.mul_le_mul_left es (show els.length<=(els++new).length by simp)
     omega
    ·exact absurd (World.block_lt_of_cell? w ⟨_,o,none⟩ hc) (by simp)
   ·rw[Gh.put_mu' _ _ _ e] at hck
    obtain ⟨es',els',h2,h3⟩:=hs.2 c hck
    exact⟨es',els',by rw[List.getElem?_set_ne (Ne.symm e)]; exact h2,h3⟩
  ·by_cases e:c=b
   ·subst e
    rw[hB] at hC; cases hC
    refine⟨.row false es (els++new),by rw[List.getElem?_set_self hlt],rfl,⟨γ,Gh.put_ga _ _ _ _⟩,hlen,by simp,fun hl=>?_⟩
    have hn0:new=[]:=by simpa using hl
    rcases hko with ⟨h1,h2⟩ | ⟨_,_,h3⟩
    ·exact⟨by rw[Gh.put_mu,h1],h2⟩
    ·exact absurd hn0 h3
   ·refine⟨C,by rw[List.getElem?_set_ne (Ne.symm e)]; exact hC,?_⟩
    cases C with
    | box _=>exact Gh.put_mu' _ _ _ e
    | row wr es' els'=>cases wr with
     | true=>exact⟨rfl,rfl,Gh.put_mu' _ _ _ e⟩
     | false=>exact⟨rfl,⟨[],by rw[Gh.put_ga' _ _ _ e]; simp⟩,(hr.blk c _ hC).len,Nat.le_refl _,fun _=>⟨Gh.put_mu' _ _ _ e,fun k arr ty hk ha=>⟨arr,(hother c k e hk).trans ha,Nat.le_refl _⟩⟩⟩
    | rng _=>exact⟨Gh.put_mu' _ _ _ e,rfl⟩
    | mp _ _ _=>exact Gh.put_mu' _ _ _ e
    | dead=>trivial
    | hole=>trivial
  ·by_cases e:c=b
   ·subst e
    rw[Gh.put_mu] at hck
    refine⟨es,els++new,by rw[List.getElem?_set_self hlt],?_⟩
    rcases hkb k hck with h1 | rfl
    ·obtain ⟨es',els',h2,h3⟩:=hs.2 c h1
     rw[hB] at h2; cases h2
     have:=Nat.mul_le_mul_left es (show els.length<=(els++new).length by simp)
     omega
    ·exact absurd (Array.getElem?_eq_some_iff.1 hm).1 (by simp)
   ·rw[Gh.put_mu' _ _ _ e] at hck
    obtain ⟨es',els',h2,h3⟩:=hs.2 c hck
    exact⟨es',els',by rw[List.getElem?_set_ne (Ne.symm e)]; exact h2,h3⟩
 have hsz:=hbelow.size
 refine⟨⟨hr.below.trans hbelow,fun c k hck=>?_,fun c d k h1 h2=>?_,hr.outE he,hr.ownE he,fun c C hC=>?_⟩,he⟩
 ·by_cases e:c=b
  ·subst e
   rw[Gh.put_mu] at hck
   rcases hko with ⟨h1,_⟩ | ⟨h1,h2,_⟩
   ·have:=hr.dom c k (h1 ▸ hck)
    exact⟨by simpa using this.1,this.2.1,by omega⟩
   ·rw[h1] at hck; cases hck
    exact⟨by simpa using hlt,hr.below.size,h2⟩
  ·rw[Gh.put_mu' _ _ _ e] at hck
   have:=hr.dom c k hck
   exact⟨by simpa using this.1,this.2.1,by omega⟩
 ·by_cases e:c=b
  ·by_cases e':d=b
   ·rw[e,e']
   ·subst e
    rw[Gh.put_mu] at h1
    rw[Gh.put_mu' _ _ _ e'] at h2
    rcases hkb k h1 with h | rfl
    ·exact hr.inj _ _ k h h2
    ·have:=(hr.dom d _ h2).2.2; omega
  ·by_cases e':d=b
   ·subst e'
    rw[Gh.put_mu] at h2
    rw[Gh.put_mu' _ _ _ e] at h1
    rcases hkb k h2 with h | rfl
    ·exact hr.inj _ _ k h1 h
    ·have:=(hr.dom c _ h1).2.2; omega
   ·rw[Gh.put_mu' _ _ _ e] at h1
    rw[Gh.put_mu' _ _ _ e'] at h2
    exact hr.inj c d k h1 h2
 ·by_cases e:c=b
  ·subst e
   rw[List.getElem?_set_self hlt] at hC; cases hC
   obtain ⟨h1,h2⟩:=hr.blk c _ hB
   refine⟨?_,?_⟩
   ·rw[Gh.put_ga]
    exact(VRss.ext he _ _ h1).append (hnew.elim id (fun h=>VRss.ext he _ _ h))
   ·rw[Gh.put_ga]
    intro d hd
    rcases List.mem_append.1 hd with hd | hd
    ·exact h2 d hd
    ·exact hγ d hd
  ·rw[List.getElem?_set_ne (Ne.symm e)] at hC
   have h:=hr.blk c C hC
   cases C with
   | box cs=>obtain ⟨k,arr,ty,h1,h2,h3⟩:=h; exact⟨k,arr,ty,(Gh.put_mu' _ _ _ e).trans h1,(hother c k e h1).trans h2,VRs.ext he _ _ h3⟩
   | row wr es' els'=>cases wr with
    | true =>
     obtain ⟨ds,h1,h2,h3⟩:=h
     exact⟨ds,VRss.ext he _ _ h1,h2,fun hp=>let ⟨k,arr,ty,e1,e2,e3⟩:=h3 hp; ⟨k,arr,ty,(Gh.put_mu' _ _ _ e).trans e1,(hother c k e e1).trans e2,e3⟩⟩
    | false =>
     obtain ⟨h1,h2⟩:=h
     refine⟨?_,?_⟩
     ·rw[Gh.put_ga' _ _ _ e]; exact VRss.ext he _ _ h1
     ·rw[Gh.put_ga' _ _ _ e]; exact h2
   | rng st=>obtain ⟨k,h1,h2⟩:=h; exact⟨k,(Gh.put_mu' _ _ _ e).trans h1,(hother c k e h1).trans h2⟩
   | mp _ _ _=>obtain ⟨k,arr,cl,h1,h2,h3,h4⟩:=h; exact⟨k,arr,cl,(Gh.put_mu' _ _ _ e).trans h1,(hother c k e h1).trans h2,h3,VRs.ext he _ _ h4⟩
   | dead=>exact(Gh.put_mu' _ _ _ e).trans h
   | hole=>exact(Gh.put_mu' _ _ _ e).trans h
theorem aAppend_sound (hr:Rel H g w0 w) {t t2 ty:TypeId} {wr:Bool} {x y z:A} {cx cy:Value} {H':Heap} {lo:Nat} (h:aAppend P t t2 wr x y H lo=some (z,H')) (hx:VR H g w x cx) (hy:VR H g w y cy):Step H g w0 w lo ((Builtin.append_ #[t,t2] ty #[cx,cy]).run P w) z H':=by
 unfold aAppend at h
 replace h:=bnd h
 obtain ⟨e,he,h⟩:=h
 have hu:=elemT_spec he
 replace h:=bnd h
 obtain ⟨es,hes,h⟩:=h
 replace h:=bnd h
 obtain ⟨by_,hby,h⟩:=h
 replace h:=bnd h
 obtain ⟨zz,hz,h⟩:=h
 replace h:=bnd h
 obtain ⟨ys,hys,h⟩:=h
 replace h:=cnone h
 obtain ⟨h0,h⟩:=h
 simp only[Bool.or_eq_false_iff,Bool.not_eq_false',beq_iff_eq,beq_eq_false_iff_ne] at h0
 obtain ⟨⟨⟨h0,hb0⟩,h1⟩,h3⟩:=h0
 obtain ⟨it,v,hi,hv,rfl⟩:=zeroT_spec hz
 obtain ⟨it',hi',hsz⟩:=under_of_size hes
 rw[hi] at hi'; cases hi'
 have hvs:v.cells.size=es:=by simpa using h1
 have hbv:it.bytes=by_:=by unfold bytesT at hby; rw[hi] at hby; simpa using hby
 have hys3:∀ cs∈ys,cs.length=es/\∀ a∈cs,a.cell=true:=fun cs hcs=>by
  have:=List.all_eq_true.1 h3 cs hcs
  simp only[Bool.and_eq_true,beq_iff_eq] at this
  exact⟨this.1,List.all_eq_true.1 this.2⟩
 obtain ⟨ds,hvd,hld,hsA,hsB⟩:∃ ds,VRss H g w ys ds/\(∀ d∈ds,d.length=es)/\Src P t2 it cy ys.length ds.flatten w w/\Src P t2 it cy ys.length ds.flatten w w.drew:=by
  unfold elsZ at hys
  rw[bcond] at hys
  split at hys
  ·rename_i hn
   obtain ⟨ds,hvd,hld,hsrc⟩:=src_run (P:=P) hr hys hy (fun cs hcs=>(hys3 cs hcs).1)
   obtain ⟨hlen,hfirst⟩:=hsrc w (fun _=>rfl)
   obtain ⟨_,hfirstd⟩:=hsrc w.drew (fun _=>by simp)
   have hdl:=hvd.length
   have hall:(ds.take ys.length).flatten=ds.flatten:=by rw[List.take_of_length_le (by omega)]
   have hf:=hfirst ys.length (Nat.le_refl _)
   have hfd:=hfirstd ys.length (Nat.le_refl _)
   rw[hall,<-hsz] at hf hfd
   exact⟨ds,hvd,hld,.inl ⟨hn,hlen,hf⟩,.inl ⟨hn,hlen,hfd⟩⟩
  ·split at hys
   ·rename_i n
    replace hys:=csome hys
    obtain ⟨hc,hys⟩:=hys
    simp only[Bool.and_eq_true,decide_eq_true_eq] at hc
    obtain ⟨⟨⟨c1,c2⟩,c3⟩,c4⟩:=hc
    cases hys
    rw[VR] at hy
    subst hy
    unfold limit at c3 c4
    have hz0:0<v.cells.size:=by omega
    have hb:n.toNat*it.bytes<=281474976710656:=by
     rw[hbv]
     have:((n.toNat*by_:Nat):Int)<=140737488355328:=by rw[Int.natCast_mul,Int.toNat_of_nonneg c2]; exact c3
     omega
    have hsrc:∀ w',Src P t2 it (.int .i64 n) (List.replicate n.toNat ((v.cells.toList.map ofC).map uncl)).length (List.replicate n.toNat v.cells.toList).flatten w w':=fun w'=>by
     rw[List.length_replicate]
     refine .inr ⟨v,c1,by rw[Int.toNat_of_nonneg c2],hv,hb,by omega,by omega,?_⟩
     rw[<-made_flat v.cells n.toNat hz0]
     rfl
    refine⟨List.replicate n.toNat v.cells.toList,VRss_iff.2 ⟨by simp,fun i a d ha hd=>?_⟩,fun d hd=>by rw[(List.mem_replicate.1 hd).2]; simpa using hvs,hsrc w,hsrc w.drew⟩
    rw[List.getElem?_replicate] at ha hd
    split at ha
    ·rename_i hlt; rw[if_pos hlt] at hd; cases ha; cases hd; exact uncls_VR (ofC_VRs _)
    ·cases ha
   ·cases hys
 have hdl:=hvd.length
 have hone:=hvd.one (fun cs hcs=>(hys3 cs hcs).2)
 have hfl:ds.flatten.length=ys.length*es:=by rw[flat_length hld,hdl]
 have small:∀ {n:Nat},(n+ys.length)*by_<=limit->n+ys.length<=9223372036854775807/\(n+ys.length)*it.bytes<=140737488355328:=fun {n} hl=>by
  unfold limit at hl
  refine⟨?_,by rw[hbv]; exact hl⟩
  have:(n+ys.length)*1<=(n+ys.length)*by_:=Nat.mul_le_mul_left _ (by omega)
  omega
 have zero:∀ {n cap:Nat} {base:Option Addr},cx=.slice base n cap->n<=cap->ys.length=0->(Builtin.append_ #[t,t2] ty #[cx,cy]).run P w=.ok cx w:=fun {n cap base} hc hle hy0=>by
  subst hc
  have hd0:ds=[]:=List.eq_nil_of_length_eq_zero (by omega)
  rw[hy0,hd0] at hsA
  exact run_append_room0 hu hi hsA hle
 have grows:∀ {n cap:Nat} {base:Option Addr} {olds:List Value},cx=.slice base n cap->cap<n+ys.length->(n+ys.length)*by_<=limit->olds.length=n*es->(Builtin.firstCells es n (.slice base n cap)).run P w.drew=.ok olds.toArray w.drew ->
   ∃ c2 arr,(Builtin.append_ #[t,t2] ty #[cx,cy]).run P w=.ok (.slice (some ⟨w.heap.size,0,none⟩) (n+ys.length) c2) (w.drew.alloc (.cells arr e))/\n+ys.length<=c2/\c2*es<=arr.size/\∀ (j:Nat) x,(olds++ds.flatten)[j]? = some x->arr[j]? = some x:=fun {n cap base olds} hc hlt hl hol hfo=>by
  subst hc
  obtain ⟨s1,s2⟩:=small hl
  have hrun:=run_append_grow2 (P:=P) (ty:=ty) hu hi hv hsB (by rw[hsz]; exact hfo) hlt s1 (growslice_fits hlt s2)
  refine⟨_,_,hrun,grownCap_ge w _ _ _,?_,fun j x hj=>?_⟩
  ·have:=grownCap_ge w (n+ys.length) cap e
   simp only[Array.size_append,List.size_toArray,size_zeroCells,hvs,hol,hfl]
   rw[<-Nat.add_mul,<-Nat.add_mul]
   exact Nat.mul_le_mul_right _ (by omega)
  ·have hlt:=(List.getElem?_eq_some_iff.1 hj).1
   rw[Array.getElem?_append_left (by simpa using hlt)]
   have:(olds.toArray++ds.flatten.toArray)[j]? = (olds++ds.flatten)[j]?:=by simp
   rw[this]; exact hj
 have hbd:∀ arr,Below w.heap.size w (w.drew.alloc (.cells arr e)):=fun arr=>((Below.refl _ w).drew).alloc (Nat.le_refl _) _
 have hnew:∀ arr,(w.drew.alloc (.cells arr e)).heap[w.heap.size]? = some (.cells arr e (0,0)):=fun arr=>heap_alloc_new w.drew _
 have fresh:∀ {n:Nat} {a:Option Addr} {xs:List (List A)} {xds:List (List Value)},cx=.slice a n n->xs.length=n->VRss H g w xs xds->(∀ d∈xds,d.length=es)->(0<n->∃ k off,a=some ⟨k,off,none⟩/\CellsAt H g w k off xds.flatten)->(n+ys.length)*by_<=limit ->
   Step H g w0 w lo ((Builtin.append_ #[t,t2] ty #[cx,cy]).run P w) (.sl H.length 0 (n+ys.length) false) (H++[.row false es (xs++ys)]):=fun {n a xs xds} hc hxl hxv hxd hcell hl=>by
  have hxdl:=hxv.length
  have hlens:∀ d∈xds++ds,d.length=es:=fun d hd=>(List.mem_append.1 hd).elim (hxd d) (hld d)
  have hall2:((xds++ds).drop 0).take (n+ys.length)=xds++ds:=by rw[List.drop_zero,List.take_of_length_le (by simp; omega)]
  have hblk:∀ {ko:Option Nat} {w':World},Ext H g w (H++[.row false es (xs++ys)]) (g.put H.length ko (xds++ds)) w'->BlkR (H++[.row false es (xs++ys)]) (g.put H.length ko (xds++ds)) w' H.length (.row false es (xs++ys)):=fun {ko w'} he' =>
   ⟨by rw[Gh.put_ga]; exact(VRss.ext he' _ _ hxv).append (VRss.ext he' _ _ hvd),by rw[Gh.put_ga]; exact hlens⟩
  by_cases hy0:ys.length=0
  ·have hyn:ys=[]:=List.eq_nil_of_length_eq_zero hy0
   have hdn:ds=[]:=List.eq_nil_of_length_eq_zero (by omega)
   obtain ⟨r1,r2⟩:=hr.push (Below.refl _ _) (.row false es (xs++ys)) none (xds++ds) (fun k hk=>by cases hk) (fun he'=>hblk he')
   refine⟨_,_,_,zero hc (Nat.le_refl _) hy0,r1,r2,?_,by simp,lo_push _ _ _,rfl⟩
   rw[VR,get_push,Gh.put_ga,hall2]
   refine⟨by simp; omega,a,n,by rw[hc,hy0]; rfl,by omega,fun h=>(by cases h),fun hp=>?_,fun _ _ _ h=>absurd h (by omega)⟩
   obtain ⟨k,off,e1,e2⟩:=hcell (by omega)
   exact⟨k,off,e1,by rw[hdn,List.append_nil] at r2 ⊢; exact e2.ext r2⟩
  ·have hfo:(Builtin.firstCells es n (.slice a n n)).run P w.drew=.ok xds.flatten.toArray w.drew:=by
    cases a with
    | none =>
     have hn0:n=0:=by
      by_cases hp:0<n
      ·obtain ⟨k,off,e1,_⟩:=hcell hp; cases e1
      ·omega
     have:xds=[]:=List.eq_nil_of_length_eq_zero (by omega)
     subst this
     subst hn0
     simp[Builtin.firstCells]
    | some a =>
     refine run_firstCells_some (P:=P) w.drew es n a n n _ (by rw[flat_length hxd,hxdl,hxl]) fun j x hj=>?_
     by_cases hp:0<n
     ·obtain ⟨k,off,e1,hcc⟩:=hcell hp
      cases e1
      rw[Addr.add_mid]; exact(hcc j x hj).1
     ·have:xds=[]:=List.eq_nil_of_length_eq_zero (by omega)
      subst this
      simp at hj
   obtain ⟨c2,arr,hrun,k1,k2,k3⟩:=grows (olds:=xds.flatten) hc (by omega) hl (by rw[flat_length hxd,hxdl,hxl]) hfo
   obtain ⟨r1,r2⟩:=hr.push (hbd arr) (.row false es (xs++ys)) (some w.heap.size) (xds++ds) (fun k hk=>by cases hk; exact⟨rfl,by simp⟩) (fun he'=>hblk he')
   refine⟨_,_,_,hrun,r1,r2,?_,by simp,lo_push _ _ _,rfl⟩
   rw[VR,get_push,Gh.put_ga,hall2]
   refine⟨by simp; omega,_,c2,rfl,k1,fun h=>(by cases h),fun _=>⟨w.heap.size,0,rfl,fun j x hj=>?_⟩,fun _ _ _ _=>⟨w.heap.size,arr,e,Gh.put_mu _ _ _ _,rfl,hnew arr,k2⟩⟩
   refine⟨by rw[Nat.zero_add,cell_of_row _ _ j arr e (0,0) (hnew arr)]; exact k3 j x (by rw[<-List.flatten_append]; exact hj),hr.out _ _ (Nat.le_refl _),fun b hb=>?_⟩
   have hbe:b=H.length:=by
    by_cases e':b=H.length
    ·exact e'
    ·rw[Gh.put_mu' _ _ _ e'] at hb; exact absurd (hr.dom b _ hb).2.2 (Nat.lt_irrefl _)
   subst hbe
   refine⟨es,xs++ys,get_push _ _,?_⟩
   have:=(List.getElem?_eq_some_iff.1 hj).1
   rw[flat_length hlens,Nat.mul_comm] at this
   simp only[List.length_append] at this ⊢
   rw[hxdl,hdl] at this
   omega
 split at h
 ·rename_i xs
  replace h:=cnone h
  obtain ⟨hl,h⟩:=h
  have hl:(xs.length+ys.length)*by_<=limit:=by simpa using hl
  rw[VR] at hx
  obtain ⟨a,cap,xds,xes,rfl,g1,g2,g3,g4,g5⟩:=hx
  have hcap:=g2 rfl
  subst hcap
  rw[bcond] at h
  split at h
  ·rename_i hemp
   simp only[Bool.and_eq_true] at hemp
   obtain ⟨hwr,hemp⟩:=hemp
   subst hwr
   have hx0:xs=[]:=by simpa using hemp
   subst hx0
   cases h
   by_cases hy0:ys.length=0
   ·have hyn:ys=[]:=List.eq_nil_of_length_eq_zero hy0
    subst hyn
    have hdn:ds=[]:=List.eq_nil_of_length_eq_zero (by simpa using hdl)
    subst hdn
    have hrun:=zero rfl (by simp) rfl
    obtain ⟨r1,r2⟩:=hr.push (Below.refl _ _) (.row true es []) none [] (fun k hk=>by cases hk) (fun _=>⟨[],by rw[VRss],by simp,by simp⟩)
    refine⟨_,_,_,hrun,r1,r2,?_,by simp,lo_push _ _ _,rfl⟩
    rw[VR,get_push]
    exact⟨by simp,a,0,rfl,Nat.le_refl _,fun _=>rfl,fun h=>absurd h (by simp)⟩
   ·obtain ⟨c2,arr,hrun,k1,k2,k3⟩:=grows (olds:=[]) rfl (by simp; omega) hl (by simp) (by
     cases a with
     | none=>simp[Builtin.firstCells]
     | some a=>exact run_firstCells_some (P:=P) w.drew es 0 a 0 _ [] (by simp) (fun j v hj=>by simp at hj))
    simp only[List.length_nil,Nat.zero_add,List.nil_append] at hrun k1 k3
    obtain ⟨r1,r2⟩:=hr.push (hbd arr) (.row true es ys) (some w.heap.size) [] (fun k hk=>by cases hk; exact⟨rfl,by simp⟩) (fun he'=>⟨ds,VRss.ext he' _ _ hvd,hld,fun _=>⟨w.heap.size,arr,e,Gh.put_mu _ _ _ _,hnew arr,k3⟩⟩)
    refine⟨_,_,_,hrun,r1,r2,?_,by simp,lo_push _ _ _,rfl⟩
    rw[VR,get_push]
    exact⟨by simp,_,c2,rfl,k1,fun h=>(by cases h),fun _=>⟨w.heap.size,Gh.put_mu _ _ _ _,by simp⟩⟩
  ·replace h:=csome h
   obtain ⟨hxa,h⟩:=h
   cases h
   have hxes:∀ cs∈xs,cs.length=es/\∀ a∈cs,a.cell=true:=fun cs hcs=>by
    have:=List.all_eq_true.1 hxa cs hcs
    simp only[Bool.and_eq_true,beq_iff_eq] at this
    exact⟨this.1,List.all_eq_true.1 this.2⟩
   refine fresh rfl rfl g5 (fun d hd=>?_) g4 hl
   have hxp:0<xs.length:=by have:=List.length_pos_of_mem hd; have:=g5.length; omega
   obtain rfl:xes=es:=g5.lens g3 (List.getElem?_eq_getElem hxp) (hxes _ (List.getElem_mem _)).1
   exact g3 d hd
 ·rename_i b o n cl
  split at h
  ·rename_i es' els hb
   replace h:=cnone h
   obtain ⟨hl,h⟩:=h
   simp only[Bool.or_eq_false_iff,Bool.not_eq_false',beq_iff_eq,decide_eq_true_eq] at hl
   obtain ⟨⟨hl,hee⟩,hon⟩:=hl
   subst hee
   rw[VR,hb] at hx
   obtain ⟨_,a,cap,rfl,g1,g2,g3,g4⟩:=hx
   obtain ⟨hga,hgl⟩:=hr.blk b _ hb
   have hgll:=hga.length
   have hsub:∀ d∈((g.ga b).drop o).take n,d.length=es':=fun d hd=>hgl d (List.mem_of_mem_drop (List.mem_of_mem_take hd))
   have hsl:(((g.ga b).drop o).take n).length=n:=by simp; omega
   have holdr:(Builtin.firstCells es' n (.slice a n cap)).run P w.drew=.ok (((g.ga b).drop o).take n).flatten.toArray w.drew:=by
    cases a with
    | none =>
     have hn0:n=0:=by
      by_cases hp:0<n
      ·obtain ⟨k,off,e1,_⟩:=g3 hp; cases e1
      ·omega
     subst hn0
     simp[Builtin.firstCells]
    | some a =>
     refine run_firstCells_some (P:=P) w.drew es' n a n cap _ (by rw[flat_length hsub,hsl]) fun j x hj=>?_
     by_cases hp:0<n
     ·obtain ⟨k,off,e1,hc⟩:=g3 hp
      cases e1
      rw[Addr.add_mid]; exact(hc j x hj).1
     ·obtain rfl:n=0:=by omega
      simp at hj
   rw[bcond] at h
   split at h
   ·rename_i hcl
    subst hcl
    cases h
    have hcap:=g2 rfl
    subst hcap
    exact fresh rfl (by simp; omega) ((hga.drop o).take cap) hsub g3 hl
   ·rename_i hcl
    have hcl:cl=false:=by simpa using hcl
    subst hcl
    replace h:=csome h
    obtain ⟨hcc,h⟩:=h
    simp only[Bool.and_eq_true,decide_eq_true_eq,beq_iff_eq] at hcc
    obtain ⟨⟨hlo,ho0⟩,hnl⟩:=hcc
    subst ho0
    cases h
    have hlt:b<H.length:=(List.getElem?_eq_some_iff.1 hb).1
    have hgall:(g.ga b).take n=g.ga b:=List.take_of_length_le (by omega)
    rw[List.drop_zero,hgall] at g3 holdr hsub hsl
    have hsame:∀ (ko:Option Nat),(H.set b (.row false es' (els++ys)))[b]? = some (.row false es' (els++ys)):=fun _=>List.getElem?_set_self hlt
    have htake:(((g.ga b++ds).drop 0).take (n+ys.length))=g.ga b++ds:=by rw[List.drop_zero,List.take_of_length_le (by simp; omega)]
    by_cases hroom:n+ys.length<=cap
    ·by_cases hy0:ys.length=0
     ·
      have hyn:ys=[]:=List.eq_nil_of_length_eq_zero hy0
      subst hyn
      have hdn:ds=[]:=List.eq_nil_of_length_eq_zero (by simpa using hdl)
      subst hdn
      obtain ⟨r1,r2⟩:=hr.grow (new:=[]) (γ:=[]) (ko:=g.mu b) hb (Below.refl _ _) (fun _ _ _ _ h=>h) (fun _ _ _=>rfl) (fun _ _ h _=>h) (Nat.le_refl _) (.inr (by rw[VRss])) (by simp) (.inl ⟨rfl,fun k arr ty _ ha=>⟨arr,ha,Nat.le_refl _⟩⟩)
      refine⟨_,_,_,zero rfl g1 rfl,r1,r2,?_,by simp,lo_set _ _ hlo,rfl⟩
      refine VR.ext r2 _ _ ?_
      rw[VR,hb]
      refine⟨by simp; omega,a,cap,by simp,by simpa using g1,fun h=>(by cases h),fun hp=>?_,fun _ _ _ hlt=>g4 rfl rfl hnl (by simpa using hlt)⟩
      obtain ⟨k,off,e1,e2⟩:=g3 (by simpa using hp)
      exact⟨k,off,e1,by simpa [hgall] using e2⟩
     ·
      obtain ⟨k,arr,ty',m1,m2,m3,m4⟩:=g4 rfl rfl hnl (by omega)
      subst m2
      have hmul:(n+ys.length)*es'<=cap*es':=Nat.mul_le_mul_right _ hroom
      have hmul2:(n+ys.length)*es'=n*es'+ys.length*es':=Nat.add_mul _ _ _
      have hst:=run_storeCells_at P k (n*es') ty' ds.flatten 0 arr w m3 (by simp[hfl]; omega) hone
      have hrun:=run_append_room2 (P:=P) (ty:=ty) (a:=⟨k,0,none⟩) hu hi hsA hroom
      rw[Addr.add_mid,Nat.zero_add,hsz,hst] at hrun
      simp only[Result.andThen_ok,Nat.add_zero] at hrun
      obtain ⟨arr',harr'⟩:∃ arr':Array Value,arr'=(arr.toList.take (n*es')++ds.flatten++arr.toList.drop (n*es'+ds.flatten.length)).toArray:=⟨_,rfl⟩
      rw[<-harr'] at hrun
      have hsp:arr'.toList=splice arr.toList (n*es') ds.flatten:=by rw[harr']; rfl
      have hfit:n*es'+ds.flatten.length<=arr.toList.length:=by simp[hfl]; omega
      have hasz:arr'.size=arr.size:=by rw[<-Array.length_toList,hsp,splice_length _ _ _ hfit]; simp
      have hnk:(w.setRow k arr').heap[k]? = some (.cells arr' ty' (0,0)):=setRow_heap w k arr arr' ty' (0,0) m3
      have hok:∀ j,j≠k->(w.setRow k arr').heap[j]? = w.heap[j]?:=fun j hj=>setRow_other w k j arr' hj
      have hszw:(w.setRow k arr').heap.size=w.heap.size:=by simp[World.setRow]
      have hbw:Below w0.heap.size w (w.setRow k arr'):=⟨rfl,rfl,rfl,by rw[hszw]; exact Nat.le_refl _,fun j hj=>hok j (by have:=(hr.dom b k m1).2.1; omega)⟩
      have harrg:∀ j,arr'[j]? = if n*es'<=j/\j<n*es'+ds.flatten.length then ds.flatten[j - n*es']? else arr[j]?:=fun j=>by
       rw[<-Array.getElem?_toList,hsp,splice_get _ _ _ _ hfit]; simp
      obtain ⟨r1,r2⟩:=hr.grow (new:=ys) (γ:=ds) (ko:=g.mu b) hb hbw (fun k' o v hs hc=>by
        by_cases e:k'=k
        ·subst e
         obtain ⟨es2,els2,q1,q2⟩:=hs.2 b m1
         rw[hb] at q1; cases q1
         rw[cell_of_row _ _ o arr ty' (0,0) m3] at hc
         rw[cell_of_row _ _ o arr' ty' (0,0) hnk,harrg,if_neg (by rw[hnl,Nat.mul_comm]; omega)]
         exact hc
        ·exact(World.cell?_of_block (a:=⟨k',o,none⟩) (hok k' e)).trans hc) (fun k' _ hn=>hok k' (fun e=>hn (e ▸ m1))) (fun k' o ho hd=>(hok k' (fun e=>by subst e; rw[m3] at ho; cases ho; cases hd)).trans ho) (by rw[hszw]; exact Nat.le_refl _) (.inr hvd) hld (.inl ⟨rfl,fun k' arr1 ty1 hk1 ha1=>by
        rw[m1] at hk1; cases hk1
        rw[m3] at ha1; cases ha1
        exact⟨arr',hnk,by omega⟩⟩)
      refine⟨_,_,_,hrun,r1,r2,?_,by simp,lo_set _ _ hlo,rfl⟩
      rw[VR,hsame none]
      refine⟨by simp; omega,_,cap,rfl,hroom,fun h=>(by cases h),fun _=>⟨k,0,rfl,?_⟩,fun _ _ _ _=>⟨k,arr',ty',by rw[Gh.put_mu,m1],rfl,hnk,by omega⟩⟩
      rw[Gh.put_ga,htake,List.flatten_append]
      intro j x hj
      have hgfl:(g.ga b).flatten.length=n*es':=by rw[flat_length hsub,hsl]
      refine⟨?_,?_⟩
      ·rw[Nat.zero_add,cell_of_row _ _ j arr' ty' (0,0) hnk,harrg]
       rw[List.getElem?_append,hgfl] at hj
       split at hj
       ·rename_i hj1
        rw[if_neg (by omega)]
        have hn0:0<n:=by
         rcases Nat.eq_zero_or_pos n with h | h
         ·rw[h] at hj1; simp at hj1
         ·exact h
        obtain ⟨k',off',e1,e2⟩:=g3 hn0
        cases e1
        have:=(e2 j x hj).1
        rw[Nat.zero_add,cell_of_row _ _ j arr ty' (0,0) m3] at this
        exact this
       ·rename_i hj1
        have:=(List.getElem?_eq_some_iff.1 hj).1
        rw[if_pos (by omega)]
        exact hj
      ·refine⟨by have h:=hr.own b k (0+j) m1; exact h,fun c hc=>?_⟩
       have hcb:c=b:=r1.inj c b k hc (by rw[Gh.put_mu,m1])
       subst hcb
       refine⟨es',els++ys,hsame none,?_⟩
       have:=(List.getElem?_eq_some_iff.1 hj).1
       rw[List.length_append,hgfl,hfl] at this
       simp only[List.length_append,Nat.mul_add]
       rw[Nat.mul_comm es' els.length,Nat.mul_comm es' ys.length,<-hnl]
       omega
    ·
     have hyp:ys≠[]:=fun e=>by subst e; simp at hroom; omega
     obtain ⟨c2,arr,hrun,k1,k2,k3⟩:=grows (olds:=(g.ga b).flatten) rfl (by omega) hl (by rw[flat_length hsub,hsl]) holdr
     obtain ⟨r1,r2⟩:=hr.grow (new:=ys) (γ:=ds) (ko:=some w.heap.size) hb ((hbd arr).mono hr.below.size) (fun k' o v _ hc=>((hbd arr).cell (p:=⟨k',o,none⟩) (World.block_lt_of_cell? w _ hc)).trans hc) (fun k' hk' _=>(hbd arr).block k' hk') (fun k' o ho _=>((hbd arr).block k' (Array.getElem?_eq_some_iff.1 ho).1).trans ho) (hbd arr).size (.inr hvd) hld (.inr ⟨rfl,by simp,hyp⟩)
     refine⟨_,_,_,hrun,r1,r2,?_,by simp,lo_set _ _ hlo,rfl⟩
     rw[VR,hsame none]
     refine⟨by simp; omega,_,c2,rfl,k1,fun h=>(by cases h),fun _=>⟨w.heap.size,0,rfl,?_⟩,fun _ _ _ _=>⟨w.heap.size,arr,e,Gh.put_mu _ _ _ _,rfl,hnew arr,k2⟩⟩
     rw[Gh.put_ga,htake,List.flatten_append]
     intro j x hj
     refine⟨by rw[Nat.zero_add,cell_of_row _ _ j arr e (0,0) (hnew arr)]; exact k3 j x hj,hr.out _ _ (Nat.le_refl _),fun c hc=>?_⟩
     have hcb:c=b:=r1.inj c b _ hc (by rw[Gh.put_mu])
     subst hcb
     refine⟨es',els++ys,hsame none,?_⟩
     have:=(List.getElem?_eq_some_iff.1 hj).1
     rw[List.length_append,flat_length hsub,hsl,hfl] at this
     simp only[List.length_append,Nat.mul_add]
     rw[Nat.mul_comm es' els.length,Nat.mul_comm es' ys.length,<-hnl]
     omega
  ·cases h
 ·cases h
theorem run_copy {t t2 ty e:TypeId} {es m n cap:Nat} {a:Option Addr} {c:Value} {news:List Value} (hu:P.underlying t=some (.slice e)) (hes:sizeT P e=some es) (hlen:(Builtin.lenOf c).run P w=.ok m w) (hf:(Builtin.firstCells es (min m n) c).run P w=.ok news.toArray w) :
  (Builtin.copy_ #[t,t2] ty #[.slice a n cap,c]).run P w=match a with | none=>.ok (.int .i64 (min m n:Nat)) w | some a=>((storeCells a news).run P w).andThen fun _ w'=>.ok (.int .i64 (min m n:Nat)) w':=by
 have hs:=sizeOf_run hes w
 have hf':(Builtin.firstCells es (Nat.min m n) c).run P w=.ok news.toArray w:=hf
 cases a with
 | none=>simp[Builtin.copy_,run_underlying hu,hlen,hs,hf',goInt]
 | some a=>simp[Builtin.copy_,run_underlying hu,hlen,hs,hf',goInt]
theorem aCopy_sound (hr:Rel H g w0 w) {t t2 ty:TypeId} {x y z:A} {cx cy:Value} {H':Heap} {lo:Nat} (h:aCopy P t x y H lo=some (z,H')) (hx:VR H g w x cx) (hy:VR H g w y cy):Step H g w0 w lo ((Builtin.copy_ #[t,t2] ty #[cx,cy]).run P w) z H':=by
 unfold aCopy at h
 replace h:=bnd h
 obtain ⟨e,he,h⟩:=h
 have hu:=elemT_spec he
 replace h:=bnd h
 obtain ⟨es,hes,h⟩:=h
 replace h:=bnd h
 obtain ⟨ys,hys,h⟩:=h
 replace h:=cnone h
 obtain ⟨h0,h⟩:=h
 simp only[Bool.or_eq_false_iff,Bool.not_eq_false',beq_eq_false_iff_ne] at h0
 have hys3:∀ cs∈ys,cs.length=es/\∀ a∈cs,a.cell=true:=fun cs hcs=>by
  have:=List.all_eq_true.1 h0.2 cs hcs
  simp only[Bool.and_eq_true,beq_iff_eq] at this
  exact⟨this.1,List.all_eq_true.1 this.2⟩
 obtain ⟨ds,hvd,hld,hsrc⟩:=src_run (P:=P) hr hys hy (fun cs hcs=>(hys3 cs hcs).1)
 obtain ⟨hlen,hfirst⟩:=hsrc w (fun _=>rfl)
 have hdl:=hvd.length
 split at h
 ·rename_i b o n cl
  split at h
  ·rename_i es' els hb
   replace h:=csome h
   obtain ⟨hc,h⟩:=h
   simp only[Bool.and_eq_true,decide_eq_true_eq,beq_iff_eq] at hc
   obtain ⟨hlo,rfl⟩:=hc
   cases h
   rw[VR,hb] at hx
   obtain ⟨hon,a,cap,rfl,g1,g2,g3⟩:=hx
   have hlt:b<H.length:=(List.getElem?_eq_some_iff.1 hb).1
   have hf:=hfirst (min ys.length n) (Nat.min_le_left _ _)
   have hrun:=run_copy (P:=P) (t2:=t2) (ty:=ty) (a:=a) (cap:=cap) hu hes hlen hf
   have hxl:(ys.take n).length=min ys.length n:=by simp[Nat.min_comm]
   have htk:ds.take n=ds.take (min ys.length n):=by
    rw[<-hdl]
    rcases Nat.le_total ds.length n with h | h
    ·rw[Nat.min_eq_left h,List.take_of_length_le h,List.take_of_length_le (Nat.le_refl _)]
    ·rw[Nat.min_eq_right h]
   by_cases hm:min ys.length n=0
   ·have hyt:ys.take n=[]:=List.eq_nil_of_length_eq_zero (by omega)
    have hspl:splice els o (ys.take n)=els:=by rw[hyt]; simp[splice]
    have hset:H.set b (.row true es' (splice els o (ys.take n)))=H:=by
     rw[hspl]
     apply List.ext_getElem?
     intro c
     by_cases e:c=b
     ·subst e; rw[List.getElem?_set_self hlt,hb]
     ·rw[List.getElem?_set_ne (Ne.symm e)]
    rw[hset]
    have hrun':(Builtin.copy_ #[t,t2] ty #[.slice a n cap,cy]).run P w=.ok (.int .i64 (min ys.length n:Nat)) w:=by
     rw[hrun]
     cases a with
     | none=>rfl
     | some a =>
      rw[hm]
      simp[storeCells]
    exact⟨_,_,g,hrun',hr,Ext.below hr (Below.refl _ _),by rw[VR],Nat.le_refl _,fun _ _ _=>rfl,rfl⟩
   ·obtain ⟨k,hk,rfl⟩:=g3 (by omega)
    obtain ⟨rds,hv,hl,hrow⟩:=hr.blk b _ hb
    obtain ⟨k',arr,ty',hk',har,hcell⟩:=hrow (by omega)
    rw[hk] at hk'; cases hk'
    have hrl:=hv.length
    have hnl:(ds.take (min ys.length n)).flatten.length=min ys.length n*es':=take_flat_length hld (by omega)
    have hone:∀ x∈(ds.take (min ys.length n)).flatten,x.oneCell'=true:=fun x hx=>by
     obtain ⟨d,hd,hxd⟩:=List.mem_flatten.1 hx
     exact hvd.one (fun cs hcs=>(hys3 cs hcs).2) x (List.mem_flatten.2 ⟨d,List.mem_of_mem_take hd,hxd⟩)
    have hfl:=flat_length hl
    have hmul:(o+min ys.length n)*es'<=rds.length*es':=Nat.mul_le_mul_right _ (by omega)
    rw[Nat.add_mul] at hmul
    have hal:rds.flatten.length<=arr.size:=by
     by_cases hz:rds.flatten.length=0
     ·omega
     ·have:=hcell (rds.flatten.length - 1) _ (List.getElem?_eq_getElem (by omega))
      have:=(Array.getElem?_eq_some_iff.1 this).1
      omega
    have hst:=run_storeCells_at P k (o*es') ty' (ds.take (min ys.length n)).flatten 0 arr w har (by rw[hnl]; omega) hone
    simp only[Nat.add_zero] at hst
    simp only[hst,Result.andThen_ok] at hrun
    obtain ⟨arr',harr'⟩:∃ arr':Array Value,arr'=(arr.toList.take (o*es')++(ds.take (min ys.length n)).flatten++arr.toList.drop (o*es'+(ds.take (min ys.length n)).flatten.length)).toArray:=⟨_,rfl⟩
    rw[<-harr'] at hrun
    have hsp:arr'.toList=splice arr.toList (o*es') (ds.take (min ys.length n)).flatten:=by rw[harr']; rfl
    have hdtl:(ds.take n).length=min ys.length n:=by rw[htk]; simp; omega
    obtain ⟨r1,r2⟩:=hr.write hk har (arr':=arr') (B':=.row true es' (splice els o (ys.take n))) hb (.inr ⟨es',els,_,rfl,rfl,by rw[splice_length _ _ _ (by omega)]⟩) (fun he hnew=>by
     refine⟨splice rds o (ds.take n),?_,?_,fun _=>⟨k,arr',ty',hk,hnew,fun j x hj=>?_⟩⟩
     ·have h1:=VRss.ext he _ _ hv
      have h2:=VRss.ext he _ _ (hvd.take n)
      have h3:=h2.length
      unfold splice
      rw[h3]
      exact((h1.take o).append h2).append (h1.drop _)
     ·intro d hd
      unfold splice at hd
      rcases List.mem_append.1 hd with hd | hd
      ·rcases List.mem_append.1 hd with hd | hd
       ·exact hl d (List.mem_of_mem_take hd)
       ·exact hld d (List.mem_of_mem_take hd)
      ·exact hl d (List.mem_of_mem_drop hd)
     ·rw[flat_splice o hl (fun d hd=>hld d (List.mem_of_mem_take hd)) (by omega),htk,splice_get _ _ _ _ (by omega)] at hj
      rw[<-Array.getElem?_toList,hsp,splice_get _ _ _ _ (by have:=hnl; simp only[Array.length_toList] at *; omega)]
      split at hj
      ·rename_i hin; rw[if_pos hin]; exact hj
      ·rename_i hin; rw[if_neg hin]; simpa using hcell j x hj)
    exact⟨_,_,g,hrun,r1,r2,by rw[VR],by simp,lo_set _ _ hlo,rfl⟩
  ·cases h
 ·cases h
end Go.Proofs.Ytdmgdjnadbakfaa
