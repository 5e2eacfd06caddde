/-
 Blocks that are not there yet: holes in the heap, and what fills them.
-/
import Derived.Test.YtebkhfhcipnfgaaEvWrite2
import Derived.TacticsIn
import Derived.Lib.SliceRun
namespace Go.Proofs.Ytebkhfhcipnfgaa
set_option linter.unusedSimpArgs false
set_option linter.unusedVariables false
set_option linter.defProp false
theorem Sl {p:Prop} (h:p:=by simp only[bZ]; rw[VR]; trivial):p:=h
theorem Ss {p:Prop} (h:p:=by simp only[List.length_append,List.length_take,List.length_drop]; omega):p:=h
def SD:=@decide_eq_true
def Tj:=@List.take_of_length_le
def Tk:=@Nat.zero_le
def Tq:=@List.drop_zero
def TA:=@List.cons.injEq
def Uf:=@run_firstCells_some
def Uh:=@List.singleton_append
def UB:=@List.getElem?_set
def UC:=@Nat.mul_le_mul_left
def UT:=@List.map_take
def Vb:=@Array.getElem?_setIfInBounds_self_of_lt
def Ve:=@Nat.mul_add
def Vg:=@List.length_nil
def Vk:=@if_false
def Vn:=@List.getElem?_cons_succ
def Vo:=@World.putObj_heap_same
def Vs:=@Option.bind_none
def VA:=@World.alloc_heap_new
def VB:=@Array.toArray_toList
def VL:=@List.mem_filterMap
def VP:=@Array.size_append
def VY:=@List.mem_flatten
def VZ:=@Nat.le_total
def V0:=@List.map_nil
def V6:=@grownBy_putObj'
def Wf:=@growslice_fits
def Wg:=@Array.getElem?_modify
def Wk:=@Array.getElem_modify
section
open Go.RowKit
variable {P:Program} {H:ar} {g:Gh} {w0 w:World}
theorem n7 {t:TypeId} (h:jW P t=true):P.underlying t=some .string∨∃ e,P.underlying t=some (.slice e):=by
 unfold jW at h
 split at h
 ·rename_i e hu; exact .inr ⟨e,hu⟩
 ·rename_i hu; exact .inl hu
 ·cases h
theorem n5 {t:TypeId} (h:vq P t=true):∃ k,P.underlying t=some (.int k):=by
 unfold vq at h
 split at h
 ·rename_i k hu; exact⟨k,hu⟩
 ·cases h
def Src (P:Program) (t2:TypeId) (i:TypeInfo) (c:Value) (m:Nat) (news:List Value) (w w2:World):Prop:=
 (jW P t2=true/\(Builtin.lenOf c).run P w=.ok m w/\(Builtin.firstCells i.size m c).run P w2=.ok news.toArray w2)∨∃ z,vq P t2=true/\c=.int .i64 (m:Int)/\i.zero=some z/\m*i.bytes<=281474976710656/\m<=140737488355328/\i.size≠0/\news.toArray=Builtin.zeroCells z.cells m
set_option maxHeartbeats 800000 in
theorem kT {t t2 ty e:TypeId} {i:TypeInfo} (ht:P.underlying t=some (.slice e)) (hi:P.info? e=some i) {a:Addr} {n cap m:Nat} {c:Value} {news:List Value} (h2:Src P t2 i c m news w w) (hroom:n+m<=cap):(Builtin.append_ #[t,t2] ty #[.slice (some a) n cap,c]).run P w=((storeCells (a.add (n*i.size)) news).run P w).andThen fun _ w'=>.ok (.slice (some a) (n+m) cap) w':=by
 rcases h2 with ⟨h2,hlen,hf⟩ | ⟨z,h2,rfl,hz,h3,h4,h6,h5⟩
 ·have hd:=n7 h2
  rcases hd with hd | ⟨e2,hd⟩<;>simp[Builtin.append_,SN ht,SN hd,sizeOf,typeInfo,hi,hlen,hf,hroom]
 ·obtain ⟨k,hd⟩:=n5 h2
  have hw:IntKind.i64.wrap (m:Int)=(m:Int):=by simp only[IntKind.wrap,IntKind.bits,IntKind.signed]; simp; omega
  have hb:¬ (281474976710656<(m:Int)*(i.bytes:Int)):=by rw[<-UY]; omega
  have hn0:¬ ((m:Int)<0):=o3
  have e5:news=(Builtin.zeroCells z.cells m).toList:=by rw[<-h5]
  by_cases hm:m=0
  ·subst hm
   have:news=[]:=by rw[e5]; simp[Builtin.zeroCells]
   subst this
   have hroom':n<=cap:=o3
   have hw0:IntKind.i64.wrap (0:Int)=(0:Int):=by decide
   simp[Builtin.append_,SN ht,SN hd,sizeOf,typeInfo,zeroValue,asInt,asIntOf,hi,hz,hroom',hw0]
  ·have hms:¬ (m*i.size=0):=Nat.mul_ne_zero hm h6
   simp[Builtin.append_,SN ht,SN hd,sizeOf,typeInfo,zeroValue,asInt,asIntOf,hi,hz,hroom,hw,hb,hn0,e5]
   intro h0; exact absurd h0 hms
set_option maxHeartbeats 800000 in
theorem pS {t t2 ty e:TypeId} {i:TypeInfo} (ht:P.underlying t=some (.slice e)) (hi:P.info? e=some i) {n cap:Nat} {base:Option Addr} {c:Value} (h2:Src P t2 i c 0 [] w w) (hroom:n<=cap):(Builtin.append_ #[t,t2] ty #[.slice base n cap,c]).run P w=.ok (.slice base n cap) w:=by
 rcases h2 with ⟨h2,hlen,hf⟩ | ⟨z,h2,rfl,hz,h3,h4,h6,h5⟩
 ·have hd:=n7 h2
  rcases hd with hd | ⟨e2,hd⟩<;>cases base<;>simp[Builtin.append_,SN ht,SN hd,sizeOf,typeInfo,hi,hlen,hf,hroom,storeCells]
 ·obtain ⟨k,hd⟩:=n5 h2
  have hw:IntKind.i64.wrap (0:Int)=(0:Int):=by decide
  cases base<;>simp[Builtin.append_,SN ht,SN hd,sizeOf,typeInfo,zeroValue,asInt,asIntOf,hi,hz,hroom,hw,storeCells]
set_option maxHeartbeats 800000 in
theorem kS {t t2 ty e:TypeId} {i:TypeInfo} {z:Value} (ht:P.underlying t=some (.slice e)) (hi:P.info? e=some i) (hz:i.zero=some z) {base:Option Addr} {n cap m:Nat} {c:Value} {news olds:List Value} (h2:Src P t2 i c m news w w.drew)
  (hfo:(Builtin.firstCells i.size n (.slice base n cap)).run P w.drew=.ok olds.toArray w.drew) (hg:cap<n+m) (h63:n+m<=9223372036854775807) (hfit:Builtin.nextslicecap (n+m) cap*i.bytes<=281474976710656) :
  (Builtin.append_ #[t,t2] ty #[.slice base n cap,c]).run P w=.ok (.slice (some ⟨w.heap.size,0,none⟩) (n+m) (grownCap w (n+m) cap e)) (w.drew.alloc (.cells (olds.toArray++news.toArray++Builtin.zeroCells z.cells (grownCap w (n+m) cap e - (n+m))) e)):=by
 have hn:¬ (n+m<=cap):=o3
 have h63':¬ (9223372036854775807<((n:Int)+(m:Int))):=o3
 have h48':¬ (281474976710656<Builtin.nextslicecap (n+m) cap*i.bytes):=o3
 rcases h2 with ⟨h2,hlen,hf⟩ | ⟨z',h2,rfl,hz',h3,h4,h6,h5⟩
 ·have hd:=n7 h2
  rcases hd with hd | ⟨e2,hd⟩
  all_goals
   simp[Builtin.append_,SN ht,SN hd,sizeOf,typeInfo,zeroValue,hi,hz,hlen,hn,h63',h48',Question.forced,hf,hfo,newRow,grownCap]
   congr 2
   apply Uz
   simp[Tt]
 ·obtain ⟨k,hd⟩:=n5 h2
  rw[hz] at hz'; cases hz'
  have hw:IntKind.i64.wrap (m:Int)=(m:Int):=by simp only[IntKind.wrap,IntKind.bits,IntKind.signed]; simp; omega
  have hb:¬ (281474976710656<(m:Int)*(i.bytes:Int)):=by rw[<-UY]; omega
  have hn0:¬ ((m:Int)<0):=o3
  have e5:news=(Builtin.zeroCells z.cells m).toList:=by rw[<-h5]
  have hmax:IntKind.i64.max=9223372036854775807:=by decide
  have h63m:¬ (IntKind.i64.max<((n:Int)+(m:Int))):=by rw[hmax]; exact h63'
  by_cases hm:m=0
  ·subst hm
   have:news=[]:=by rw[e5]; simp[Builtin.zeroCells]
   subst this
   have hw0:IntKind.i64.wrap (0:Int)=(0:Int):=by decide
   have hn':¬ (n<=cap):=o3
   have g63:¬ (9223372036854775807<(n:Int)):=o3
   have g48:¬ (281474976710656<Builtin.nextslicecap n cap*i.bytes):=h48'
   simp[Builtin.append_,SN ht,SN hd,sizeOf,typeInfo,zeroValue,asInt,asIntOf,hi,hz,hw0,hn',g63,g48,hfo,Question.forced,newRow,grownCap]
  ·simp[Builtin.append_,SN ht,SN hd,sizeOf,typeInfo,zeroValue,asInt,asIntOf,hi,hz,hw,hb,hn0,e5,hn,h63',h63m,h48',Question.forced,hfo,newRow,grownCap]
   intro h0; exact absurd h0 (Nat.mul_ne_zero hm h6)
theorem ti {ds:List (List Value)} {m:Nat} {j:Nat} {v:Value} (h:(ds.take m).flatten[j]? = some v):ds.flatten[j]? = some v:=by
 have:ds.flatten=(ds.take m).flatten++(ds.drop m).flatten:=So
 rw[this,SP (SB.1 h).1]
 exact h
theorem Ag (hr:Rel H g w0 w) {y:A} {ys:List (List A)} {c:Value} {es:Nat} (h:els? H y=some ys) (hy:VR H g w y c) (hes:∀ cs∈ys,cs.length=es) :
  ∃ ds,bf H g w ys ds/\(∀ d∈ds,d.length=es)/\∀ w',(∀ a,w'.cell? a=w.cell? a)->(Builtin.lenOf c).run P w'=.ok ys.length w'/\∀ m,m<=ys.length->(Builtin.firstCells es m c).run P w'=.ok (ds.take m).flatten.toArray w':=by
 have lens:∀ {ds:List (List Value)},bf H g w ys ds->∀ d∈ds,d.length=es:=fun {ds} hv d hd=>by
  obtain ⟨i,hi,rfl⟩:=Tu hd
  have hl:=hv.length
  obtain ⟨d',hd',hv'⟩:=hv.get (i:=i) (Sx o3)
  rw[Sx hi] at hd'
  cases hd'
  rw[hv'.length]
  exact hes _ (Tb _)
 rcases tH hr h hy with ⟨s,rfl,rfl⟩ | ⟨a,cap,ds,es',rfl,h2,h3,h4,h5⟩
 ·simp only[els?,Ta] at h
  have hv:bf H g w ys (s.data.toList.map fun b=>[.int .u8 b.toNat]):=by
   rw[<-h]
   refine b9.2 ⟨r8,fun i a d ha hd=>?_⟩
   simp only[Td,Te] at ha hd
   obtain ⟨b,hb,rfl⟩:=ha
   obtain ⟨b',hb',rfl⟩:=hd
   rw[hb] at hb'; cases hb'
   rw[bl]; exact⟨_,[],rfl,s6,u3⟩
  have hn:ys.length=s.size:=by rw[<-h,Uq,UQ]; rfl
  refine⟨_,hv,lens hv,fun w' _=>⟨by rw[hn]; rfl,fun m hm=>?_⟩⟩
  have e:(Array.map (fun b:UInt8=>Value.int IntKind.u8 (b.toNat:Int)) (s.extract 0 m).data)=((s.data.toList.map fun b=>[Value.int .u8 (b.toNat:Int)]).take m).flatten.toArray:=by
   rw[<-UT,mD]
   apply Uz
   simp[ByteArray.data_extract,UT]
  simp only[Builtin.firstCells]
  rw[e]
  rfl
 ·refine⟨ds,h4,lens h4,fun w' hw'=>⟨rfl,fun m hm=>?_⟩⟩
  have hl:=h4.length
  cases a with
  | none=>
   have:ys.length=0:=by
    by_cases hp:0<ys.length
    ·obtain ⟨k,off,e1,_⟩:=h5 hp; cases e1
    ·omega
   obtain rfl:m=0:=o3
   simp[Builtin.firstCells]
  | some a=>
   refine Uf (P:=P) w' es m a _ cap _ (fL (lens h4) o3) fun j v hj=>?_
   rw[hw']
   by_cases hp:0<ys.length
   ·obtain ⟨k,off,e1,hc⟩:=h5 hp
    cases e1
    rw[TX]
    exact hc j v (ti hj)
   ·obtain rfl:m=0:=by omega
    simp at hj
theorem bf.one {els:List (List A)} {ds:List (List Value)} (h:bf H g w els ds) (hc:∀ cs∈els,∀ a∈cs,a.cell=true):∀ x∈ds.flatten,x.oneCell'=true:=fun x hx=>by
 obtain ⟨d,hd,hxd⟩:=VY.1 hx
 obtain ⟨i,hi,rfl⟩:=Tu hd
 have hl:=h.length
 obtain ⟨d',hd',hv'⟩:=h.get (i:=i) (Sx o3)
 rw[Sx hi] at hd'
 cases hd'
 obtain ⟨j,hj,rfl⟩:=Tu hxd
 have hl':=hv'.length
 obtain ⟨x',hx',hvx⟩:=hv'.get (i:=j) (Sx o3)
 rw[Sx hj] at hx'
 cases hx'
 exact q9 (hc _ (Tb _) _ (Tb _)) hvx
def isCells:Obj->Bool
 | .cells ..=>true
 | _=>false
theorem Rel.grow (hr:Rel H g w0 w) {b es:Nat} {els new:List (List A)} (hB:H[b]? = some (.row false es els)) {w':World} {γ:List (List Value)} {ko:Option Nat} (hbelow:Below w0.heap.size w w')
  (hcell:∀ k o v,dP H g k o->w.cell? ⟨k,o,none⟩=some v->w'.cell? ⟨k,o,none⟩=some v)
  (hobj:∀ k,k<w.heap.size->g.mu b≠some k->w'.heap[k]? = w.heap[k]?) (hkept:∀ (k:Nat) (o:Obj),w.heap[k]? = some o->isCells o=false->w'.heap[k]? = some o) (hsize:w.heap.size<=w'.heap.size)
  (hnew:bf (H.set b (.row false es (els++new))) (g.put b ko (g.ga b++γ)) w' new γ∨bf H g w new γ) (hγ:∀ d∈γ,d.length=es)
  (hko:(ko=g.mu b/\∀ k arr ty,g.mu b=some k->w.heap[k]? = some (.cells arr ty (0,0))->∃ arr',w'.heap[k]? = some (.cells arr' ty (0,0))/\arr.size<=arr'.size)∨(ko=some w.heap.size/\w.heap.size<w'.heap.size/\new≠[])) :
  Rel (H.set b (.row false es (els++new))) (g.put b ko (g.ga b++γ)) w0 w'/\Ext H g w (H.set b (.row false es (els++new))) (g.put b ko (g.ga b++γ)) w':=by
 have hlt:b<H.length:=(SB.1 hB).1
 have hlen:=(hr.blk b _ hB).len
 have hother:∀ c k,c≠b->g.mu c=some k->w'.heap[k]? = w.heap[k]?:=fun c k hc hk=>hobj k (hr.dom c k hk).2.2 fun h=>hc (hr.inj c b k hk h)
 have hkb:∀ k,ko=some k->g.mu b=some k∨k=w.heap.size:=fun k hk=>by
  rcases hko with ⟨h1,_⟩ | ⟨h1,_⟩
  ·exact .inl (h1 ▸ hk)
  ·rw[h1] at hk; cases hk; exact .inr rfl
 have he:Ext H g w (H.set b (.row false es (els++new))) (g.put b ko (g.ga b++γ)) w':=by
  refine⟨fun k o v hs hc=>⟨hcell k o v hs hc,hs.1,fun c hck=>?_⟩,fun c C hC=>?_,fun k x h=>hkept k _ h rfl,hsize,fun k arr cl hs hm=>⟨hkept k _ hm rfl,hs.1,fun c hck=>?_⟩,fun k hk hn=>hobj k hk (hn b),fun c k h=>?_⟩
  rotate_right 1
  ·by_cases e:c=b
   ·subst e
    rw[Gh.bq] at h
    rcases hkb k h with h1 | h1
    ·exact .inl ⟨c,h1⟩
    ·exact .inr (Vj h1.symm)
   ·exact .inl ⟨c,by rwa [Gh.ay _ _ _ e] at h⟩
  ·by_cases e:c=b
   ·subst e
    rw[Gh.bq] at hck
    refine⟨es,els++new,by rw[SY hlt],?_⟩
    rcases hkb k hck with h1 | rfl
    ·obtain ⟨es',els',h2,h3⟩:=hs.2 c h1
     rw[hB] at h2; cases h2
     have:=UC es (show els.length<=(els++new).length by simp)
     omega
    ·exact absurd (Uo w ⟨_,o,none⟩ hc) r8
   ·rw[Gh.ay _ _ _ e] at hck
    obtain ⟨es',els',h2,h3⟩:=hs.2 c hck
    exact⟨es',els',by rw[SO (TF e)]; exact h2,h3⟩
  ·by_cases e:c=b
   ·subst e
    rw[hB] at hC; cases hC
    refine⟨.row false es (els++new),by rw[SY hlt],rfl,⟨γ,Gh.fM _ _ _ _⟩,hlen,r8,fun hl=>?_⟩
    have hn0:new=[]:=by simpa using hl
    rcases hko with ⟨h1,h2⟩ | ⟨_,_,h3⟩
    ·exact⟨by rw[Gh.bq,h1],h2⟩
    ·exact absurd hn0 h3
   ·refine⟨C,by rw[SO (TF e)]; exact hC,?_⟩
    cases C with
    | box _=>exact Gh.ay _ _ _ e
    | row wr es' els'=>cases wr with
     | true=>exact⟨rfl,rfl,Gh.ay _ _ _ e,fun k arr ty hk ha=>⟨arr,(hother c k e hk).trans ha,Sy _⟩⟩
     | false=>exact⟨rfl,⟨[],by rw[Gh.dK _ _ _ e]; simp⟩,(hr.blk c _ hC).len,Sy _,fun _=>⟨Gh.ay _ _ _ e,fun k arr ty hk ha=>⟨arr,(hother c k e hk).trans ha,Sy _⟩⟩⟩
    | rng _=>exact⟨Gh.ay _ _ _ e,rfl⟩
    | mp _ _ _=>exact Gh.ay _ _ _ e
    | dead=>trivial
    | hole=>trivial
  ·by_cases e:c=b
   ·subst e
    rw[Gh.bq] at hck
    refine⟨es,els++new,by rw[SY hlt],?_⟩
    rcases hkb k hck with h1 | rfl
    ·obtain ⟨es',els',h2,h3⟩:=hs.2 c h1
     rw[hB] at h2; cases h2
     have:=UC es (show els.length<=(els++new).length by simp)
     omega
    ·exact absurd (SE.1 hm).1 r8
   ·rw[Gh.ay _ _ _ e] at hck
    obtain ⟨es',els',h2,h3⟩:=hs.2 c hck
    exact⟨es',els',by rw[SO (TF e)]; exact h2,h3⟩
 have hsz:=hbelow.size
 refine⟨⟨hr.below.trans hbelow,fun c k hck=>?_,fun c d k h1 h2=>?_,hr.xk he,hr.vD he,fun c C hC=>?_⟩,he⟩
 ·by_cases e:c=b
  ·subst e
   rw[Gh.bq] at hck
   rcases hko with ⟨h1,_⟩ | ⟨h1,h2,_⟩
   ·have:=hr.dom c k (h1 ▸ hck)
    exact⟨by simpa using this.1,this.2.1,o3⟩
   ·rw[h1] at hck; cases hck
    exact⟨by simpa using hlt,hr.below.size,h2⟩
  ·rw[Gh.ay _ _ _ e] at hck
   have:=hr.dom c k hck
   exact⟨by simpa using this.1,this.2.1,o3⟩
 ·by_cases e:c=b
  ·by_cases e':d=b
   ·rw[e,e']
   ·subst e
    rw[Gh.bq] at h1
    rw[Gh.ay _ _ _ e'] at h2
    rcases hkb k h1 with h | rfl
    ·exact hr.inj _ _ k h h2
    ·have:=(hr.dom d _ h2).2.2; omega
  ·by_cases e':d=b
   ·subst e'
    rw[Gh.bq] at h2
    rw[Gh.ay _ _ _ e] at h1
    rcases hkb k h2 with h | rfl
    ·exact hr.inj _ _ k h1 h
    ·have:=(hr.dom c _ h1).2.2; omega
   ·rw[Gh.ay _ _ _ e] at h1
    rw[Gh.ay _ _ _ e'] at h2
    exact hr.inj c d k h1 h2
 ·by_cases e:c=b
  ·subst e
   rw[SY hlt] at hC; cases hC
   obtain ⟨h1,h2⟩:=hr.blk c _ hB
   refine⟨?_,?_⟩
   ·rw[Gh.fM]
    exact(bf.ext he _ _ h1).append (hnew.elim id (fun h=>bf.ext he _ _ h))
   ·rw[Gh.fM]
    intro d hd
    rcases TP.1 hd with hd | hd
    ·exact h2 d hd
    ·exact hγ d hd
  ·rw[SO (TF e)] at hC
   have h:=hr.blk c C hC
   cases C with
   | box cs=>obtain ⟨k,arr,ty,h1,h2,h3⟩:=h; exact⟨k,arr,ty,(Gh.ay _ _ _ e).trans h1,(hother c k e h1).trans h2,bl.ext he _ _ h3⟩
   | row wr es' els'=>cases wr with
    | true=>
     obtain ⟨ds,h1,h2,h3⟩:=h
     exact⟨ds,bf.ext he _ _ h1,h2,fun hp=>let ⟨k,arr,ty,e1,e2,e3⟩:=h3 hp; ⟨k,arr,ty,(Gh.ay _ _ _ e).trans e1,(hother c k e e1).trans e2,e3⟩⟩
    | false=>
     obtain ⟨h1,h2⟩:=h
     refine⟨?_,?_⟩
     ·rw[Gh.dK _ _ _ e]; exact bf.ext he _ _ h1
     ·rw[Gh.dK _ _ _ e]; exact h2
   | rng st=>obtain ⟨k,h1,h2⟩:=h; exact⟨k,(Gh.ay _ _ _ e).trans h1,(hother c k e h1).trans h2⟩
   | mp _ _ _=>obtain ⟨k,arr,cl,h1,h2,h3,h4⟩:=h; exact⟨k,arr,cl,(Gh.ay _ _ _ e).trans h1,(hother c k e h1).trans h2,h3,bl.ext he _ _ h4⟩
   | dead=>exact(Gh.ay _ _ _ e).trans h
   | hole=>exact(Gh.ay _ _ _ e).trans h
theorem sR (hr:Rel H g w0 w) {t t2 ty:TypeId} {wr:Bool} {x y z:A} {cx cy:Value} {H':ar} {lo:Nat} (h:bG P t t2 wr x y H lo=some (z,H')) (hx:VR H g w x cx) (hy:VR H g w y cy):Step H g w0 w lo ((Builtin.append_ #[t,t2] ty #[cx,cy]).run P w) z H':=by
 unfold bG at h
 replace h:=bn h
 obtain ⟨e,he,h⟩:=h
 have hu:=jy he
 replace h:=bn h
 obtain ⟨es,hes,h⟩:=h
 replace h:=bn h
 obtain ⟨by_,hby,h⟩:=h
 replace h:=bn h
 obtain ⟨zz,hz,h⟩:=h
 replace h:=bn h
 obtain ⟨ys,hys,h⟩:=h
 replace h:=dN h
 obtain ⟨h0,h⟩:=h
 simp only[TE,Ui,Tw,UR] at h0
 obtain ⟨⟨⟨h0,hb0⟩,h1⟩,h3⟩:=h0
 obtain ⟨it,v,hi,hv,rfl⟩:=fC hz
 obtain ⟨it',hi',hsz⟩:=gb hes
 rw[hi] at hi'; cases hi'
 have hvs:v.cells.size=es:=by simpa using h1
 have hbv:it.bytes=by_:=by unfold jv at hby; rw[hi] at hby; simpa using hby
 have hys3:∀ cs∈ys,cs.length=es/\∀ a∈cs,a.cell=true:=fun cs hcs=>by
  have:=SJ.1 h3 cs hcs
  simp only[Sz,Tw] at this
  exact⟨this.1,SJ.1 this.2⟩
 obtain ⟨ds,hvd,hld,hsA,hsB⟩:∃ ds,bf H g w ys ds/\(∀ d∈ds,d.length=es)/\Src P t2 it cy ys.length ds.flatten w w/\Src P t2 it cy ys.length ds.flatten w w.drew:=by
  unfold yo at hys
  rw[bp] at hys
  split at hys
  ·rename_i hn
   obtain ⟨ds,hvd,hld,hsrc⟩:=Ag (P:=P) hr hys hy (fun cs hcs=>(hys3 cs hcs).1)
   obtain ⟨hlen,hfirst⟩:=hsrc w (fun _=>rfl)
   obtain ⟨_,hfirstd⟩:=hsrc w.drew (fun _=>r8)
   have hdl:=hvd.length
   have hall:(ds.take ys.length).flatten=ds.flatten:=by rw[Tj o3]
   have hf:=hfirst ys.length (Sy _)
   have hfd:=hfirstd ys.length (Sy _)
   rw[hall,<-hsz] at hf hfd
   exact⟨ds,hvd,hld,.inl ⟨hn,hlen,hf⟩,.inl ⟨hn,hlen,hfd⟩⟩
  ·split at hys
   ·rename_i n
    replace hys:=bc hys
    obtain ⟨hc,hys⟩:=hys
    simp only[Sz,SG] at hc
    obtain ⟨⟨⟨c1,c2⟩,c3⟩,c4⟩:=hc
    cases hys
    rw[VR] at hy
    subst hy
    unfold db at c3 c4
    have hz0:0<v.cells.size:=o3
    have hb:n.toNat*it.bytes<=281474976710656:=by
     rw[hbv]
     have:((n.toNat*by_:Nat):Int)<=140737488355328:=by rw[UY,Vf c2]; exact c3
     omega
    have hsrc:∀ w',Src P t2 it (.int .i64 n) (List.replicate n.toNat ((v.cells.toList.map xH).map vJ)).length (List.replicate n.toNat v.cells.toList).flatten w w':=fun w'=>by
     rw[List.length_replicate]
     refine .inr ⟨v,c1,by rw[Vf c2],hv,hb,o3,o3,?_⟩
     rw[<-m9 v.cells n.toNat hz0]
     rfl
    refine⟨List.replicate n.toNat v.cells.toList,b9.2 ⟨r8,fun i a d ha hd=>?_⟩,fun d hd=>by rw[(UX.1 hd).2]; simpa using hvs,hsrc w,hsrc w.drew⟩
    rw[Up] at ha hd
    split at ha
    ·rename_i hlt; rw[SH hlt] at hd; cases ha; cases hd; exact pq (ij _)
    ·cases ha
   ·cases hys
 have hdl:=hvd.length
 have hone:=hvd.one (fun cs hcs=>(hys3 cs hcs).2)
 have hfl:ds.flatten.length=ys.length*es:=by rw[bH hld,hdl]
 have small:∀ {n:Nat},(n+ys.length)*by_<=db->n+ys.length<=9223372036854775807/\(n+ys.length)*it.bytes<=140737488355328:=fun {n} hl=>by
  unfold db at hl
  refine⟨?_,by rw[hbv]; exact hl⟩
  have:(n+ys.length)*1<=(n+ys.length)*by_:=UC _ o3
  omega
 have zero:∀ {n cap:Nat} {base:Option Addr},cx=.slice base n cap->n<=cap->ys.length=0->(Builtin.append_ #[t,t2] ty #[cx,cy]).run P w=.ok cx w:=fun {n cap base} hc hle hy0=>by
  subst hc
  have hd0:ds=[]:=SV o3
  rw[hy0,hd0] at hsA
  exact pS hu hi hsA hle
 have grows:∀ {n cap:Nat} {base:Option Addr} {olds:List Value},cx=.slice base n cap->cap<n+ys.length->(n+ys.length)*by_<=db->olds.length=n*es->(Builtin.firstCells es n (.slice base n cap)).run P w.drew=.ok olds.toArray w.drew ->
   ∃ c2 arr,(Builtin.append_ #[t,t2] ty #[cx,cy]).run P w=.ok (.slice (some ⟨w.heap.size,0,none⟩) (n+ys.length) c2) (w.drew.alloc (.cells arr e))/\n+ys.length<=c2/\c2*es<=arr.size/\∀ (j:Nat) x,(olds++ds.flatten)[j]? = some x->arr[j]? = some x:=fun {n cap base olds} hc hlt hl hol hfo=>by
  subst hc
  obtain ⟨s1,s2⟩:=small hl
  have hrun:=kS (P:=P) (ty:=ty) hu hi hv hsB (by rw[hsz]; exact hfo) hlt s1 (Wf hlt s2)
  refine⟨_,_,hrun,VJ w _ _ _,?_,fun j x hj=>?_⟩
  ·have:=VJ w (n+ys.length) cap e
   simp only[VP,List.size_toArray,size_zeroCells,hvs,hol,hfl]
   rw[<-TB,<-TB]
   exact Um _ o3
  ·have hlt:=(SB.1 hj).1
   rw[Uc (by simpa using hlt)]
   have:(olds.toArray++ds.flatten.toArray)[j]? = (olds++ds.flatten)[j]?:=r8
   rw[this]; exact hj
 have hbd:∀ arr,Below w.heap.size w (w.drew.alloc (.cells arr e)):=fun arr=>((Below.refl _ w).drew).alloc (Sy _) _
 have hnew:∀ arr,(w.drew.alloc (.cells arr e)).heap[w.heap.size]? = some (.cells arr e (0,0)):=fun arr=>Ue w.drew _
 have fresh:∀ {n:Nat} {a:Option Addr} {xs:List (List A)} {xds:List (List Value)},cx=.slice a n n->xs.length=n->bf H g w xs xds->(∀ d∈xds,d.length=es)->(0<n->∃ k off,a=some ⟨k,off,none⟩/\bt H g w k off xds.flatten)->(n+ys.length)*by_<=db ->
   Step H g w0 w lo ((Builtin.append_ #[t,t2] ty #[cx,cy]).run P w) (.sl H.length 0 (n+ys.length) false) (H++[.row false es (xs++ys)]):=fun {n a xs xds} hc hxl hxv hxd hcell hl=>by
  have hxdl:=hxv.length
  have hlens:∀ d∈xds++ds,d.length=es:=fun d hd=>(TP.1 hd).elim (hxd d) (hld d)
  have hall2:((xds++ds).drop 0).take (n+ys.length)=xds++ds:=by rw[Tq,Tj r9]
  have hblk:∀ {ko:Option Nat} {w':World},Ext H g w (H++[.row false es (xs++ys)]) (g.put H.length ko (xds++ds)) w'->kX (H++[.row false es (xs++ys)]) (g.put H.length ko (xds++ds)) w' H.length (.row false es (xs++ys)):=fun {ko w'} he'=>
   ⟨by rw[Gh.fM]; exact(bf.ext he' _ _ hxv).append (bf.ext he' _ _ hvd),by rw[Gh.fM]; exact hlens⟩
  by_cases hy0:ys.length=0
  ·have hyn:ys=[]:=SV hy0
   have hdn:ds=[]:=SV o3
   obtain ⟨r1,r2⟩:=hr.push (Below.refl _ _) (.row false es (xs++ys)) none (xds++ds) (fun k hk=>by cases hk) (fun he'=>hblk he')
   refine⟨_,_,_,zero hc (Sy _) hy0,r1,r2,?_,r8,ic _ _ _,rfl⟩
   rw[VR,dG,Gh.fM,hall2]
   refine⟨r9,a,n,by rw[hc,hy0]; rfl,o3,fun h=>(by cases h),fun hp=>?_,fun _ _ _ h=>absurd h o3⟩
   obtain ⟨k,off,e1,e2⟩:=hcell o3
   exact⟨k,off,e1,by rw[hdn,TG] at r2 ⊢; exact e2.ext r2⟩
  ·have hfo:(Builtin.firstCells es n (.slice a n n)).run P w.drew=.ok xds.flatten.toArray w.drew:=by
    cases a with
    | none=>
     have hn0:n=0:=by
      by_cases hp:0<n
      ·obtain ⟨k,off,e1,_⟩:=hcell hp; cases e1
      ·omega
     have:xds=[]:=SV o3
     subst this
     subst hn0
     simp[Builtin.firstCells]
    | some a=>
     refine Uf (P:=P) w.drew es n a n n _ (by rw[bH hxd,hxdl,hxl]) fun j x hj=>?_
     by_cases hp:0<n
     ·obtain ⟨k,off,e1,hcc⟩:=hcell hp
      cases e1
      rw[TX]; exact(hcc j x hj).1
     ·have:xds=[]:=SV o3
      subst this
      simp at hj
   obtain ⟨c2,arr,hrun,k1,k2,k3⟩:=grows (olds:=xds.flatten) hc o3 hl (by rw[bH hxd,hxdl,hxl]) hfo
   obtain ⟨r1,r2⟩:=hr.push (hbd arr) (.row false es (xs++ys)) (some w.heap.size) (xds++ds) (fun k hk=>by cases hk; exact⟨rfl,r8⟩) (fun he'=>hblk he')
   refine⟨_,_,_,hrun,r1,r2,?_,r8,ic _ _ _,rfl⟩
   rw[VR,dG,Gh.fM,hall2]
   refine⟨r9,_,c2,rfl,k1,fun h=>(by cases h),fun _=>⟨w.heap.size,0,rfl,fun j x hj=>?_⟩,fun _ _ _ _=>⟨w.heap.size,arr,e,Gh.bq _ _ _ _,rfl,hnew arr,k2⟩⟩
   refine⟨by rw[Th,Ud _ _ j arr e (0,0) (hnew arr)]; exact k3 j x (by rw[<-Ur]; exact hj),hr.out _ _ (Sy _),fun b hb=>?_⟩
   have hbe:b=H.length:=by
    by_cases e':b=H.length
    ·exact e'
    ·rw[Gh.ay _ _ _ e'] at hb; exact absurd (hr.dom b _ hb).2.2 (UI _)
   subst hbe
   refine⟨es,xs++ys,dG _ _,?_⟩
   have:=(SB.1 hj).1
   rw[bH hlens,TU] at this
   simp only[SX] at this ⊢
   rw[hxdl,hdl] at this
   omega
 split at h
 ·rename_i xs
  replace h:=dN h
  obtain ⟨hl,h⟩:=h
  have hl:(xs.length+ys.length)*by_<=db:=by simpa using hl
  rw[VR] at hx
  obtain ⟨a,cap,xds,xes,rfl,g1,g2,g3,g4,g5⟩:=hx
  have hcap:=g2 rfl
  subst hcap
  rw[bp] at h
  split at h
  ·rename_i hemp
   simp only[Sz] at hemp
   obtain ⟨hwr,hemp⟩:=hemp
   subst hwr
   have hx0:xs=[]:=by simpa using hemp
   subst hx0
   cases h
   by_cases hy0:ys.length=0
   ·have hyn:ys=[]:=SV hy0
    subst hyn
    have hdn:ds=[]:=SV (by simpa using hdl)
    subst hdn
    have hrun:=zero rfl r8 rfl
    obtain ⟨r1,r2⟩:=hr.push (Below.refl _ _) (.row true es []) none [] (fun k hk=>by cases hk) (fun _=>⟨[],by rw[bf],r8,r8⟩)
    refine⟨_,_,_,hrun,r1,r2,?_,r8,ic _ _ _,rfl⟩
    rw[VR,dG]
    exact⟨r8,a,0,rfl,Sy _,fun _=>rfl,fun h=>absurd h r8,fun _ _ _ hlt=>absurd hlt (UI _)⟩
   ·obtain ⟨c2,arr,hrun,k1,k2,k3⟩:=grows (olds:=[]) rfl r9 hl r8 (by
     cases a with
     | none=>simp[Builtin.firstCells]
     | some a=>exact Uf (P:=P) w.drew es 0 a 0 _ [] r8 (fun j v hj=>by simp at hj))
    simp only[Vg,Th,TN] at hrun k1 k3
    obtain ⟨r1,r2⟩:=hr.push (hbd arr) (.row true es ys) (some w.heap.size) [] (fun k hk=>by cases hk; exact⟨rfl,r8⟩) (fun he'=>⟨ds,bf.ext he' _ _ hvd,hld,fun _=>⟨w.heap.size,arr,e,Gh.bq _ _ _ _,hnew arr,k3⟩⟩)
    refine⟨_,_,_,hrun,r1,r2,?_,r8,ic _ _ _,rfl⟩
    rw[VR,dG]
    exact⟨r8,_,c2,rfl,k1,fun h=>(by cases h),fun _=>⟨w.heap.size,Gh.bq _ _ _ _,r8⟩,fun _ _ _ _=>⟨w.heap.size,arr,e,Gh.bq _ _ _ _,rfl,hnew arr,k2⟩⟩
  ·replace h:=bc h
   obtain ⟨hxa,h⟩:=h
   cases h
   have hxes:∀ cs∈xs,cs.length=es/\∀ a∈cs,a.cell=true:=fun cs hcs=>by
    have:=SJ.1 hxa cs hcs
    simp only[Sz,Tw] at this
    exact⟨this.1,SJ.1 this.2⟩
   refine fresh rfl rfl g5 (fun d hd=>?_) g4 hl
   have hxp:0<xs.length:=by have:=UE hd; have:=g5.length; omega
   obtain rfl:xes=es:=g5.lens g3 (Sx hxp) (hxes _ (Tb _)).1
   exact g3 d hd
 ·rename_i b o n cl
  split at h
  ·rename_i es' els hb
   replace h:=dN h
   obtain ⟨hl,h⟩:=h
   simp only[TE,Ui,Tw,SG] at hl
   obtain ⟨⟨hl,hee⟩,hon⟩:=hl
   subst hee
   rw[VR,hb] at hx
   obtain ⟨_,a,cap,rfl,g1,g2,g3,g4⟩:=hx
   obtain ⟨hga,hgl⟩:=hr.blk b _ hb
   have hgll:=hga.length
   have hsub:∀ d∈((g.ga b).drop o).take n,d.length=es':=fun d hd=>hgl d (S4 (S2 hd))
   have hsl:(((g.ga b).drop o).take n).length=n:=r9
   have holdr:(Builtin.firstCells es' n (.slice a n cap)).run P w.drew=.ok (((g.ga b).drop o).take n).flatten.toArray w.drew:=by
    cases a with
    | none=>
     have hn0:n=0:=by
      by_cases hp:0<n
      ·obtain ⟨k,off,e1,_⟩:=g3 hp; cases e1
      ·omega
     subst hn0
     simp[Builtin.firstCells]
    | some a=>
     refine Uf (P:=P) w.drew es' n a n cap _ (by rw[bH hsub,hsl]) fun j x hj=>?_
     by_cases hp:0<n
     ·obtain ⟨k,off,e1,hc⟩:=g3 hp
      cases e1
      rw[TX]; exact(hc j x hj).1
     ·obtain rfl:n=0:=by omega
      simp at hj
   rw[bp] at h
   split at h
   ·rename_i hcl
    subst hcl
    cases h
    have hcap:=g2 rfl
    subst hcap
    exact fresh rfl r9 ((hga.drop o).take cap) hsub g3 hl
   ·rename_i hcl
    have hcl:cl=false:=by simpa using hcl
    subst hcl
    replace h:=bc h
    obtain ⟨hcc,h⟩:=h
    simp only[Sz,SG,Tw] at hcc
    obtain ⟨⟨hlo,ho0⟩,hnl⟩:=hcc
    subst ho0
    cases h
    have hlt:b<H.length:=(SB.1 hb).1
    have hgall:(g.ga b).take n=g.ga b:=Tj o3
    rw[Tq,hgall] at g3 holdr hsub hsl
    have hsame:∀ (ko:Option Nat),(H.set b (.row false es' (els++ys)))[b]? = some (.row false es' (els++ys)):=fun _=>SY hlt
    have htake:(((g.ga b++ds).drop 0).take (n+ys.length))=g.ga b++ds:=by rw[Tq,Tj r9]
    by_cases hroom:n+ys.length<=cap
    ·by_cases hy0:ys.length=0
     ·
      have hyn:ys=[]:=SV hy0
      subst hyn
      have hdn:ds=[]:=SV (by simpa using hdl)
      subst hdn
      obtain ⟨r1,r2⟩:=hr.grow (new:=[]) (γ:=[]) (ko:=g.mu b) hb (Below.refl _ _) (fun _ _ _ _ h=>h) (fun _ _ _=>rfl) (fun _ _ h _=>h) (Sy _) (.inr (by rw[bf])) r8 (.inl ⟨rfl,fun k arr ty _ ha=>⟨arr,ha,Sy _⟩⟩)
      refine⟨_,_,_,zero rfl g1 rfl,r1,r2,?_,r8,lD _ _ hlo,rfl⟩
      refine VR.ext r2 _ _ ?_
      rw[VR,hb]
      refine⟨r9,a,cap,r8,by simpa using g1,fun h=>(by cases h),fun hp=>?_,fun _ _ _ hlt=>g4 rfl rfl hnl (by simpa using hlt)⟩
      obtain ⟨k,off,e1,e2⟩:=g3 (by simpa using hp)
      exact⟨k,off,e1,by simpa [hgall] using e2⟩
     ·
      obtain ⟨k,arr,ty',m1,m2,m3,m4⟩:=g4 rfl rfl hnl o3
      subst m2
      have hmul:(n+ys.length)*es'<=cap*es':=Um _ hroom
      have hmul2:(n+ys.length)*es'=n*es'+ys.length*es':=TB _ _ _
      have hst:=VO P k (n*es') ty' ds.flatten 0 arr w m3 (by simp[hfl]; omega) hone
      have hrun:=kT (P:=P) (ty:=ty) (a:=⟨k,0,none⟩) hu hi hsA hroom
      rw[TX,Th,hsz,hst] at hrun
      simp only[S7,Ub] at hrun
      obtain ⟨arr',harr'⟩:∃ arr':Array Value,arr'=(arr.toList.take (n*es')++ds.flatten++arr.toList.drop (n*es'+ds.flatten.length)).toArray:=⟨_,rfl⟩
      rw[<-harr'] at hrun
      have hsp:arr'.toList=bk arr.toList (n*es') ds.flatten:=by rw[harr']; rfl
      have hfit:n*es'+ds.flatten.length<=arr.toList.length:=by simp[hfl]; omega
      have hasz:arr'.size=arr.size:=by rw[<-UQ,hsp,iq _ _ _ hfit]; simp
      have hnk:(w.setRow k arr').heap[k]? = some (.cells arr' ty' (0,0)):=setRow_heap w k arr arr' ty' (0,0) m3
      have hok:∀ j,j≠k->(w.setRow k arr').heap[j]? = w.heap[j]?:=fun j hj=>setRow_other w k j arr' hj
      have hszw:(w.setRow k arr').heap.size=w.heap.size:=by simp[World.setRow]
      have hbw:Below w0.heap.size w (w.setRow k arr'):=⟨rfl,rfl,rfl,by rw[hszw]; exact Sy _,fun j hj=>hok j (by have:=(hr.dom b k m1).2.1; omega)⟩
      have harrg:∀ j,arr'[j]? = if n*es'<=j/\j<n*es'+ds.flatten.length then ds.flatten[j - n*es']? else arr[j]?:=fun j=>by
       rw[<-Tc,hsp,gr _ _ _ _ hfit]; simp
      obtain ⟨r1,r2⟩:=hr.grow (new:=ys) (γ:=ds) (ko:=g.mu b) hb hbw (fun k' o v hs hc=>by
        by_cases e:k'=k
        ·subst e
         obtain ⟨es2,els2,q1,q2⟩:=hs.2 b m1
         rw[hb] at q1; cases q1
         rw[Ud _ _ o arr ty' (0,0) m3] at hc
         rw[Ud _ _ o arr' ty' (0,0) hnk,harrg,SI (by rw[hnl,TU]; omega)]
         exact hc
        ·exact(Ul (a:=⟨k',o,none⟩) (hok k' e)).trans hc) (fun k' _ hn=>hok k' (fun e=>hn (e ▸ m1))) (fun k' o ho hd=>(hok k' (fun e=>by subst e; rw[m3] at ho; cases ho; cases hd)).trans ho) (by rw[hszw]; exact Sy _) (.inr hvd) hld (.inl ⟨rfl,fun k' arr1 ty1 hk1 ha1=>by
        rw[m1] at hk1; cases hk1
        rw[m3] at ha1; cases ha1
        exact⟨arr',hnk,o3⟩⟩)
      refine⟨_,_,_,hrun,r1,r2,?_,r8,lD _ _ hlo,rfl⟩
      rw[VR,hsame none]
      refine⟨r9,_,cap,rfl,hroom,fun h=>(by cases h),fun _=>⟨k,0,rfl,?_⟩,fun _ _ _ _=>⟨k,arr',ty',by rw[Gh.bq,m1],rfl,hnk,o3⟩⟩
      rw[Gh.fM,htake,Ur]
      intro j x hj
      have hgfl:(g.ga b).flatten.length=n*es':=by rw[bH hsub,hsl]
      refine⟨?_,?_⟩
      ·rw[Th,Ud _ _ j arr' ty' (0,0) hnk,harrg]
       rw[Uy,hgfl] at hj
       split at hj
       ·rename_i hj1
        rw[SI o3]
        have hn0:0<n:=by
         rcases Vi n with h | h
         ·rw[h] at hj1; simp at hj1
         ·exact h
        obtain ⟨k',off',e1,e2⟩:=g3 hn0
        cases e1
        have:=(e2 j x hj).1
        rw[Th,Ud _ _ j arr ty' (0,0) m3] at this
        exact this
       ·rename_i hj1
        have:=(SB.1 hj).1
        rw[SH o3]
        exact hj
      ·refine⟨by have h:=hr.own b k (0+j) m1; exact h,fun c hc=>?_⟩
       have hcb:c=b:=r1.inj c b k hc (by rw[Gh.bq,m1])
       subst hcb
       refine⟨es',els++ys,hsame none,?_⟩
       have:=(SB.1 hj).1
       rw[SX,hgfl,hfl] at this
       simp only[SX,Ve]
       rw[TU es' els.length,TU es' ys.length,<-hnl]
       omega
    ·
     have hyp:ys≠[]:=fun e=>by subst e; simp at hroom; omega
     obtain ⟨c2,arr,hrun,k1,k2,k3⟩:=grows (olds:=(g.ga b).flatten) rfl o3 hl (by rw[bH hsub,hsl]) holdr
     obtain ⟨r1,r2⟩:=hr.grow (new:=ys) (γ:=ds) (ko:=some w.heap.size) hb ((hbd arr).mono hr.below.size) (fun k' o v _ hc=>((hbd arr).cell (p:=⟨k',o,none⟩) (Uo w _ hc)).trans hc) (fun k' hk' _=>(hbd arr).block k' hk') (fun k' o ho _=>((hbd arr).block k' (SE.1 ho).1).trans ho) (hbd arr).size (.inr hvd) hld (.inr ⟨rfl,r8,hyp⟩)
     refine⟨_,_,_,hrun,r1,r2,?_,r8,lD _ _ hlo,rfl⟩
     rw[VR,hsame none]
     refine⟨r9,_,c2,rfl,k1,fun h=>(by cases h),fun _=>⟨w.heap.size,0,rfl,?_⟩,fun _ _ _ _=>⟨w.heap.size,arr,e,Gh.bq _ _ _ _,rfl,hnew arr,k2⟩⟩
     rw[Gh.fM,htake,Ur]
     intro j x hj
     refine⟨by rw[Th,Ud _ _ j arr e (0,0) (hnew arr)]; exact k3 j x hj,hr.out _ _ (Sy _),fun c hc=>?_⟩
     have hcb:c=b:=r1.inj c b _ hc (by rw[Gh.bq])
     subst hcb
     refine⟨es',els++ys,hsame none,?_⟩
     have:=(SB.1 hj).1
     rw[SX,bH hsub,hsl,hfl] at this
     simp only[SX,Ve]
     rw[TU es' els.length,TU es' ys.length,<-hnl]
     omega
  ·cases h
 ·cases h
theorem Dw {t t2 ty e:TypeId} {es m n cap:Nat} {a:Option Addr} {c:Value} {news:List Value} (hu:P.underlying t=some (.slice e)) (hes:cz P e=some es) (hlen:(Builtin.lenOf c).run P w=.ok m w) (hf:(Builtin.firstCells es (min m n) c).run P w=.ok news.toArray w) :
  (Builtin.copy_ #[t,t2] ty #[.slice a n cap,c]).run P w=match a with | none=>.ok (.int .i64 (min m n:Nat)) w | some a=>((storeCells a news).run P w).andThen fun _ w'=>.ok (.int .i64 (min m n:Nat)) w':=by
 have hs:=dJ hes w
 have hf':(Builtin.firstCells es (Nat.min m n) c).run P w=.ok news.toArray w:=hf
 cases a with
 | none=>simp[Builtin.copy_,SN hu,hlen,hs,hf',goInt]
 | some a=>simp[Builtin.copy_,SN hu,hlen,hs,hf',goInt]
theorem we (hr:Rel H g w0 w) {t t2 ty:TypeId} {x y z:A} {cx cy:Value} {H':ar} {lo:Nat} (h:p0 P t x y H lo=some (z,H')) (hx:VR H g w x cx) (hy:VR H g w y cy):Step H g w0 w lo ((Builtin.copy_ #[t,t2] ty #[cx,cy]).run P w) z H':=by
 unfold p0 at h
 replace h:=bn h
 obtain ⟨e,he,h⟩:=h
 have hu:=jy he
 replace h:=bn h
 obtain ⟨es,hes,h⟩:=h
 replace h:=bn h
 obtain ⟨ys,hys,h⟩:=h
 replace h:=dN h
 obtain ⟨h0,h⟩:=h
 simp only[TE,Ui,UR] at h0
 have hys3:∀ cs∈ys,cs.length=es/\∀ a∈cs,a.cell=true:=fun cs hcs=>by
  have:=SJ.1 h0.2 cs hcs
  simp only[Sz,Tw] at this
  exact⟨this.1,SJ.1 this.2⟩
 obtain ⟨ds,hvd,hld,hsrc⟩:=Ag (P:=P) hr hys hy (fun cs hcs=>(hys3 cs hcs).1)
 obtain ⟨hlen,hfirst⟩:=hsrc w (fun _=>rfl)
 have hdl:=hvd.length
 split at h
 ·rename_i b o n cl
  split at h
  ·rename_i es' els hb
   replace h:=bc h
   obtain ⟨hc,h⟩:=h
   simp only[Sz,SG,Tw] at hc
   obtain ⟨hlo,rfl⟩:=hc
   cases h
   rw[VR,hb] at hx
   obtain ⟨hon,a,cap,rfl,g1,g2,g3,_⟩:=hx
   have hlt:b<H.length:=(SB.1 hb).1
   have hf:=hfirst (min ys.length n) (Nat.min_le_left _ _)
   have hrun:=Dw (P:=P) (t2:=t2) (ty:=ty) (a:=a) (cap:=cap) hu hes hlen hf
   have hxl:(ys.take n).length=min ys.length n:=by simp[Nat.min_comm]
   have htk:ds.take n=ds.take (min ys.length n):=by
    rw[<-hdl]
    rcases VZ ds.length n with h | h
    ·rw[Ug h,Tj h,Tj (Sy _)]
    ·rw[Nat.min_eq_right h]
   by_cases hm:min ys.length n=0
   ·have hyt:ys.take n=[]:=SV o3
    have hspl:bk els o (ys.take n)=els:=by rw[hyt]; simp[bk]
    have hset:H.set b (.row true es' (bk els o (ys.take n)))=H:=by
     rw[hspl]
     apply TY
     intro c
     by_cases e:c=b
     ·subst e; rw[SY hlt,hb]
     ·rw[SO (TF e)]
    rw[hset]
    have hrun':(Builtin.copy_ #[t,t2] ty #[.slice a n cap,cy]).run P w=.ok (.int .i64 (min ys.length n:Nat)) w:=by
     rw[hrun]
     cases a with
     | none=>rfl
     | some a=>
      rw[hm]
      simp[storeCells]
    exact⟨_,_,g,hrun',hr,Ext.below hr (Below.refl _ _),s6,Sy _,fun _ _ _=>rfl,rfl⟩
   ·obtain ⟨k,hk,rfl⟩:=g3 o3
    obtain ⟨rds,hv,hl,hrow⟩:=hr.blk b _ hb
    obtain ⟨k',arr,ty',hk',har,hcell⟩:=hrow o3
    rw[hk] at hk'; cases hk'
    have hrl:=hv.length
    have hnl:(ds.take (min ys.length n)).flatten.length=min ys.length n*es':=fL hld o3
    have hone:∀ x∈(ds.take (min ys.length n)).flatten,x.oneCell'=true:=fun x hx=>by
     obtain ⟨d,hd,hxd⟩:=VY.1 hx
     exact hvd.one (fun cs hcs=>(hys3 cs hcs).2) x (VY.2 ⟨d,S2 hd,hxd⟩)
    have hfl:=bH hl
    have hmul:(o+min ys.length n)*es'<=rds.length*es':=Um _ o3
    rw[TB] at hmul
    have hal:rds.flatten.length<=arr.size:=by
     by_cases hz:rds.flatten.length=0
     ·omega
     ·have:=hcell (rds.flatten.length - 1) _ (Sx o3)
      have:=(SE.1 this).1
      omega
    have hst:=VO P k (o*es') ty' (ds.take (min ys.length n)).flatten 0 arr w har (by rw[hnl]; omega) hone
    simp only[Ub] at hst
    simp only[hst,S7] at hrun
    obtain ⟨arr',harr'⟩:∃ arr':Array Value,arr'=(arr.toList.take (o*es')++(ds.take (min ys.length n)).flatten++arr.toList.drop (o*es'+(ds.take (min ys.length n)).flatten.length)).toArray:=⟨_,rfl⟩
    rw[<-harr'] at hrun
    have hsp:arr'.toList=bk arr.toList (o*es') (ds.take (min ys.length n)).flatten:=by rw[harr']; rfl
    have hdtl:(ds.take n).length=min ys.length n:=by rw[htk]; simp; omega
    obtain ⟨r1,r2⟩:=hr.write hk har (arr':=arr') (B':=.row true es' (bk els o (ys.take n))) hb (.inr ⟨es',els,_,rfl,rfl,by rw[iq _ _ _ o3],by rw[harr']; exact pU _ _ _⟩) (fun he hnew=>by
     refine⟨bk rds o (ds.take n),?_,?_,fun _=>⟨k,arr',ty',hk,hnew,fun j x hj=>?_⟩⟩
     ·have h1:=bf.ext he _ _ hv
      have h2:=bf.ext he _ _ (hvd.take n)
      have h3:=h2.length
      unfold bk
      rw[h3]
      exact((h1.take o).append h2).append (h1.drop _)
     ·intro d hd
      unfold bk at hd
      rcases TP.1 hd with hd | hd
      ·rcases TP.1 hd with hd | hd
       ·exact hl d (S2 hd)
       ·exact hld d (S2 hd)
      ·exact hl d (S4 hd)
     ·rw[mE o hl (fun d hd=>hld d (S2 hd)) o3,htk,gr _ _ _ _ o3] at hj
      rw[<-Tc,hsp,gr _ _ _ _ (by have:=hnl; simp only[UQ] at *; omega)]
      split at hj
      ·rename_i hin; rw[SH hin]; exact hj
      ·rename_i hin; rw[SI hin]; simpa using hcell j x hj)
    exact⟨_,_,g,hrun,r1,r2,s6,r8,lD _ _ hlo,rfl⟩
  ·cases h
 ·cases h
end
section
open Go.RowKit
variable {P:Program} {H H':ar} {g g':Gh} {w0 w w':World}
theorem ua {t:TypeId} {k:IntKind} {vt:TypeId} (h:AU P t=some (k,vt)):∃ kt,P.underlying t=some (.map kt vt)/\P.underlying kt=some (.int k):=by
 unfold AU at h
 split at h
 ·rename_i kt vt' hu
  split at h
  ·rename_i k' hk; cases h; exact⟨kt,hu,hk⟩
  ·cases h
 ·cases h
theorem rQ {k:IntKind} {x:A} {a:Int} {c:Value} (h:keyOf k x=some a) (hx:VR H g w x c):c=.int k a:=by
 unfold keyOf at h
 split at h
 ·rename_i j n
  obtain ⟨h1,h2⟩:=bc h
  cases h2
  have:=SF h1
  subst this
  rw[VR] at hx; exact hx
 ·cases h
def nu (a:Int):List Int->Option Nat
 | []=>none
 | x :: ks=>if a=x then some 0 else (nu a ks).map (·+1)
theorem vE {a:Int}:∀ {ks:List Int} {j:Nat},nu a ks=some j->j<ks.length/\ks[j]? = some a
 | [],_,h=>by cases h
 | x :: ks,j,h=>by
  rw[nu] at h
  split at h
  ·rename_i e; cases h; exact⟨r8,by simp[e]⟩
  ·rw[Te] at h
   obtain ⟨i,h1,rfl⟩:=h
   obtain ⟨e1,e2⟩:=vE h1
   exact⟨r9,by simpa using e2⟩
theorem qW {a:Int}:∀ {ks:List Int} {vs:List A},ks.length=vs.length->nN a ks vs=(nu a ks).bind fun j=>vs[j]?
 | [],[],_=>rfl
 | [],_ :: _,h=>by simp at h
 | _ :: _,[],h=>by simp at h
 | x :: ks,v :: vs,h=>by
  rw[nN,nu,bp]
  by_cases e:a=x
  ·rw[SH e,SH (by simpa using e)]; rfl
  ·rw[SI e,SI (by simpa using e),qW (by simpa using h),Option.bind_map]
   rfl
theorem xm {a:Int} {y:A}:∀ {ks:List Int} {vs:List A},ks.length=vs.length->AZ a y ks vs=match nu a ks with | some j=>(ks,vs.set j y) | none=>(ks++[a],vs++[y])
 | [],[],_=>rfl
 | [],_ :: _,h=>by simp at h
 | _ :: _,[],h=>by simp at h
 | x :: ks,v :: vs,h=>by
  rw[AZ,nu,bp]
  by_cases e:a=x
  ·rw[SH e,SH (by simpa using e)]; rfl
  ·rw[SI e,SI (by simpa using e),xm (by simpa using h)]
   cases nu a ks with
   | none=>rfl
   | some j=>rfl
theorem p9 {k:IntKind} {a:Int}:∀ (es:List MapEntry) (ks:List Int) (i:Nat),es.map (·.key)=ks.map (Value.int k)->Instr.findNow (.int k) (.int k a) es i=some ((nu a ks).bind fun j=>(es[j]?).map fun e=>(i+j,e.val))
 | [],[],i,_=>rfl
 | [],_ :: _,_,h=>by simp at h
 | _ :: _,[],_,h=>by simp at h
 | e :: es,x :: ks,i,h=>by
  simp only[TS,TA] at h
  obtain ⟨h1,h2⟩:=h
  have hs:Instr.sameNow (.int k) (.int k a) e.key=some (a==x):=by rw[h1]; simp[Instr.sameNow]
  rw[Instr.findNow,hs,nu]
  by_cases ex:a=x
  ·subst ex
   simp
  ·rw[show (a==x)=false by simpa using ex,SI ex]
   simp only[]
   rw[p9 es ks (i+1) h2]
   cases nu a ks with
   | none=>rfl
   | some j=>
    simp only[Tp,Sw,Vn]
    rw[show i+1+j=i+(j+1) by omega]
theorem lh {kt:TypeId} {k:IntKind} (hk:P.underlying kt=some (.int k)) (a:Int) (b:Bool):(Instr.checkKey b 10000 kt (.int k a)).run P w=.ok () w:=by
 rw[show (10000:Nat)=9999+1 from rfl,Instr.checkKey]
 simp[SN hk]
theorem mC {kt:TypeId} {k:IntKind} (hk:P.underlying kt=some (.int k)) {es:List MapEntry} {ks:List Int} (h:es.map (·.key)=ks.map (Value.int k)) (a:Int):(Instr.findKey kt (.int k a) es).run P w=.ok ((nu a ks).bind fun j=>(es[j]?).map fun e=>(j,e.val)) w:=by
 unfold Instr.findKey
 simp only[Tf,SN hk,S7,p9 es ks 0 h,Th]
 rfl
theorem qS (hr:Rel H g w0 w) {t:TypeId} {y:A} {H':ar} (lo:Nat) (h:qR P t H=some (y,H')):Step H g w0 w lo ((Instr.makeMap t none).run P w) y H':=by
 unfold qR at h
 cases hk:AU P t with
 | none=>rw[hk] at h; cases h
 | some p=>
  rw[hk] at h
  cases h
  have hb:Below w.heap.size w (w.alloc (.map #[] 0)):=(Below.refl _ w).alloc (Sy _) _
  obtain ⟨h1,h2⟩:=hr.push hb (.mp p.1 [] []) (some w.heap.size) [] (fun k hk=>by cases hk; exact⟨rfl,r8⟩) (fun he=>⟨w.heap.size,#[],0,Gh.bq _ _ _ _,VA w _,rfl,by rw[bl]; rfl⟩)
  refine⟨.map (some w.heap.size),_,_,by simp[Instr.makeMap,newObj]; rfl,h1,h2,?_,r8,ic _ _ _,rfl⟩
  rw[VR,dG]; exact⟨w.heap.size,Gh.bq _ _ _ _,rfl⟩
theorem Rel.KH (hr:Rel H g w0 w) {b r:Nat} {arr arr':Array MapEntry} {cl cl':Nat} {k:IntKind} {ks ks':List Int} {vs vs':List A} (hk:g.mu b=some r) (ha:w.heap[r]? = some (.map arr cl)) (hB:H[b]? = some (.mp k ks vs))
  (hkeys:arr'.toList.map (·.key)=ks'.map (Value.int k)) (hv:bl H g w vs' (arr'.toList.map (·.val))) :
  Rel (H.set b (.mp k ks' vs')) g w0 (w.putObj r (.map arr' cl'))/\Ext H g w (H.set b (.mp k ks' vs')) g (w.putObj r (.map arr' cl')):=by
 have hlt:b<H.length:=(SB.1 hB).1
 have hrl:r<w.heap.size:=(hr.dom b r hk).2.2
 have hoth:∀ j,j≠r->(w.putObj r (.map arr' cl')).heap[j]? = w.heap[j]?:=fun j hj=>TW hj
 have hsz:(w.putObj r (.map arr' cl')).heap.size=w.heap.size:=r8
 have hnot:∀ {o:Nat},¬ dP H g r o:=fun {o} hs=>by
  obtain ⟨es,els,h1,_⟩:=hs.2 b hk
  rw[hB] at h1; cases h1
 have hst:∀ {q o},dP H g q o->dP (H.set b (.mp k ks' vs')) g q o:=fun {q o} hs=>by
  refine⟨hs.1,fun c hck=>?_⟩
  obtain ⟨es,els,h1,h2⟩:=hs.2 c hck
  have hcb:c≠b:=fun e=>by subst e; rw[hB] at h1; cases h1
  exact⟨es,els,by rw[SO (TF hcb)]; exact h1,h2⟩
 have he:Ext H g w (H.set b (.mp k ks' vs')) g (w.putObj r (.map arr' cl')):=by
  refine⟨fun k' o v hs hc=>?_,fun c C hC=>?_,fun k' x h=>(hoth k' (fun e=>by subst e; rw[ha] at h; cases h)).trans h,by rw[hsz]; exact Sy _,fun k' marr mcl hs hm=>?_,fun k' _ hn=>hoth k' (fun e=>hn b (e ▸ hk)),fun c k' h=>.inl ⟨c,h⟩⟩
  ·have hne:k'≠r:=fun e=>hnot (e ▸ hs)
   exact⟨(Ul (a:=⟨k',o,none⟩) (hoth k' hne)).trans hc,hst hs⟩
  ·by_cases e:c=b
   ·subst e
    rw[hB] at hC; cases hC
    exact⟨.mp k ks' vs',by rw[SY hlt],rfl⟩
   ·refine⟨C,by rw[SO (TF e)]; exact hC,?_⟩
    cases C with
    | box _=>rfl
    | row wr es els=>cases wr with
     | true=>exact⟨rfl,rfl,rfl,fun k' arr1 ty1 hk1 ha1=>⟨arr1,(hoth k' (fun e2=>e (hr.inj c b r (e2 ▸ hk1) hk))).trans ha1,Sy _⟩⟩
     | false=>exact⟨rfl,⟨[],r8⟩,(hr.blk c _ hC).len,Sy _,fun _=>⟨rfl,fun k' arr1 ty1 hk1 ha1=>⟨arr1,(hoth k' (fun e2=>e (hr.inj c b r (e2 ▸ hk1) hk))).trans ha1,Sy _⟩⟩⟩
    | rng _=>exact⟨rfl,rfl⟩
    | mp _ _ _=>rfl
    | dead=>trivial
    | hole=>trivial
  ·have hne:k'≠r:=fun e=>hnot (e ▸ hs)
   exact⟨(hoth k' hne).trans hm,hst hs⟩
 refine⟨⟨hr.below.trans ((Below.refl w0.heap.size w).grown (V6 w r _) (hr.below.size) (fun k e=>by cases e; exact(hr.dom b r hk).2.1)),fun c j hcj=>⟨by simpa using (hr.dom c j hcj).1,(hr.dom c j hcj).2.1,by rw[hsz]; exact(hr.dom c j hcj).2.2⟩,hr.inj,hr.xk he,hr.vD he,fun c C hC=>?_⟩,he⟩
 by_cases e:c=b
 ·subst e
  rw[SY hlt] at hC; cases hC
  exact⟨r,arr',cl',hk,Vo hrl,hkeys,bl.ext he _ _ hv⟩
 ·rw[SO (TF e)] at hC
  have h:=hr.blk c C hC
  have hmu:∀ {j},g.mu c=some j->j≠r:=fun {j} hj e2=>e (hr.inj c b r (e2 ▸ hj) hk)
  cases C with
  | box cs=>obtain ⟨j,arr1,ty1,h1,h2,h3⟩:=h; exact⟨j,arr1,ty1,h1,(hoth j (hmu h1)).trans h2,bl.ext he _ _ h3⟩
  | row wr es els=>cases wr with
   | true=>
    obtain ⟨ds,h1,h2,h3⟩:=h
    exact⟨ds,bf.ext he _ _ h1,h2,fun hp=>let ⟨j,arr1,ty1,e1,e2,e3⟩:=h3 hp; ⟨j,arr1,ty1,e1,(hoth j (hmu e1)).trans e2,e3⟩⟩
   | false=>exact⟨bf.ext he _ _ h.1,h.2⟩
  | rng st=>obtain ⟨j,h1,h2⟩:=h; exact⟨j,h1,(hoth j (hmu h1)).trans h2⟩
  | mp _ _ _=>obtain ⟨j,arr1,c1,h1,h2,h3,h4⟩:=h; exact⟨j,arr1,c1,h1,(hoth j (hmu h1)).trans h2,h3,bl.ext he _ _ h4⟩
  | dead=>exact h
  | hole=>exact h
theorem bl.setAt {vs:List A} {ds:List Value} (h:bl H g w vs ds) {y:A} {d:Value} (hy:VR H g w y d) (j:Nat):bl H g w (vs.set j y) (ds.set j d):=by
 rw[de] at h ⊢
 refine⟨by simpa using h.1,fun i a e ha hd=>?_⟩
 rw[UB] at ha hd
 by_cases hij:j=i
 ·subst hij
  rw[SH rfl] at ha hd
  split at ha
  ·split at hd
   ·cases ha; cases hd; exact hy
   ·cases hd
  ·cases ha
 ·rw[SI hij] at ha hd
  exact h.2 i a e ha hd
theorem ny (hr:Rel H g w0 w) {t:TypeId} {m i x:A} {H':ar} {lo:Nat} {cm ci cx:Value} (h:qu P t m i x H lo=some H') (hm:VR H g w m cm) (hi:VR H g w i ci) (hx:VR H g w x cx) :
  ∃ w',(Instr.mapUpdate t cm ci cx).run P w=.ok () w'/\Rel H' g w0 w'/\Ext H g w H' g w'/\H.length<=H'.length/\∀ b,b<lo->b<H.length->H'[b]? = H[b]?:=by
 unfold qu at h
 obtain ⟨⟨k,vt⟩,hk,h⟩:=bn h
 obtain ⟨a,ha,h⟩:=bn h
 obtain ⟨kt,hu,huk⟩:=ua hk
 have:=rQ ha hi
 subst this
 cases m with
 | mr b=>
  simp only[] at h
  split at h
  ·rename_i k' ks vs hB
   obtain ⟨hc,h⟩:=bc h
   cases h
   rw[Sz] at hc
   have hlo:=SF hc.1
   have hkk:k'=k:=SF hc.2
   subst hkk
   rw[VR,hB] at hm
   obtain ⟨r,hmu,rfl⟩:=hm
   obtain ⟨r',arr,cl,e1,e2,e3,e4⟩:=hr.blk b _ hB
   rw[hmu] at e1; cases e1
   have hlen:ks.length=vs.length:=by
    have:=e4.length
    have h2:=Ty List.length e3
    simp at this h2
    omega
   have hal:ks.length=arr.size:=by have h2:=Ty List.length e3; simp at h2; omega
   have hget:(getObj r).run P w=.ok (.map arr cl) w:=by simp[getObj,Sem.run,e2]
   have hset:∀ o,(setObj r o).run P w=.ok () (w.putObj r o):=fun o=>by simp[setObj,Sem.run,e2,World.putObj]
   have hlow:∀ B,∀ c,c<lo->c<H.length->(H.set b B)[c]? = H[c]?:=fun B c hc _=>SO o3
   rw[xm hlen]
   cases hp:nu a ks with
   | none=>
    simp only[]
    have hrun:(Instr.mapUpdate t (.map (some r)) (.int k' a) cx).run P w=.ok () (w.putObj r (.map (arr.push { key:=.int k' a,val:=cx,born:=cl }) (cl+1))):=by
     unfold Instr.mapUpdate
     simp only[Tf,SN hu,S7,hget,lh huk,mC huk e3,hp,Vs,hset]
    obtain ⟨r1,r2⟩:=hr.KH (arr':=arr.push { key:=.int k' a,val:=cx,born:=cl }) (cl':=cl+1) (ks':=ks++[a]) (vs':=vs++[x]) hmu e2 hB (by simp[e3]) (by
     rw[show (arr.push { key:=Value.int k' a,val:=cx,born:=cl }).toList.map (·.val)=arr.toList.map (·.val)++[cx] by simp]
     exact e4.append (by rw[bl]; exact⟨cx,[],rfl,hx,u3⟩))
    exact⟨_,hrun,r1,r2,r8,hlow _⟩
   | some j=>
    simp only[]
    obtain ⟨hj,hja⟩:=vE hp
    have hja':arr[j]? = some arr[j]:=Tl o3
    have hkey:(arr[j]'(o3)).key=.int k' a:=by
     have h1:(arr.toList.map (·.key))[j]? = some (.int k' a):=by rw[e3,Td,hja]; rfl
     rw[Td,Tc,hja'] at h1
     simpa using h1
    have hsame:(Instr.keyThatStays (.int k' a) (.int k' a)).run P w=.ok (.int k' a) w:=by
     unfold Instr.keyThatStays
     rw[show Instr.sameBits 10000 (.int k' a) (.int k' a)=true by rw[show (10000:Nat)=9999+1 from rfl]; simp[Instr.sameBits]]
     rfl
    have hrun:(Instr.mapUpdate t (.map (some r)) (.int k' a) cx).run P w=.ok () (w.putObj r (.map (arr.modify j fun e=>{ e with key:=.int k' a,val:=cx }) cl)):=by
     unfold Instr.mapUpdate
     simp only[Tf,SN hu,S7,hget,lh huk,mC huk e3,hp,Sw,Tc,hja',Tp,Option.getD_some,hkey,hsame,hset]
    have hmod:∀ (f:MapEntry->Value) (v:Value),(f { (arr[j]'(o3)) with key:=.int k' a,val:=cx }=v)->((arr.modify j fun e=>{ e with key:=.int k' a,val:=cx }).toList.map f)=(arr.toList.map f).set j v:=fun f v hf=>by
     refine TY fun i=>?_
     rw[Td,Tc,Wg,UB]
     by_cases hij:j=i
     ·subst hij
      rw[SH rfl,hja',SH rfl,SH r9]
      simp[hf]
     ·rw[SI hij,SI hij,Td,Tc]
    obtain ⟨r1,r2⟩:=hr.KH (arr':=arr.modify j fun e=>{ e with key:=.int k' a,val:=cx }) (cl':=cl) (ks':=ks) (vs':=vs.set j x) hmu e2 hB (by
     rw[hmod (·.key) (.int k' a) rfl,e3]
     refine TY fun i=>?_
     rw[UB]
     by_cases hij:j=i
     ·subst hij
      rw[SH rfl,SH r9,Td,hja]; rfl
     ·rw[SI hij]) (by rw[hmod (·.val) cx rfl]; exact e4.setAt hx j)
    exact⟨_,hrun,r1,r2,r8,hlow _⟩
  ·cases h
 | _=>cases h
theorem HK {vt:TypeId} {c:Bool} {y:A} {es:List MapEntry} {ks:List Int} {vs:List A} {a:Int} (hl:ks.length=vs.length) (h:IC P vt c (nN a ks vs)=some y) (hv:bl H g w vs (es.map (·.val))) :
  ∃ d,(match (nu a ks).bind fun j=>(es[j]?).map fun e=>(j,e.val) with | some (_,v)=>(d=if c then .tuple #[v,.bool true] else v) | none=>∃ i z,P.info? vt=some i/\i.zero=some z/\(d=if c then .tuple #[z,.bool false] else z))/\VR H g w y d:=by
 rw[qW hl] at h
 cases hp:nu a ks with
 | none=>
  rw[hp] at h
  simp only[Vs,IC] at h ⊢
  obtain ⟨i,hi,h⟩:=bn h
  rw[Te] at h
  obtain ⟨z,hz,h⟩:=h
  refine⟨_,⟨i,z,hi,hz,rfl⟩,?_⟩
  subst h
  cases c
  ·exact oa z
  ·rw[SC,VR]
   exact⟨_,rfl,by rw[bl]; exact⟨z,_,rfl,oa z,by rw[bl]; exact⟨_,_,rfl,s6,u3⟩⟩⟩
 | some j=>
  obtain ⟨hj,_⟩:=vE hp
  have hel:es.length=vs.length:=by have:=hv.length; simpa using this
  have hvj:vs[j]? = some vs[j]:=Sx o3
  have hej:es[j]? = some es[j]:=Sx o3
  rw[hp] at h
  simp only[Sw,hvj,IC,Ta,hej,Tp] at h ⊢
  refine⟨_,rfl,?_⟩
  subst h
  have hvv:VR H g w vs[j] es[j].val:=(de.1 hv).2 j _ _ hvj (by rw[Td,hej]; rfl)
  cases c
  ·exact hvv
  ·rw[SC,VR]
   exact⟨_,rfl,by rw[bl]; exact⟨_,_,rfl,hvv,by rw[bl]; exact⟨_,_,rfl,s6,u3⟩⟩⟩
theorem sU (hr:Rel H g w0 w) {t:TypeId} {m i y:A} {c:Bool} {cm ci:Value} (h:kZ P t m i c H=some y) (hm:VR H g w m cm) (hi:VR H g w i ci):∃ d,(Instr.lookup t cm ci c).run P w=.ok d w/\VR H g w y d:=by
 unfold kZ at h
 obtain ⟨⟨k,vt⟩,hk,h⟩:=bn h
 obtain ⟨a,ha,h⟩:=bn h
 obtain ⟨kt,hu,huk⟩:=ua hk
 have:=rQ ha hi
 subst this
 have main:∀ {r:Nat} {arr:Array MapEntry} {cl:Nat} {ks:List Int} {vs:List A},w.heap[r]? = some (.map arr cl)->arr.toList.map (·.key)=ks.map (Value.int k)->bl H g w vs (arr.toList.map (·.val))->IC P vt c (nN a ks vs)=some y->∃ d,(Instr.lookup t (.map (some r)) (.int k a) c).run P w=.ok d w/\VR H g w y d:=by
  intro r arr cl ks vs e2 e3 e4 hok
  have hlen:ks.length=vs.length:=by
   have:=e4.length
   have h2:=Ty List.length e3
   simp at this h2
   omega
  obtain ⟨d,hd,hv⟩:=HK hlen hok e4
  refine⟨d,?_,hv⟩
  have hget:(getObj r).run P w=.ok (.map arr cl) w:=by simp[getObj,Sem.run,e2]
  unfold Instr.lookup
  simp only[Tf,SN hu,S7,hget,UO,lh huk,mC huk e3]
  cases hf:(nu a ks).bind fun j=>(arr.toList[j]?).map fun e=>(j,e.val) with
  | none=>
   rw[hf] at hd
   obtain ⟨i,z,h1,h2,h3⟩:=hd
   have hz:(zeroValue vt).run P w=.ok z w:=by simp[zeroValue,typeInfo,h1,h2]
   simp only[Tf,hz,S7,UO,h3]
  | some p=>
   rw[hf] at hd
   obtain ⟨j,v⟩:=p
   simp only[UO,S7]
   have hd:d=if c then .tuple #[v,.bool true] else v:=hd
   rw[hd]
   cases c<;>rfl
 cases m with
 | mv k' ks vs=>
  obtain ⟨hc,h⟩:=bc h
  have hkk:k'=k:=SF hc
  subst hkk
  rw[VR] at hm
  obtain ⟨r,arr,cl,rfl,_,e2,e3,e4⟩:=hm
  exact main e2 e3 e4 h
 | mr b=>
  simp only[] at h
  split at h
  ·rename_i k' ks vs hB
   obtain ⟨hc,hok⟩:=bc h
   have hkk:k'=k:=SF hc
   subst hkk
   rw[VR,hB] at hm
   obtain ⟨r,hmu,rfl⟩:=hm
   obtain ⟨r',arr,cl,e1,e2,e3,e4⟩:=hr.blk b _ hB
   exact(by rw[hmu] at e1; cases e1; exact main e2 e3 e4 hok)
  ·cases h
 | _=>cases h
theorem ue {t:TypeId} {c:Bool} {y:A} (h:vz P t c=some y):c=true/\∃ z,(zeroValue t).run P w=.ok z w/\VR H g w y (.tuple #[z,.bool false]):=by
 unfold vz at h
 cases c with
 | false=>cases h
 | true=>
  simp only[SC] at h
  obtain ⟨i,hi,h⟩:=bn h
  rw[Te] at h
  obtain ⟨z,hz,rfl⟩:=h
  refine⟨rfl,z,by simp[zeroValue,typeInfo,hi,hz],?_⟩
  rw[VR]
  exact⟨_,rfl,by rw[bl]; exact⟨z,_,rfl,oa z,by rw[bl]; exact⟨_,_,rfl,s6,u3⟩⟩⟩
theorem sS {t xt:TypeId} {x y:A} {c:Bool} {cv:Value} (h:mU P x t c=some y) (hx:VR H g w x cv):∃ d,(Instr.typeAssert cv xt t c).run P w=.ok d w/\VR H g w y d:=by
 unfold mU at h
 split at h
 ·cases h
 ·cases h
 ·rename_i u hn hu
  split at h
  ·rename_i t' z
   rw[VR] at hx
   obtain ⟨v,rfl,hv⟩:=hx
   rw[bp] at h
   split at h
   ·rename_i ht
    have ht:=SM ht
    subst ht
    have hr:(Instr.typeAssert (.iface t' v) xt t' c).run P w=.ok (if c then .tuple #[v,.bool true] else v) w:=by
     unfold Instr.typeAssert
     rw[Tf,SN hu]
     simp only[S7]
     cases u<;>first | exact absurd hu (hn _) | simp
    refine⟨_,hr,?_⟩
    cases c with
    | false=>simp only[SA,Ta] at h; subst h; exact hv
    | true=>
     simp only[SC,Ta] at h
     subst h
     rw[SH rfl,VR]
     exact⟨_,rfl,by rw[bl]; exact⟨v,_,rfl,hv,by rw[bl]; exact⟨_,_,rfl,s6,u3⟩⟩⟩
   ·rename_i ht
    obtain ⟨rfl,z,hz,hv2⟩:=ue (H:=H) (g:=g) (w:=w) h
    have ht:¬ t'=t:=fun e=>ht (by rw[e]; simp)
    refine⟨_,?_,hv2⟩
    unfold Instr.typeAssert
    rw[Tf,SN hu]
    simp only[S7]
    cases u<;>first | exact absurd hu (hn _) | simp[ht,hz]
  ·rw[VR] at hx
   subst hx
   obtain ⟨rfl,z,hz,hv2⟩:=ue (H:=H) (g:=g) (w:=w) h
   refine⟨_,?_,hv2⟩
   unfold Instr.typeAssert
   rw[Tf,SN hu]
   simp only[S7]
   cases u<;>first | exact absurd hu (hn _) | simp[hz]
  ·cases h
end
section
open Go.RowKit
def fP (F:Fence):Prop:=F.depth=none/\(∀ f,F.fn f)/\F.alive=false
theorem yX:fP Fence.wide:=⟨rfl,fun _=>trivial,rfl⟩
theorem oW {F:Fence} (h:fP F) (P:Program) (m:Machine):m.fenced P F:=fun g _=>
 ⟨fun ha=>(by rw[h.2.2] at ha; cases ha),.inl (h.2.1 _),fun f _=>h.2.1 f,fun d hd=>(by rw[h.1] at hd; cases hd)⟩
theorem fG {F:Fence} {n:Nat} {P:Program} {f:FuncId} {args:Array Value} {w:World} {R:Ending->World->Prop} (hF:fP F) (h:Calls P f args w R):CallsIn F n P f args w R:=
 ⟨hF.2.1 f,fun cs _=>let ⟨e,w',fr,r,s,x⟩:=h cs; ⟨e,w',fr,r,(by cases e with
  | returned v=>exact(StepsIn.of_steps s).mono fun m _=>oW hF P m
  | panicked v=>exact(StepsIn.of_steps s).mono fun m _=>oW hF P m
  | outgrown=>exact s),x⟩⟩
def G0 (S:Nat->Nat->Prop):Gh:=⟨fun _=>none,fun _=>[],S,fun _=>Gt⟩
def eh (P:Program) (glob:Nat->Option (List Value)) (k:Nat) (args:List A) (r:A):Prop:=
 ∀ (S:Nat->Nat->Prop) (w:World) (cargs:List Value),(∀ k o,w.heap.size<=k->S k o)->(∀ (G:Nat) (vs:List Value),glob G=some vs->bt [] (G0 S) w G 0 vs)->bl [] (G0 S) w args cargs ->
  Calls P k cargs.toArray w fun e w'=>∃ c,e=.returned c/\Below w.heap.size w w'/\VR [] (G0 S) w' r c
variable {H H':ar} {g g':Gh} {w0 w w':World}
mutual
theorem mO {G:Nat->Nat->Nat->A} {S:Nat->Nat->Prop} (hS:∀ k o,dP H g k o->S k o) (hG:∀ b o m cl c,VR H g w (.sl b o m cl) c->VR [] (G0 S) w (G b o m) c):∀ (a:A) (c:Value),VR H g w a c->VR [] (G0 S) w (bZ G a) c
 | .any,_,_=>Sl
 | .v x,c,h=>by simp only[bZ]; rw[VR] at h ⊢; exact h
 | .ptr ..,_,_=>Sl
 | .ep ..,_,_=>Sl
 | .ip _,_,_=>Sl
 | .imm els clip,c,h=>by
  simp only[bZ]
  rw[VR] at h ⊢
  obtain ⟨a,cap,ds,es,h1,h2,h3,h4,h5,h6⟩:=h
  have hv:=hX hS hG els ds h6
  have hl:(cP G els).length=els.length:=by rw[<-hv.length,h6.length]
  exact⟨a,cap,ds,es,by rw[hl]; exact h1,by rw[hl]; exact h2,fun h=>(by cases h),h4,fun hp=>let ⟨k,off,e1,e2⟩:=h5 (by rw[hl] at hp; exact hp); ⟨k,off,e1,fun j v hj=>⟨(e2 j v hj).1,hS _ _ (e2 j v hj).2,fun b hb=>by cases hb⟩⟩,hv⟩
 | .sl b o m cl,c,h=>by simp only[bZ]; exact hG b o m cl c h
 | .agg cs,c,h=>by
  simp only[bZ]
  rw[VR] at h ⊢
  obtain ⟨ds,h1,h2⟩:=h
  exact⟨ds,h1,jj hS hG cs _ h2⟩
 | .tup cs,c,h=>by
  simp only[bZ]
  rw[VR] at h ⊢
  obtain ⟨ds,h1,h2⟩:=h
  exact⟨ds,h1,jj hS hG cs _ h2⟩
 | .fn f [] [],c,h=>by
  simp only[bZ]
  rw[VR] at h ⊢
  obtain ⟨ds,es,h1,h2,h3⟩:=h
  rw[bl] at h2 h3
  exact⟨ds,es,h1,by rw[bl]; exact h2,by rw[bl]; exact h3⟩
 | .fn _ (_ :: _) _,_,_=>Sl
 | .fn _ [] (_ :: _),_,_=>Sl
 | .yld _,c,h=>Sl
 | .nq _,c,h=>Sl
 | .mr _,c,h=>Sl
 | .mv k ks vs,c,h=>by
  simp only[bZ]
  rw[VR] at h ⊢
  obtain ⟨r,arr,cl,h1,h2,h3,h4,h5⟩:=h
  exact⟨r,arr,cl,h1,⟨hS _ _ h2,fun b hb=>by cases hb⟩,h3,h4,jj hS hG vs _ h5⟩
 | .ifc t x,c,h=>by
  simp only[bZ]
  rw[VR] at h ⊢
  obtain ⟨d,h1,h2⟩:=h
  exact⟨d,h1,mO hS hG x d h2⟩
theorem jj {G:Nat->Nat->Nat->A} {S:Nat->Nat->Prop} (hS:∀ k o,dP H g k o->S k o) (hG:∀ b o m cl c,VR H g w (.sl b o m cl) c->VR [] (G0 S) w (G b o m) c):∀ (cs:List A) (ds:List Value),bl H g w cs ds->bl [] (G0 S) w (aX G cs) ds
 | [],_,h=>by simp only[aX]; rw[bl] at h ⊢; exact h
 | a :: as,_,h=>by
  simp only[aX]
  rw[bl] at h ⊢
  obtain ⟨d,ds',h1,h2,h3⟩:=h
  exact⟨d,ds',h1,mO hS hG a d h2,jj hS hG as ds' h3⟩
theorem hX {G:Nat->Nat->Nat->A} {S:Nat->Nat->Prop} (hS:∀ k o,dP H g k o->S k o) (hG:∀ b o m cl c,VR H g w (.sl b o m cl) c->VR [] (G0 S) w (G b o m) c):∀ (cs:List (List A)) (ds:List (List Value)),bf H g w cs ds->bf [] (G0 S) w (cP G cs) ds
 | [],_,h=>by simp only[cP]; rw[bf] at h ⊢; exact h
 | a :: as,_,h=>by
  simp only[cP]
  rw[bf] at h ⊢
  obtain ⟨d,ds',h1,h2,h3⟩:=h
  exact⟨d,ds',h1,jj hS hG a d h2,hX hS hG as ds' h3⟩
end
theorem uk {ds:List (List Value)} {es k o m:Nat} {arr:Array Value} {ty:TypeId} (hd:∀ d∈ds,d.length=es) (ha:w.heap[k]? = some (.cells arr ty (0,0))) (h:∀ (j:Nat) (v:Value),ds.flatten[j]? = some v->arr[j]? = some v) {j:Nat} {v:Value} (hj:((ds.drop o).take m).flatten[j]? = some v):w.cell? ⟨k,o*es+j,none⟩=some v:=by
 rw[Ud w k _ arr ty (0,0) ha]
 refine h _ v ?_
 have e1:ds=ds.take o++((ds.drop o).take m++(ds.drop o).drop m):=by rw[T3,T3]
 by_cases ho:o<=ds.length
 ·have hl:(ds.take o).flatten.length=o*es:=by
   have:∀ l:List (List Value),(∀ d∈l,d.length=es)->l.flatten.length=l.length*es:=fun l hl=>by
    induction l with
    | nil=>simp
    | cons x l ih=>rw[TR,SX,hl x r8,ih (fun d hd=>hl d (by simp[hd])),SW,TB]; omega
   rw[this _ (fun d hd'=>hd d (S2 hd')),Tz,Ug ho]
  rw[e1,Ur,S3 o3,hl,show o*es+j - o*es=j by omega,Ur]
  rw[SP (SB.1 hj).1]
  exact hj
 ·rw[List.drop_eq_nil_of_le o3] at hj
  simp at hj
theorem pg (hr:Rel H g w0 w):∀ (q b o m:Nat) (cl:Bool) (c:Value),VR H g w (.sl b o m cl) c->VR [] (G0 (dP H g)) w (gS q H b o m) c
 | 0,_,_,_,_,_,_=>by simp only[gS]; rw[VR]; trivial
 | q+1,b,o,m,cl,c,h=>by
  simp only[gS]
  split
  ·rename_i es els hb
   rw[VR,hb] at h
   obtain ⟨h0,a,cap,rfl,h1,h2,h3,_⟩:=h
   obtain ⟨hga,hgl⟩:=hr.blk b _ hb
   have hv:=hX (fun _ _ h=>h) (fun b o m cl c h=>pg hr q b o m cl c h) _ _ ((hga.drop o).take m)
   have hl:(cP (gS q H) ((els.drop o).take m)).length=m:=by rw[<-hv.length]; simp[hga.length]; omega
   rw[VR]
   exact⟨a,cap,_,es,by rw[hl],by rw[hl]; exact h1,fun h=>(by cases h),fun d hd=>hgl d (S4 (S2 hd)),fun hp=>let ⟨k,off,e1,e2⟩:=h3 (by rw[hl] at hp; exact hp); ⟨k,off,e1,fun j v hj=>⟨(e2 j v hj).1,(e2 j v hj).2,fun b hb=>by cases hb⟩⟩,hv⟩
  ·rw[VR]; trivial
theorem kV (hr:Rel H g w0 w):∀ (q b o m:Nat) (cl:Bool) (c:Value),VR H g w (.sl b o m cl) c->VR [] (G0 g.S) w (hJ q H b o m) c
 | 0,_,_,_,_,_,_=>by simp only[hJ]; rw[VR]; trivial
 | q+1,b,o,m,cl,c,h=>by
  simp only[hJ]
  split
  ·rename_i wr es els hb
   rw[VR,hb] at h
   have hS:∀ k o,dP H g k o->g.S k o:=fun k o h=>h.1
   cases wr with
   | false=>
    obtain ⟨h0,a,cap,rfl,h1,h2,h3,_⟩:=h
    obtain ⟨hga,hgl⟩:=hr.blk b _ hb
    have hv:=hX hS (fun b o m cl c h=>kV hr q b o m cl c h) _ _ ((hga.drop o).take m)
    have hl:(cP (hJ q H) ((els.drop o).take m)).length=m:=by rw[<-hv.length]; simp[hga.length]; omega
    rw[VR]
    exact⟨a,cap,_,es,by rw[hl],by rw[hl]; exact h1,fun h=>(by cases h),fun d hd=>hgl d (S4 (S2 hd)),fun hp=>let ⟨k,off,e1,e2⟩:=h3 (by rw[hl] at hp; exact hp); ⟨k,off,e1,fun j v hj=>⟨(e2 j v hj).1,(e2 j v hj).2.1,fun b hb=>by cases hb⟩⟩,hv⟩
   | true=>
    obtain ⟨h0,a,cap,rfl,h1,h2,h3,_⟩:=h
    obtain ⟨ds,d1,d2,d3⟩:=hr.blk b _ hb
    have hv:=hX hS (fun b o m cl c h=>kV hr q b o m cl c h) _ _ ((d1.drop o).take m)
    have hl:(cP (hJ q H) ((els.drop o).take m)).length=m:=by rw[<-hv.length]; simp[d1.length]; omega
    rw[VR]
    refine⟨a,cap,_,es,by rw[hl],by rw[hl]; exact h1,fun h=>(by cases h),fun d hd=>d2 d (S4 (S2 hd)),fun hp=>?_,hv⟩
    rw[hl] at hp
    obtain ⟨k,hk,ha⟩:=h3 hp
    obtain ⟨k',arr,ty,m1,m2,m3⟩:=d3 o3
    rw[hk] at m1; cases m1
    exact⟨k,o*es,ha,fun j v hj=>⟨uk d2 m2 m3 hj,hr.own b k _ hk,fun b hb=>by cases hb⟩⟩
  ·rw[VR]; trivial
theorem bl.Gg {S:ar}:∀ (o:Nat) {cs:List A} {ds:List Value},bl S g w cs ds->bl S g w (cs.drop o) (ds.drop o)
 | 0,_,_,h=>h
 | o+1,[],_,h=>by rw[bl] at h; subst h; rw[List.drop_nil,List.drop_nil,bl]
 | o+1,a :: as,_,h=>by rw[bl] at h; obtain ⟨d,ds',rfl,_,h3⟩:=h; exact bl.Gg o h3
theorem sB (hr:Rel H g w0 w):∀ (n:Nat) (a:A) (c:Value),VR H g w a c->VR [] (G0 g.S) w (jR n H a) c
 | 0,a,_,_=>by rw[show jR 0 H a=.any from rfl,VR]; trivial
 | n+1,a,c,h=>by
  have hm:∀ (cs:List A) (ds:List Value),bl H g w cs ds->bl [] (G0 g.S) w (cs.map (jR n H)) ds:=fun cs=>by
   induction cs with
   | nil=>intro ds h; rw[bl] at h; rw[V0,bl]; exact h
   | cons a as ih=>intro ds h; rw[bl] at h; obtain ⟨d,ds',h1,h2,h3⟩:=h; rw[TS,bl]; exact⟨d,ds',h1,sB hr n a d h2,ih ds' h3⟩
  cases a with
  | ptr b o=>
   show VR [] (G0 g.S) w (match H[b]? with | some (.box cs)=>A.ip ((cs.drop o).map (jR n H)) | _=>.any) c
   split
   ·rename_i cs hb
    rw[VR,hb] at h
    obtain ⟨k,h1,rfl⟩:=h
    obtain ⟨k',arr,ty,e1,e2,e3⟩:=hr.blk b _ hb
    rw[h1] at e1; cases e1
    rw[VR]
    refine⟨k,o,arr.toList.drop o,rfl,fun j v hj=>⟨?_,hr.own b k _ h1,fun b hb=>by cases hb⟩,hm _ _ (e3.Gg o)⟩
    rw[Ud w k _ arr ty (0,0) e2]
    rw[TL] at hj
    simpa using hj
   ·rw[VR]; trivial
  | fn f p q=>
   rw[VR] at h
   obtain ⟨ds,es,h1,h2,h3⟩:=h
   show VR [] (G0 g.S) w (.fn f (p.map (jR n H)) (q.map (jR n H))) c
   rw[VR]
   exact⟨ds,es,h1,hm _ _ h2,hm _ _ h3⟩
  | agg cs=>
   rw[VR] at h
   obtain ⟨ds,h1,h2⟩:=h
   show VR [] (G0 g.S) w (.agg (cs.map (jR n H))) c
   rw[VR]
   exact⟨ds,h1,hm _ _ h2⟩
  | _=>exact mO (fun _ _ h=>h.1) (fun b o m cl c h=>kV hr 4 b o m cl c h) _ c h
theorem DF (hr:Rel H g w0 w) (a:A) (c:Value) (h:VR H g w a c):VR [] (G0 g.S) w (br H a) c:=by
 unfold br
 split
 ·rename_i b
  split
  ·rename_i k ks vs hb
   rw[VR,hb] at h
   obtain ⟨r,h1,h2⟩:=h
   obtain ⟨r',arr,cl,e1,e2,e3,e4⟩:=hr.blk b _ hb
   rw[h1] at e1; cases e1
   rw[VR]
   exact⟨r,arr,cl,h2,⟨hr.own b r 0 h1,fun b hb=>by cases hb⟩,e2,e3,jj (fun _ _ h=>h.1) (fun b o m cl c h=>kV hr 4 b o m cl c h) _ _ e4⟩
  ·rw[VR]; trivial
 ·exact sB hr 6 _ c h
 ·exact mO (fun _ _ h=>h.1) (fun b o m cl c h=>kV hr 4 b o m cl c h) a c h
theorem ur (hr:Rel H g w0 w) (n:Nat):∀ (cs:List A) (ds:List Value),bl H g w cs ds->bl [] (G0 g.S) w (cs.map (jR n H)) ds
 | [],_,h=>by rw[bl] at h; rw[V0,bl]; exact h
 | a :: as,_,h=>by rw[bl] at h; obtain ⟨d,ds',h1,h2,h3⟩:=h; rw[TS,bl]; exact⟨d,ds',h1,sB hr n a d h2,ur hr n as ds' h3⟩
theorem ph (hr:Rel H g w0 w) (a:A) (c:Value) (h:VR H g w a c):VR [] (G0 (dP H g)) w (snap H a) c:=mO (fun _ _ h=>h) (fun b o m cl c h=>pg hr 4 b o m cl c h) a c h
theorem xA (hr:Rel H g w0 w) {l:List A} {cs:List Value} (h:bl H g w l cs):bl [] (G0 (dP H g)) w (l.map (snap H)) cs:=by
 obtain ⟨h1,h2⟩:=de.1 h
 refine de.2 ⟨by simpa using h1,fun i a d ha hd=>?_⟩
 rw[Td] at ha
 cases hx:l[i]? with
 | none=>rw[hx] at ha; cases ha
 | some x=>rw[hx] at ha; cases ha; exact ph hr x d (h2 i x d hx hd)
theorem VR.back {S:Nat->Nat->Prop} {x:A} {c:Value} (hS:∀ k o,S k o->dP H g k o) (h:VR [] (G0 S) w x c):VR H g w x c:=
 VR.eG (H:=[]) (g:=G0 S) ⟨fun k o _ hs hc=>⟨hc,hS k o hs.1⟩,fun b B hB=>(by simp at hB),fun k arr cl hs hm=>⟨hm,hS k 0 hs.1⟩⟩ x c h
theorem Em (hr:Rel H g w0 w) {a:A} {c:Value} (h:VR H g w a c):VR H g w (AK H a) c:=by
 unfold AK
 split
 ·exact VR.back (fun _ _ h=>h) (ph hr _ c h)
 ·rw[VR] at h ⊢
  obtain ⟨a,cap,ds,es,h1,h2,_,h4,h5,h6⟩:=h
  exact⟨a,cap,ds,es,h1,h2,fun h=>(by cases h),h4,h5,h6⟩
 ·exact h
theorem wT (hr:Rel H g w0 w):∀ {cs:List A} {ds:List Value},bl H g w cs ds->bl H g w (cs.map (AK H)) ds
 | [],_,h=>h
 | a :: as,_,h=>by
  rw[bl] at h
  obtain ⟨d,ds',rfl,h1,h2⟩:=h
  rw[TS,bl]
  exact⟨d,ds',rfl,Em hr h1,wT hr h2⟩
theorem zH (hr:Rel H g w0 w) {a:A} {c:Value} (h:VR H g w a c):VR H g w (cY H a) c:=by
 unfold cY
 split
 ·exact VR.back (fun _ _ h=>h) (ph hr _ c h)
 ·rw[VR] at h ⊢
  obtain ⟨ds,h1,h2⟩:=h
  exact⟨ds,h1,wT hr h2⟩
 ·exact h
theorem Ig (hr:Rel H g w0 w) {b a:A} {c:Value} (h:VR H g w a c):VR H g w (bN b H a) c:=by
 unfold bN
 split
 ·exact zH hr h
 ·exact h
theorem Ft (hr:Rel H g w0 w) {p:Bool} {b a:A} {c:Value} (h:VR H g w a c):VR H g w (DH p b H a) c:=by
 cases p with
 | true=>exact h
 | false=>exact Ig hr h
theorem Ext.refl (hr:Rel H g w0 w):Ext H g w H g w:=Ext.below hr (Below.refl _ _)
theorem Ext.trans {H1 H2 H3:ar} {g1 g2 g3:Gh} {w1 w2 w3:World} (h:Ext H1 g1 w1 H2 g2 w2) (k:Ext H2 g2 w2 H3 g3 w3):Ext H1 g1 w1 H3 g3 w3:=by
 refine⟨fun a o v hs hc=>?_,fun b B hB=>?_,fun a o ho=>k.kept a o (h.kept a o ho),SZ h.size k.size,fun a arr cl hs hm=>let ⟨c1,s1⟩:=h.map a arr cl hs hm; k.map a arr cl s1 c1,fun a ha hn=>(k.obj a (SQ ha h.size) fun b hb=>?_).trans (h.obj a ha hn),fun b a hb=>?_⟩
 rotate_right 2
 ·rcases h.fresh b a hb with ⟨c,hc⟩ | hle
  ·exact hn c hc
  ·omega
 ·rcases k.fresh b a hb with ⟨c,hc⟩ | hle
  ·exact h.fresh c a hc
  ·exact .inr (SZ h.size hle)
 ·obtain ⟨c1,s1⟩:=h.cell a o v hs hc
  exact k.cell a o v s1 c1
 ·obtain ⟨B2,hB2,t1⟩:=h.blk b B hB
  obtain ⟨B3,hB3,t2⟩:=k.blk b B2 hB2
  refine⟨B3,hB3,?_⟩
  by_cases hB0:B=.hole
  ·subst hB0; trivial
  cases B3 with
  | dead=>cases B with
   | row wr _ _=>cases wr<;>trivial
   | _=>trivial
  | hole=>cases B2 with
   | hole=>cases B with
    | row wr _ _=>cases wr<;>exact False.elim t1
    | hole=>exact absurd rfl hB0
    | _=>exact False.elim t1
   | row wr _ _=>cases wr<;>exact False.elim t2
   | _=>exact False.elim t2
  | box cs3=>cases B2 with
   | box cs2=>cases B with
    | box cs=>exact Eq.trans t2 t1
    | row wr _ _=>cases wr<;>exact False.elim t1
    | rng _=>exact False.elim t1
    | mp _ _ _=>exact False.elim t1
    | dead=>exact False.elim t1
    | hole=>exact absurd rfl hB0
   | row wr _ _=>cases wr<;>exact False.elim t2
   | rng _=>exact False.elim t2
   | mp _ _ _=>exact False.elim t2
   | dead=>exact False.elim t2
   | hole=>cases B with
    | hole=>exact absurd rfl hB0
    | row wr _ _=>cases wr<;>exact False.elim t1
    | _=>exact False.elim t1
  | rng st3=>cases B2 with
   | rng st2=>cases B with
    | rng st=>exact⟨t2.1.trans t1.1,t2.2.trans t1.2⟩
    | row wr _ _=>cases wr<;>exact False.elim t1
    | box _=>exact False.elim t1
    | mp _ _ _=>exact False.elim t1
    | dead=>exact False.elim t1
    | hole=>exact absurd rfl hB0
   | row wr _ _=>cases wr<;>exact False.elim t2
   | box _=>exact False.elim t2
   | mp _ _ _=>exact False.elim t2
   | dead=>exact False.elim t2
   | hole=>cases B with
    | hole=>exact absurd rfl hB0
    | row wr _ _=>cases wr<;>exact False.elim t1
    | _=>exact False.elim t1
  | mp k3 ks3 vs3=>cases B2 with
   | mp k2 ks2 vs2=>cases B with
    | mp _ _ _=>exact Eq.trans t2 t1
    | rng _=>exact False.elim t1
    | row wr _ _=>cases wr<;>exact False.elim t1
    | box _=>exact False.elim t1
    | dead=>exact False.elim t1
    | hole=>exact absurd rfl hB0
   | row wr _ _=>cases wr<;>exact False.elim t2
   | box _=>exact False.elim t2
   | rng _=>exact False.elim t2
   | dead=>exact False.elim t2
   | hole=>cases B with
    | hole=>exact absurd rfl hB0
    | row wr _ _=>cases wr<;>exact False.elim t1
    | _=>exact False.elim t1
  | row wr3 es3 els3=>cases wr3 with
   | true=>cases B2 with
    | box _=>exact False.elim t2
    | rng _=>exact False.elim t2
    | mp _ _ _=>exact False.elim t2
    | dead=>exact False.elim t2
    | hole=>cases B with
     | hole=>exact absurd rfl hB0
     | row wr _ _=>cases wr<;>exact False.elim t1
     | _=>exact False.elim t1
    | row wr2 es2 els2=>cases wr2 with
     | false=>exact False.elim t2
     | true=>cases B with
      | box _=>exact False.elim t1
      | rng _=>exact False.elim t1
      | mp _ _ _=>exact False.elim t1
      | dead=>exact False.elim t1
      | hole=>exact absurd rfl hB0
      | row wr es els=>cases wr with
       | false=>exact False.elim t1
       | true=>
        obtain ⟨a1,a2,a3,a4⟩:=t1
        obtain ⟨b1,b2,b3,b4⟩:=t2
        refine⟨b1.trans a1,b2.trans a2,b3.trans a3,fun k arr ty hk ha=>?_⟩
        obtain ⟨arr1,c1,c2⟩:=a4 k arr ty hk ha
        obtain ⟨arr2,c3,c4⟩:=b4 k arr1 ty (a3.trans hk) c1
        exact⟨arr2,c3,SZ c2 c4⟩
   | false=>cases B2 with
    | box _=>exact False.elim t2
    | rng _=>exact False.elim t2
    | mp _ _ _=>exact False.elim t2
    | dead=>exact False.elim t2
    | hole=>cases B with
     | hole=>exact absurd rfl hB0
     | row wr _ _=>cases wr<;>exact False.elim t1
     | _=>exact False.elim t1
    | row wr2 es2 els2=>cases wr2 with
     | true=>exact False.elim t2
     | false=>cases B with
      | box _=>exact False.elim t1
      | rng _=>exact False.elim t1
      | mp _ _ _=>exact False.elim t1
      | dead=>exact False.elim t1
      | hole=>exact absurd rfl hB0
      | row wr es els=>cases wr with
       | true=>exact False.elim t1
       | false=>
        obtain ⟨a1,⟨r1,a2⟩,a3,a4,a5⟩:=t1
        obtain ⟨b1,⟨r2,b2⟩,b3,b4,b5⟩:=t2
        refine⟨b1.trans a1,⟨r1++r2,by rw[b2,a2,Tt]⟩,a3,o3,fun hl=>?_⟩
        obtain ⟨c1,c2⟩:=a5 o3
        obtain ⟨d1,d2⟩:=b5 o3
        refine⟨d1.trans c1,fun j arr ty hj ha=>?_⟩
        obtain ⟨arr',e1,e2⟩:=c2 j arr ty hj ha
        obtain ⟨arr'',f1,f2⟩:=d2 j arr' ty (c1.trans hj) e1
        exact⟨arr'',f1,o3⟩
structure SR (cx:Cx) (s:St) (g:Gh) (w0:World) (a:Act) (w:World):Prop where
 rel:Rel s.H g w0 w
 fr:∀ t,VR s.H g w (look s.fr t) (a.tmps.getD t undef)
 gl:∀ (G:Nat) (vs:List Value),cx.glob G=some vs->bt s.H g w G 0 vs
variable {cx:Cx} {s:St} {a:Act}
structure sO (cx:Cx) (s:St) (g:Gh) (w0:World) (o:Op) (ev:Operand->Value) (w:World):Prop where
 rel:Rel s.H g w0 w
 op:∀ x∈o.operands.toList,VR s.H g w (bM cx s x) (ev x)
 k:∀ x,ev (.const x)=x
theorem Ep {G:Nat} {vs:List Value} (h:bt H g w G 0 vs):VR H g w (.ip (vs.map .v)) (.pointer (some ⟨G,0,none⟩)):=by
 rw[VR]
 exact⟨G,0,vs,rfl,h,de.2 ⟨r8,fun i x d hx hd=>by rw[Td,hd] at hx; cases hx; rw[VR]⟩⟩
theorem od {x:Operand} (hf:∀ t,x=.tmp t->VR s.H g w (look s.fr t) (a.tmps.getD t undef)) (gl:∀ (G:Nat) (vs:List Value),cx.glob G=some vs->bt s.H g w G 0 vs):VR s.H g w (bM cx s x) (a.eval x):=by
 cases x with
 | tmp t=>exact hf t rfl
 | const v=>exact oa v
 | global G=>
  show VR s.H g w (match cx.glob G with | some vs=>.ip (vs.map .v) | none=>.any) _
  cases hG:cx.glob G with
  | none=>rw[VR]; trivial
  | some vs=>exact Ep (gl G vs hG)
 | func f=>
  show VR s.H g w (.fn (.func f) [] []) (.func (.func f) #[] #[])
  rw[VR]; exact⟨#[],#[],rfl,u3,u3⟩
theorem SR.PZ (h:SR cx s g w0 a w) (o:Op):sO cx s g w0 o a.eval w:=⟨h.rel,fun _ _=>od (fun t _=>h.fr t) h.gl,fun _=>rfl⟩
variable {o:Op} {ev:Operand->Value}
theorem sO.one (h:sO cx s g w0 o ev w) (x:Operand) (hx:x∈o.operands.toList):VR s.H g w (bM cx s x) (ev x):=h.op x hx
theorem sO.many (h:sO cx s g w0 o ev w) (l:List Operand) (hl:∀ x∈l,x∈o.operands.toList):bl s.H g w (l.map (bM cx s)) (l.map ev):=
 de.2 ⟨r8,fun i x d hx hd=>by
  simp only[Td,Te] at hx hd
  obtain ⟨y,hy,rfl⟩:=hx
  obtain ⟨y',hy',rfl⟩:=hd
  rw[hy] at hy'; cases hy'
  exact h.op y (hl y (S1 hy))⟩
theorem sO.parts (h:sO cx s g w0 o ev w) (l:Array (Nat×Operand)) (hl:∀ p∈l.toList,p.2∈o.operands.toList):mf s.H g w (l.toList.map fun p=>(p.1,bM cx s p.2)) (l.map fun (i,x)=>(i,ev x)).toList:=
 ⟨r8,fun i p hp=>by
  simp only[Td,Te] at hp
  obtain ⟨q,hq,rfl⟩:=hp
  refine⟨(q.1,ev q.2),?_,rfl,h.op _ (hl q (S1 hq))⟩
  simp[hq]⟩
theorem sO.Dp (h:sO cx s g w0 o ev w) (l:Array (Nat×Operand)) (hl:∀ p∈l.toList,p.2∈o.operands.toList):mf s.H g w (l.toList.map fun p=>(p.1,cY s.H (bM cx s p.2))) (l.map fun (i,x)=>(i,ev x)).toList:=
 ⟨r8,fun i p hp=>by
  simp only[Td,Te] at hp
  obtain ⟨q,hq,rfl⟩:=hp
  refine⟨(q.1,ev q.2),?_,rfl,zH h.rel (h.op _ (hl q (S1 hq)))⟩
  simp[hq]⟩
theorem sO.opt (h:sO cx s g w0 o ev w) (x:Option Operand) (hx:∀ y,x=some y->y∈o.operands.toList):G2 s.H g w (x.map (bM cx s)) (x.map ev):=by
 cases x with
 | none=>trivial
 | some x=>exact h.op x (hx x rfl)
theorem dI (fr:List (Nat×A)) (d t:Nat) (x:A):look ((d,x) :: fr) t=if d=t then x else look fr t:=by
 show (bif Nat.beq d t then x else look fr t)=_
 by_cases e:d=t
 ·subst e; simp
 ·have:Nat.beq d t=false:=by cases hb:Nat.beq d t with
   | false=>rfl
   | true=>exact absurd (SM hb) e
  rw[this,SI e]; rfl
theorem SR.step (h:SR cx s g w0 a w) {H':ar} (hr:Rel H' g' w0 w') (he:Ext s.H g w H' g' w') {dst:Option Nat} {x:A} {c:Value} (hx:VR H' g' w' x c) (hd:∀ d,dst=some d->d<a.tmps.size):SR cx (({ s with H:=H' }:St).put dst x) g' w0 (a.put dst c) w':=by
 have hH:(({ s with H:=H' }:St).put dst x).H=H':=by cases dst<;>rfl
 refine⟨by rw[hH]; exact hr,fun t=>?_,fun G vs hG=>by rw[hH]; exact(h.gl G vs hG).ext he⟩
 rw[hH]
 cases dst with
 | none=>exact VR.ext he _ _ (h.fr t)
 | some d=>
  show VR H' g' w' (look ((d,x) :: s.fr) t) _
  rw[dI]
  by_cases e:d=t
  ·subst e
   rw[SH rfl]
   have:=hd d rfl
   simp only[Act.put]
   rw[TD,Vb this]
   exact hx
  ·rw[SI e]
   simp only[Act.put]
   rw[TD,Ux e,<-TD]
   exact VR.ext he _ _ (h.fr t)
def kW (s:St) (g:Gh) (w0 w:World) (lo:Nat) (res:Result Next) (K:A->ar->Prop):Prop:=
 ∃ c w' x H' g',(res=.ok (.value c) w'∨(res=.ok .skip w'/\c=undef))/\K x H'/\Rel H' g' w0 w'/\Ext s.H g w H' g' w'/\VR H' g' w' x c/\s.H.length<=H'.length/\(∀ b,b<lo->b<s.H.length->H'[b]? = s.H[b]?)/\g'.S=g.S
theorem kW.same {lo:Nat} {res:Result Next} {K:A->ar->Prop} (h:Rel s.H g w0 w) {x:A} {c:Value} (hres:res=.ok (.value c) w) (hK:K x s.H) (hx:VR s.H g w x c):kW s g w0 w lo res K:=
 ⟨c,w,x,s.H,g,.inl hres,hK,h,Ext.refl h,hx,Sy _,fun _ _ _=>rfl,rfl⟩
theorem kW.fresh {lo:Nat} {res:Result Next} {K:A->ar->Prop} (h:Rel s.H g w0 w) {x:A} {c:Value} (hres:res=.ok (.value c) w') (hb:Below w.heap.size w w') (hK:K x s.H) (hx:VR s.H g w' x c):kW s g w0 w lo res K:=
 ⟨c,w',x,s.H,g,.inl hres,hK,h.dY hb,Ext.below h hb,hx,Sy _,fun _ _ _=>rfl,rfl⟩
theorem kW.jN {lo:Nat} {res:Result Value} {res':Result Next} {K:A->ar->Prop} {x:A} {H':ar} (h:Step s.H g w0 w lo res x H') (hres:∀ d w',res=.ok d w'->res'=.ok (.value d) w') (hK:K x H'):kW s g w0 w lo res' K:=
 let ⟨d,w',g',e1,e2,e3,e4,e5,e6,e7⟩:=h; ⟨d,w',x,H',g',.inl (hres d w' e1),hK,e2,e3,e4,e5,e6,e7⟩
theorem hY {P:Program} {sem:Sem Value} {d:Value} (h:sem.run P w=.ok d w'):(do pure (.value (<-sem)):Sem Next).run P w=.ok (.value d) w':=by simp[h]
theorem pC {P:Program} {mn:Bool}:∀ {ys:List A} {ds:List Value} {x z:A} {c:Value},DR mn x ys=some z->VR H g w x c->bl H g w ys ds->∃ d,(ds.foldlM (if mn then Builtin.min2 else Builtin.max2) c).run P w=.ok d w/\VR H g w z d
 | [],ds,x,z,c,h,hx,hy=>by
  rw[bl] at hy
  subst hy
  simp only[DR,Ta] at h
  subst h
  exact⟨c,r8,hx⟩
 | y :: r,ds,x,z,c,h,hx,hy=>by
  rw[bl] at hy
  obtain ⟨d,ds',rfl,hy1,hy2⟩:=hy
  simp only[DR] at h
  obtain ⟨u,h1,h2⟩:=bn h
  unfold zt at h1
  split at h1
  ·rename_i k p l q
   obtain ⟨h3,h4⟩:=bc h1
   cases h4
   rw[VR] at hx hy1
   subst hx; subst hy1
   have hu:VR H g w (.v (.int k (if mn=true then (if q<p then q else p) else (if p<q then q else p)))) (.int k (if mn=true then (if q<p then q else p) else (if p<q then q else p))):=s6
   obtain ⟨e,e1,e2⟩:=pC (P:=P) h2 hu hy2
   refine⟨e,?_,e2⟩
   rw[List.foldlM_cons,Tf]
   cases mn
   ·simp only[S5,Vk] at e1 ⊢
    simp only[Builtin.max2,gt_iff_lt,UO,S7]
    exact e1
   ·simp only[Vd] at e1 ⊢
    simp only[Builtin.min2,UO,S7]
    exact e1
  ·cases h1
theorem oD {l:Array Operand} {xs:List Operand} (h:l.toList=xs):l=xs.toArray:=by rw[<-h]
theorem yq {β:Type} {f lo:Nat} {o:Oper} {c:Call} {k:A->ar->Option β} {r:β} (hs:sO cx s g w0 (.call c) ev w) (h:oQ cx f lo o.dst c s k=some r):kW s g w0 w lo ((do let d <-resolve ev c o.type; invoke d.target d.args:Sem Next).run cx.P w) (fun x H'=>k x H'=some r):=by
 unfold oQ at h
 obtain ⟨callee,args,argTypes⟩:=c
 simp only at h
 split at h
 ·rename_i x t e1 e2
  cases oD e1
  have ht:argTypes=#[t]:=by rw[<-VB (xs:=argTypes),e2]
  subst ht
  replace h:=bn h
  obtain ⟨z,h1,h⟩:=h
  obtain ⟨d,e1,e2⟩:=yc (ty:=o.type) h1 (hs.one x (by simp[Op.operands,Call.operands]))
  exact kW.same hs.rel (by simp[resolve,invoke,builtin,e1]) h e2
 ·rename_i x y t t2 e1 e2
  cases oD e1
  have ht:argTypes=#[t,t2]:=by rw[<-VB (xs:=argTypes),e2]
  subst ht
  replace h:=bn h
  obtain ⟨⟨z,H'⟩,h1,h⟩:=h
  exact kW.jN (sR (ty:=o.type) hs.rel h1 (hs.one x (by simp[Op.operands,Call.operands])) (hs.one y (by simp[Op.operands,Call.operands]))) (fun d w' e=>by simp[resolve,invoke,builtin,e]) h
 ·rename_i x y t t2 e1 e2
  cases oD e1
  have ht:argTypes=#[t,t2]:=by rw[<-VB (xs:=argTypes),e2]
  subst ht
  replace h:=bn h
  obtain ⟨⟨z,H'⟩,h1,h⟩:=h
  exact kW.jN (we (t2:=t2) (ty:=o.type) hs.rel h1 (hs.one x (by simp[Op.operands,Call.operands])) (hs.one y (by simp[Op.operands,Call.operands]))) (fun d w' e=>by simp[resolve,invoke,builtin,e]) h
 ·rename_i x r e1
  cases oD e1
  replace h:=bn h
  obtain ⟨z,h1,h⟩:=h
  obtain ⟨d,e1,e2⟩:=pC (P:=cx.P) h1 (hs.one x (by simp[Op.operands,Call.operands])) (hs.many r (by simp[Op.operands,Call.operands]; exact fun y hy=>.inr hy))
  simp only[Vd] at e1
  exact kW.same hs.rel (by simp[resolve,invoke,builtin,Builtin.min_,e1]) h e2
 ·rename_i x r e1
  cases oD e1
  replace h:=bn h
  obtain ⟨z,h1,h⟩:=h
  obtain ⟨d,e1,e2⟩:=pC (P:=cx.P) h1 (hs.one x (by simp[Op.operands,Call.operands])) (hs.many r (by simp[Op.operands,Call.operands]; exact fun y hy=>.inr hy))
  simp only[S5,Vk] at e1
  exact kW.same hs.rel (by simp[resolve,invoke,builtin,Builtin.max_,e1]) h e2
 ·cases h
theorem Av {P:Program} {H:ar} {t:TypeId} {op:BinOp} {p y:Operand} {x z:A} {c d:Value} (hn:HD op y=true) (h:G3 P t x=some z) (hx:VR H g w x c) (hd:∀ v,y=.const v->d=v) :
  ∃ e,(do eqGuard op t p y c d; binOp op t c d:Sem Value).run P w=.ok e w/\VR H g w z e:=by
 unfold HD at hn
 split at hn
 ·have hd:=hd _ rfl
  subst hd
  unfold G3 at h
  split at h
  ·rename_i e els cl hu
   cases h
   rw[VR] at hx
   obtain ⟨a,cap,ds,es,rfl,h1,h2,h3,h4,h5⟩:=hx
   have hem:a.isNone=true->els=[]:=fun hb=>by
    cases els with
    | nil=>rfl
    | cons x l=>
     obtain ⟨k,off,e1,_⟩:=h4 r8
     rw[e1] at hb; cases hb
   refine⟨.bool a.isNone,?_,by rw[VR]; exact⟨_,rfl,hem⟩⟩
   ·have h1:=Lib.run_eql_slice_nil (P:=P) w t e a els.length cap 0 0 hu
    have h2:(eqGuard .eql t p (.const (.slice none 0 0)) (.slice a els.length cap) (.slice none 0 0)).run P w=.ok () w:=by cases a<;>rfl
    simp only[Tf,h2,S7,h1]
  ·cases h
 ·cases hn
theorem yM {H:ar} {a:A} {c:Value} (h:pO H a=true) (hv:VR H g w a c):(∃ ad,c=.pointer (some ad))∨∃ f x y,c=.func (.func f) x y:=by
 cases a with
 | ptr b o=>
  rw[VR] at hv
  simp only[pO,fY] at h
  cases hb:H[b]? with
  | none=>rw[hb] at h; cases h
  | some B=>cases B with
   | box _=>rw[hb] at hv; obtain ⟨k,_,e⟩:=hv; exact .inl ⟨_,e⟩
   | _=>rw[hb] at h; cases h
 | ep b i o=>
  rw[VR] at hv
  simp only[pO,fY] at h
  cases hb:H[b]? with
  | none=>rw[hb] at h; cases h
  | some B=>cases B with
   | row wr _ _=>cases wr with
    | true=>rw[hb] at hv; obtain ⟨_,k,_,e⟩:=hv; exact .inl ⟨_,e⟩
    | false=>rw[hb] at h; cases h
   | _=>rw[hb] at h; cases h
 | ip cs=>rw[VR] at hv; obtain ⟨_,_,_,e,_⟩:=hv; exact .inl ⟨_,e⟩
 | fn f x y=>cases f with
  | func k=>rw[VR] at hv; obtain ⟨_,_,e,_⟩:=hv; exact .inr ⟨_,_,_,e⟩
  | _=>cases h
 | _=>cases h
theorem jJ {β:Type} {f lo:Nat} {o:Oper} {k:A->ar->Option β} {r:β} (hs:sO cx s g w0 o.op ev w) (h:bw cx f lo o s k=some r):kW s g w0 w lo ((execOp ev o).run cx.P w) (fun x H'=>k x H'=some r):=by
 unfold bw at h
 unfold execOp
 split at h
 ·rename_i x ho
  rw[ho] at hs ⊢; exact kW.same hs.rel rfl h (hs.one x (by simp[Op.operands]))
 ·rename_i x ho
  rw[ho] at hs ⊢; exact kW.same hs.rel rfl h (hs.one x (by simp[Op.operands]))
 ·rename_i t ho
  rw[ho] at hs ⊢
  replace h:=bn h
  obtain ⟨⟨y,H'⟩,h1,h⟩:=h
  unfold nM at h1
  rw[bp] at h1
  split at h1
  ·exact kW.jN (sQ hs.rel lo h1) (fun d w' e=>hY e) h
  exact kW.jN (uH hs.rel lo h1) (fun d w' e=>hY e) h
 ·rename_i t x ho
  rw[ho] at hs ⊢
  replace h:=bn h
  obtain ⟨⟨y,H'⟩,h1,h⟩:=h
  unfold ye at h1
  rw[bp] at h1
  split at h1
  ·exact kW.jN (wc hs.rel lo h1 (hs.one x (by simp[Op.operands]))) (fun d w' e=>hY e) h
  exact kW.jN (xX hs.rel lo h1 (hs.one x (by simp[Op.operands]))) (fun d w' e=>hY e) h
 ·rename_i t parts ho
  rw[ho] at hs ⊢
  replace h:=bn h
  obtain ⟨y,h1,h⟩:=h
  obtain ⟨d,e1,e2⟩:=uK h1 (hs.parts parts (by simp[Op.operands]; exact fun a b h=>⟨a,h⟩))
  exact kW.same hs.rel (hY e1) h e2
 ·rename_i t n parts ho
  rw[ho] at hs ⊢
  replace h:=bn h
  obtain ⟨y,h1,h⟩:=h
  obtain ⟨d,w',e1,e2,e3⟩:=oz hs.rel h1 (hs.Dp parts (by simp[Op.operands]; exact fun a b h=>⟨a,h⟩))
  exact kW.fresh hs.rel (hY e1) e2 h e3
 ·rename_i t x ho
  rw[ho] at hs ⊢
  replace h:=bn h
  obtain ⟨y,h1,h⟩:=h
  obtain ⟨d,e1,e2⟩:=p6 hs.rel h1 (hs.one x (by simp[Op.operands]))
  exact kW.same hs.rel (hY e1) h e2
 ·rename_i t x y ho
  rw[ho] at hs ⊢
  replace h:=bn h
  obtain ⟨H',h1,h⟩:=h
  obtain ⟨w',e1,e2,e3,e4,e5⟩:=uO hs.rel h1 (hs.one x (by simp[Op.operands])) (Ft hs.rel (hs.one y (by simp[Op.operands])))
  exact⟨undef,w',.any,H',g,.inr ⟨by simp[e1],rfl⟩,h,e2,e3,Sm,e4,e5,rfl⟩
 ·rename_i op t x y t2 ho
  rw[ho] at hs ⊢
  replace h:=bn h
  obtain ⟨z,h1,h⟩:=h
  unfold Jd at h1
  rw[bp] at h1
  split at h1
  ·rename_i hn
   obtain ⟨d,e1,e2⟩:=Av (p:=x) (d:=ev y) hn h1 (hs.one x (by simp[Op.operands])) (fun v hv=>by subst hv; exact hs.k v)
   exact kW.same hs.rel (hY e1) h e2
  obtain ⟨d,e1,e2⟩:=xV (p:=x) (q:=y) h1 (hs.one x (by simp[Op.operands])) (hs.one y (by simp[Op.operands]))
  exact kW.same hs.rel (hY e1) h e2
 ·rename_i op t x ho
  rw[ho] at hs ⊢
  replace h:=bn h
  obtain ⟨z,h1,h⟩:=h
  obtain ⟨d,e1,e2⟩:=Aw h1 (hs.one x (by simp[Op.operands]))
  exact kW.same hs.rel (hY e1) h e2
 ·rename_i t u x ho
  rw[ho] at hs ⊢
  replace h:=bn h
  obtain ⟨z,h1,h⟩:=h
  obtain ⟨d,w',e1,e2,e3⟩:=qN hs.rel h1 (hs.one x (by simp[Op.operands]))
  exact kW.fresh hs.rel (hY e1) e2 h e3
 ·rename_i t x ho
  rw[ho] at hs ⊢
  replace h:=bn h
  obtain ⟨z,h1,h⟩:=h
  obtain ⟨d,e1,e2⟩:=ya h1 (hs.one x (by simp[Op.operands]))
  exact kW.same hs.rel (hY e1) h e2
 ·rename_i fn p q ho
  rw[ho] at hs ⊢
  refine kW.same hs.rel (c:=.func fn (p.map ev) (q.map ev)) (by simp[Instr.makeFunc]) h ?_
  rw[VR]
  refine⟨_,_,rfl,?_,?_⟩
  ·rw[Array.toList_map]; exact hs.many _ (by simp[Op.operands]; intro x hx; simp[hx])
  ·rw[Array.toList_map]; exact hs.many _ (by simp[Op.operands]; intro x hx; simp[hx])
 ·rename_i t n c ho
  rw[ho] at hs ⊢
  replace h:=bn h
  obtain ⟨⟨y,H'⟩,h1,h⟩:=h
  unfold rT at h1
  rw[bp] at h1
  split at h1
  ·obtain ⟨rfl,d,w',e1,e2,e3⟩:=qQ hs.rel h1 (hs.one n (by simp[Op.operands])) (hs.one c (by simp[Op.operands]))
   exact kW.fresh hs.rel (hY e1) e2 h e3
  exact kW.jN (jG hs.rel lo h1 (hs.one n (by simp[Op.operands])) (hs.one c (by simp[Op.operands]))) (fun d w' e=>hY e) h
 ·rename_i t x lo' hi mx ho
  rw[ho] at hs ⊢
  replace h:=bn h
  obtain ⟨z,h1,h⟩:=h
  replace h1:=bc h1
  obtain ⟨hhm,h1⟩:=h1
  obtain ⟨d,e1,e2⟩:=uN hs.rel h1 (hs.one x (by simp[Op.operands])) (hs.opt lo' (by rintro y rfl; simp[Op.operands])) (hs.opt hi (by rintro y rfl; simp[Op.operands])) (hs.opt mx (by rintro y rfl; simp[Op.operands])) (by cases mx<;>cases hi<;>simp at hhm ⊢)
  exact kW.same hs.rel (hY e1) h e2
 ·rename_i t x i ho
  rw[ho] at hs ⊢
  replace h:=bn h
  obtain ⟨z,h1,h⟩:=h
  obtain ⟨d,e1,e2⟩:=pA h1 (hs.one x (by simp[Op.operands]))
  exact kW.same hs.rel (hY e1) h e2
 ·rename_i t x i ho
  rw[ho] at hs ⊢
  replace h:=bn h
  obtain ⟨z,h1,h⟩:=h
  obtain ⟨d,e1,e2⟩:=uL h1 (hs.one x (by simp[Op.operands]))
  exact kW.same hs.rel (hY e1) h e2
 ·rename_i t x i ho
  rw[ho] at hs ⊢
  replace h:=bn h
  obtain ⟨z,h1,h⟩:=h
  obtain ⟨d,e1,e2⟩:=pB hs.rel h1 (hs.one x (by simp[Op.operands])) (hs.one i (by simp[Op.operands]))
  exact kW.same hs.rel (hY e1) h e2
 ·rename_i t x i ho
  rw[ho] at hs ⊢
  replace h:=bn h
  obtain ⟨z,h1,h⟩:=h
  obtain ⟨d,e1,e2⟩:=uM h1 (hs.one x (by simp[Op.operands])) (hs.one i (by simp[Op.operands]))
  exact kW.same hs.rel (hY e1) h e2
 ·rename_i x i ho
  rw[ho] at hs ⊢
  replace h:=bn h
  obtain ⟨z,h1,h⟩:=h
  obtain ⟨d,e1,e2⟩:=qO h1 (hs.one x (by simp[Op.operands]))
  exact kW.same hs.rel (hY e1) h e2
 ·rename_i x ho
  rw[ho] at hs ⊢
  obtain ⟨y,h1,h⟩:=bn h
  obtain ⟨hn,e0⟩:=bc h1
  cases e0
  have hv:=hs.one x (by simp[Op.operands])
  refine kW.same hs.rel (c:=ev x) ?_ h hv
  rcases yM hn hv with ⟨ad,e⟩ | ⟨f,a,b,e⟩
  ·simp only[e]; rfl
  ·simp only[e]; rfl
 ·rename_i t ho
  rw[ho] at hs ⊢
  replace h:=bn h
  obtain ⟨⟨y,H'⟩,h1,h⟩:=h
  exact kW.jN (qS hs.rel lo h1) (fun d w' e=>hY e) h
 ·rename_i t m i x ho
  rw[ho] at hs ⊢
  replace h:=bn h
  obtain ⟨H',h1,h⟩:=h
  obtain ⟨w',e1,e2,e3,e4,e5⟩:=ny hs.rel h1 (hs.one m (by simp[Op.operands])) (hs.one i (by simp[Op.operands])) (hs.one x (by simp[Op.operands]))
  exact⟨undef,w',.any,H',g,.inr ⟨by simp[e1],rfl⟩,h,e2,e3,Sm,e4,e5,rfl⟩
 ·rename_i t m i x ho
  rw[ho] at hs ⊢
  replace h:=bn h
  obtain ⟨H',h1,h⟩:=h
  obtain ⟨w',e1,e2,e3,e4,e5⟩:=ny hs.rel h1 (hs.one m (by simp[Op.operands])) (hs.one i (by simp[Op.operands])) (hs.one x (by simp[Op.operands]))
  exact⟨undef,w',.any,H',g,.inr ⟨by simp[e1],rfl⟩,h,e2,e3,Sm,e4,e5,rfl⟩
 ·rename_i t m i c ho
  rw[ho] at hs ⊢
  replace h:=bn h
  obtain ⟨z,h1,h⟩:=h
  obtain ⟨d,e1,e2⟩:=sU hs.rel h1 (hs.one m (by simp[Op.operands])) (hs.one i (by simp[Op.operands]))
  exact kW.same hs.rel (hY e1) h e2
 ·rename_i x t u c ho
  rw[ho] at hs ⊢
  replace h:=bn h
  obtain ⟨z,h1,h⟩:=h
  obtain ⟨d,e1,e2⟩:=sS h1 (hs.one x (by simp[Op.operands]))
  exact kW.same hs.rel (hY e1) h e2
 ·rename_i c ho
  rw[ho] at hs ⊢
  exact yq hs h
 ·cases h
end
section
open Go.RowKit
variable {H H':ar} {g g':Gh} {w0 w w':World}
theorem Rel.kill (hr:Rel H g w0 w) {b:Nat} (hb:b<H.length):Rel (H.set b .dead) (g.put b none []) w0 w/\Ext H g w (H.set b .dead) (g.put b none []) w:=by
 have hget:∀ c,c≠b->(H.set b .dead)[c]? = H[c]?:=fun c hc=>SO (TF hc)
 have hgetb:(H.set b aD.dead)[b]? = some .dead:=SY hb
 have hmu:∀ {c k},(g.put b none []).mu c=some k->c≠b/\g.mu c=some k:=fun {c k} h=>by
  by_cases e:c=b
  ·subst e; rw[Gh.bq] at h; cases h
  ·exact⟨e,by rwa [Gh.ay _ _ _ e] at h⟩
 have he:Ext H g w (H.set b .dead) (g.put b none []) w:=by
  have hst:∀ {k o},dP H g k o->dP (H.set b .dead) (g.put b none []) k o:=fun {k o} hs=>by
   refine⟨hs.1,fun c hck=>?_⟩
   obtain ⟨h1,h2⟩:=hmu hck
   obtain ⟨es,els,h3,h4⟩:=hs.2 c h2
   exact⟨es,els,by rw[hget c h1]; exact h3,h4⟩
  refine⟨fun k o v hs hc=>⟨hc,hst hs⟩,fun c B' hB'=>?_,fun _ _ h=>h,Sy _,fun k arr cl hs hm=>⟨hm,hst hs⟩,fun _ _ _=>rfl,fun c k h=>.inl ⟨c,(hmu h).2⟩⟩
  ·by_cases e:c=b
   ·subst e
    refine⟨.dead,hgetb,?_⟩
    cases B' with
    | row wr _ _=>cases wr<;>trivial
    | _=>trivial
   ·refine⟨B',by rw[hget c e]; exact hB',?_⟩
    cases B' with
    | box _=>exact Gh.ay _ _ _ e
    | row wr es els=>cases wr with
     | true=>exact⟨rfl,rfl,Gh.ay _ _ _ e,fun k arr ty hk' ha=>⟨arr,ha,Sy _⟩⟩
     | false=>exact⟨rfl,⟨[],by rw[Gh.dK _ _ _ e]; simp⟩,(hr.blk c _ hB').len,Sy _,fun _=>⟨Gh.ay _ _ _ e,fun k arr ty hk' ha=>⟨arr,ha,Sy _⟩⟩⟩
    | rng _=>exact⟨Gh.ay _ _ _ e,rfl⟩
    | mp _ _ _=>exact Gh.ay _ _ _ e
    | dead=>trivial
    | hole=>trivial
 refine⟨⟨hr.below,fun c k hck=>?_,fun c d k h1 h2=>hr.inj c d k (hmu h1).2 (hmu h2).2,hr.xk he,hr.vD he,fun c B' hB'=>?_⟩,he⟩
 ·obtain ⟨_,h2⟩:=hmu hck
  have:=hr.dom c k h2
  exact⟨by simpa using this.1,this.2⟩
 ·by_cases e:c=b
  ·subst e
   rw[hgetb] at hB'; cases hB'
   exact Gh.bq _ _ _ _
  ·rw[hget c e] at hB'
   have h:=hr.blk c B' hB'
   cases B' with
   | box cs=>obtain ⟨k,arr,ty,h1,h2,h3⟩:=h; exact⟨k,arr,ty,(Gh.ay _ _ _ e).trans h1,h2,bl.ext he _ _ h3⟩
   | row wr es els=>cases wr with
    | true=>
     obtain ⟨ds,h1,h2,h3⟩:=h
     exact⟨ds,bf.ext he _ _ h1,h2,fun hp=>let ⟨k,arr,ty,e1,e2,e3⟩:=h3 hp; ⟨k,arr,ty,(Gh.ay _ _ _ e).trans e1,e2,e3⟩⟩
    | false=>
     obtain ⟨h1,h2⟩:=h
     refine⟨?_,?_⟩
     ·rw[Gh.dK _ _ _ e]; exact bf.ext he _ _ h1
     ·rw[Gh.dK _ _ _ e]; exact h2
   | rng st=>obtain ⟨k,h1,h2⟩:=h; exact⟨k,(Gh.ay _ _ _ e).trans h1,h2⟩
   | mp _ _ _=>obtain ⟨k,arr,cl,h1,h2,h3,h4⟩:=h; exact⟨k,arr,cl,(Gh.ay _ _ _ e).trans h1,h2,h3,bl.ext he _ _ h4⟩
   | dead=>exact(Gh.ay _ _ _ e).trans h
   | hole=>exact(Gh.ay _ _ _ e).trans h
theorem zN (hr:Rel H g w0 w) {lo:Nat} {x:A} {c:Value} {r:A×ar} (hk:mj lo x H=some r) (h:VR H g w x c):∃ g',Rel r.2 g' w0 w/\Ext H g w r.2 g' w/\VR r.2 g' w r.1 c/\r.2.length=H.length/\(∀ b,b<lo->b<H.length->r.2[b]? = H[b]?)/\g'.S=g.S:=by
 unfold mj at hk
 split at hk
 ·rename_i b o n cl
  split at hk
  ·rename_i es els hb
   obtain ⟨hlo,hk⟩:=bc hk
   cases hk
   have hlo:lo<=b:=by simpa using hlo
   have hbl:=(SB.1 hb).1
   obtain ⟨h1,h2⟩:=hr.kill hbl
   refine⟨_,h1,h2,?_,r8,fun b' hb' _=>SO o3,rfl⟩
   rw[VR,hb] at h
   obtain ⟨h0,a,cap,rfl,e1,e2,e3,_⟩:=h
   obtain ⟨ds,d1,d2,d3⟩:=hr.blk b _ hb
   have hv:=hX (S:=dP H g) (fun _ _ h=>h) (fun b o m cl c h=>pg hr 4 b o m cl c h) _ _ ((d1.drop o).take n)
   have hl:(cP (gS 4 H) ((els.drop o).take n)).length=n:=by rw[<-hv.length]; simp[d1.length]; omega
   rw[VR]
   refine⟨a,cap,(ds.drop o).take n,es,by rw[hl],by rw[hl]; exact e1,fun h=>(by cases h),fun d hd=>d2 d (S4 (S2 hd)),fun hp=>?_,?_⟩
   ·rw[hl] at hp
    obtain ⟨k,hk,ha⟩:=e3 hp
    obtain ⟨k',arr,ty,m1,m2,m3⟩:=d3 o3
    rw[hk] at m1; cases m1
    refine⟨k,o*es,ha,fun j v hj=>⟨uk d2 m2 m3 hj,hr.own b k _ hk,fun c hc=>?_⟩⟩
    exfalso
    by_cases e:c=b
    ·subst e; rw[Gh.bq] at hc; cases hc
    ·rw[Gh.ay _ _ _ e] at hc
     exact e (hr.inj c b k hc hk)
   ·exact bf.ext h2 _ _ (bf.eG (H:=[]) (g:=G0 (dP H g)) ⟨fun k o _ hs hc=>⟨hc,hs.1⟩,fun b B hB=>(by simp at hB),fun k arr cl hs hm=>⟨hm,hs.1⟩⟩ _ _ hv)
  ·rename_i es els hb
   cases hk
   refine⟨g,hr,Ext.refl hr,?_,rfl,fun _ _ _=>rfl,rfl⟩
   exact VR.back (fun _ _ h=>h) (by have:=pg hr 5 b o n cl c h; unfold gS at this; rw[hb] at this; exact this)
  ·cases hk
 ·rename_i b o
  split at hk
  ·rename_i cs hb
   obtain ⟨hlo,hk⟩:=bc hk
   cases hk
   rw[Sz] at hlo
   have hlo':lo<=b:=SF hlo.1
   have ho:o=0:=SM hlo.2
   subst ho
   have hbl:=(SB.1 hb).1
   obtain ⟨h1,h2⟩:=hr.kill hbl
   refine⟨_,h1,h2,?_,r8,fun b' hb' _=>SO o3,rfl⟩
   rw[VR,hb] at h
   obtain ⟨k,hk,rfl⟩:=h
   obtain ⟨k',arr,ty,m1,m2,m3⟩:=hr.blk b _ hb
   rw[hk] at m1; cases m1
   rw[VR]
   refine⟨k,0,arr.toList,rfl,fun j v hj=>⟨?_,hr.own b k _ hk,fun c hc=>?_⟩,bl.ext h2 _ _ m3⟩
   ·rw[Th,Ud w k j arr ty (0,0) m2]; simpa using hj
   ·exfalso
    by_cases e:c=b
    ·subst e; rw[Gh.bq] at hc; cases hc
    ·rw[Gh.ay _ _ _ e] at hc
     exact e (hr.inj c b k hc hk)
  ·cases hk
 ·cases hk
  exact⟨g,hr,Ext.refl hr,h,rfl,fun _ _ _=>rfl,rfl⟩
 ·cases hk
theorem Rel.RZ (hr:Rel H g w0 w) {k:Nat} {arr:Array Value} {ty:TypeId} (hk:w0.heap.size<=k) (hw:w.heap[k]? = some (.cells arr ty (0,0))) (hn:∀ b,g.mu b≠some k) (f:Nat×Nat) :
  Rel H g w0 (w.putObj k (.cells arr ty f))/\vP H g w H g (w.putObj k (.cells arr ty f))/\∀ {H0:ar} {g0:Gh} {c0:Nat},Ext H0 g0 w H g w->g0.mu c0=some k->Ext H0 g0 w H g (w.putObj k (.cells arr ty f)):=by
 have hlt:k<w.heap.size:=(SE.1 hw).1
 have hoth:∀ j,j≠k->(w.putObj k (.cells arr ty f)).heap[j]? = w.heap[j]?:=fun j hj=>TW hj
 have hsz:(w.putObj k (.cells arr ty f)).heap.size=w.heap.size:=r8
 have hcell:∀ j o v,w.cell? ⟨j,o,none⟩=some v->(w.putObj k (.cells arr ty f)).cell? ⟨j,o,none⟩=some v:=fun j o v hc=>by
  by_cases e:j=k
  ·subst e
   rw[Ud w j o arr ty (0,0) hw] at hc
   rw[Ud _ j o arr ty f (Vo hlt)]
   exact hc
  ·exact(Ul (a:=⟨j,o,none⟩) (hoth j e)).trans hc
 have hne:∀ {c j},g.mu c=some j->j≠k:=fun {c j} h e=>hn c (e ▸ h)
 have he:vP H g w H g (w.putObj k (.cells arr ty f)):=by
  refine⟨fun j o v hs hc=>⟨hcell j o v hc,hs⟩,fun c C hC=>⟨C,hC,?_⟩,fun j marr cl hs hm=>⟨(hoth j (fun e=>by subst e; rw[hw] at hm; cases hm)).trans hm,hs⟩⟩
  cases C with
  | box _=>rfl
  | row wr es els=>cases wr with
   | true=>exact⟨rfl,rfl,rfl,fun j arr ty hj ha=>⟨arr,(hoth j (hne hj)).trans ha,Sy _⟩⟩
   | false=>exact⟨rfl,⟨[],r8⟩,(hr.blk c _ hC).len,Sy _,fun _=>⟨rfl,fun j arr ty hj ha=>⟨arr,(hoth j (hne hj)).trans ha,Sy _⟩⟩⟩
  | rng _=>exact⟨rfl,rfl⟩
  | mp _ _ _=>rfl
  | dead=>trivial
  | hole=>trivial
 refine⟨⟨hr.below.trans ((Below.refl w0.heap.size w).grown (V6 w k _) (hr.below.size) (fun j e=>by cases e; exact hk)),fun c j hc=>⟨(hr.dom c j hc).1,(hr.dom c j hc).2.1,by rw[hsz]; exact(hr.dom c j hc).2.2⟩,hr.inj,(by rw[hsz]; exact hr.out),hr.own,fun c C hC=>?_⟩,he,fun {H0 g0 c0} hp hc0=>⟨fun j o v hs hc=>let ⟨q1,q2⟩:=hp.cell j o v hs hc; ⟨hcell j o v q1,q2⟩,fun c C hC=>?_,fun j x h=>(hoth j (fun e=>by subst e; rw[hw] at h; cases h)).trans h,by rw[hsz]; exact Sy _,fun j marr cl hs hm=>⟨(hoth j (fun e=>by subst e; rw[hw] at hm; cases hm)).trans hm,(hp.map j marr cl hs hm).2⟩,fun j _ hj=>hoth j (fun e=>hj c0 (e ▸ hc0)),hp.fresh⟩⟩
 rotate_left 1
 ·obtain ⟨C',hC',ht⟩:=hp.blk c C hC
  refine⟨C',hC',?_⟩
  cases C with
  | row wr es els=>cases wr with
   | true=>cases C' with
    | row wr' es' els'=>cases wr' with
     | true=>
      obtain ⟨t1,t2,t3,t4⟩:=ht
      exact⟨t1,t2,t3,fun j arr ty hj ha=>⟨arr,(hoth j (hne (t3.trans hj))).trans ha,Sy _⟩⟩
     | false=>exact ht
    | _=>exact ht
   | false=>cases C' with
    | row wr' es' els'=>cases wr' with
     | true=>exact ht
     | false=>
      obtain ⟨t1,t2,t3,t4,t5⟩:=ht
      exact⟨t1,t2,t3,t4,fun hl=>⟨(t5 hl).1,fun j arr ty hj ha=>⟨arr,(hoth j (hne ((t5 hl).1.trans hj))).trans ha,Sy _⟩⟩⟩
    | _=>exact ht
  | _=>cases C'<;>exact ht
 have h:=hr.blk c C hC
 cases C with
 | box cs=>obtain ⟨j,arr',ty',h1,h2,h3⟩:=h; exact⟨j,arr',ty',h1,(hoth j (hne h1)).trans h2,bl.eG he _ _ h3⟩
 | row wr es els=>cases wr with
  | true=>
   obtain ⟨ds,h1,h2,h3⟩:=h
   exact⟨ds,bf.eG he _ _ h1,h2,fun hp=>let ⟨j,arr',ty',e1,e2,e3⟩:=h3 hp; ⟨j,arr',ty',e1,(hoth j (hne e1)).trans e2,e3⟩⟩
  | false=>
   obtain ⟨h1,h2⟩:=h
   exact⟨bf.eG he _ _ h1,h2⟩
 | rng st=>obtain ⟨j,h1,h2⟩:=h; exact⟨j,h1,(hoth j (hne h1)).trans h2⟩
 | mp _ _ _=>obtain ⟨j,marr,cl,h1,h2,h3,h4⟩:=h; exact⟨j,marr,cl,h1,(hoth j (hne h1)).trans h2,h3,bl.eG he _ _ h4⟩
 | dead=>exact h
 | hole=>exact h
theorem sX {w:World} {k n:Nat} {arr:Array Value} {ty:TypeId} (hw:w.heap[k]? = some (.cells arr ty (0,0))):w.freeze ⟨k,n,none⟩ 1=w.putObj k (.cells arr ty (n,n+1)):=by
 unfold World.freeze World.putObj
 rw[SI (by decide)]
 congr 1
 apply Array.ext
 ·simp
 ·intro i h1 h2
  have hi:i<w.heap.size:=by simpa using h1
  rw[Wk,Array.getElem_setIfInBounds]
  by_cases h:k=i
  ·subst h
   have e:w.heap[k]=.cells arr ty (0,0):=by
    have:=(SE.1 hw).2
    exact this
   rw[SH rfl,SH rfl,e]
   simp
  ·rw[SI h,SI h]
theorem wg {P:Program} (hr:Rel H g w0 w) {lo:Nat} {s t:TypeId} {x:A} {c:Value} {r:A×ar} (h:BR P s t x H lo=some r) (hx:VR H g w x c) :
  Step H g w0 w lo ((convert s t c).run P w) r.1 r.2:=by
 unfold BR at h
 split at h
 ·rename_i e hs
  split at h
  ·rename_i he
   split at h
   ·rename_i b o n cl
    split at h
    ·rename_i es els hb
     obtain ⟨hc,hk⟩:=bc h
     rw[Sz] at hc
     have hst:s=t:=SM hc.1
     have hn:0<n:=SF hc.2
     subst hst
     have hx0:=hx
     rw[VR,hb] at hx
     obtain ⟨h0,a,cap,rfl,e1,e2,e3,_⟩:=hx
     obtain ⟨k,hk1,rfl⟩:=e3 hn
     obtain ⟨ds,d1,d2,d3⟩:=hr.blk b _ hb
     obtain ⟨k',arr,ty,m1,m2,m3⟩:=d3 o3
     rw[hk1] at m1; cases m1
     obtain ⟨g',r1,r2,r3,r4,r5,r6⟩:=zN hr hk hx0
     have hkk:r.2=H.set b .dead:=by
      simp only[mj,hb] at hk
      obtain ⟨_,hk⟩:=bc hk
      cases hk; rfl
     have hno:∀ c,g'.mu c≠some k:=fun c hc=>by
      have hcl:=(r1.dom c k hc).1
      rw[r4] at hcl
      obtain ⟨C,hC⟩:∃ C,H[c]? = some C:=⟨_,Sx hcl⟩
      obtain ⟨C',hC',hbt⟩:=r2.blk c C hC
      by_cases ecb:c=b
      ·subst ecb
       rw[hkk,SY hcl] at hC'
       cases hC'
       have:=r1.blk c .dead (by rw[hkk,SY hcl])
       rw[show g'.mu c=none from this] at hc; cases hc
      ·rw[hkk,SO (TF ecb),hC] at hC'
       cases hC'
       have hmu:g.mu c=some k∨C=.dead∨C=.hole:=by
        cases C with
        | box _=>left; exact(show g'.mu c=g.mu c from hbt).symm.trans hc
        | row wr es' els'=>cases wr with
         | true=>left; exact hbt.2.2.1.symm.trans hc
         | false=>left; exact(hbt.2.2.2.2 rfl).1.symm.trans hc
        | rng _=>left; exact hbt.1.symm.trans hc
        | mp _ _ _=>left; exact(show g'.mu c=g.mu c from hbt).symm.trans hc
        | dead=>right; left; rfl
        | hole=>right; right; rfl
       rcases hmu with h1 | rfl | rfl
       ·exact ecb (hr.inj c b k h1 hk1)
       ·have:=r1.blk c .dead (by rw[hkk,SO (TF ecb)]; exact hC)
        rw[show g'.mu c=none from this] at hc; cases hc
       ·have:=r1.blk c .hole (by rw[hkk,SO (TF ecb)]; exact hC)
        rw[show g'.mu c=none from this] at hc; cases hc
     obtain ⟨q1,q0,q2⟩:=r1.RZ (hr.dom b k hk1).2.1 m2 hno (arr.size,arr.size+1)
     refine⟨_,_,g',?_,q1,q2 r2 hk1,VR.eG q0 _ _ r3,Vj r4.symm,r5,r6⟩
     have hsh:w.shape? k=some (ty,arr.size):=by unfold World.shape?; rw[m2]
     rw[<-sX m2]
     simp[convert,SN hs,SN he,markStringish,hsh]
    ·cases h
   ·cases h
  ·cases h
 ·cases h
end
section
open Go.RowKit
variable {H H':ar} {g g':Gh} {w0 w w':World} {cx:Cx} {s:St} {a:Act} {F:Fence} {n:Nat}
def fN (H:ar) (g:Gh) (w0 w:World) (lo:Nat) (r:R) (e:Ending) (w':World):Prop:=∃ g',Rel r.2 g' w0 w'/\Ext H g w r.2 g' w'/\H.length<=r.2.length/\(∀ b,b<lo->b<H.length->r.2[b]? = H[b]?)/\g'.S=g.S ∧
  match r.1,e with
  | .ret x,.returned c=>VR r.2 g' w' x c
  | .pan x,.panicked ch=>∃ c,ch=[{ v:=c,recovered:=false }]/\VR r.2 g' w' x c
  | _,_=>False
structure ox (cx:Cx) (Bs:ar->Gh->World->Prop) (call:aU):Prop where
 up:∀ (H:ar) (g:Gh) (w:World) (H':ar) (g':Gh) (w':World),Bs H g w->Ext H g w H' g' w'->Bs H' g' w'
 yl:∀ (b:Nat) (args:List A) (H:ar) (lo:Nat) (r:R),call (cx.P.funcs.size+b) args H lo=some r->∀ (F:Fence) (n l:Nat) (g:Gh) (w0 w:World) (cargs:List Value),fP F->Bs H g w->Rel H g w0 w ->
  (∀ (G:Nat) (vs:List Value),cx.glob G=some vs->bt H g w G 0 vs)->bl H g w args cargs->g.mu b=some l->YieldAt F n cx.P l cargs.toArray w (fN H g w0 w lo r)
structure dz (cx:Cx) (Bs:ar->Gh->World->Prop) (call:aU):Prop extends ox cx Bs call where
 fn:∀ (k:Nat) (args:List A) (H:ar) (lo:Nat) (r:R),k<cx.P.funcs.size->call k args H lo=some r->∀ (F:Fence) (n:Nat) (g:Gh) (w0 w:World) (cargs:List Value),fP F->F.round=none->Bs H g w->Rel H g w0 w ->
  (∀ (G:Nat) (vs:List Value),cx.glob G=some vs->bt H g w G 0 vs)->bl H g w args cargs->CallsIn F n cx.P k cargs.toArray w (fN H g w0 w lo r)
 ct:∀ (k:Nat) (args:List A) (H:ar) (lo:Nat) (r:R),k<cx.P.funcs.size->cx.cut k≠0->cx.cut k<=H.length->call k args H lo=some r->r.2.length=H.length/\∀ b,cx.cut k<=b->r.2[b]? = H[b]?
theorem iw {P:Program} {k:Nat} (hk:cp P k=true):k<P.funcs.size:=by
 unfold cp at hk
 cases hf:P.funcs[k]? with
 | none=>rw[hf] at hk; cases hk
 | some fn=>exact(SE.1 hf).1
def jr (cx:Cx):Prop:=∀ k args r,(cx.isOrc k=true∨cx.isOrcV k=true∨cx.deep k=true)->cx.C k args=some r->eh cx.P cx.glob k args r
theorem Je {ev:Operand->Value} {c:Call} {gop:Operand} (hc:c.callee=.value gop) {k:Nat} {ds es:Array Value} (hv:ev gop=.func (.func k) ds es) (hk:cp cx.P k=true) (ty:TypeId) (w:World) :
  (do let d <-resolve ev c ty; invoke d.target d.args:Sem Next).run cx.P w=.ok (.enter k (ds++c.args.map ev++es)) w:=by
 unfold cp at hk
 cases hf:cx.P.funcs[k]? with
 | none=>rw[hf] at hk; cases hk
 | some fn=>
  rw[hf] at hk
  simp only[Sz,Tn] at hk
  have h1:¬ fn.body=none:=by intro hb; rw[hb] at hk; simp at hk
  have h2:¬ fn.name = "runtime.NumGoroutine" := by simpa using hk.2
  simp[resolve,hc,hv,Deferred.ofValue,invoke,callFunc,program,Sem.run,hf,h1,h2]
theorem jH {ev:Operand->Value} {o:Oper} {k:Nat} {args:List A} (hs:sO cx s g w0 o.op ev w) (h:callee? cx s o.op=some (k,args)):cp cx.P k=true ∧
  ∃ cargs:List Value,(execOp ev o).run cx.P w=.ok (.enter k cargs.toArray) w/\bl s.H g w args cargs:=by
 unfold callee? at h
 split at h
 ·rename_i c ho
  rw[ho] at hs
  split at h
  ·rename_i gop hgop
   split at h
   ·rename_i k' first cap hf
    obtain ⟨hcb,h⟩:=bc h
    cases h
    have hgv:=hs.one gop (by simp[Op.operands,Call.operands,hgop])
    rw[hf,VR] at hgv
    obtain ⟨ds,es,hev,h1,h2⟩:=hgv
    refine⟨hcb,ds.toList++(c.args.toList.map ev)++es.toList,?_,(h1.append (hs.many _ (fun x hx=>by simp[Op.operands,Call.operands,hgop]; exact .inr (by simpa using hx)))).append h2⟩
    have:=Je (cx:=cx) hgop hev hcb o.type w
    unfold execOp
    rw[ho]
    refine this.trans ?_
    congr 2
    apply Uz
    simp
   ·cases h
  ·cases h
 ·cases h
theorem DN {ev:Operand->Value} {o:Oper} {b:Nat} {args:List A} (hs:sO cx s g w0 o.op ev w) (h:yldOf? cx s o.op=some (b,args)) (hb:zM s.H b=true) :
  ∃ (l:Nat) (cargs:List Value),(execOp ev o).run cx.P w=(Instr.yield l cargs.toArray).run cx.P w/\bl s.H g w args cargs/\g.mu b=some l:=by
 have hblk:∃ st,s.H[b]? = some (.rng st):=by
  unfold zM at hb
  split at hb
  ·rename_i st h; exact⟨st,h⟩
  ·cases hb
 obtain ⟨st,hst⟩:=hblk
 unfold yldOf? at h
 split at h
 ·rename_i c ho
  rw[ho] at hs
  split at h
  ·rename_i gop hgop
   split at h
   ·rename_i b' hf
    cases h
    have hgv:=hs.one gop (by simp[Op.operands,Call.operands,hgop])
    rw[hf,VR,hst] at hgv
    obtain ⟨l,hl,hev⟩:=hgv
    refine⟨l,c.args.toList.map ev,?_,hs.many _ (fun x hx=>by simp[Op.operands,Call.operands,hgop]; exact .inr (by simpa using hx)),hl⟩
    unfold execOp
    rw[ho]
    have ea:(c.args.toList.map ev).toArray=c.args.map ev:=by apply Uz; simp
    rw[ea]
    simp[resolve,hgop,hev,Deferred.ofValue,invoke]
   ·cases h
  ·cases h
 ·cases h
theorem Marks.lC {B:Nat} {W W':World} {ds:List Deferred} (h:Marks B W ds) (hk:∀ (k:Nat) (x:Option (List Deferred)),W.heap[k]? = some (.deferred x)->W'.heap[k]? = some (.deferred x)):Marks B W' ds:=by
 obtain ⟨rs,e,h2,h3⟩:=h
 exact⟨rs,e,h2,fun r hr=>⟨(h3 r hr).1,hk r _ (h3 r hr).2⟩⟩
structure Mb where
 B:Nat
 base:List Deferred
 free:Bool
def gX (mb:Mb) (W:World) (ds:List Deferred):Prop:=∃ ms,ds=ms++mb.base/\Marks mb.B W ms/\(mb.free=false->ms=[])
theorem gX.lC {mb:Mb} {W W':World} {ds:List Deferred} (h:gX mb W ds) (hk:∀ (k:Nat) (x:Option (List Deferred)),W.heap[k]? = some (.deferred x)->W'.heap[k]? = some (.deferred x)):gX mb W' ds:=
 let ⟨ms,e,h1,h2⟩:=h; ⟨ms,e,h1.lC hk,h2⟩
theorem gX.start (B:Nat) (W:World) (ds:List Deferred) (fr:Bool):gX ⟨B,ds,fr⟩ W ds:=⟨[],rfl,Marks.nil _ _,fun _=>rfl⟩
structure Good (cx:Cx) (N:Nat) (mb:Mb) (lo:Nat) (H0:ar) (gs:Gh) (ws w0:World) (s:St) (g:Gh) (a:Act) (w:World):Prop where
 sr:SR cx s g w0 a w
 ext:Ext H0 gs ws s.H g w
 len:H0.length<=s.H.length
 low:∀ b,b<lo->b<H0.length->s.H[b]? = H0[b]?
 siz:a.tmps.size=N
 dfr:gX mb w a.defers
 mbw:mb.B<=w.heap.size
 st:g.S=gs.S
variable {N lo:Nat} {mb:Mb} {H0:ar} {gs:Gh} {ws:World} {Bs:ar->Gh->World->Prop}
theorem Act.pe (a:Act) (d:Option Nat) (v:Value):(a.put d v).tmps.size=a.tmps.size:=by cases d<;>simp[Act.put]
theorem Act.xn (a:Act) (d:Option Nat) (v:Value):(a.put d v).defers=a.defers:=by cases d<;>rfl
theorem Good.step (h:Good cx N mb lo H0 gs ws w0 s g a w) {H':ar} (hr:Rel H' g' w0 w') (he:Ext s.H g w H' g' w') (hl:s.H.length<=H'.length) (hlo:∀ b,b<lo->b<s.H.length->H'[b]? = s.H[b]?) (hst:g'.S=g.S) {dst:Option Nat} {x:A} {c:Value} (hx:VR H' g' w' x c) (hd:∀ d,dst=some d->d<N) :
  Good cx N mb lo H0 gs ws w0 (({ s with H:=H' }:St).put dst x) g' (a.put dst c) w':=by
 have hH:(({ s with H:=H' }:St).put dst x).H=H':=by cases dst<;>rfl
 refine⟨h.sr.step hr he hx (by rw[h.siz]; exact hd),by rw[hH]; exact h.ext.trans he,by rw[hH]; exact SZ h.len hl,fun b hb hb'=>?_,by rw[Act.pe]; exact h.siz,by rw[Act.xn]; exact h.dfr.lC he.kept,SZ h.mbw he.size,hst.trans h.st⟩
 rw[hH,hlo b hb (SQ hb' h.len)]
 exact h.low b hb hb'
theorem Good.same (h:Good cx N mb lo H0 gs ws w0 s g a w) {dst:Option Nat} {x:A} {c:Value} (hx:VR s.H g w x c) (hd:∀ d,dst=some d->d<N):Good cx N mb lo H0 gs ws w0 (s.put dst x) g (a.put dst c) w:=
 h.step (H':=s.H) h.sr.rel (Ext.refl h.sr.rel) (Sy _) (fun _ _ _=>rfl) rfl hx hd
theorem Good.lit (h:Good cx N mb lo H0 gs ws w0 s g a w) {t:Nat} {x:A} (hx:look s.fr t=x):Good cx N mb lo H0 gs ws w0 (s.put (some t) x) g a w:=by
 have hlk:∀ u,look (s.put (some t) x).fr u=look s.fr u:=fun u=>by
  show look ((t,x) :: s.fr) u=_
  rw[dI]; split
  ·rename_i e; rw[<-e,hx]
  ·rfl
 exact⟨⟨h.sr.rel,fun u=>by rw[hlk]; exact h.sr.fr u,h.sr.gl⟩,h.ext,h.len,h.low,h.siz,h.dfr,h.mbw,h.st⟩
theorem Ax {x:A} {p q:Option R} {r:R} {H:ar} {g:Gh} {w:World} {c:Value} (h:bh x p q=some r) (hv:VR H g w x c):∃ b,c=.bool b/\(if b=true then p else q)=some r:=by
 cases x with
 | nq els=>
  rw[VR] at hv
  obtain ⟨b,rfl,hb⟩:=hv
  refine⟨b,rfl,?_⟩
  simp only[bh,Jc] at h
  cases els with
  | nil=>
   obtain ⟨e,h⟩:=Ay h
   cases b
   ·exact h
   ·simp only[Vd]; rw[e]; exact h
  | cons a l=>
   cases b with
   | false=>exact h
   | true=>cases hb rfl
 | v y=>
  cases y with
  | bool b=>
   rw[VR] at hv
   subst hv
   refine⟨b,rfl,?_⟩
   cases b<;>exact h
  | _=>cases h
 | _=>cases h
theorem oE {β:Type} {x:A} {p q:Option β} {r:β} (h:cJ x p q=some r):∃ b,x=.v (.bool b)/\(if b then p else q)=some r:=by
 unfold cJ at h
 split at h
 ·rename_i b; exact⟨b,rfl,by cases b<;>exact h⟩
 ·cases h
theorem eP {Q:Exit->Act->World->Prop} {next:Act->World->Prop} {o:Oper} {res:Result Next} {c:Value} {w':World} (h:res=.ok (.value c) w'∨(res=.ok .skip w'/\c=undef)) (hn:next (a.put o.dst c) w'):o.uponIn F n cx.P a next Q res:=by
 rcases h with rfl | ⟨rfl,rfl⟩<;>exact hn
theorem dy {Q:Exit->Act->World->Prop} {next:Act->World->Prop} {o:Oper} (hF:fP F) (hnd:∀ c,o.op≠.defer c) (h:o.uponIn F n cx.P a next Q ((execOp a.eval o).run cx.P w)):o.wpIn F n cx.P a w next Q:=by
 refine⟨fun f _=>hF.2.1 f,?_⟩
 rw[Wm _ _ _ hnd]
 exact h
theorem mA {β:Type} {f lo:Nat} {o:Oper} {k:A->ar->Option β} {r:β} (h:bw cx f lo o s k=some r):∀ c,o.op≠.defer c:=fun c hc=>by
 unfold bw at h; rw[hc] at h; cases h
theorem yu {call:aU} (hcall:dz cx Bs call) (horc:jr cx) (hF:fP F) {f:Nat} {o:Oper} {k:St->Option R} {pan:A->St->Option R} {r:R} {next:Act->World->Prop} {Q:Exit->Act->World->Prop}
  (hb0:Bs H0 gs ws) (hg:Good cx N mb lo H0 gs ws w0 s g a w) (hd:∀ d,o.dst=some d->d<N) (h:rk cx call f lo o s k pan=some r)
  (hk:∀ s' g' a' w',Good cx N mb lo H0 gs ws w0 s' g' a' w'->k s'=some r->next a' w')
  (hp:∀ x s' g' w' c,Good cx N mb lo H0 gs ws w0 s' g' a w'->VR s'.H g' w' x c->pan x s'=some r->Q (.panic [{ v:=c,recovered:=false }]) a w'):o.wpIn F n cx.P a w next Q:=by
 have hs:=hg.sr.PZ o.op
 have direct:bw cx f lo o s (fun x H=>k ({ s with H:=H }.put o.dst x))=some r->o.wpIn F n cx.P a w next Q:=fun h=>by
  obtain ⟨c,w',x,H',g',e1,e2,e3,e4,e5,e6,e7,e8⟩:=jJ hs h
  exact dy hF (mA h) (eP e1 (hk _ _ _ _ (hg.step e3 e4 e6 e7 e8 e5 hd) e2))
 unfold rk at h
 split at h
 ·rename_i c x y ho
  obtain ⟨z,h0,h⟩:=bn h
  obtain ⟨b,hb,h0⟩:=oE h0
  have hc:=hs.one c (by rw[ho]; simp[Op.operands])
  have hx:=hs.one x (by rw[ho]; simp[Op.operands])
  have hy:=hs.one y (by rw[ho]; simp[Op.operands])
  rw[hb,VR] at hc
  refine dy hF (by rw[ho]; simp) (eP (c:=if b then a.eval x else a.eval y) (w':=w) (.inl ?_) ?_)
  ·unfold execOp
   rw[ho]
   simp[hc,asBool]
  ·cases b
   ·cases h0; exact hk _ _ _ _ (hg.same hy hd) h
   ·cases h0; exact hk _ _ _ _ (hg.same hx hd) h
 ·rename_i x ho
  have hx:=hs.one x (by rw[ho]; simp[Op.operands])
  unfold Fk at h
  split at h
  ·rename_i t y hy
   rw[hy] at hx
   have hx':=hx
   rw[VR] at hx
   obtain ⟨d,hd',_⟩:=hx
   refine dy hF (by rw[ho]; simp) ?_
   have hrun:(execOp a.eval o).run cx.P w=.halt (.panic (a.eval x)) w:=by
    unfold execOp
    rw[ho]
    show (do pure (.value (<-Instr.panic (a.eval x))):Sem Next).run cx.P w=_
    rw[hd']
    simp[Instr.panic,goPanic,Sem.run,Result.andThen]
   rw[hrun]
   exact hp _ s g w _ hg hx' h
  ·cases h
 ·rename_i t' n' parts ho
  rw[bp] at h
  split at h
  ·obtain ⟨q,h1,h2⟩:=bn h
   obtain ⟨d,w',g',e1,e2,e3,e4,e5,e6,e7⟩:=qk hg.sr.rel lo h1 (hs.Dp parts (by rw[ho]; simp[Op.operands]; exact fun a b h=>⟨a,h⟩))
   refine dy hF (by rw[ho]; simp) (eP (.inl ?_) (hk _ _ _ _ (hg.step e2 e3 e5 e6 e7 e4 hd) h2))
   unfold execOp
   rw[ho]
   exact hY e1
  ·exact direct h
 ·rename_i t' n' c' ho
  rw[bp] at h
  split at h
  ·obtain ⟨q,h1,h2⟩:=bn h
   obtain ⟨d,w',g',e1,e2,e3,e4,e5,e6,e7⟩:=jG hg.sr.rel lo h1 (hs.one n' (by rw[ho]; simp[Op.operands])) (hs.one c' (by rw[ho]; simp[Op.operands]))
   refine dy hF (by rw[ho]; simp) (eP (.inl ?_) (hk _ _ _ _ (hg.step e2 e3 e5 e6 e7 e4 hd) h2))
   unfold execOp
   rw[ho]
   exact hY e1
  ·exact direct h
 ·rename_i t' t'' x ho
  rw[bp] at h
  split at h
  ·obtain ⟨q,h1,h2⟩:=bn h
   obtain ⟨d,w',g',e1,e2,e3,e4,e5,e6,e7⟩:=wg hg.sr.rel h1 (hs.one x (by rw[ho]; simp[Op.operands]))
   refine dy hF (by rw[ho]; simp) (eP (.inl ?_) (hk _ _ _ _ (hg.step e2 e3 e5 e6 e7 e4 hd) h2))
   unfold execOp
   rw[ho]
   exact hY e1
  ·exact direct h
 ·rename_i c ho
  rw[bp] at h
  split at h
  ·rw[rh] at h
   unfold GJ at h
   split at h
   ·rename_i p hy
    obtain ⟨b,args⟩:=p
    obtain ⟨hrb,h⟩:=bc h
    obtain ⟨l,cargs,hrun,hv,hl⟩:=DN hs hy hrb
    refine dy hF (by rw[ho]; simp) ?_
    replace h:=bn h
    obtain ⟨⟨out,H'⟩,hy,h⟩:=h
    obtain ⟨fn',tm',as',bo',hrun',hR⟩:=hcall.yl b args s.H lo (out,H') hy F (n - 1) l g w0 w cargs hF (hcall.up _ _ _ _ _ _ hb0 hg.ext) hg.sr.rel hg.sr.gl hv hl
    rw[hrun,hrun',Oper.uponIn_round]
    refine⟨fun hd=>(by rw[hF.1] at hd; cases hd),hR.mono ?_⟩
    rintro e w' ⟨g',e1,e2,e3,e4,e6,e5⟩
    cases out with
    | ret x=>
     cases e with
     | returned c'=>exact hk _ _ _ _ (hg.step e1 e2 e3 e4 e6 e5 hd) h
     | panicked _=>exact e5.elim
     | outgrown=>exact e5.elim
    | pan x=>cases h
   replace h:=bn h
   obtain ⟨⟨k',args⟩,hce,h⟩:=h
   obtain ⟨hcb,cargs,hrun,hv⟩:=jH hs hce
   refine dy hF (by rw[ho]; simp) ?_
   rw[hrun,Oper.uponIn_enter]
   refine⟨fun hd=>(by rw[hF.1] at hd; cases hd),?_⟩
   rw[bp] at h
   split at h
   ·rename_i hiso
    replace h:=bn h
    obtain ⟨y,hy,h⟩:=h
    have hr:=hg.sr.rel
    have hst:∀ k o,w.heap.size<=k->dP s.H g k o:=fun k o hk=>⟨hr.out k o hk,fun b hb=>absurd (hr.dom b k hb).2.2 o3⟩
    have hcallok:=horc k' _ y (.inl hiso) hy (dP s.H g) w cargs hst (fun G vs hG j v hj=>let ⟨e1,e2⟩:=hg.sr.gl G vs hG j v hj; ⟨e1,e2,fun b hb=>by cases hb⟩) (xA hr hv)
    refine(fG hF hcallok).mono ?_
    rintro e w' ⟨c',rfl,hb,hvr⟩
    exact hk _ _ _ _ (hg.step (H':=s.H) (hr.dY hb) (Ext.below hr hb) (Sy _) (fun _ _ _=>rfl) rfl (VR.back (fun _ _ h=>h) hvr) hd) h
   ·replace h:=bn h
    obtain ⟨⟨out,H'⟩,hy,h⟩:=h
    have hci:CallsIn F.plain (n - 1) cx.P k' cargs.toArray w _:=hcall.fn k' args s.H lo (out,H') (iw hcb) hy F.plain (n - 1) g w0 w cargs hF rfl (hcall.up _ _ _ _ _ _ hb0 hg.ext) hg.sr.rel hg.sr.gl hv
    have hci':CallsIn F (n - 1) cx.P k' cargs.toArray w _:=hci
    refine hci'.mono ?_
    rintro e w' ⟨g',e1,e2,e3,e4,e6,e5⟩
    cases out with
    | ret x=>
     cases e with
     | returned c'=>exact hk _ _ _ _ (hg.step e1 e2 e3 e4 e6 e5 hd) h
     | panicked _=>exact e5.elim
     | outgrown=>exact e5.elim
    | pan x=>
     cases e with
     | returned _=>exact e5.elim
     | panicked ch=>
      obtain ⟨c',rfl,hvr⟩:=e5
      have hg':=hg.step (dst:=none) (x:=x) e1 e2 e3 e4 e6 hvr (fun d hd=>by cases hd)
      exact hp x { s with H:=H' } g' w' c' hg' hvr h
     | outgrown=>exact e5.elim
  ·exact direct h
 ·exact direct h
theorem jA {ops:Array Oper} {o:Oper} {t:Nat} {want:Bool} (h:bK ops o=some (t,want)) {b:Bool} (hg:a.tmps.getD t undef=.bool b):Region.wanted o (yielded ops a.tmps)=(b==want):=by
 rw[ja] at h
 split at h
 ·rename_i j want' hgd
  cases hd:(ops[j]?).bind (·.dst) with
  | none=>rw[hd] at h; cases h
  | some t'=>
   rw[hd] at h
   cases h
   have ht:a.tmps[t]? = some (.bool b):=by
    rw[TD] at hg
    cases hx:a.tmps[t]? with
    | none=>rw[hx] at hg; cases hg
    | some v=>rw[hx] at hg; simp at hg; rw[hg]
   simp only[Region.wanted,hgd,yielded,hd,Sw,ht]
   cases b<;>cases want<;>rfl
 ·cases h
theorem lz {ops:Array Oper} {o:Oper} {t:Nat} {want:Bool} (h:bK ops o=some (t,want)) {y:Array Value} (hg:a.tmps.getD t undef=.tuple y):Region.wanted o (yielded ops a.tmps)=false:=by
 rw[ja] at h
 split at h
 ·rename_i j want' hgd
  cases hd:(ops[j]?).bind (·.dst) with
  | none=>rw[hd] at h; cases h
  | some t'=>
   rw[hd] at h
   cases h
   rw[TD] at hg
   simp only[Region.wanted,hgd,yielded,hd,Sw]
   cases hx:a.tmps[t]? with
   | none=>cases want<;>rfl
   | some v=>rw[hx] at hg; simp at hg; subst hg; cases want<;>rfl
 ·cases h
theorem mG {β:Type} {x:A} {want:Bool} {p q:Option β} {r:β} (h:qa x want p q=some r):(∃ b,x=.v (.bool b)/\(if b==want then p else q)=some r)∨∃ y,x=.v (.tuple y)/\q=some r:=by
 unfold qa at h
 split at h
 ·rename_i b; exact .inl ⟨b,rfl,by cases b<;>cases want<;>exact h⟩
 ·exact .inr ⟨_,rfl,h⟩
 ·cases h
end
section
open Go.RowKit
variable {H H':ar} {g g':Gh} {w0 w w':World}
theorem ult {b:Nat} {H:ar} {B:aD} (h:H[b]? = some B):decide (b<H.length)=true:=SD (SB.1 h).1
mutual
theorem VR.under:∀ (a:A) (c:Value),VR H g w a c->A.under H.length a=true
 | .any,_,_=>rfl
 | .v _,_,_=>rfl
 | .ptr b o,c,h=>by
  rw[VR] at h
  cases hb:H[b]? with
  | none=>rw[hb] at h; exact h.elim
  | some B=>exact ult hb
 | .ep b i o,c,h=>by
  rw[VR] at h
  cases hb:H[b]? with
  | none=>rw[hb] at h; exact h.elim
  | some B=>exact ult hb
 | .ip cs,c,h=>by rw[VR] at h; obtain ⟨_,_,ds,_,_,h3⟩:=h; rw[A.under]; exact bl.under cs ds h3
 | .imm els cl,c,h=>by rw[VR] at h; obtain ⟨_,_,ds,_,_,_,_,_,_,h6⟩:=h; rw[A.under]; exact bf.under els ds h6
 | .sl b o n cl,c,h=>by
  rw[VR] at h
  cases hb:H[b]? with
  | none=>rw[hb] at h; exact h.elim
  | some B=>exact ult hb
 | .nq _,_,_=>rfl
 | .mr b,c,h=>by
  rw[VR] at h
  cases hb:H[b]? with
  | none=>rw[hb] at h; exact h.elim
  | some B=>exact ult hb
 | .mv k ks vs,c,h=>by rw[VR] at h; obtain ⟨_,_,_,_,_,_,_,h5⟩:=h; rw[A.under]; exact bl.under vs _ h5
 | .yld b,c,h=>by
  rw[VR] at h
  cases hb:H[b]? with
  | none=>rw[hb] at h; exact h.elim
  | some B=>exact ult hb
 | .agg cs,c,h=>by rw[VR] at h; obtain ⟨ds,_,h2⟩:=h; rw[A.under]; exact bl.under cs _ h2
 | .tup cs,c,h=>by rw[VR] at h; obtain ⟨ds,_,h2⟩:=h; rw[A.under]; exact bl.under cs _ h2
 | .fn f p q,c,h=>by rw[VR] at h; obtain ⟨ds,es,_,h2,h3⟩:=h; rw[A.under,bl.under p _ h2,bl.under q _ h3]; rfl
 | .ifc t x,c,h=>by rw[VR] at h; obtain ⟨d,_,h2⟩:=h; rw[A.under]; exact VR.under x d h2
theorem bl.under:∀ (cs:List A) (ds:List Value),bl H g w cs ds->aZ H.length cs=true
 | [],_,_=>rfl
 | a :: as,_,h=>by rw[bl] at h; obtain ⟨d,ds',_,h2,h3⟩:=h; rw[aZ,VR.under a d h2,bl.under as ds' h3]; rfl
theorem bf.under:∀ (cs:List (List A)) (ds:List (List Value)),bf H g w cs ds->aQ H.length cs=true
 | [],_,_=>rfl
 | a :: as,_,h=>by rw[bf] at h; obtain ⟨d,ds',_,h2,h3⟩:=h; rw[aQ,bl.under a d h2,bf.under as ds' h3]; rfl
end
theorem kX.under {b:Nat} {B:aD} (h:kX H g w b B):B.under H.length=true:=by
 cases B with
 | box cs=>obtain ⟨_,_,_,_,_,h3⟩:=h; exact bl.under cs _ h3
 | row wr es els=>cases wr with
  | true=>obtain ⟨ds,h1,_⟩:=h; exact bf.under els ds h1
  | false=>exact bf.under els _ h.1
 | rng _=>rfl
 | mp _ _ _=>obtain ⟨_,_,_,_,_,_,h4⟩:=h; exact bl.under _ _ h4
 | dead=>rfl
 | hole=>rfl
structure j0 (L:Nat) (H:ar) (g:Gh) (H':ar) (g':Gh):Prop where
 stab:∀ k o,dP H g k o->dP H' g' k o
 blk:∀ b,b<L->H'[b]? = H[b]?
 mu:∀ (b:Nat) (B:aD),b<L->H[b]? = some B->g'.mu b=g.mu b
 ga:∀ (b es:Nat) (els:List (List A)),b<L->H[b]? = some (.row false es els)->g'.ga b=g.ga b
 lr:∀ (b:Nat) (st:D5),b<L->H[b]? = some (.rng st)->g'.lr b=g.lr b
theorem bt.to {L:Nat} (ha:j0 L H g H' g') {k off:Nat} {ds:List Value} (h:bt H g w k off ds):bt H' g' w k off ds:=fun j v hj=>⟨(h j v hj).1,ha.stab _ _ (h j v hj).2⟩
mutual
theorem VR.to {L:Nat} (ha:j0 L H g H' g'):∀ (a:A) (c:Value),A.under L a=true->VR H g w a c->VR H' g' w a c
 | .any,_,_,_=>Sm
 | .v x,c,_,h=>by rw[VR] at h ⊢; exact h
 | .ptr b o,c,hu,h=>by
  rw[A.under] at hu
  have hu:=SF hu
  rw[VR] at h ⊢
  rw[ha.blk b hu]
  cases hb:H[b]? with
  | none=>rw[hb] at h; exact h
  | some B=>
   rw[hb] at h
   have hm:=ha.mu b B hu hb
   cases B with
   | box _=>obtain ⟨k,h1,h2⟩:=h; exact⟨k,hm.trans h1,h2⟩
   | _=>exact h
 | .ep b i o,c,hu,h=>by
  rw[A.under] at hu
  have hu:=SF hu
  rw[VR] at h ⊢
  rw[ha.blk b hu]
  cases hb:H[b]? with
  | none=>rw[hb] at h; exact h
  | some B=>
   rw[hb] at h
   have hm:=ha.mu b B hu hb
   cases B with
   | row wr es els=>cases wr with
    | true=>obtain ⟨h0,k,h1,h2⟩:=h; exact⟨h0,k,hm.trans h1,h2⟩
    | false=>exact h
   | _=>exact h
 | .ip cs,c,hu,h=>by
  rw[A.under] at hu
  rw[VR] at h ⊢
  obtain ⟨k,off,ds,h1,h2,h3⟩:=h
  exact⟨k,off,ds,h1,h2.to ha,bl.to ha cs ds hu h3⟩
 | .imm els cl,c,hu,h=>by
  rw[A.under] at hu
  rw[VR] at h ⊢
  obtain ⟨a,cap,ds,es,h1,h2,h3,h4,h5,h6⟩:=h
  exact⟨a,cap,ds,es,h1,h2,h3,h4,fun hp=>let ⟨k,off,e1,e2⟩:=h5 hp; ⟨k,off,e1,e2.to ha⟩,bf.to ha els ds hu h6⟩
 | .sl b o n cl,c,hu,h=>by
  rw[A.under] at hu
  have hu:=SF hu
  rw[VR] at h ⊢
  rw[ha.blk b hu]
  cases hb:H[b]? with
  | none=>rw[hb] at h; exact h
  | some B=>
   rw[hb] at h
   have hm:=ha.mu b B hu hb
   cases B with
   | row wr es els=>cases wr with
    | true=>
     obtain ⟨h0,a,cap,h1,h2,h3,h4,h5⟩:=h
     exact⟨h0,a,cap,h1,h2,h3,fun hp=>let ⟨k,e1,e2⟩:=h4 hp; ⟨k,hm.trans e1,e2⟩,fun p q r t=>let ⟨k,arr,ty,e1,e2,e3,e4⟩:=h5 p q r t; ⟨k,arr,ty,hm.trans e1,e2,e3,e4⟩⟩
    | false=>
     obtain ⟨h0,a,cap,h1,h2,h3,h4,h5⟩:=h
     exact⟨h0,a,cap,h1,h2,h3,fun hp=>let ⟨k,off,e1,e2⟩:=h4 hp; ⟨k,off,e1,by rw[ha.ga b es els hu hb]; exact e2.to ha⟩,fun p q r t=>let ⟨k,arr,ty,e1,e2,e3,e4⟩:=h5 p q r t; ⟨k,arr,ty,hm.trans e1,e2,e3,e4⟩⟩
   | _=>exact h
 | .nq _,c,hu,h=>by rw[VR] at h ⊢; exact h
 | .mr b,c,hu,h=>by
  rw[A.under] at hu
  have hu:=SF hu
  rw[VR] at h ⊢
  rw[ha.blk b hu]
  cases hb:H[b]? with
  | none=>rw[hb] at h; exact h
  | some B=>
   rw[hb] at h
   have hm:=ha.mu b B hu hb
   cases B with
   | mp _ _ _=>obtain ⟨k,e1,e2⟩:=h; exact⟨k,hm.trans e1,e2⟩
   | _=>exact h
 | .mv k ks vs,c,hu,h=>by
  rw[A.under] at hu
  rw[VR] at h ⊢
  obtain ⟨r,arr,cl,h1,h2,h3,h4,h5⟩:=h
  exact⟨r,arr,cl,h1,ha.stab _ _ h2,h3,h4,bl.to ha vs _ hu h5⟩
 | .yld b,c,hu,h=>by
  rw[A.under] at hu
  have hu:=SF hu
  rw[VR] at h ⊢
  rw[ha.blk b hu]
  cases hb:H[b]? with
  | none=>rw[hb] at h; exact h
  | some B=>
   rw[hb] at h
   have hm:=ha.mu b B hu hb
   cases B with
   | rng _=>obtain ⟨k,e1,e2⟩:=h; exact⟨k,hm.trans e1,e2⟩
   | _=>exact h
 | .agg cs,c,hu,h=>by
  rw[A.under] at hu
  rw[VR] at h ⊢
  obtain ⟨ds,h1,h2⟩:=h
  exact⟨ds,h1,bl.to ha cs _ hu h2⟩
 | .tup cs,c,hu,h=>by
  rw[A.under] at hu
  rw[VR] at h ⊢
  obtain ⟨ds,h1,h2⟩:=h
  exact⟨ds,h1,bl.to ha cs _ hu h2⟩
 | .fn f p q,c,hu,h=>by
  rw[A.under,Sz] at hu
  rw[VR] at h ⊢
  obtain ⟨ds,es,h1,h2,h3⟩:=h
  exact⟨ds,es,h1,bl.to ha p _ hu.1 h2,bl.to ha q _ hu.2 h3⟩
 | .ifc t x,c,hu,h=>by
  rw[A.under] at hu
  rw[VR] at h ⊢
  obtain ⟨d,h1,h2⟩:=h
  exact⟨d,h1,VR.to ha x d hu h2⟩
theorem bl.to {L:Nat} (ha:j0 L H g H' g'):∀ (cs:List A) (ds:List Value),aZ L cs=true->bl H g w cs ds->bl H' g' w cs ds
 | [],_,_,h=>by rw[bl] at h ⊢; exact h
 | a :: as,_,hu,h=>by
  rw[aZ,Sz] at hu
  rw[bl] at h ⊢
  obtain ⟨d,ds',h1,h2,h3⟩:=h
  exact⟨d,ds',h1,VR.to ha a d hu.1 h2,bl.to ha as ds' hu.2 h3⟩
theorem bf.to {L:Nat} (ha:j0 L H g H' g'):∀ (cs:List (List A)) (ds:List (List Value)),aQ L cs=true->bf H g w cs ds->bf H' g' w cs ds
 | [],_,_,h=>by rw[bf] at h ⊢; exact h
 | a :: as,_,hu,h=>by
  rw[aQ,Sz] at hu
  rw[bf] at h ⊢
  obtain ⟨d,ds',h1,h2,h3⟩:=h
  exact⟨d,ds',h1,bl.to ha a d hu.1 h2,bf.to ha as ds' hu.2 h3⟩
end
theorem kX.to {L:Nat} (ha:j0 L H g H' g') {b:Nat} {B:aD} (hb:b<L) (hB:H[b]? = some B) (hu:B.under L=true) (h:kX H g w b B):kX H' g' w b B:=by
 have hm:=ha.mu b B hb hB
 cases B with
 | box cs=>obtain ⟨k,arr,ty,h1,h2,h3⟩:=h; exact⟨k,arr,ty,hm.trans h1,h2,bl.to ha cs _ hu h3⟩
 | row wr es els=>cases wr with
  | true=>obtain ⟨ds,h1,h2,h3⟩:=h; exact⟨ds,bf.to ha els _ hu h1,h2,fun hp=>let ⟨k,arr,ty,e1,e2⟩:=h3 hp; ⟨k,arr,ty,hm.trans e1,e2⟩⟩
  | false=>
   have hga:=ha.ga b es els hb hB
   exact⟨by rw[hga]; exact bf.to ha els _ hu h.1,by rw[hga]; exact h.2⟩
 | rng st=>obtain ⟨k,h1,h2⟩:=h; exact⟨k,hm.trans h1,by rw[ha.lr b st hb hB]; exact h2⟩
 | mp _ _ _=>obtain ⟨k,arr,cl,h1,h2,h3,h4⟩:=h; exact⟨k,arr,cl,hm.trans h1,h2,h3,bl.to ha _ _ hu h4⟩
 | dead=>exact hm.trans h
 | hole=>exact hm.trans h
theorem Rel.back (hr:Rel H g w0 w) (hr':Rel H' g' w0 w') (he:Ext H g w H' g' w') (hst:g'.S=g.S) (hlow:∀ b,b<H.length->H'[b]? = H[b]?):Rel H g w0 w'/\Ext H g w H g w'/\j0 H.length H' g' H g:=by
 have hbt:∀ (b:Nat) (B:aD),H[b]? = some B->BT g w g' w' b B B:=fun b B hB=>by
  obtain ⟨B',hB',ht⟩:=he.blk b B hB
  rw[hlow b (SB.1 hB).1,hB] at hB'
  cases hB'
  exact ht
 have hmu:∀ (b:Nat) (B:aD),H[b]? = some B->g'.mu b=g.mu b:=fun b B hB=>by
  have ht:=hbt b B hB
  cases B with
  | box _=>exact ht
  | row wr es els=>cases wr with
   | true=>exact ht.2.2.1
   | false=>exact(ht.2.2.2.2 rfl).1
  | rng _=>exact ht.1
  | mp _ _ _=>exact ht
  | dead=>
   have h1:g.mu b=none:=hr.blk b _ hB
   have h2:g'.mu b=none:=hr'.blk b .dead (by rw[hlow b (SB.1 hB).1]; exact hB)
   rw[h1,h2]
  | hole=>
   have h1:g.mu b=none:=hr.blk b _ hB
   have h2:g'.mu b=none:=hr'.blk b .hole (by rw[hlow b (SB.1 hB).1]; exact hB)
   rw[h1,h2]
 have hga:∀ (b es:Nat) (els:List (List A)),H[b]? = some (.row false es els)->g'.ga b=g.ga b:=fun b es els hB=>by
  obtain ⟨_,⟨r,e1⟩,e2,_,_⟩:=hbt b _ hB
  have h2:=(hr'.blk b _ (by rw[hlow b (SB.1 hB).1]; exact hB)).len
  rw[e1,SX,e2] at h2
  have:r=[]:=SV o3
  rw[e1,this,TG]
 have ag:j0 H.length H' g' H g:=by
  refine⟨fun k o hs=>⟨hst ▸ hs.1,fun b hb=>?_⟩,fun b hb=>(hlow b hb).symm,fun b B hb hB=>(hmu b B (by rw[<-hlow b hb]; exact hB)).symm,fun b es els hb hB=>(hga b es els (by rw[<-hlow b hb]; exact hB)).symm,fun b st hb hB=>(show g'.mu b=g.mu b/\g'.lr b=g.lr b from hbt b (.rng st) (by rw[<-hlow b hb]; exact hB)).2.symm⟩
  have hlt:=(hr.dom b k hb).1
  have hB:=Sx hlt
  obtain ⟨es,els,h1,h2⟩:=hs.2 b ((hmu b _ hB).trans hb)
  exact⟨es,els,by rw[<-hlow b hlt]; exact h1,h2⟩
 refine⟨⟨hr'.below,fun b k hb=>?_,hr.inj,(fun k o hk=>hst ▸ hr'.out k o hk),hr.own,fun b B hB=>?_⟩,⟨fun k o v hs hc=>⟨(he.cell k o v hs hc).1,hs⟩,fun b B hB=>⟨B,hB,?_⟩,he.kept,he.size,fun k arr cl hs hm=>⟨(he.map k arr cl hs hm).1,hs⟩,he.obj,fun b k h=>.inl ⟨b,h⟩⟩,ag⟩
 ·have h1:=hr.dom b k hb
  have h2:=hr'.dom b k ((hmu b _ (Sx h1.1)).trans hb)
  exact⟨h1.1,h1.2.1,h2.2.2⟩
 ·have hlt:=(SB.1 hB).1
  exact kX.to ag hlt (by rw[hlow b hlt]; exact hB) (hr.blk b B hB).under (hr'.blk b B (by rw[hlow b hlt]; exact hB))
 ·have ht:=hbt b B hB
  cases B with
  | box _=>rfl
  | row wr es els=>cases wr with
   | true=>exact⟨rfl,rfl,rfl,ht.2.2.2⟩
   | false=>exact⟨rfl,⟨[],r8⟩,ht.2.2.1,Sy _,fun _=>⟨rfl,(ht.2.2.2.2 rfl).2⟩⟩
  | rng _=>exact⟨rfl,rfl⟩
  | mp _ _ _=>rfl
  | dead=>trivial
  | hole=>trivial
def Gh.cut (g:Gh) (L:Nat):Gh:={ g with mu:=fun b=>if b<L then g.mu b else none }
theorem Rel.cut (hr:Rel H g w0 w) {L:Nat} (hL:L<=H.length) (hu:∀ (b:Nat) B,b<L->H[b]? = some B->B.under L=true):Rel (H.take L) (g.cut L) w0 w/\j0 L H g (H.take L) (g.cut L):=by
 have hmu:∀ {b k},(g.cut L).mu b=some k->b<L/\g.mu b=some k:=fun {b k} h=>by
  simp only[Gh.cut] at h
  split at h
  ·rename_i hb; exact⟨hb,h⟩
  ·cases h
 have hget:∀ b,b<L->(H.take L)[b]? = H[b]?:=fun b hb=>by rw[SS,SH hb]
 have ag:j0 L H g (H.take L) (g.cut L):=by
  refine⟨fun k o hs=>⟨hs.1,fun b hb=>?_⟩,fun b hb=>hget b hb,fun b B hb _=>by simp[Gh.cut,hb],fun b es els _ _=>rfl,fun b st _ _=>rfl⟩
  obtain ⟨h1,h2⟩:=hmu hb
  obtain ⟨es,els,h3,h4⟩:=hs.2 b h2
  exact⟨es,els,by rw[hget b h1]; exact h3,h4⟩
 refine⟨⟨hr.below,fun b k hb=>?_,fun b c k h1 h2=>hr.inj b c k (hmu h1).2 (hmu h2).2,hr.out,(fun b k o h=>hr.own b k o (hmu h).2),fun b B hB=>?_⟩,ag⟩
 ·obtain ⟨h1,h2⟩:=hmu hb
  have:=hr.dom b k h2
  exact⟨H6,this.2⟩
 ·have hb:b<L:=by have:=(SB.1 hB).1; rw[Tz] at this; omega
  rw[hget b hb] at hB
  exact kX.to ag hb hB (hu b B hb hB) (hr.blk b B hB)
theorem Ext.cut {H0:ar} {gs:Gh} {ws:World} (he:Ext H0 gs ws H g w) {L:Nat} (hL:H0.length<=L):Ext H0 gs ws (H.take L) (g.cut L) w:=by
 have hst:∀ {k o},dP H g k o->dP (H.take L) (g.cut L) k o:=fun {k o} h2=>by
  refine⟨h2.1,fun b hb=>?_⟩
  simp only[Gh.cut] at hb
  split at hb
  ·rename_i hlt
   obtain ⟨es,els,h3,h4⟩:=h2.2 b hb
   exact⟨es,els,by rw[SS,SH hlt]; exact h3,h4⟩
  ·cases hb
 refine⟨fun k o v hs hc=>?_,fun b B hB=>?_,he.kept,he.size,fun k arr cl hs hm=>⟨(he.map k arr cl hs hm).1,hst (he.map k arr cl hs hm).2⟩,he.obj,fun b k h=>he.fresh b k (by
  simp only[Gh.cut] at h
  split at h
  ·exact h
  ·cases h)⟩
 ·obtain ⟨h1,h2⟩:=he.cell k o v hs hc
  refine⟨h1,h2.1,fun b hb=>?_⟩
  simp only[Gh.cut] at hb
  split at hb
  ·rename_i hlt
   obtain ⟨es,els,h3,h4⟩:=h2.2 b hb
   exact⟨es,els,by rw[SS,SH hlt]; exact h3,h4⟩
  ·cases hb
 ·obtain ⟨B',hB',ht⟩:=he.blk b B hB
  have hb:b<L:=SQ (SB.1 hB).1 hL
  refine⟨B',by rw[SS,SH hb]; exact hB',?_⟩
  have e:(g.cut L).mu b=g.mu b:=by simp[Gh.cut,hb]
  cases B with
  | box _=>cases B' with
   | box _=>exact e.trans ht
   | row wr _ _=>exact ht
   | rng _=>exact ht
   | mp _ _ _=>exact ht
   | dead=>trivial
   | hole=>exact ht
  | row wr es els=>cases wr with
   | true=>cases B' with
    | box _=>exact ht
    | rng _=>exact ht
    | mp _ _ _=>exact ht
    | row wr' es' els'=>cases wr' with
     | true=>exact⟨ht.1,ht.2.1,e.trans ht.2.2.1,ht.2.2.2⟩
     | false=>exact ht
    | dead=>trivial
    | hole=>exact ht
   | false=>cases B' with
    | box _=>exact ht
    | rng _=>exact ht
    | mp _ _ _=>exact ht
    | row wr' es' els'=>cases wr' with
     | true=>exact ht
     | false=>
      obtain ⟨h1,h2,h3,h4,h5⟩:=ht
      exact⟨h1,h2,h3,h4,fun hl=>⟨e.trans (h5 hl).1,(h5 hl).2⟩⟩
    | dead=>trivial
    | hole=>exact ht
  | rng st=>cases B' with
   | rng st'=>exact⟨e.trans ht.1,ht.2⟩
   | dead=>trivial
   | hole=>exact ht
   | box _=>exact ht
   | mp _ _ _=>exact ht
   | row wr _ _=>cases wr<;>exact ht
  | mp _ _ _=>cases B' with
   | mp _ _ _=>exact e.trans ht
   | rng _=>exact ht
   | dead=>trivial
   | hole=>exact ht
   | box _=>exact ht
   | row wr _ _=>cases wr<;>exact ht
  | dead=>cases B'<;>exact ht
  | hole=>trivial
end
section
open Go.RowKit
variable {H H1:ar} {g g1:Gh} {w0 w w1:World}
def Gh.qm (g:Gh) (H:ar) (m:Nat):Gh:={ g.cut m with S:=fun k o=>g.S k o/\∀ c,m<=c->g.mu c=some k->∃ es els,H[c]? = some (.row false es els)/\o<es*els.length }
theorem jS {g:Gh} {m b k:Nat} (h:(g.cut m).mu b=some k):b<m/\g.mu b=some k:=by
 simp only[Gh.cut] at h
 split at h
 ·rename_i hb; exact⟨hb,h⟩
 ·cases h
theorem Rel.qm (hr:Rel H g w0 w) {m:Nat} (hm:m<=H.length) (hu:∀ (b:Nat) B,b<m->H[b]? = some B->B.under m=true):Rel (H.take m) (g.qm H m) w0 w/\j0 m H g (H.take m) (g.qm H m):=by
 have hget:∀ b,b<m->(H.take m)[b]? = H[b]?:=fun b hb=>by rw[SS,SH hb]
 have ag:j0 m H g (H.take m) (g.qm H m):=by
  refine⟨fun k o hs=>⟨⟨hs.1,fun c _ hc=>hs.2 c hc⟩,fun b hb=>?_⟩,fun b hb=>hget b hb,fun b B hb _=>by simp[Gh.qm,Gh.cut,hb],fun b es els _ _=>rfl,fun b st _ _=>rfl⟩
  obtain ⟨h1,h2⟩:=jS hb
  obtain ⟨es,els,h3,h4⟩:=hs.2 b h2
  exact⟨es,els,by rw[hget b h1]; exact h3,h4⟩
 refine⟨⟨hr.below,fun b k hb=>?_,fun b c k h1 h2=>hr.inj b c k (jS h1).2 (jS h2).2,fun k o hk=>⟨hr.out k o hk,fun c _ hc=>absurd (hr.dom c k hc).2.2 o3⟩,fun b k o hb=>⟨hr.own b k o (jS hb).2,fun c hc hck=>?_⟩,fun b B hB=>?_⟩,ag⟩
 ·obtain ⟨h1,h2⟩:=jS hb
  have:=hr.dom b k h2
  exact⟨H6,this.2⟩
 ·obtain ⟨h1,h2⟩:=jS hb
  have:=hr.inj b c k h2 hck
  omega
 ·have hb:b<m:=by have:=(SB.1 hB).1; rw[Tz] at this; omega
  rw[hget b hb] at hB
  exact kX.to ag hb hB (hu b B hb hB) (hr.blk b B hB)
theorem Rel.join (hr:Rel H g w0 w) {m:Nat} (hm:m<=H.length) (hr1:Rel H1 g1 w0 w1) (he:Ext (H.take m) (g.qm H m) w H1 g1 w1) (hm1:m<=H1.length) (hS:g1.S=(g.qm H m).S) (hu:∀ (b:Nat) B,b<m->H1[b]? = some B->B.under m=true) :
  ∃ g2,Rel (H1.take m++H.drop m) g2 w0 w1/\Ext H g w (H1.take m++H.drop m) g2 w1/\g2.S=g.S/\j0 m H1 g1 (H1.take m++H.drop m) g2:=by
 have lo:∀ b,b<m->(H1.take m++H.drop m)[b]? = H1[b]?:=fun b hb=>by
  rw[SP H6,SS,SH hb]
 have hi:∀ b,m<=b->(H1.take m++H.drop m)[b]? = H[b]?:=fun b hb=>by
  rw[S3 H6,Tz,TL,Ug hm1]
  congr 1; omega
 have tk:∀ b,b<m->(H.take m)[b]? = H[b]?:=fun b hb=>by rw[SS,SH hb]
 let g2:Gh:={ mu:=fun b=>if b<m then g1.mu b else g.mu b,ga:=fun b=>if b<m then g1.ga b else g.ga b,S:=g.S,lr:=fun b=>if b<m then g1.lr b else g.lr b }
 have mlo:∀ b,b<m->g2.mu b=g1.mu b:=fun b hb=>SH hb
 have mhi:∀ b,m<=b->g2.mu b=g.mu b:=fun b hb=>SI o3
 have glo:∀ b,b<m->g2.ga b=g1.ga b:=fun b hb=>SH hb
 have ghi:∀ b,m<=b->g2.ga b=g.ga b:=fun b hb=>SI o3
 have llo:∀ b,b<m->g2.lr b=g1.lr b:=fun b hb=>SH hb
 have lhi:∀ b,m<=b->g2.lr b=g.lr b:=fun b hb=>SI o3
 have nof:∀ {c k},m<=c->g.mu c=some k->∀ b,(g.qm H m).mu b≠some k:=fun {c k} hc hk b hb=>by
  obtain ⟨h1,h2⟩:=jS hb
  have:=hr.inj b c k h2 hk
  omega
 have same:∀ {c k},m<=c->g.mu c=some k->w1.heap[k]? = w.heap[k]?:=fun {c k} hc hk=>he.obj k (hr.dom c k hk).2.2 (nof hc hk)
 have hne:∀ {b c k},b<m->m<=c->g1.mu b=some k->g.mu c=some k->False:=fun {b c k} _ hc hb hk=>by
  rcases he.fresh b k hb with ⟨c',hc'⟩ | hl
  ·exact nof hc hk c' hc'
  ·have:=(hr.dom c k hk).2.2
   omega
 have toB:∀ {k o},dP H g k o->dP (H.take m) (g.qm H m) k o:=fun {k o} hs=>⟨⟨hs.1,fun c _ hc=>hs.2 c hc⟩,fun b hb=>by
  obtain ⟨h1,h2⟩:=jS hb
  obtain ⟨es,els,h3,h4⟩:=hs.2 b h2
  exact⟨es,els,by rw[tk b h1]; exact h3,h4⟩⟩
 have stab:∀ k o,dP H1 g1 k o->dP (H1.take m++H.drop m) g2 k o:=fun k o hs=>by
  have h1:(g.qm H m).S k o:=by rw[<-hS]; exact hs.1
  refine⟨h1.1,fun b hb=>?_⟩
  by_cases e:b<m
  ·rw[mlo b e] at hb
   obtain ⟨es,els,h3,h4⟩:=hs.2 b hb
   exact⟨es,els,by rw[lo b e]; exact h3,h4⟩
  ·rw[mhi b o3] at hb
   obtain ⟨es,els,h3,h4⟩:=h1.2 b o3 hb
   exact⟨es,els,by rw[hi b o3]; exact h3,h4⟩
 have ag:j0 m H1 g1 (H1.take m++H.drop m) g2:=⟨stab,lo,fun b B hb _=>mlo b hb,fun b es els hb _=>glo b hb,fun b st hb _=>llo b hb⟩
 have hx:Ext H g w (H1.take m++H.drop m) g2 w1:=by
  refine⟨fun k o v hs hc=>?_,fun b B hB=>?_,he.kept,he.size,fun k arr cl hs hmm=>?_,fun k hk hn=>he.obj k hk fun b hb=>hn b (jS hb).2,fun b k hb=>?_⟩
  ·obtain ⟨h1,h2⟩:=he.cell k o v (toB hs) hc
   exact⟨h1,stab k o h2⟩
  ·by_cases e:b<m
   ·obtain ⟨B',hB',ht⟩:=he.blk b B (by rw[tk b e]; exact hB)
    refine⟨B',by rw[lo b e]; exact hB',?_⟩
    have hm0:(g.qm H m).mu b=g.mu b:=SH e
    have hm2:=mlo b e
    have hg2:=glo b e
    have hl2:=llo b e
    unfold BT at ht ⊢
    rw[hm2,hg2,hl2,<-hm0]
    exact ht
   ·refine⟨B,by rw[hi b o3]; exact hB,?_⟩
    have hm2:=mhi b o3
    have hg2:=ghi b o3
    cases B with
    | box _=>exact hm2
    | row wr es els=>cases wr with
     | true=>exact⟨rfl,rfl,hm2,fun k arr ty hk ha=>⟨arr,(same o3 hk).trans ha,Sy _⟩⟩
     | false=>exact⟨rfl,⟨[],by rw[hg2]; simp⟩,(hr.blk b _ hB).len,Sy _,fun _=>⟨hm2,fun k arr ty hk ha=>⟨arr,(same o3 hk).trans ha,Sy _⟩⟩⟩
    | rng _=>exact⟨hm2,lhi b o3⟩
    | mp _ _ _=>exact hm2
    | dead=>trivial
    | hole=>trivial
  ·obtain ⟨h1,h2⟩:=he.map k arr cl (toB hs) hmm
   exact⟨h1,stab k 0 h2⟩
  ·by_cases e:b<m
   ·rw[mlo b e] at hb
    rcases he.fresh b k hb with ⟨c,hc⟩ | hl
    ·exact .inl ⟨c,(jS hc).2⟩
    ·exact .inr hl
   ·rw[mhi b o3] at hb
    exact .inl ⟨b,hb⟩
 refine⟨g2,⟨hr1.below,fun b k hb=>?_,fun b c k h1 h2=>?_,fun k o hk=>hr.out k o (SZ he.size hk),hr.vD hx,fun b B hB=>?_⟩,hx,rfl,ag⟩
 ·by_cases e:b<m
  ·rw[mlo b e] at hb
   have:=hr1.dom b k hb
   exact⟨Ss,this.2⟩
  ·rw[mhi b o3] at hb
   have:=hr.dom b k hb
   exact⟨Ss,this.2.1,SQ this.2.2 he.size⟩
 ·by_cases e1:b<m
  ·by_cases e2:c<m
   ·rw[mlo b e1] at h1; rw[mlo c e2] at h2; exact hr1.inj b c k h1 h2
   ·rw[mlo b e1] at h1; rw[mhi c o3] at h2; exact(hne e1 o3 h1 h2).elim
  ·by_cases e2:c<m
   ·rw[mhi b o3] at h1; rw[mlo c e2] at h2; exact(hne e2 o3 h2 h1).elim
   ·rw[mhi b o3] at h1; rw[mhi c o3] at h2; exact hr.inj b c k h1 h2
 ·by_cases e:b<m
  ·rw[lo b e] at hB
   exact kX.to ag e hB (hu b B e hB) (hr1.blk b B hB)
  ·rw[hi b o3] at hB
   have h:=hr.blk b B hB
   have hm2:=mhi b o3
   have hg2:=ghi b o3
   cases B with
   | box cs=>obtain ⟨k,arr,ty,h1,h2,h3⟩:=h; exact⟨k,arr,ty,hm2.trans h1,(same o3 h1).trans h2,bl.ext hx _ _ h3⟩
   | row wr es els=>cases wr with
    | true=>
     obtain ⟨ds,h1,h2,h3⟩:=h
     exact⟨ds,bf.ext hx _ _ h1,h2,fun hp=>let ⟨k,arr,ty,e1,e2,e3⟩:=h3 hp; ⟨k,arr,ty,hm2.trans e1,(same o3 e1).trans e2,e3⟩⟩
    | false=>
     obtain ⟨h1,h2⟩:=h
     exact⟨by rw[hg2]; exact bf.ext hx _ _ h1,by rw[hg2]; exact h2⟩
   | rng st=>obtain ⟨k,h1,h2⟩:=h; exact⟨k,hm2.trans h1,by rw[lhi b o3]; exact(same o3 h1).trans h2⟩
   | mp _ _ _=>obtain ⟨k,arr,cl,h1,h2,h3,h4⟩:=h; exact⟨k,arr,cl,hm2.trans h1,(same o3 h1).trans h2,h3,bl.ext hx _ _ h4⟩
   | dead=>exact hm2.trans h
   | hole=>exact hm2.trans h
end
section
open Go.RowKit
variable {H H':ar} {g g':Gh} {w0 w w':World} {cx:Cx} {s:St} {a:Act} {F:Fence} {n:Nat} {N lo:Nat} {mb:Mb} {H0:ar} {gs:Gh} {ws:World} {Bs:ar->Gh->World->Prop}
def py (cx:Cx) (Bs:ar->Gh->World->Prop) (s:St) (o:Oper) (x:A):Prop:=∀ (F:Fence) (n:Nat) (g:Gh) (w0 W:World) (ev:Operand->Value),fP F->sO cx s g w0 o.op ev W->(∀ (G:Nat) (vs:List Value),cx.glob G=some vs->bt s.H g W G 0 vs)->Bs s.H g W ->
 xF F n cx.P o ev W fun v W'=>VR s.H g W' x v/\Rel s.H g w0 W'/\Ext s.H g W s.H g W'
theorem Cl {β:Type} {f lo:Nat} {dst:Option Nat} {c:Call} (k:A->ar->Option β):oQ cx f lo dst c s k=(oQ cx f lo dst c s (fun x H=>some (x,H))).bind fun r=>k r.1 r.2:=by
 unfold oQ
 split<;>simp[Tx]
theorem g7 {β:Type} {f lo:Nat} {o:Oper} (k:A->ar->Option β):bw cx f lo o s k=(bw cx f lo o s (fun x H=>some (x,H))).bind fun r=>k r.1 r.2:=by
 unfold bw
 split
 case h_27=>exact Cl k
 all_goals simp[Tx]
theorem rl {f lo:Nat} {o:Oper} {r:A×ar} (h:bw cx f lo o s (fun x H=>some (x,H))=some r) (hh:vk o.op=false):∃ x,r=(x,s.H):=by
 unfold bw at h
 split at h
 all_goals first
  | cases h; done
  | (rename_i ho; rw[ho] at hh; cases hh; done)
  | (cases h; exact⟨_,rfl⟩)
  | (obtain ⟨y,_,h⟩:=bn h; cases h; exact⟨_,rfl⟩)
theorem jC {P:Program} {o:Oper} {ev:Operand->Value} {c:Value} {Rr:Value->World->Prop} (h:(execOp ev o).run P w=.ok (.value c) w'∨((execOp ev o).run P w=.ok .skip w'/\c=undef)) (hr:Rr c w'):xF F n P o ev w Rr:=by
 unfold xF
 rcases h with h | ⟨h,rfl⟩<;>rw[h]<;>exact hr
theorem qf {f lo:Nat} {o:Oper} {x:A} (h:bw cx f lo o s (fun x H=>some (x,H))=some (x,s.H)):py cx Bs s o x:=by
 intro F n g w0 W ev hF hs hgl hbs
 obtain ⟨c,w',x',H',g',e1,e2,e3,e4,e5,e6,e7,e8⟩:=jJ hs h
 cases e2
 obtain ⟨r1,r2,r3⟩:=Rel.back hs.rel e3 e4 e8 (fun _ _=>rfl)
 exact jC e1 ⟨VR.to r3 x c (VR.under x c e5) e5,r1,r2⟩
theorem mB {call:aU} (hcall:dz cx Bs call) (horc:jr cx) {f:Nat} {o:Oper} {x:A} (h:gC cx call f o s=some x):py cx Bs s o x:=by
 have direct:∀ {lo:Nat},vk o.op=false->bw cx f lo o s (fun x _=>some x)=some x->py cx Bs s o x:=fun {lo} hh h=>by
  rw[g7] at h
  obtain ⟨q,h1,h2⟩:=bn h
  obtain ⟨x',rfl⟩:=rl h1 hh
  cases h2
  exact qf h1
 unfold gC at h
 split at h
 ·rename_i c x y ho
  obtain ⟨b,hb,h⟩:=oE h
  intro F n g w0 W ev hF hs hgl hbs
  have hc:=hs.one c (by rw[ho]; simp[Op.operands])
  have hx:=hs.one x (by rw[ho]; simp[Op.operands])
  have hy:=hs.one y (by rw[ho]; simp[Op.operands])
  rw[hb,VR] at hc
  refine jC (c:=if b then ev x else ev y) (w':=W) (.inl ?_) ⟨by cases b<;>cases h<;>assumption,hs.rel,Ext.refl hs.rel⟩
  unfold execOp
  rw[ho]
  simp[hc,asBool]
 ·cases h
 ·cases h
 ·cases h
 ·cases h
 ·cases h
 ·cases h
 ·cases h
 ·cases h
 ·rename_i c ho
  rw[bp] at h
  split at h
  ·rw[uW] at h
   replace h:=bn h
   obtain ⟨x0,h,hx0⟩:=h
   cases hx0
   replace h:=bn h
   obtain ⟨⟨k',args⟩,hce,h⟩:=h
   rw[bp] at h
   split at h
   ·rename_i hiso
    have hy:=h
    intro F n g w0 W ev hF hs hgl hbs
    obtain ⟨hcb,cargs,hrun,hv⟩:=jH hs hce
    unfold xF
    rw[hrun]
    have hr:=hs.rel
    have hst:∀ k o,W.heap.size<=k->dP s.H g k o:=fun k o hk=>⟨hr.out k o hk,fun b hb=>absurd (hr.dom b k hb).2.2 o3⟩
    have hcallok:=horc k' _ x (.inr (.inl hiso)) hy (dP s.H g) W cargs hst (fun G vs hG j v hj=>let ⟨e1,e2⟩:=hgl G vs hG j v hj; ⟨e1,e2,fun b hb=>by cases hb⟩) (xA hr hv)
    refine(fG hF hcallok).mono ?_
    rintro e w' ⟨c',rfl,hb,hvr⟩
    exact⟨VR.back (fun _ _ h=>h) hvr,hr.dY hb,Ext.below hr hb⟩
   ·replace h:=bn h
    obtain ⟨⟨out,H'⟩,hy,h⟩:=h
    cases out with
    | pan x=>cases h
    | ret y=>
     obtain ⟨hu,h⟩:=bc (show (bif A.under s.H.length y then some y else none)=some x from h)
     cases h
     intro F n g w0 W ev hF hs hgl hbs
     obtain ⟨hcb,cargs,hrun,hv⟩:=jH hs hce
     unfold xF
     rw[hrun]
     have hci:CallsIn F.plain (n - 1) cx.P k' cargs.toArray W _:=hcall.fn k' args s.H s.H.length (.ret x,H') (iw hcb) hy F.plain (n - 1) g w0 W cargs hF rfl hbs hs.rel hgl hv
     have hci':CallsIn F (n - 1) cx.P k' cargs.toArray W _:=hci
     refine hci'.mono ?_
     rintro e w' ⟨g',e1,e2,e3,e4,e6,e5⟩
     cases e with
     | returned c'=>
      obtain ⟨r1,r2,r3⟩:=Rel.back hs.rel e1 e2 e6 (fun b hb=>e4 b hb hb)
      exact⟨VR.to r3 x c' hu e5,r1,r2⟩
     | panicked _=>exact e5.elim
     | outgrown=>exact e5.elim
  ·split at h
   ·rename_i hcl
    rw[g7] at h
    obtain ⟨q,h1,h2⟩:=bn h
    have hq:∃ x,q=(x,s.H):=by
     unfold bw at h1
     rw[ho] at h1
     simp only at h1
     unfold oQ at h1
     split at h1
     ·obtain ⟨y,_,h1⟩:=bn h1; cases h1; exact⟨_,rfl⟩
     ·rename_i he _ _; rw[hcl] at he; cases he
     ·rename_i he _ _; rw[hcl] at he; cases he
     ·rename_i he _; rw[hcl] at he; cases he
     ·rename_i he _; rw[hcl] at he; cases he
     ·cases h1
    obtain ⟨x',rfl⟩:=hq
    cases h2
    exact qf h1
   ·cases h
 ·rename_i h1 h2 h3 h4 h5 h6 h8 h9 h10 h7
  refine direct ?_ h
  cases ho:o.op<;>first
   | rfl
   | exact absurd ho (by intro hh; first | exact h2 _ hh | exact h3 _ _ hh | exact h4 _ _ _ hh | exact h5 _ _ _ hh | exact h6 _ hh | exact h7 _ hh | exact h8 _ _ hh | exact h9 _ _ _ _ hh | exact h10 _ _ _ _ hh)
def Fact (cx:Cx) (Bs:ar->Gh->World->Prop) (ops:Array Oper) (s:St) (o:Oper) (x:A):Prop:=
 (o.guard=none/\py cx Bs s o x)∨∃ t want,bK ops o=some (t,want)/\((∃ b,look s.fr t=.v (.bool b)/\if b==want then py cx Bs s o x else x=.v undef)∨((∃ y,look s.fr t=.v (.tuple y))/\x=.v undef))
theorem xD {o:Oper} {next:Act->World->Prop} {Q:Exit->Act->World->Prop} {Rr:Value->World->Prop} (hF:fP F) (hnd:∀ c,o.op≠.defer c) (h:xF F n cx.P o a.eval w Rr) (hn:∀ v w',Rr v w'->next (a.put o.dst v) w'):o.wpIn F n cx.P a w next Q:=by
 refine dy hF hnd ?_
 unfold xF at h
 split at h
 ·rename_i hr; rw[hr]; exact hn _ _ h
 ·rename_i hr; rw[hr]; exact hn _ _ h
 ·rename_i hr
  rw[hr,Oper.uponIn_enter]
  refine⟨fun hd=>(by rw[hF.1] at hd; cases hd),?_⟩
  refine h.mono ?_
  intro e w' he
  cases e with
  | returned c=>exact hn _ _ he
  | panicked _=>exact he.elim
  | outgrown=>exact he.elim
 ·rename_i hr
  rw[hr]
  exact⟨fun hd=>(by rw[hF.1] at hd; cases hd),h.mono hn⟩
 ·rename_i hr
  rw[hr]
  refine⟨fun hd=>(by rw[hF.1] at hd; cases hd),?_⟩
  refine h.mono ?_
  intro e w' he
  cases e with
  | returned c=>exact hn _ _ he
  | panicked _=>exact he.elim
  | outgrown=>exact he.elim
 ·exact h.elim
theorem vf {call:aU} {f:Nat} {o:Oper} {x:A} (h:gC cx call f o s=some x):∀ c,o.op≠.defer c:=fun c hc=>by
 unfold gC at h; rw[hc] at h; exact mA (show bw cx f 0 o s (fun a _=>some a)=some x from h) c hc
theorem fq {call:aU} (hcall:dz cx Bs call) (hb0:Bs H0 gs ws) (horc:jr cx) (hF:fP F) {f:Nat} {ops:Array Oper} {k:E->St->Option R} {r:R} {Q:Exit->Act->World->Prop}
  (hk:∀ s' g' a' w',Good cx N mb lo H0 gs ws w0 s' g' a' w'->k .normal s'=some r->Q .normal a' w')
  (hp:∀ x s' g' a' w' c,Good cx N mb lo H0 gs ws w0 s' g' a' w'->VR s'.H g' w' x c->k (.pan x) s'=some r->Q (.panic [{ v:=c,recovered:=false }]) a' w') :
  ∀ (os:List Oper) (s:St) (g:Gh) (a:Act) (w:World),(∀ o∈os,∀ d,o.dst=some d->d<N)->Good cx N mb lo H0 gs ws w0 s g a w->fp cx call f lo ops os s k=some r->wpListIn F n cx.P ops Q os a w
 | [],s,g,a,w,_,hg,h=>hk s g a w hg h
 | o :: os,s,g,a,w,hd,hg,h=>by
  have hd0:=hd o r8
  have ih:=fun s g a w hg h=>fq (f:=f) (ops:=ops) hcall hb0 horc hF hk hp os s g a w (fun o ho=>hd o (by simp[ho])) hg h
  have one:rk cx call f lo o s (fun s=>fp cx call f lo ops os s k) (fun a s=>k (.pan a) s)=some r->o.wpIn F n cx.P a w (wpListIn F n cx.P ops Q os) Q:=fun h=>
   yu hcall horc hF hb0 hg hd0 h (fun s' g' a' w' hg' h'=>ih s' g' a' w' hg' h') (fun x s' g' w' c hg' hv h'=>hp x s' g' a w' c hg' hv h')
  have val:∀ {x:A},gC cx call f o s=some x->fp cx call f lo ops os (s.put o.dst x) k=some r->o.wpIn F n cx.P a w (wpListIn F n cx.P ops Q os) Q:=fun {x} hx h=>
   xD hF (vf hx) (mB hcall horc hx F n g w0 w a.eval hF (hg.sr.PZ o.op) hg.sr.gl (hcall.up _ _ _ _ _ _ hb0 hg.ext)) fun v w' hv=>
    ih _ _ _ _ (hg.step (H':=s.H) hv.2.1 hv.2.2 (Sy _) (fun _ _ _=>rfl) rfl hv.1 hd0) h
  have skip:fp cx call f lo ops os (s.put o.dst (.v undef)) k=some r->(∀ f,o.about cx.P w a.eval=some f->F.fn f)/\wpListIn F n cx.P ops Q os (a.put o.dst undef) w:=fun h=>
   ⟨fun f _=>hF.2.1 f,ih _ _ _ _ (hg.same s6 hd0) h⟩
  unfold fp at h
  unfold wpListIn
  split at h
  ·rename_i hgd
   rw[SH (by simp[Region.wanted,hgd])]
   exact one h
  ·rename_i x hgd
   split at h
   ·cases h
   ·rename_i t want hgs
    have hv:=hg.sr.fr t
    rw[bp] at h
    split at h
    ·obtain ⟨x,h0,h⟩:=bn h
     rcases mG h0 with ⟨b,hb,h0⟩ | ⟨y,hb,h0⟩
     ·rw[hb,VR] at hv
      rw[jA hgs hv]
      split at h0
      ·rename_i hbw
       rw[SH hbw]
       exact val h0 h
      ·rename_i hbw
       rw[SI hbw]
       cases h0
       exact skip h
     ·rw[hb,VR] at hv
      rw[lz hgs hv]
      cases h0
      rw[SI r8]
      exact skip h
    ·rcases mG h with ⟨b,hb,h⟩ | ⟨y,hb,h⟩
     ·rw[hb,VR] at hv
      rw[jA hgs hv]
      split at h
      ·rename_i hbw
       rw[SH hbw]
       exact one h
      ·rename_i hbw
       rw[SI hbw]
       exact skip h
     ·rw[hb,VR] at hv
      rw[lz hgs hv,SI r8]
      exact skip h
theorem xc (s:St) (dst:Option Nat) (x:A) (u:Nat) (h:dst≠some u):look (s.put dst x).fr u=look s.fr u:=by
 cases dst with
 | none=>rfl
 | some d=>
  show look ((d,x) :: s.fr) u=_
  rw[dI,SI (fun e=>h (by rw[e]))]
theorem AV (s:St) (d:Nat) (x:A):look (s.put (some d) x).fr d=x:=by
 show look ((d,x) :: s.fr) d=_
 rw[dI,SH rfl]
theorem rn {call:aU} (hcall:dz cx Bs call) (horc:jr cx) {f:Nat} {ops:Array Oper} {k:St->Option R} {r:R}:∀ (os:List Oper) (s:St),iT cx call f ops os s k=some r ->
  ∃ z,k z=some r/\z.H=s.H/\(∀ t,(∀ o∈os,o.dst≠some t)->look z.fr t=look s.fr t) ∧
   ∀ (i:Nat) o,os[i]? = some o->∃ si x,si.H=s.H/\(∀ t,(∀ (j:Nat) o',j<i->os[j]? = some o'->o'.dst≠some t)->look si.fr t=look s.fr t)/\(∀ t,(∀ (j:Nat) o',i<=j->os[j]? = some o'->o'.dst≠some t)->look si.fr t=look z.fr t) ∧
    (∀ t,o.dst=some t->(∀ (j:Nat) o',i<j->os[j]? = some o'->o'.dst≠some t)->look z.fr t=x)/\Fact cx Bs ops si o x
 | [],s,h=>⟨s,h,rfl,fun _ _=>rfl,fun i o h=>by simp at h⟩
 | o :: os,s,h=>by
  have fin:∀ (s':St) (x:A),s'.H=s.H->(∀ u,look s'.fr u=look s.fr u)->Fact cx Bs ops s' o x->iT cx call f ops os (s'.put o.dst x) k=some r ->
    ∃ z,k z=some r/\z.H=s.H/\(∀ t,(∀ o'∈o :: os,o'.dst≠some t)->look z.fr t=look s.fr t) ∧
     ∀ (i:Nat) o1,(o :: os)[i]? = some o1->∃ si x,si.H=s.H/\(∀ t,(∀ (j:Nat) o',j<i->(o :: os)[j]? = some o'->o'.dst≠some t)->look si.fr t=look s.fr t)/\(∀ t,(∀ (j:Nat) o',i<=j->(o :: os)[j]? = some o'->o'.dst≠some t)->look si.fr t=look z.fr t) ∧
      (∀ t,o1.dst=some t->(∀ (j:Nat) o',i<j->(o :: os)[j]? = some o'->o'.dst≠some t)->look z.fr t=x)/\Fact cx Bs ops si o1 x:=by
   intro s' x hH hl hf h
   obtain ⟨z,h1,h2,h3,h4⟩:=rn hcall horc os (s'.put o.dst x) h
   have hpH:(s'.put o.dst x).H=s.H:=by rw[<-hH]; cases o.dst<;>rfl
   have hz:∀ t,(∀ o'∈o :: os,o'.dst≠some t)->look z.fr t=look s.fr t:=fun t ht=>by
    rw[h3 t (fun o' ho'=>ht o' (by simp[ho'])),xc _ _ _ _ (ht o r8),hl]
   refine⟨z,h1,h2.trans hpH,hz,fun i o1 ho1=>?_⟩
   cases i with
   | zero=>
    simp at ho1
    subst ho1
    refine⟨s',x,hH,fun t _=>hl t,fun t ht=>?_,fun t hd ht=>?_,hf⟩
    ·have hall:∀ o'∈o :: os,o'.dst≠some t:=fun o' ho'=>by
      obtain ⟨j,hj,rfl⟩:=Tu ho'
      exact ht j _ (Tk _) (Sx hj)
     rw[hz t hall,hl]
    ·rw[h3 t (fun o' ho'=>by
      obtain ⟨j,hj,rfl⟩:=Tu ho'
      exact ht (j+1) _ o3 r8),hd,AV]
   | succ i=>
    obtain ⟨si,x1,g1,g2,g3,g4,g5⟩:=h4 i o1 (by simpa using ho1)
    refine⟨si,x1,g1.trans hpH,fun t ht=>?_,fun t ht=>?_,fun t hd ht=>?_,g5⟩
    ·rw[g2 t (fun j o' hj ho'=>ht (j+1) o' o3 (by simpa using ho')),xc _ _ _ _ (ht 0 o o3 rfl),hl]
    ·exact g3 t (fun j o' hj ho'=>ht (j+1) o' o3 (by simpa using ho'))
    ·exact g4 t hd (fun j o' hj ho'=>ht (j+1) o' o3 (by simpa using ho'))
  unfold iT at h
  split at h
  ·rename_i hgd
   obtain ⟨x,h1,h2⟩:=bn h
   exact fin s x rfl (fun _=>rfl) (.inl ⟨hgd,mB hcall horc h1⟩) h2
  ·rename_i q hgd
   split at h
   ·cases h
   ·rename_i t want hgs
    obtain ⟨x,h1,h2⟩:=bn h
    refine fin s x rfl (fun _=>rfl) (.inr ⟨t,want,hgs,?_⟩) h2
    rcases mG h1 with ⟨b,hb,h1⟩ | ⟨y,hb,h1⟩
    ·refine .inl ⟨b,hb,?_⟩
     split at h1
     ·rename_i hbw; rw[SH hbw]; exact mB hcall horc h1
     ·rename_i hbw; rw[SI hbw]; cases h1; rfl
    ·cases h1; exact .inr ⟨⟨y,hb⟩,rfl⟩
theorem mS {ops:Array Oper} {N:Nat} (lj:te ops N=true) {i j:Nat} (h:nv ops i j):j<i:=by
 have lt:∀ {i o e},ops[i]? = some o->e∈o.after->Region.binds .any e=true->e.on<i:=fun {i o e} ho he hb=>by
  have hi:i<ops.size:=(SE.1 ho).1
  have h:=SJ.1 lj i (S6.2 hi)
  simp only[ho,Sz] at h
  have:=UN.1 h.1.1.1.2 e he
  rw[hb] at this; simpa using this
 induction h with
 | edge ho he hb=>exact lt ho he hb
 | thru ho he hb _ ih=>exact Nat.lt_trans ih (lt ho he hb)
theorem lI {ops:Array Oper} {N:Nat} (lj:te ops N=true) {i:Nat} {o:Oper} (ho:ops[i]? = some o):(∀ j d,i≠j->o.dst=some d->bV ops j≠some d)/\(∀ j t,bV ops j=some t->t∈o.looksAt ops->i=j∨ff ops i j=true∨ff ops j i=true):=by
 have hi:i<ops.size:=(SE.1 ho).1
 have h:=SJ.1 lj i (S6.2 hi)
 simp only[ho,Sz] at h
 obtain ⟨⟨⟨⟨⟨_,_⟩,_⟩,h4⟩,h5⟩,_⟩:=h
 have lt:∀ {j t},bV ops j=some t->j<ops.size:=fun {j t} hj=>by
  unfold bV at hj
  cases hx:ops[j]? with
  | none=>rw[hx] at hj; cases hj
  | some _=>exact(SE.1 hx).1
 refine⟨fun j d hij hd hj=>?_,fun j t hj ht=>?_⟩
 ·have:=SJ.1 h4 j (S6.2 (lt hj))
  rw[hd,hj] at this
  simp at this
  exact hij this
 ·have:=SJ.1 h5 j (S6.2 (lt hj))
  rw[hj] at this
  simp[ht] at this
  rcases this with (h | h) | h
  ·exact .inl h
  ·exact .inr (.inl h)
  ·exact .inr (.inr h)
theorem u0 {call:aU} (hcall:dz cx Bs call) (hb0:Bs H0 gs ws) (horc:jr cx) (hF:fP F) (hmx:cx.P.follows .mixedOrders=true) {f m:Nat} {ops:Array Oper} {k:E->St->Option R} {r:R} {Q:Exit->Act->World->Prop} (lj:te ops N=true) (chkt:eV ops m=true)
  (hg:Good cx N mb lo H0 gs ws w0 s g a w) (hd:∀ o∈ops.toList,∀ d,o.dst=some d->d<N)
  (h:iT cx call f ops (ops.toList.take m) s (fun s=>fp cx call f lo ops (ops.toList.drop m) s k)=some r)
  (hk:∀ s' g' a' w',Good cx N mb lo H0 gs ws w0 s' g' a' w'->k .normal s'=some r->Q .normal a' w')
  (hp:∀ x s' g' a' w' c,Good cx N mb lo H0 gs ws w0 s' g' a' w'->VR s'.H g' w' x c->k (.pan x) s'=some r->Q (.panic [{ v:=c,recovered:=false }]) a' w'):LW F n cx.P ops Q a w:=by
 obtain ⟨z,hz,hzH,hzk,hfacts⟩:=rn hcall horc _ s h
 have hr:=hg.sr.rel
 have hget:∀ {i o},i<m->ops[i]? = some o->(ops.toList.take m)[i]? = some o:=fun {i o} him ho=>by
  rw[SS,SH him,Tc]; exact ho
 have hget':∀ {i o},(ops.toList.take m)[i]? = some o->i<m/\ops[i]? = some o:=fun {i o} ho=>by
  rw[SS] at ho
  split at ho
  ·rename_i him; exact⟨him,by rwa [Tc] at ho⟩
  ·cases ho
 have hdst:∀ {i o},ops[i]? = some o->bV ops i=o.dst:=fun {i o} ho=>by unfold bV; rw[ho]; rfl
 refine A1 (F:=F) ⟨hF.1,hF.2.1⟩ hmx N m hg.siz lj chkt (fun W=>Rel s.H g w0 W/\Ext s.H g w s.H g W) (fun W W'=>Ext s.H g W s.H g W') (fun i v W=>∀ t,bV ops i=some t->VR s.H g W (look z.fr t) v)
  (fun i v W W' hv he t ht=>VR.ext he _ _ (hv t ht)) ⟨hr.dY (Below.refl _ _).drew,Ext.below hr (Below.refl _ _).drew⟩ ?_ ?_
 ·rintro i o him ho a' W ⟨hrW,heW⟩ h1 h2 hsz
  obtain ⟨si,x,g1,g2,g3,g4,g5⟩:=hfacts i o (hget him ho)
  obtain ⟨c4,c5⟩:=lI lj ho
  have hlook:∀ t∈o.looksAt ops,VR s.H g W (look si.fr t) (a'.tmps.getD t undef):=fun t ht=>by
   by_cases hj:∃ j,bV ops j=some t/\ff ops i j=true
   ·obtain ⟨j,hjt,hjb⟩:=hj
    have hji:=mS lj (fF i j hjb)
    have hv:=h1 t ht j hjt hjb t hjt
    rw[g3 t (fun j' o' hij' ho' hd'=>by
     obtain ⟨_,ho''⟩:=hget' ho'
     obtain ⟨c4',_⟩:=lI lj ho''
     exact c4' j t o3 hd' hjt)]
    exact hv
   ·have hno:∀ j,bV ops j=some t->ff ops i j=false:=fun j hjt=>by
     cases hb:ff ops i j with
     | false=>rfl
     | true=>exact absurd ⟨j,hjt,hb⟩ hj
    have hs:=h2 t ht hno
    unfold slot at hs
    rw[hs,g2 t (fun j o' hji ho' hd'=>by
     obtain ⟨hjm,ho''⟩:=hget' ho'
     have hjt:bV ops j=some t:=(hdst ho'').trans hd'
     rcases c5 j t hjt ht with h | h | h
     ·omega
     ·rw[hno j hjt] at h; cases h
     ·have:=mS lj (fF j i h); omega)]
    exact VR.ext heW _ _ (hg.sr.fr t)
  have hopr:sO cx si g w0 o.op a'.eval W:=⟨by rw[g1]; exact hrW,fun y hy=>od (fun t ht=>by
    rw[g1]
    refine hlook t ?_
    subst ht
    unfold Oper.looksAt
    exact TP.2 (.inl (VL.2 ⟨.tmp t,hy,rfl⟩))) (fun G vs hG=>by rw[g1]; exact(hg.sr.gl G vs hG).ext heW),fun _=>rfl⟩
  have hx:∀ t,bV ops i=some t->look z.fr t=x:=fun t ht=>g4 t ((hdst ho).symm.trans ht) (fun j o' hij ho' hd'=>by
   obtain ⟨_,ho''⟩:=hget' ho'
   exact c4 j t o3 ((hdst ho).symm.trans ht) ((hdst ho'').trans hd'))
  have run:py cx Bs si o x->xF F n cx.P o a'.eval W (fun v w'=>(∀ t,bV ops i=some t->VR s.H g w' (look z.fr t) v)/\(Rel s.H g w0 w'/\Ext s.H g w s.H g w')/\Ext s.H g W s.H g w'):=fun hpo=>by
   refine(hpo F n g w0 W a'.eval hF hopr (fun G vs hG=>by rw[g1]; exact(hg.sr.gl G vs hG).ext heW) (by rw[g1]; exact hcall.up _ _ _ _ _ _ hb0 (hg.ext.trans heW))).mono ?_
   rintro v w' ⟨k1,k2,k3⟩
   rw[g1] at k1 k2 k3
   exact⟨fun t ht=>by rw[hx t ht]; exact k1,⟨k2,heW.trans k3⟩,k3⟩
  rcases g5 with ⟨hgd,hpo⟩ | ⟨t,want,hgs,hor⟩
  ·rw[SH (by simp[Region.wanted,hgd])]
   exact run hpo
  ·have htl:t∈o.looksAt ops:=by
    rw[ja] at hgs
    unfold Oper.looksAt
    split at hgs
    ·rename_i j want' hgd
     cases hdj:(ops[j]?).bind (·.dst) with
     | none=>rw[hdj] at hgs; cases hgs
     | some t'=>
      rw[hdj] at hgs
      cases hgs
      refine TP.2 (.inr ?_)
      rw[hgd]
      simp[hdj]
    ·cases hgs
   have hv:=hlook t htl
   have sk:x=.v undef->(∀ t',bV ops i=some t'->VR s.H g W (look z.fr t') undef)/\(Rel s.H g w0 W/\Ext s.H g w s.H g W)/\Ext s.H g W s.H g W:=fun hcond=>
    ⟨fun t' ht'=>by rw[hx t' ht',hcond,VR],⟨hrW,heW⟩,Ext.refl hrW⟩
   rcases hor with ⟨b,hlb,hcond⟩ | ⟨⟨y,hlb⟩,hcond⟩
   ·rw[hlb,VR] at hv
    rw[jA hgs hv]
    split at hcond
    ·rename_i hbw
     rw[SH hbw]
     exact run hcond
    ·rename_i hbw
     rw[SI hbw]
     exact sk hcond
   ·rw[hlb,VR] at hv
    rw[lz hgs hv,SI r8]
    exact sk hcond
 ·rintro a' W ⟨hrW,heW⟩ hdf hsz hv hno _
  refine fq (f:=f) (ops:=ops) hcall hb0 horc hF hk hp _ z g a' W (fun o ho=>hd o (S4 ho)) ⟨⟨by rw[hzH]; exact hrW,fun t=>?_,fun G vs hG=>by rw[hzH]; exact(hg.sr.gl G vs hG).ext heW⟩,by rw[hzH]; exact hg.ext.trans heW,by rw[hzH]; exact hg.len,by rw[hzH]; exact hg.low,hsz,(by rw[hdf]; exact hg.dfr.lC heW.kept),SZ hg.mbw heW.size,hg.st⟩ hz
  rw[hzH]
  by_cases ht:∃ i,i<m/\bV ops i=some t
  ·obtain ⟨i,him,hit⟩:=ht
   exact hv i t him hit t hit
  ·have hs:=hno t (fun i him hit=>ht ⟨i,him,hit⟩)
   unfold slot at hs
   rw[hs,hzk t (fun o ho hd'=>by
    obtain ⟨i,hi,rfl⟩:=Tu ho
    obtain ⟨him,ho'⟩:=hget' (Sx hi)
    exact ht ⟨i,him,(hdst ho').trans hd'⟩)]
   exact VR.ext heW _ _ (hg.sr.fr t)
end
section
variable {cx:Cx} {call:aU} {f:Nat} {ops:Array Oper}
def lY (cx:Cx) (call:aU) (f:Nat) (ops:Array Oper) (o:Oper) (s:St):Option A:=match o.guard with
 | none=>gC cx call f o s
 | some _=>match bK ops o with
  | none=>none
  | some (g,w)=>qa (look s.fr g) w (gC cx call f o s) (some (.v undef))
theorem qy {β:Type} {o:Oper} {s:St} (k:A->Option β):ru cx call f o s k=(gC cx call f o s).bind k:=by
 have one:(bw cx f 0 o s fun a _=>k a)=(bw cx f 0 o s fun a _=>some a).bind k:=by
  rw[g7,g7 (k:=fun a _=>some a),Tx]; rfl
 unfold ru gC
 split
 ·rfl
 ·rfl
 ·rfl
 ·rfl
 ·rfl
 ·rfl
 ·rfl
 ·rfl
 ·rfl
 ·rw[bp,bp]
  split
  ·rw[uW,uW]; simp only[Tx,Sw]
  ·split
   ·exact one
   ·rfl
 ·exact one
theorem sI {β:Type} {r:β}:∀ (ds:List Nat) (l:List A) (k:List (Nat×A)->Option β),Fv ds l k=some r->∃ fr l',fr.map (·.1)=ds/\l=fr.map (·.2)++l'/\k fr=some r
 | [],l,k,h=>⟨[],l,rfl,rfl,h⟩
 | d :: ds,[],k,h=>by cases h
 | d :: ds,a :: l,k,h=>by
  obtain ⟨fr,l',h1,h2,h3⟩:=sI ds l _ h
  exact⟨(d,a) :: fr,l',by simp[h1],by simp[h2],h3⟩
theorem yz:∀ {a b:List (Nat×A)} {l':List A},a.map (·.1)=b.map (·.1)->a.map (·.2)=b.map (·.2)++l'->a=b
 | [],[],_,_,_=>rfl
 | [],_ :: _,_,h,_=>by simp at h
 | _ :: _,[],_,h,_=>by simp at h
 | (x,y) :: a,(z,t) :: b,l',h,k=>by
  simp only[TS,TA,Tg] at h k
  obtain ⟨rfl,h⟩:=h
  obtain ⟨rfl,k⟩:=k
  rw[yz h k]
theorem sd (dl:List (Nat×A)) (s:St) (o:Oper) (x:A):(dM dl s).put o.dst x=dM (yn o.dst x dl) s:=by
 cases o.dst<;>rfl
theorem Dn (s:St):dM [] s=s:=rfl
theorem uh (a b:List (Nat×A)) (s:St):dM a (dM b s)=dM (a++b) s:=by simp[dM]
theorem m8 {t:Nat}:∀ {dl:List (Nat×A)} {s:St},iR t (dl.map (·.1))=false->look (dM dl s).fr t=look s.fr t
 | [],s,_=>rfl
 | (d,x) :: dl,s,h=>by
  simp only[TS,iR,bp] at h
  split at h
  ·cases h
  ·rename_i hd
   show look ((d,x) :: (dl++s.fr)) t=_
   rw[dI,SI (fun e=>hd (by simp[e]))]
   exact m8 (dl:=dl) (s:=s) h
theorem iE (t:Nat):∀ (a b:List Nat),iR t (a++b)=(iR t a || iR t b)
 | [],b=>rfl
 | x :: a,b=>by
  simp only[Tg,iR,bp]
  split
  ·rfl
  ·exact iE t a b
def tu (ops:Array Oper) (g:Nat) (w:Bool):List Nat->List Oper->Prop
 | _,[]=>True
 | ds,o :: os=>rM ops g w ds o=true/\tu ops g w (jT o++ds) os
theorem ef (g:Nat) (w:Bool):∀ (os:List Oper) (ds:List Nat),os=(bI ops g w ds os).1++(bI ops g w ds os).2/\tu ops g w ds (bI ops g w ds os).1
 | [],ds=>⟨rfl,trivial⟩
 | o :: os,ds=>by
  unfold bI
  rw[bp]
  split
  ·rename_i h
   obtain ⟨h1,h2⟩:=ef g w os (jT o++ds)
   exact⟨by rw[Tg,<-h1],h,h2⟩
  ·exact⟨rfl,trivial⟩
theorem rN {g:Nat} {w:Bool} {ds:List Nat} {o:Oper} (h:rM ops g w ds o=true):o.guard≠none/\iR g (jT o)=false/\∃ t w',bK ops o=some (t,w')/\((t=g/\w'=w)∨iR t ds=true):=by
 unfold rM at h
 split at h
 ·cases h
 ·rename_i q hq
  split at h
  ·cases h
  ·rename_i t w' hgs
   rw[bp] at h
   split at h
   ·cases h
   ·rename_i hm
    refine⟨by rw[hq]; simp,by simpa using hm,t,w',hgs,?_⟩
    rw[bp] at h
    split at h
    ·rename_i hb
     refine .inl ⟨SM hb,?_⟩
     cases w<;>cases w'<;>simp at h<;>rfl
    ·exact .inr h
theorem tu.out {g:Nat} {w:Bool}:∀ {ds:List Nat} {os:List Oper},tu ops g w ds os->(∀ o∈os,iR g (jT o)=false/\o.guard≠none)/\iR g (gP os)=false
 | _,[],_=>⟨fun o ho=>(by cases ho),rfl⟩
 | ds,o :: os,h=>by
  obtain ⟨h1,h2⟩:=rN h.1
  obtain ⟨h3,h4⟩:=tu.out h.2
  refine⟨fun o' ho'=>?_,?_⟩
  ·rcases Ti.1 ho' with rfl | ho'
   ·exact⟨h2.1,h1⟩
   ·exact h3 o' ho'
  ·rw[gP,iE,h4,h2.1]; rfl
variable {X:Type} {E:List Oper->St->Option X} {Q:Oper->Prop}
theorem Af (hE:∀ o os s,Q o->E (o :: os) s=(lY cx call f ops o s).bind fun x=>E os (s.put o.dst x)) {g:Nat} {w:Bool} (rest:List Oper):∀ (os:List Oper) (ds:List Nat) (dl:List (Nat×A)) (s:St),tu ops g w ds os->(∀ o∈os,Q o)->(look (dM dl s).fr g=.v (.bool (!w))∨∃ y,look (dM dl s).fr g=.v (.tuple y)) ->
  (∀ t,iR t ds=true->look (dM dl s).fr t=.v undef)->E (os++rest) (dM dl s)=E rest (dM (pX (gP os)++dl) s)
 | [],ds,dl,s,_,_,_,_=>rfl
 | o :: os,ds,dl,s,hr,hq,hg,hd=>by
  obtain ⟨hgd,hm,t,w',hgs,hor⟩:=rN hr.1
  have hv:lY cx call f ops o (dM dl s)=some (.v undef):=by
   unfold lY
   cases hgu:o.guard with
   | none=>exact absurd hgu hgd
   | some q=>
    rw[hgs]
    rcases hor with ⟨rfl,rfl⟩ | hmem
    ·rcases hg with hg | ⟨y,hg⟩
     ·simp only[hg,qa]; cases w'<;>rfl
     ·simp only[hg,qa]
    ·simp only[hd t hmem,undef,qa]
  rw[Tg,hE o _ _ (hq o r8),hv,Sw,sd]
  have hlk:∀ t,look (dM (yn o.dst (.v undef) dl) s).fr t=if iR t (jT o)=true then .v undef else look (dM dl s).fr t:=fun t=>by
   cases hdo:o.dst with
   | none=>simp[jT,hdo,iR,yn]
   | some d=>
    show look ((d,.v undef) :: (dl++s.fr)) t=_
    rw[dI]
    simp only[jT,hdo,iR,bp]
    by_cases e:d=t
    ·subst e; simp
    ·rw[SI e]
     rw[SI (by simp[e])]
     rfl
  rw[Af hE rest os (jT o++ds) _ s hr.2 (fun o' ho'=>hq o' (by simp[ho'])) (by rw[hlk,SI (by simp[hm])]; exact hg) (fun t ht=>?_)]
  ·congr 2
   cases hdo:o.dst with
   | none=>simp[gP,jT,hdo,yn]
   | some d=>simp[gP,jT,hdo,pX,yn]
  ·rw[hlk]
   split
   ·rfl
   ·rename_i hn
    rw[iE] at ht
    exact hd t (by simpa [hn] using ht)
theorem mw:∀ (a b:List Oper),gP (a++b)=gP b++gP a
 | [],b=>by simp[gP]
 | o :: a,b=>by simp[gP,mw a b]
theorem uZ {asm:Option (Nat×Bool)} {g d:Nat} {a b:Operand} {os:List Oper} (h:uY ops asm g os=some (d,a,b)):∃ o os',os=o :: os'/\sf ops asm o=true/\o.op=.pick (.tmp g) a b/\o.dst=some d:=by
 unfold uY at h
 split at h
 ·rename_i o os'
  rw[bp] at h
  split at h
  ·rename_i hp
   split at h
   ·rename_i t x y d' ho hd
    rw[bp] at h
    split at h
    ·rename_i ht
     cases h
     exact⟨o,os',rfl,hp,by rw[ho,SM ht],hd⟩
    ·cases h
   ·cases h
  ·cases h
 ·cases h
theorem sj {asm:Option (Nat×Bool)} {o:Oper} {s:St} (h:sf ops asm o=true) (ha:∀ g w,asm=some (g,w)->look s.fr g=.v (.bool w)):lY cx call f ops o s=gC cx call f o s:=by
 unfold sf at h
 unfold lY
 split at h
 ·rename_i hg; rw[hg]
 ·rename_i q hq
  split at h
  ·rename_i g w t w' hgs
   rw[bp] at h
   split at h
   ·rename_i ht
    have:=SM ht
    subst this
    rw[hq,hgs]
    simp only[ha t w rfl,qa]
    cases w<;>cases w'<;>first | rfl | (simp at h)
   ·cases h
  ·cases h
theorem rI (hE:∀ o os s,Q o->E (o :: os) s=(lY cx call f ops o s).bind fun x=>E os (s.put o.dst x)) (hpick:∀ o c a b,o.op=.pick c a b->Q o) {β:Type} {r:β} {asm:Option (Nat×Bool)} {g:Nat} {w:Bool} {os:List Oper} {s:St} {vals:Option (Nat×Operand)->List Oper->Option (List A)} {k:List Oper->List (Nat×A)->Option β}
  (hq:∀ o∈(bI ops g w [] os).1,Q o) (ha:∀ g w,asm=some (g,w)->look s.fr g=.v (.bool w)/\∀ o∈os,iR g (jT o)=false)
  (hv:look s.fr g=.v (.bool w)->∀ fin l,vals fin (bI ops g w [] os).1=some l->∃ dl,l=(wO cx fin dl s).map (·.2)/\dl.map (·.1)=gP (bI ops g w [] os).1/\∀ rest,E ((bI ops g w [] os).1++rest) s=E rest (dM dl s))
  (h:JO ops asm g w os s vals (LF cx s) k=some r):∃ pre rest fr,os=pre++rest/\k rest fr=some r/\fr.map (·.1)=gP pre/\∀ rest',E (pre++rest') s=E rest' (dM fr s):=by
 obtain ⟨hsp,hrun⟩:=ef (ops:=ops) g w os []
 obtain ⟨hro,hgn⟩:=hrun.out
 have hskip:(look s.fr g=.v (.bool (!w))∨∃ y,look s.fr g=.v (.tuple y))->∀ rest,E ((bI ops g w [] os).1++rest) s=E rest (dM (pX (gP (bI ops g w [] os).1)) s):=fun hg rest=>by
  have:=Af hE rest _ [] [] s hrun hq hg (fun t ht=>by cases ht)
  simpa [Dn] using this
 have hmu:∀ ds:List Nat,(pX ds).map (·.1)=ds:=fun ds=>by simp[pX,Function.comp_def]
 unfold JO at h
 split at h
 ·rename_i d a b hep
  obtain ⟨o,os',hrest,hpl,hop,hdst⟩:=uZ hep
  obtain ⟨l,hl,h⟩:=bn h
  obtain ⟨fr,l',e1,e2,e3⟩:=sI _ _ _ h
  obtain ⟨bb,hb,hl⟩:=oE hl
  rw[hrest,List.tail_cons] at e3
  have fin:∀ (dl:List (Nat×A)) (x:Operand),l=(wO cx (some (d,x)) dl s).map (·.2)->dl.map (·.1)=gP (bI ops g w [] os).1->(∀ rest,E ((bI ops g w [] os).1++rest) s=E rest (dM dl s))->x=(if bb then a else b) ->
    ∃ pre rest fr,os=pre++rest/\k rest fr=some r/\fr.map (·.1)=gP pre/\∀ rest',E (pre++rest') s=E rest' (dM fr s):=by
   intro dl x h1 h2 h3 h4
   have hfr:wO cx (some (d,x)) dl s=fr:=yz (l':=l') (by rw[e1]; simp[wO,h2]) (by rw[<-h1,e2])
   refine⟨(bI ops g w [] os).1++[o],os',fr,?_,e3,?_,?_⟩
   ·rw[Tt,Uh,<-hrest]; exact hsp
   ·rw[e1,mw]; simp[gP,jT,hdst]
   ·intro rest'
    rw[Tt,Uh,h3,hE o _ _ (hpick o _ _ _ hop)]
    have hgl:look (dM dl s).fr g=.v (.bool bb):=by rw[m8 (by rw[h2]; exact hgn),hb]
    have hval:lY cx call f ops o (dM dl s)=gC cx call f o (dM dl s):=sj hpl fun g' w' hga=>by
     obtain ⟨ha1,ha2⟩:=ha g' w' hga
     rw[m8 ?_,ha1]
     rw[h2]
     have:∀ (l:List Oper),(∀ o∈l,iR g' (jT o)=false)->iR g' (gP l)=false:=by
      intro l
      induction l with
      | nil=>intro _; rfl
      | cons o' l ih=>intro hh; rw[gP,iE,ih (fun o'' ho''=>hh o'' (by simp[ho''])),hh o' r8]; rfl
     exact this _ fun o' ho'=>ha2 o' (by rw[hsp]; simp[ho'])
    rw[hval]
    have:gC cx call f o (dM dl s)=some (bM cx (dM dl s) x):=by
     unfold gC
     rw[hop]
     show cJ (bM cx (dM dl s) (.tmp g)) _ _=_
     rw[show bM cx (dM dl s) (.tmp g)=.v (.bool bb) from hgl]
     subst h4
     cases bb<;>rfl
    rw[this,Sw,sd,hdst]
    show E rest' (dM ((d,bM cx (dM dl s) x) :: dl) s)=_
    rw[<-hfr]; rfl
  cases bb with
  | true=>
   rw[SH rfl] at hl
   cases w with
   | true=>
    obtain ⟨dl,h1,h2,h3⟩:=hv hb _ _ hl
    exact fin dl a h1 h2 h3 rfl
   | false=>
    cases hl
    exact fin _ a rfl (hmu _) (hskip (.inl hb)) rfl
  | false=>
   rw[SI r8] at hl
   cases w with
   | true=>
    cases hl
    exact fin _ b rfl (hmu _) (hskip (.inl hb)) rfl
   | false=>
    obtain ⟨dl,h1,h2,h3⟩:=hv hb _ _ hl
    exact fin dl b h1 h2 h3 rfl
 ·obtain ⟨l,hl,h⟩:=bn h
  obtain ⟨fr,l',e1,e2,e3⟩:=sI _ _ _ h
  have fin:∀ (dl:List (Nat×A)),l=(wO cx none dl s).map (·.2)->dl.map (·.1)=gP (bI ops g w [] os).1->(∀ rest,E ((bI ops g w [] os).1++rest) s=E rest (dM dl s)) ->
    ∃ pre rest fr,os=pre++rest/\k rest fr=some r/\fr.map (·.1)=gP pre/\∀ rest',E (pre++rest') s=E rest' (dM fr s):=by
   intro dl h1 h2 h3
   have hfr:dl=fr:=yz (l':=l') (by rw[e1,h2]) (by rw[<-e2,h1]; rfl)
   subst hfr
   exact⟨_,_,dl,hsp,e3,h2,h3⟩
  rcases mG hl with ⟨bb,hb,hl⟩ | ⟨y,hb,hl⟩
  ·split at hl
   ·rename_i hbw
    have hbw:bb=w:=by simpa using hbw
    subst hbw
    obtain ⟨dl,h1,h2,h3⟩:=hv hb _ _ hl
    exact fin dl h1 h2 h3
   ·rename_i hbw
    have hbw:bb = !w:=by cases bb<;>cases w<;>simp at hbw ⊢
    subst hbw
    cases hl
    exact fin _ rfl (hmu _) (hskip (.inl hb))
  ·cases hl
   exact fin _ rfl (hmu _) (hskip (.inr ⟨y,hb⟩))
theorem iy (hE:∀ o os s,Q o->E (o :: os) s=(lY cx call f ops o s).bind fun x=>E os (s.put o.dst x)) (hpick:∀ o c a b,o.op=.pick c a b->Q o):∀ (q:Nat) (asm:Option (Nat×Bool)) (fin:Option (Nat×Operand)) (os:List Oper) (dl:List (Nat×A)) (s:St) (l:List A),nR cx call f ops q asm fin os dl s=some l->(∀ o∈os,Q o) ->
  (∀ g w,asm=some (g,w)->look (dM dl s).fr g=.v (.bool w)/\∀ o∈os,iR g (jT o)=false) ->
  ∃ dl',l=(wO cx fin dl' s).map (·.2)/\dl'.map (·.1)=gP os++dl.map (·.1)/\∀ rest,E (os++rest) (dM dl s)=E rest (dM dl' s)
 | 0,_,_,_,_,_,_,h,_,_=>by cases h
 | q+1,asm,fin,[],dl,s,l,h,_,_=>by cases h; exact⟨dl,rfl,rfl,fun _=>rfl⟩
 | q+1,asm,fin,o :: os,dl,s,l,h,hq,ha=>by
  unfold nR at h
  rw[bp] at h
  split at h
  ·rename_i hpl
   rw[qy] at h
   obtain ⟨x,hx,h⟩:=bn h
   obtain ⟨dl',h1,h2,h3⟩:=iy hE hpick q asm fin os _ s l h (fun o' ho'=>hq o' (by simp[ho'])) (fun g w hg=>by
    obtain ⟨k1,k2⟩:=ha g w hg
    refine⟨?_,fun o' ho'=>k2 o' (by simp[ho'])⟩
    have hm:=k2 o r8
    cases hd:o.dst with
    | none=>exact k1
    | some d=>
     simp only[jT,hd] at hm
     show look ((d,x) :: (dl++s.fr)) g=_
     rw[dI,SI (fun e=>by simp[iR,e] at hm)]
     exact k1)
   refine⟨dl',h1,?_,fun rest=>?_⟩
   ·rw[h2]
    cases hd:o.dst<;>simp[gP,jT,hd,yn]
   ·rw[Tg,hE o _ _ (hq o r8),sj hpl (fun g w hg=>(ha g w hg).1),hx,Sw,sd,h3]
  ·split at h
   ·cases h
   ·rename_i t w hgs
    obtain ⟨_,h⟩:=bc h
    obtain ⟨pre,rest,fr,h1,h2,h3,h4⟩:=rI (E:=fun os' s'=>E os' s') hE hpick (fun o' ho'=>hq o' (by
     rw[(ef (ops:=ops) t w (o :: os) []).1]; simp[ho'])) ha (fun hlk fin' l' hl'=>by
     obtain ⟨dl2,k1,k2,k3⟩:=iy hE hpick q (some (t,w)) fin' _ [] (dM dl s) l' hl' (fun o' ho'=>hq o' (by
      rw[(ef (ops:=ops) t w (o :: os) []).1]; simp[ho'])) (fun g' w' hg'=>by
      cases hg'
      exact⟨hlk,fun o' ho'=>((ef (ops:=ops) t w (o :: os) []).2.out.1 o' ho').1⟩)
     exact⟨dl2,k1,by simpa using k2,k3⟩) h
    rw[h1] at hq ha ⊢
    have hnm:∀ g,(∀ o∈pre,iR g (jT o)=false)->iR g (gP pre)=false:=by
     intro g
     clear h1 h2 h3 h4 hq ha
     induction pre with
     | nil=>intro _; rfl
     | cons o' l ih=>intro hh; rw[gP,iE,ih (fun o'' ho''=>hh o'' (by simp[ho''])),hh o' r8]; rfl
    obtain ⟨dl',k1,k2,k3⟩:=iy hE hpick q asm fin rest (fr++dl) s l h2 (fun o' ho'=>hq o' (by simp[ho'])) (fun g' w' hg'=>by
     obtain ⟨m1,m2⟩:=ha g' w' hg'
     refine⟨?_,fun o' ho'=>m2 o' (by simp[ho'])⟩
     rw[<-uh,m8 (by rw[h3]; exact hnm g' fun o' ho'=>m2 o' (by simp[ho']))]
     exact m1)
    refine⟨dl',k1,by rw[k2,mw]; simp[h3],fun rest'=>?_⟩
    rw[Tt,h4,uh,k3]
end
section
open Go.RowKit
variable {P:Program} {H H':ar} {g g':Gh} {w0 w w':World} {cx:Cx} {s:St} {z:Nat->Bool} {f lo:Nat}
def bF (z:Nat->Bool) (H:ar):ar:=H.mapIdx fun b B=>bif z b then .hole else B
theorem eQ (z:Nat->Bool) (H:ar) (b:Nat):(bF z H)[b]? = (H[b]?).map fun B=>bif z b then .hole else B:=by simp[bF,List.getElem?_mapIdx]
theorem cN (z:Nat->Bool) (H:ar):(bF z H).length=H.length:=by simp[bF]
theorem ez {b:Nat} (h:z b=false):(bF z H)[b]? = H[b]?:=by rw[eQ,h]; cases H[b]?<;>rfl
theorem rV {b:Nat} {B:aD} (h:z b=true) (hB:H[b]? = some B):(bF z H)[b]? = some .hole:=by rw[eQ,h,hB]; rfl
theorem fy {B:aD} (h:z H.length=false):bF z (H++[B])=bF z H++[B]:=by
 refine TY fun b=>?_
 rw[eQ]
 by_cases hb:b<H.length
 ·rw[SP hb,SP (by rw[cN]; exact hb),eQ]
 ·by_cases e:b=H.length
  ·subst e
   rw[S3 (Sy _),S3 (by rw[cN]; exact Sy _),cN,h]
   simp
  ·rw[TM r9,TM (by simp[cN]; omega)]
   rfl
theorem kN {b:Nat} {B:aD} (h:z b=false):bF z (H.set b B)=(bF z H).set b B:=by
 refine TY fun c=>?_
 rw[eQ,UB,UB,cN]
 by_cases e:b=c
 ·subst e
  rw[SH rfl,SH rfl,h]
  split<;>rfl
 ·rw[SI e,SI e,eQ]
theorem yL {z':Nat->Bool} {b:Nat} {B:aD} (hB:H[b]? = some B) (h1:z' b=false) (h2:∀ c,c≠b->z' c=z c):bF z' H=(bF z H).set b B:=by
 refine TY fun c=>?_
 rw[eQ,UB,cN]
 by_cases e:b=c
 ·subst e
  rw[SH rfl,SH (SB.1 hB).1,h1,hB]
  rfl
 ·rw[SI e,eQ,h2 c (TF e)]
theorem rU (h:∀ b,z b=false):bF z H=H:=by
 refine TY fun c=>?_
 rw[eQ,h]
 cases H[c]?<;>rfl
theorem tz {a:A} {c:Value} {b:Nat} (h:VR H g w a c) (hb:blk? a=some b):∃ B,H[b]? = some B/\B≠.hole:=by
 cases a with
 | ptr b' o=>
  cases hb
  rw[VR] at h
  cases hq:H[b]? with
  | none=>rw[hq] at h; exact h.elim
  | some B=>rw[hq] at h; exact⟨B,rfl,fun e=>by subst e; exact h.elim⟩
 | ep b' i o=>
  cases hb
  rw[VR] at h
  cases hq:H[b]? with
  | none=>rw[hq] at h; exact h.elim
  | some B=>rw[hq] at h; exact⟨B,rfl,fun e=>by subst e; exact h.elim⟩
 | sl b' o n cl=>
  cases hb
  rw[VR] at h
  cases hq:H[b]? with
  | none=>rw[hq] at h; exact h.elim
  | some B=>rw[hq] at h; exact⟨B,rfl,fun e=>by subst e; exact h.elim⟩
 | mr b'=>
  cases hb
  rw[VR] at h
  cases hq:H[b]? with
  | none=>rw[hq] at h; exact h.elim
  | some B=>rw[hq] at h; exact⟨B,rfl,fun e=>by subst e; exact h.elim⟩
 | _=>cases hb
theorem zr {a:A} {c:Value} {b:Nat} (h:VR (bF z H) g w a c) (hb:blk? a=some b):z b=false:=by
 obtain ⟨B,h1,h2⟩:=tz h hb
 cases hz:z b with
 | false=>rfl
 | true=>
  rw[eQ,hz] at h1
  cases hq:H[b]? with
  | none=>rw[hq] at h1; cases h1
  | some B'=>rw[hq] at h1; cases h1; exact absurd rfl h2
theorem Rel.CC:∀ (q:Nat) {H:ar} {g:Gh},Rel H g w0 w->∃ g',Rel (H++List.replicate q .hole) g' w0 w/\Ext H g w (H++List.replicate q .hole) g' w/\g'.S=g.S
 | 0,H,g,hr=>⟨g,by simpa using hr,by simpa using Ext.refl hr,rfl⟩
 | q+1,H,g,hr=>by
  obtain ⟨h1,h2⟩:=hr.push (Below.refl _ w) .hole none [] (fun k hk=>by cases hk) (fun _=>Gh.bq _ _ _ _)
  obtain ⟨g',e1,e2,e3⟩:=Rel.CC q h1
  have e:H++List.replicate (q+1) aD.hole=H++[.hole]++List.replicate q .hole:=by rw[List.replicate_succ,Tt]; rfl
  rw[e]
  exact⟨g',e1,h2.trans e2,e3⟩
theorem Rel.fill (hr:Rel H g w0 w) {w':World} (hb:Below w.heap.size w w') {b:Nat} (hB0:H[b]? = some .hole) {cs:List A} {arr:Array Value} {ty:TypeId} (hw:w'.heap[w.heap.size]? = some (.cells arr ty (0,0)))
  (hv:Ext H g w (H.set b (.box cs)) (g.put b (some w.heap.size) []) w'->bl (H.set b (.box cs)) (g.put b (some w.heap.size) []) w' cs arr.toList) :
  Rel (H.set b (.box cs)) (g.put b (some w.heap.size) []) w0 w'/\Ext H g w (H.set b (.box cs)) (g.put b (some w.heap.size) []) w':=by
 have hsz:w.heap.size<w'.heap.size:=(SE.1 hw).1
 have hbl:b<H.length:=(SB.1 hB0).1
 have hget:∀ c,c≠b->(H.set b (.box cs))[c]? = H[c]?:=fun c hc=>SO (TF hc)
 have hgetb:(H.set b (aD.box cs))[b]? = some (.box cs):=by rw[SY (by simpa using hbl)]
 have hmub:g.mu b=none:=hr.blk b _ hB0
 have he:Ext H g w (H.set b (.box cs)) (g.put b (some w.heap.size) []) w':=by
  refine⟨fun k o v hs hc=>?_,fun c B' hB'=>?_,fun k o ho=>(hb.block k (SE.1 ho).1).trans ho,hb.size,fun k marr cl hs hm=>?_,fun k hk _=>hb.block k hk,fun c k h=>?_⟩
  rotate_right 1
  ·by_cases e:c=b
   ·subst e; rw[Gh.bq] at h; cases h; exact .inr (Sy _)
   ·exact .inl ⟨c,by rwa [Gh.ay _ _ _ e] at h⟩
  ·have hlt:=Uo w ⟨k,o,none⟩ hc
   refine⟨(hb.cell (p:=⟨k,o,none⟩) hlt).trans hc,hs.1,fun c hck=>?_⟩
   have hne:c≠b:=fun e=>by subst e; rw[Gh.bq] at hck; cases hck; exact absurd hlt (UI _)
   rw[Gh.ay _ _ _ hne] at hck
   obtain ⟨es,els,h3,h4⟩:=hs.2 c hck
   exact⟨es,els,by rw[hget c hne]; exact h3,h4⟩
  ·by_cases e:c=b
   ·subst e
    rw[hB0] at hB'; cases hB'
    exact⟨_,hgetb,trivial⟩
   ·refine⟨B',by rw[hget c e]; exact hB',?_⟩
    cases B' with
    | box _=>exact Gh.ay _ _ _ e
    | row wr es els=>cases wr with
     | true=>exact⟨rfl,rfl,Gh.ay _ _ _ e,fun k arr ty hk' ha=>⟨arr,dt hb ha,Sy _⟩⟩
     | false=>exact⟨rfl,⟨[],by rw[Gh.dK _ _ _ e]; simp⟩,(hr.blk c _ hB').len,Sy _,fun _=>⟨Gh.ay _ _ _ e,fun k arr ty hk' ha=>⟨arr,dt hb ha,Sy _⟩⟩⟩
    | rng _=>exact⟨Gh.ay _ _ _ e,rfl⟩
    | mp _ _ _=>exact Gh.ay _ _ _ e
    | dead=>trivial
    | hole=>trivial
  ·have hlt:=(SE.1 hm).1
   refine⟨(hb.block k hlt).trans hm,hs.1,fun c hck=>?_⟩
   have hne:c≠b:=fun e=>by subst e; rw[Gh.bq] at hck; cases hck; exact absurd hlt (UI _)
   rw[Gh.ay _ _ _ hne] at hck
   obtain ⟨es,els,h3,h4⟩:=hs.2 c hck
   exact⟨es,els,by rw[hget c hne]; exact h3,h4⟩
 refine⟨⟨hr.below.trans (hb.mono hr.below.size),fun c k hck=>?_,fun c d k h1 h2=>?_,hr.xk he,hr.vD he,fun c B' hB'=>?_⟩,he⟩
 ·by_cases e:c=b
  ·subst e; rw[Gh.bq] at hck; cases hck
   exact⟨by simpa using hbl,hr.below.size,hsz⟩
  ·rw[Gh.ay _ _ _ e] at hck
   obtain ⟨h1,h2,h3⟩:=hr.dom c k hck
   exact⟨by simpa using h1,h2,SQ h3 hb.size⟩
 ·by_cases e:c=b
  ·by_cases e':d=b
   ·rw[e,e']
   ·subst e
    rw[Gh.bq] at h1; cases h1
    rw[Gh.ay _ _ _ e'] at h2
    exact absurd (hr.dom d _ h2).2.2 (UI _)
  ·by_cases e':d=b
   ·subst e'
    rw[Gh.bq] at h2; cases h2
    rw[Gh.ay _ _ _ e] at h1
    exact absurd (hr.dom c _ h1).2.2 (UI _)
   ·rw[Gh.ay _ _ _ e] at h1
    rw[Gh.ay _ _ _ e'] at h2
    exact hr.inj c d k h1 h2
 ·by_cases e:c=b
  ·subst e
   rw[hgetb] at hB'; cases hB'
   exact⟨w.heap.size,arr,ty,Gh.bq _ _ _ _,hw,hv he⟩
  ·rw[hget c e] at hB'
   have h:=hr.blk c B' hB'
   cases B' with
   | box cs=>obtain ⟨k,arr,ty,h1,h2,h3⟩:=h; exact⟨k,arr,ty,(Gh.ay _ _ _ e).trans h1,dt hb h2,bl.ext he _ _ h3⟩
   | row wr es els=>cases wr with
    | true=>
     obtain ⟨ds,h1,h2,h3⟩:=h
     exact⟨ds,bf.ext he _ _ h1,h2,fun hp=>let ⟨k,arr,ty,e1,e2,e3⟩:=h3 hp; ⟨k,arr,ty,(Gh.ay _ _ _ e).trans e1,dt hb e2,e3⟩⟩
    | false=>
     obtain ⟨h1,h2⟩:=h
     refine⟨?_,?_⟩
     ·rw[Gh.dK _ _ _ e]; exact bf.ext he _ _ h1
     ·rw[Gh.dK _ _ _ e]; exact h2
   | rng st=>obtain ⟨k,h1,h2⟩:=h; exact⟨k,(Gh.ay _ _ _ e).trans h1,dt hb h2⟩
   | mp _ _ _=>obtain ⟨k,arr,cl,h1,h2,h3,h4⟩:=h; exact⟨k,arr,cl,(Gh.ay _ _ _ e).trans h1,dt hb h2,h3,bl.ext he _ _ h4⟩
   | dead=>exact(Gh.ay _ _ _ e).trans h
   | hole=>exact(Gh.ay _ _ _ e).trans h
theorem yd (hr:Rel H g w0 w) {t:TypeId} {b:Nat} {cs:List A} (hB0:H[b]? = some .hole) (hz:gB P t=some cs) :
  ∃ d w' g',(Instr.alloc t true (.tuple #[])).run P w=.ok d w'/\Rel (H.set b (.box cs)) g' w0 w'/\Ext H g w (H.set b (.box cs)) g' w'/\VR (H.set b (.box cs)) g' w' (.ptr b 0) d/\g'.S=g.S:=by
 obtain ⟨i,z,hi,hzz,rfl⟩:=fC hz
 have hb:Below w.heap.size w (w.alloc (.cells z.cells t)):=(Below.refl _ w).alloc (Sy _) _
 obtain ⟨h1,h2⟩:=hr.fill hb hB0 (cs:=z.cells.toList.map xH) (Ue w _) (fun he=>ij _)
 refine⟨.pointer (some ⟨w.heap.size,0,none⟩),_,_,by simp[Instr.alloc,zeroValue,typeInfo,hi,hzz,newVar,newRow,newObj]; rfl,h1,h2,?_,rfl⟩
 rw[VR,SY (by simpa using (SB.1 hB0).1)]
 exact⟨w.heap.size,Gh.bq _ _ _ _,rfl⟩
def fe (H:ar) (b:Nat):Option (List (List A)):=match H[b]? with | some (.row false _ els)=>some els | _=>none
theorem uj {H:ar} {b:Nat} {C:aD} (h:H[b]? = some C) (hC:∀ es els,C≠aD.row false es els):fe H b=none:=by
 unfold fe
 rw[h]
 cases C with
 | row wr es els=>cases wr with
  | true=>rfl
  | false=>exact absurd rfl (hC es els)
 | _=>rfl
theorem sC {H H':ar} (h:∀ b,fe H b=fe H' b):∀ q,gS q H=gS q H'
 | 0=>rfl
 | q+1=>by
  funext b o m
  have hb:=h b
  have gen:∀ K:ar,gS (q+1) K b o m=match fe K b with | some els=>.imm (cP (gS q K) ((els.drop o).take m)) false | none=>.any:=fun K=>by
   unfold gS fe
   cases K[b]? with
   | none=>rfl
   | some B=>cases B with
    | row wr es els=>cases wr<;>rfl
    | _=>rfl
  rw[gen H,gen H',hb,sC h q]
theorem pT {H H':ar} (h:∀ b,fe H b=fe H' b):snap H=snap H':=by
 funext a
 unfold snap
 rw[sC h 4]
theorem tU {H H':ar} (h:∀ b,fe H b=fe H' b):cY H=cY H':=by
 funext a
 unfold cY AK
 rw[pT h]
def ub (z:Nat->Bool) (r:A×ar):A×ar:=(r.1,bF z r.2)
theorem cg {α β γ:Type} {q:Option α} {F:α->Option β} {G:α->Option γ} {h:γ->β} (hh:∀ a,F a=(G a).map h):q.bind F=(q.bind G).map h:=by
 cases q with
 | none=>rfl
 | some a=>exact hh a
theorem wh {t:TypeId} {a x:A} (hb:∀ b,blk? a=some b->z b=false):iL P t a x (bF z H) lo=(iL P t a x H lo).map (bF z):=by
 unfold iL
 cases cz P t with
 | none=>rfl
 | some n=>
  cases x.cells? with
  | none=>rfl
  | some xs=>
   simp only[Sw]
   cases (n==0 || !(xs.length==n)) with
   | true=>rfl
   | false=>
    simp only[SA]
    cases a with
    | ptr b o=>
     have hz:=hb b rfl
     simp only[ez hz]
     split
     ·rename_i cs _
      cases (decide (lo<=b)&&decide (o+n<=cs.length)) with
      | false=>rfl
      | true=>simp only[SC,Tp,kN hz]
     ·rfl
    | ep b i o=>
     have hz:=hb b rfl
     simp only[ez hz]
     split
     ·rename_i es els _
      split
      ·rename_i cs _
       cases (decide (lo<=b)&&decide (o+n<=cs.length)) with
       | true=>simp only[SC,Tp,kN hz]
       | false=>
        simp only[SA]
        cases (decide (lo<=b)&&Nat.beq o 0&&Nat.beq (n / es*es) n&&decide (i+n / es<=els.length)) with
        | true=>simp only[SC,Tp,kN hz]
        | false=>rfl
      ·rfl
     ·rfl
    | _=>rfl
theorem ss {t:TypeId} {cs:List A} (hz:z H.length=false):rowOf P t cs (bF z H)=(rowOf P t cs H).map (ub z):=by
 unfold rowOf
 split
 ·cases cz P _ with
  | none=>rfl
  | some es=>
   simp only[Sw]
   rename_i n e _
   cases (Nat.beq es 0 || Nat.beq n 0 || !Nat.beq cs.length (n*es)) with
   | true=>rfl
   | false=>simp only[SA,Tp,ub,fy hz,cN]
 ·rfl
theorem wo {t:TypeId} {c:Bool} (hz:z H.length=false):nM c P t (bF z H)=(nM c P t H).map (ub z):=by
 unfold nM
 cases c with
 | true=>
  simp only[SC]
  unfold jF
  cases gB P t with
  | none=>rfl
  | some cs=>exact ss hz
 | false=>
  simp only[SA]
  unfold kY
  cases gB P t with
  | none=>rfl
  | some cs=>simp only[Tp,ub,fy hz,cN]
theorem Az {t:TypeId} {x:A} {c:Bool} (hz:z H.length=false):ye c P t x (bF z H)=(ye c P t x H).map (ub z):=by
 unfold ye
 cases c with
 | true=>
  simp only[SC]
  unfold tC
  cases x.cells? with
  | none=>rfl
  | some cs=>exact ss hz
 | false=>
  simp only[SA]
  unfold xW
  cases x.cells? with
  | none=>rfl
  | some cs=>simp only[Tp,ub,fy hz,cN]
theorem pD {w:Bool} {t:TypeId} {n c:A} (hz:z H.length=false):dV w P t n c (bF z H)=(dV w P t n c H).map (ub z):=by
 unfold dV
 refine cg fun e=>cg fun es=>cg fun by_=>cg fun zz=>cg fun n=>cg fun c=>?_
 cases (es==0 || !(zz.length==es) || !decide (c*by_<=db) || !decide (c<=db) || !decide (n<=c)) with
 | true=>rfl
 | false=>
  simp only[SA]
  cases n==c with
  | true=>simp only[SC,Tp,ub,fy hz,cN]
  | false=>cases n==0 with
   | true=>simp only[SC,SA,Tp,ub,fy hz,cN]
   | false=>rfl
theorem yK {t:TypeId} {n c:A} {b w:Bool} (hz:z H.length=false):rT b w P t n c (bF z H)=(rT b w P t n c H).map (ub z):=by
 unfold rT
 cases b with
 | false=>exact pD hz
 | true=>
  simp only[SC]
  unfold gG
  refine cg fun e=>cg fun es=>cg fun by_=>cg fun zz=>cg fun n=>cg fun c=>?_
  cases (es==0 || !(zz.length==es) || !decide (c*by_<=db) || !decide (c<=db) || !(n==c))<;>rfl
theorem wE {a:A} (hb:∀ b,blk? a=some b->z b=false):els? (bF z H) a=els? H a:=by
 cases a with
 | sl b o n c=>simp only[els?,ez (hb b rfl)]
 | v x=>cases x<;>rfl
 | _=>rfl
theorem xY {t:TypeId} {x y:A} (hx:∀ b,blk? x=some b->z b=false) (hy:∀ b,blk? y=some b->z b=false):p0 P t x y (bF z H) lo=(p0 P t x y H lo).map (ub z):=by
 unfold p0
 rw[wE hy]
 refine cg fun e=>cg fun es=>cg fun ys=>?_
 cases (es==0 || !(ys.all fun cs=>cs.length==es&&cs.all A.cell)) with
 | true=>rfl
 | false=>
  simp only[SA]
  cases x with
  | sl b o n c=>
   have hz:=hx b rfl
   simp only[ez hz]
   split
   ·rename_i es' els _
    cases (decide (lo<=b)&&es'==es) with
    | true=>simp only[SC,Tp,ub,kN hz]
    | false=>rfl
   ·rfl
  | _=>rfl
theorem AG {t2:TypeId} {by_:Nat} {zz:List A} {a:A} (hb:∀ b,blk? a=some b->z b=false):yo P (bF z H) t2 by_ zz a=yo P H t2 by_ zz a:=by
 unfold yo
 rw[wE hb]
theorem uI {t t2:TypeId} {wr:Bool} {x y:A} (hz:z H.length=false) (hx:∀ b,blk? x=some b->z b=false) (hy:∀ b,blk? y=some b->z b=false):bG P t t2 wr x y (bF z H) lo=(bG P t t2 wr x y H lo).map (ub z):=by
 unfold bG
 simp only[AG hy]
 refine cg fun e=>cg fun es=>cg fun by_=>cg fun zz=>cg fun ys=>?_
 cases (es==0 || by_==0 || !(zz.length==es) || !(ys.all fun cs=>cs.length==es&&cs.all A.cell)) with
 | true=>rfl
 | false=>
  simp only[SA]
  cases x with
  | imm xs cl=>cases cl with
   | false=>rfl
   | true=>
    simp only[]
    cases !decide ((xs.length+ys.length)*by_<=db) with
    | true=>rfl
    | false=>
     simp only[SA]
     cases wr&&xs.isEmpty with
     | true=>simp only[SC,Tp,ub,fy hz,cN]
     | false=>
      simp only[SA]
      cases (xs.all fun cs=>cs.length==es&&cs.all A.cell) with
      | true=>simp only[SC,Tp,ub,fy hz,cN]
      | false=>rfl
  | sl b o n c=>
   have hzb:=hx b rfl
   simp only[ez hzb]
   split
   ·rename_i es' els _
    cases (!decide ((n+ys.length)*by_<=db) || !(es'==es) || !decide (o+n<=els.length)) with
    | true=>rfl
    | false=>
     simp only[SA]
     cases c with
     | true=>simp only[SC,Tp,ub,fy hz,cN]
     | false=>
      simp only[SA]
      cases (decide (lo<=b)&&o==0&&n==els.length) with
      | true=>simp only[SC,Tp,ub,kN hzb]
      | false=>rfl
   ·rfl
  | _=>rfl
theorem DG {a x:A} (hrow:∀ b,fe (bF z H) b=fe H b):bN a (bF z H) x=bN a H x:=by
 unfold bN
 rw[tU hrow]
theorem A3 {p:Bool} {a x:A} (hrow:∀ b,fe (bF z H) b=fe H b):DH p a (bF z H) x=DH p a H x:=by
 cases p with
 | true=>rfl
 | false=>exact DG hrow
theorem Cj {o:Oper} {fr:List (Nat×A)} (he:dp o=true) (hz:z H.length=false) (hrow:∀ b,fe (bF z H) b=fe H b) (hop:∀ y∈o.op.operands.toList,∀ b,blk? (bM cx ⟨fr,H⟩ y)=some b->z b=false) :
  bw cx f lo o ⟨fr,bF z H⟩ (fun a H=>some (a,H))=(bw cx f lo o ⟨fr,H⟩ (fun a H=>some (a,H))).map (ub z):=by
 have ho:∀ x,bM cx ⟨fr,bF z H⟩ x=bM cx ⟨fr,H⟩ x:=fun x=>by cases x<;>rfl
 have bm:∀ (q:Option (A×ar)),(q.map (ub z)).bind (fun r=>some (r.1,r.2))=(q.bind fun r=>some (r.1,r.2)).map (ub z):=fun q=>by cases q<;>rfl
 unfold dp at he
 split at he
 ·rename_i t ad v h
  unfold bw
  simp only[h,ho]
  rw[A3 hrow,wh (hop ad (by rw[h]; simp[Op.operands]))]
  cases iL cx.P t (bM cx ⟨fr,H⟩ ad) (DH (cx.pin f t) (bM cx ⟨fr,H⟩ ad) H (bM cx ⟨fr,H⟩ v)) H lo<;>rfl
 ·rename_i t h
  unfold bw
  simp only[h,ho]
  rw[wo hz,bm]
 ·rename_i t v h
  unfold bw
  simp only[h,ho]
  rw[Az hz,bm]
 ·rename_i t l c h
  unfold bw
  simp only[h,ho]
  rw[yK hz,bm]
 ·rename_i c h
  unfold bw
  simp only[h]
  have hopc:∀ y∈c.args.toList,∀ b,blk? (bM cx ⟨fr,H⟩ y)=some b->z b=false:=fun y hy=>hop y (by rw[h]; simp[Op.operands,Call.operands]; exact .inr (by simpa using hy))
  split at he
  ·rename_i hca
   unfold oQ
   simp only[hca]
   split
   all_goals first | (rename_i hh _ _; cases hh; done) | (rename_i hh _ _; injection hh with hh; cases hh; done) | skip
   ·rename_i x y t t2 _ hargs _
    simp only[ho]
    rw[uI hz (hopc x (by rw[hargs]; simp)) (hopc y (by rw[hargs]; simp)),bm]
   all_goals first | rfl | (rename_i hh _; injection hh with hh; cases hh; done)
  ·rename_i hca
   unfold oQ
   simp only[hca]
   split
   all_goals first | (rename_i hh _ _; cases hh; done) | (rename_i hh _ _; injection hh with hh; cases hh; done) | skip
   ·rename_i x y t t2 _ hargs _
    simp only[ho]
    rw[xY (hopc x (by rw[hargs]; simp)) (hopc y (by rw[hargs]; simp)),bm]
   all_goals first | rfl | (rename_i hh _; injection hh with hh; cases hh; done)
  ·cases he
 ·cases he
end
end Go.Proofs.Ytebkhfhcipnfgaa
