/-
 Blocks that are not there yet: holes in the heap, and what fills them.
-/
import Derived.Test.YtebkhfhcipnfgaaGreatEvWrite2
import Derived.TacticsIn
import Derived.Lib.SliceRun
namespace Go.Proofs.YtebkhfhcipnfgaaGreat
set_option linter.unusedSimpArgs false
set_option linter.unusedVariables false
set_option linter.defProp false
theorem H6 {p:Prop} (h:p:=by simp only[cD]; rw[VR]; trivial):p:=h
theorem XI {p:Prop} (h:p:=by simp only[List.length_append,List.length_take,List.length_drop]; omega):p:=h
def XT:=@decide_eq_true
def Ya:=@Nat.zero_le
def Yn:=@List.drop_zero
def YA:=@List.take_of_length_le
def YJ:=@List.cons.injEq
def Zl:=@run_firstCells_some
def Zn:=@List.singleton_append
def ZH:=@List.getElem?_set
def ZJ:=@Nat.mul_le_mul_left
def ZX:=@List.map_take
def Z3:=@List.length_nil
def Z7:=@if_false
def qai:=@Array.getElem?_setIfInBounds_self_of_lt
def qaj:=@Nat.mul_add
def qaq:=@List.getElem?_cons_succ
def qar:=@World.putObj_heap_same
def qav:=@Option.bind_none
def qaD:=@World.alloc_heap_new
def qaE:=@List.map_nil
def qaF:=@Array.toArray_toList
def qaO:=@List.mem_filterMap
def qaS:=@Array.size_append
def qaZ:=@List.mem_flatten
def qa0:=@Nat.le_total
def qa6:=@grownBy_putObj'
def qbd:=@growslice_fits
def qbe:=@Array.getElem?_modify
def qbj:=@Array.getElem_modify
section
open Go.RowKit
variable {P:Program} {H:aC} {g:Gh} {w0 w:World}
theorem oA {t:TypeId} (h:kC P t=true):P.underlying t=some .string∨∃ e,P.underlying t=some (.slice e):=by
 unfold kC at h
 split at h
 ·rename_i e hu; exact .inr ⟨e,hu⟩
 ·rename_i hu; exact .inl hu
 ·cases h
theorem ow {t:TypeId} (h:vR P t=true):∃ k,P.underlying t=some (.int k):=by
 unfold vR at h
 split at h
 ·rename_i k hu; exact⟨k,hu⟩
 ·cases h
def Src (P:Program) (t2:TypeId) (i:TypeInfo) (c:Value) (m:Nat) (news:List Value) (w w2:World):Prop:=
 (kC P t2=true/\(Builtin.lenOf c).run P w=.ok m w/\(Builtin.firstCells i.size m c).run P w2=.ok news.toArray w2)∨∃ z,vR P t2=true/\c=.int .i64 (m:Int)/\i.zero=some z/\m*i.bytes<=281474976710656/\m<=140737488355328/\i.size≠0/\news.toArray=Builtin.zeroCells z.cells m
set_option maxHeartbeats 800000 in
theorem lI {t t2 ty e:TypeId} {i:TypeInfo} (ht:P.underlying t=some (.slice e)) (hi:P.info? e=some i) {a:Addr} {n cap m:Nat} {c:Value} {news:List Value} (h2:Src P t2 i c m news w w) (hroom:n+m<=cap):(Builtin.append_ #[t,t2] ty #[.slice (some a) n cap,c]).run P w=((storeCells (a.add (n*i.size)) news).run P w).andThen fun _ w'=>.ok (.slice (some a) (n+m) cap) w':=by
 rcases h2 with ⟨h2,hlen,hf⟩ | ⟨z,h2,rfl,hz,h3,h4,h6,h5⟩
 ·have hd:=oA h2
  rcases hd with hd | ⟨e2,hd⟩<;>simp[Builtin.append_,X2 ht,X2 hd,sizeOf,typeInfo,hi,hlen,hf,hroom]
 ·obtain ⟨k,hd⟩:=ow h2
  have hw:IntKind.i64.wrap (m:Int)=(m:Int):=by simp only[IntKind.wrap,IntKind.bits,IntKind.signed]; simp; omega
  have hb:¬ (281474976710656<(m:Int)*(i.bytes:Int)):=by rw[<-Z2]; omega
  have hn0:¬ ((m:Int)<0):=o3
  have e5:news=(Builtin.zeroCells z.cells m).toList:=by rw[<-h5]
  by_cases hm:m=0
  ·subst hm
   have:news=[]:=by rw[e5]; simp[Builtin.zeroCells]
   subst this
   have hroom':n<=cap:=o3
   have hw0:IntKind.i64.wrap (0:Int)=(0:Int):=by decide
   simp[Builtin.append_,X2 ht,X2 hd,sizeOf,typeInfo,zeroValue,asInt,asIntOf,hi,hz,hroom',hw0]
  ·have hms:¬ (m*i.size=0):=Nat.mul_ne_zero hm h6
   simp[Builtin.append_,X2 ht,X2 hd,sizeOf,typeInfo,zeroValue,asInt,asIntOf,hi,hz,hroom,hw,hb,hn0,e5]
   intro h0; exact absurd h0 hms
set_option maxHeartbeats 800000 in
theorem qd {t t2 ty e:TypeId} {i:TypeInfo} (ht:P.underlying t=some (.slice e)) (hi:P.info? e=some i) {n cap:Nat} {base:Option Addr} {c:Value} (h2:Src P t2 i c 0 [] w w) (hroom:n<=cap):(Builtin.append_ #[t,t2] ty #[.slice base n cap,c]).run P w=.ok (.slice base n cap) w:=by
 rcases h2 with ⟨h2,hlen,hf⟩ | ⟨z,h2,rfl,hz,h3,h4,h6,h5⟩
 ·have hd:=oA h2
  rcases hd with hd | ⟨e2,hd⟩<;>cases base<;>simp[Builtin.append_,X2 ht,X2 hd,sizeOf,typeInfo,hi,hlen,hf,hroom,storeCells]
 ·obtain ⟨k,hd⟩:=ow h2
  have hw:IntKind.i64.wrap (0:Int)=(0:Int):=by decide
  cases base<;>simp[Builtin.append_,X2 ht,X2 hd,sizeOf,typeInfo,zeroValue,asInt,asIntOf,hi,hz,hroom,hw,storeCells]
set_option maxHeartbeats 800000 in
theorem lH {t t2 ty e:TypeId} {i:TypeInfo} {z:Value} (ht:P.underlying t=some (.slice e)) (hi:P.info? e=some i) (hz:i.zero=some z) {base:Option Addr} {n cap m:Nat} {c:Value} {news olds:List Value} (h2:Src P t2 i c m news w w.drew)
  (hfo:(Builtin.firstCells i.size n (.slice base n cap)).run P w.drew=.ok olds.toArray w.drew) (hg:cap<n+m) (h63:n+m<=9223372036854775807) (hfit:Builtin.nextslicecap (n+m) cap*i.bytes<=281474976710656) :
  (Builtin.append_ #[t,t2] ty #[.slice base n cap,c]).run P w=.ok (.slice (some ⟨w.heap.size,0,none⟩) (n+m) (grownCap w (n+m) cap e)) (w.drew.alloc (.cells (olds.toArray++news.toArray++Builtin.zeroCells z.cells (grownCap w (n+m) cap e - (n+m))) e)):=by
 have hn:¬ (n+m<=cap):=o3
 have h63':¬ (9223372036854775807<((n:Int)+(m:Int))):=o3
 have h48':¬ (281474976710656<Builtin.nextslicecap (n+m) cap*i.bytes):=o3
 rcases h2 with ⟨h2,hlen,hf⟩ | ⟨z',h2,rfl,hz',h3,h4,h6,h5⟩
 ·have hd:=oA h2
  rcases hd with hd | ⟨e2,hd⟩
  all_goals
   simp[Builtin.append_,X2 ht,X2 hd,sizeOf,typeInfo,zeroValue,hi,hz,hlen,hn,h63',h48',Question.forced,hf,hfo,newRow,grownCap]
   congr 2
   apply ZF
   simp[Yx]
 ·obtain ⟨k,hd⟩:=ow h2
  rw[hz] at hz'; cases hz'
  have hw:IntKind.i64.wrap (m:Int)=(m:Int):=by simp only[IntKind.wrap,IntKind.bits,IntKind.signed]; simp; omega
  have hb:¬ (281474976710656<(m:Int)*(i.bytes:Int)):=by rw[<-Z2]; omega
  have hn0:¬ ((m:Int)<0):=o3
  have e5:news=(Builtin.zeroCells z.cells m).toList:=by rw[<-h5]
  have hmax:IntKind.i64.max=9223372036854775807:=by decide
  have h63m:¬ (IntKind.i64.max<((n:Int)+(m:Int))):=by rw[hmax]; exact h63'
  by_cases hm:m=0
  ·subst hm
   have:news=[]:=by rw[e5]; simp[Builtin.zeroCells]
   subst this
   have hw0:IntKind.i64.wrap (0:Int)=(0:Int):=by decide
   have hn':¬ (n<=cap):=o3
   have g63:¬ (9223372036854775807<(n:Int)):=o3
   have g48:¬ (281474976710656<Builtin.nextslicecap n cap*i.bytes):=h48'
   simp[Builtin.append_,X2 ht,X2 hd,sizeOf,typeInfo,zeroValue,asInt,asIntOf,hi,hz,hw0,hn',g63,g48,hfo,Question.forced,newRow,grownCap]
  ·simp[Builtin.append_,X2 ht,X2 hd,sizeOf,typeInfo,zeroValue,asInt,asIntOf,hi,hz,hw,hb,hn0,e5,hn,h63',h63m,h48',Question.forced,hfo,newRow,grownCap]
   intro h0; exact absurd h0 (Nat.mul_ne_zero hm h6)
theorem tM {ds:List (List Value)} {m:Nat} {j:Nat} {v:Value} (h:(ds.take m).flatten[j]? = some v):ds.flatten[j]? = some v:=by
 have:ds.flatten=(ds.take m).flatten++(ds.drop m).flatten:=XF
 rw[this,X6 (XS.1 h).1]
 exact h
theorem AY (hr:Rel H g w0 w) {y:A} {ys:List (List A)} {c:Value} {es:Nat} (h:els? H y=some ys) (hy:VR H g w y c) (hes:∀ cs∈ys,cs.length=es) :
  ∃ ds,bw H g w ys ds/\(∀ d∈ds,d.length=es)/\∀ w',(∀ a,w'.cell? a=w.cell? a)->(Builtin.lenOf c).run P w'=.ok ys.length w'/\∀ m,m<=ys.length->(Builtin.firstCells es m c).run P w'=.ok (ds.take m).flatten.toArray w':=by
 have lens:∀ {ds:List (List Value)},bw H g w ys ds->∀ d∈ds,d.length=es:=fun {ds} hv d hd=>by
  obtain ⟨i,hi,rfl⟩:=YI hd
  have hl:=hv.length
  obtain ⟨d',hd',hv'⟩:=hv.get (i:=i) (XN o3)
  rw[XN hi] at hd'
  cases hd'
  rw[hv'.length]
  exact hes _ (Ys _)
 rcases ug hr h hy with ⟨s,rfl,rfl⟩ | ⟨a,cap,ds,es',rfl,h2,h3,h4,h5⟩
 ·simp only[els?,YE] at h
  have hv:bw H g w ys (s.data.toList.map fun b=>[.int .u8 b.toNat]):=by
   rw[<-h]
   refine cR.2 ⟨r8,fun i a d ha hd=>?_⟩
   simp only[Yq,Yu] at ha hd
   obtain ⟨b,hb,rfl⟩:=ha
   obtain ⟨b',hb',rfl⟩:=hd
   rw[hb] at hb'; cases hb'
   rw[bB]; exact⟨_,[],rfl,s6,u3⟩
  have hn:ys.length=s.size:=by rw[<-h,Zx,ZW]; rfl
  refine⟨_,hv,lens hv,fun w' _=>⟨by rw[hn]; rfl,fun m hm=>?_⟩⟩
  have e:(Array.map (fun b:UInt8=>Value.int IntKind.u8 (b.toNat:Int)) (s.extract 0 m).data)=((s.data.toList.map fun b=>[Value.int .u8 (b.toNat:Int)]).take m).flatten.toArray:=by
   rw[<-ZX,mZ]
   apply ZF
   simp[ByteArray.data_extract,ZX]
  simp only[Builtin.firstCells]
  rw[e]
  rfl
 ·refine⟨ds,h4,lens h4,fun w' hw'=>⟨rfl,fun m hm=>?_⟩⟩
  have hl:=h4.length
  cases a with
  | none=>
   have:ys.length=0:=by
    by_cases hp:0<ys.length
    ·obtain ⟨k,off,e1,_⟩:=h5 hp; cases e1
    ·omega
   obtain rfl:m=0:=o3
   simp[Builtin.firstCells]
  | some a=>
   refine Zl (P:=P) w' es m a _ cap _ (fY (lens h4) o3) fun j v hj=>?_
   rw[hw']
   by_cases hp:0<ys.length
   ·obtain ⟨k,off,e1,hc⟩:=h5 hp
    cases e1
    rw[Y3]
    exact hc j v (tM hj)
   ·obtain rfl:m=0:=by omega
    simp at hj
theorem bw.one {els:List (List A)} {ds:List (List Value)} (h:bw H g w els ds) (hc:∀ cs∈els,∀ a∈cs,a.cell=true):∀ x∈ds.flatten,x.oneCell'=true:=fun x hx=>by
 obtain ⟨d,hd,hxd⟩:=qaZ.1 hx
 obtain ⟨i,hi,rfl⟩:=YI hd
 have hl:=h.length
 obtain ⟨d',hd',hv'⟩:=h.get (i:=i) (XN o3)
 rw[XN hi] at hd'
 cases hd'
 obtain ⟨j,hj,rfl⟩:=YI hxd
 have hl':=hv'.length
 obtain ⟨x',hx',hvx⟩:=hv'.get (i:=j) (XN o3)
 rw[XN hj] at hx'
 cases hx'
 exact rA (hc _ (Ys _) _ (Ys _)) hvx
def isCells:Obj->Bool
 | .cells ..=>true
 | _=>false
theorem Rel.grow (hr:Rel H g w0 w) {b es:Nat} {els new:List (List A)} (hB:H[b]? = some (.row false es els)) {w':World} {γ:List (List Value)} {ko:Option Nat} (hbelow:Below w0.heap.size w w')
  (hcell:∀ k o v,eF H g k o->w.cell? ⟨k,o,none⟩=some v->w'.cell? ⟨k,o,none⟩=some v)
  (hobj:∀ k,k<w.heap.size->g.mu b≠some k->w'.heap[k]? = w.heap[k]?) (hkept:∀ (k:Nat) (o:Obj),w.heap[k]? = some o->isCells o=false->w'.heap[k]? = some o) (hsize:w.heap.size<=w'.heap.size)
  (hnew:bw (H.set b (.row false es (els++new))) (g.put b ko (g.ga b++γ)) w' new γ∨bw H g w new γ) (hγ:∀ d∈γ,d.length=es)
  (hko:(ko=g.mu b/\∀ k arr ty,g.mu b=some k->w.heap[k]? = some (.cells arr ty (0,0))->∃ arr',w'.heap[k]? = some (.cells arr' ty (0,0))/\arr.size<=arr'.size)∨(ko=some w.heap.size/\w.heap.size<w'.heap.size/\new≠[])) :
  Rel (H.set b (.row false es (els++new))) (g.put b ko (g.ga b++γ)) w0 w'/\Ext H g w (H.set b (.row false es (els++new))) (g.put b ko (g.ga b++γ)) w':=by
 have hlt:b<H.length:=(XS.1 hB).1
 have hlen:=(hr.blk b _ hB).len
 have hother:∀ c k,c≠b->g.mu c=some k->w'.heap[k]? = w.heap[k]?:=fun c k hc hk=>hobj k (hr.dom c k hk).2.2 fun h=>hc (hr.inj c b k hk h)
 have hkb:∀ k,ko=some k->g.mu b=some k∨k=w.heap.size:=fun k hk=>by
  rcases hko with ⟨h1,_⟩ | ⟨h1,_⟩
  ·exact .inl (h1 ▸ hk)
  ·rw[h1] at hk; cases hk; exact .inr rfl
 have he:Ext H g w (H.set b (.row false es (els++new))) (g.put b ko (g.ga b++γ)) w':=by
  refine⟨fun k o v hs hc=>⟨hcell k o v hs hc,hs.1,fun c hck=>?_⟩,fun c C hC=>?_,fun k x h=>hkept k _ h rfl,hsize,fun k arr cl hs hm=>⟨hkept k _ hm rfl,hs.1,fun c hck=>?_⟩,fun k hk hn=>hobj k hk (hn b),fun c k h=>?_⟩
  rotate_right 1
  ·by_cases e:c=b
   ·subst e
    rw[Gh.bJ] at h
    rcases hkb k h with h1 | h1
    ·exact .inl ⟨c,h1⟩
    ·exact .inr (qam h1.symm)
   ·exact .inl ⟨c,by rwa [Gh.aI _ _ _ e] at h⟩
  ·by_cases e:c=b
   ·subst e
    rw[Gh.bJ] at hck
    refine⟨es,els++new,by rw[Yf hlt],?_⟩
    rcases hkb k hck with h1 | rfl
    ·obtain ⟨es',els',h2,h3⟩:=hs.2 c h1
     rw[hB] at h2; cases h2
     have:=ZJ es (show els.length<=(els++new).length by simp)
     omega
    ·exact absurd (Zu w ⟨_,o,none⟩ hc) r8
   ·rw[Gh.aI _ _ _ e] at hck
    obtain ⟨es',els',h2,h3⟩:=hs.2 c hck
    exact⟨es',els',by rw[X4 (YS e)]; exact h2,h3⟩
  ·by_cases e:c=b
   ·subst e
    rw[hB] at hC; cases hC
    refine⟨.row false es (els++new),by rw[Yf hlt],rfl,⟨γ,Gh.hY _ _ _ _⟩,hlen,r8,fun hl=>?_⟩
    have hn0:new=[]:=by simpa using hl
    rcases hko with ⟨h1,h2⟩ | ⟨_,_,h3⟩
    ·exact⟨by rw[Gh.bJ,h1],h2⟩
    ·exact absurd hn0 h3
   ·refine⟨C,by rw[X4 (YS e)]; exact hC,?_⟩
    cases C with
    | box _=>exact Gh.aI _ _ _ e
    | row wr es' els'=>cases wr with
     | true=>exact⟨rfl,rfl,Gh.aI _ _ _ e,fun k arr ty hk ha=>⟨arr,(hother c k e hk).trans ha,XP _⟩⟩
     | false=>exact⟨rfl,⟨[],by rw[Gh.eB _ _ _ e]; simp⟩,(hr.blk c _ hC).len,XP _,fun _=>⟨Gh.aI _ _ _ e,fun k arr ty hk ha=>⟨arr,(hother c k e hk).trans ha,XP _⟩⟩⟩
    | rng _=>exact⟨Gh.aI _ _ _ e,rfl⟩
    | mp _ _ _=>exact Gh.aI _ _ _ e
    | dead=>trivial
    | hole=>trivial
  ·by_cases e:c=b
   ·subst e
    rw[Gh.bJ] at hck
    refine⟨es,els++new,by rw[Yf hlt],?_⟩
    rcases hkb k hck with h1 | rfl
    ·obtain ⟨es',els',h2,h3⟩:=hs.2 c h1
     rw[hB] at h2; cases h2
     have:=ZJ es (show els.length<=(els++new).length by simp)
     omega
    ·exact absurd (XU.1 hm).1 r8
   ·rw[Gh.aI _ _ _ e] at hck
    obtain ⟨es',els',h2,h3⟩:=hs.2 c hck
    exact⟨es',els',by rw[X4 (YS e)]; exact h2,h3⟩
 have hsz:=hbelow.size
 refine⟨⟨hr.below.trans hbelow,fun c k hck=>?_,fun c d k h1 h2=>?_,hr.xW he,hr.wa he,fun c C hC=>?_⟩,he⟩
 ·by_cases e:c=b
  ·subst e
   rw[Gh.bJ] at hck
   rcases hko with ⟨h1,_⟩ | ⟨h1,h2,_⟩
   ·have:=hr.dom c k (h1 ▸ hck)
    exact⟨by simpa using this.1,this.2.1,o3⟩
   ·rw[h1] at hck; cases hck
    exact⟨by simpa using hlt,hr.below.size,h2⟩
  ·rw[Gh.aI _ _ _ e] at hck
   have:=hr.dom c k hck
   exact⟨by simpa using this.1,this.2.1,o3⟩
 ·by_cases e:c=b
  ·by_cases e':d=b
   ·rw[e,e']
   ·subst e
    rw[Gh.bJ] at h1
    rw[Gh.aI _ _ _ e'] at h2
    rcases hkb k h1 with h | rfl
    ·exact hr.inj _ _ k h h2
    ·have:=(hr.dom d _ h2).2.2; omega
  ·by_cases e':d=b
   ·subst e'
    rw[Gh.bJ] at h2
    rw[Gh.aI _ _ _ e] at h1
    rcases hkb k h2 with h | rfl
    ·exact hr.inj _ _ k h1 h
    ·have:=(hr.dom c _ h1).2.2; omega
   ·rw[Gh.aI _ _ _ e] at h1
    rw[Gh.aI _ _ _ e'] at h2
    exact hr.inj c d k h1 h2
 ·by_cases e:c=b
  ·subst e
   rw[Yf hlt] at hC; cases hC
   obtain ⟨h1,h2⟩:=hr.blk c _ hB
   refine⟨?_,?_⟩
   ·rw[Gh.hY]
    exact(bw.ext he _ _ h1).append (hnew.elim id (fun h=>bw.ext he _ _ h))
   ·rw[Gh.hY]
    intro d hd
    rcases Y4.1 hd with hd | hd
    ·exact h2 d hd
    ·exact hγ d hd
  ·rw[X4 (YS e)] at hC
   have h:=hr.blk c C hC
   cases C with
   | box cs=>obtain ⟨k,arr,ty,h1,h2,h3⟩:=h; exact⟨k,arr,ty,(Gh.aI _ _ _ e).trans h1,(hother c k e h1).trans h2,bB.ext he _ _ h3⟩
   | row wr es' els'=>cases wr with
    | true=>
     obtain ⟨ds,h1,h2,h3⟩:=h
     exact⟨ds,bw.ext he _ _ h1,h2,fun hp=>let ⟨k,arr,ty,e1,e2,e3⟩:=h3 hp; ⟨k,arr,ty,(Gh.aI _ _ _ e).trans e1,(hother c k e e1).trans e2,e3⟩⟩
    | false=>
     obtain ⟨h1,h2⟩:=h
     refine⟨?_,?_⟩
     ·rw[Gh.eB _ _ _ e]; exact bw.ext he _ _ h1
     ·rw[Gh.eB _ _ _ e]; exact h2
   | rng st=>obtain ⟨k,h1,h2⟩:=h; exact⟨k,(Gh.aI _ _ _ e).trans h1,(hother c k e h1).trans h2⟩
   | mp _ _ _=>obtain ⟨k,arr,cl,h1,h2,h3,h4⟩:=h; exact⟨k,arr,cl,(Gh.aI _ _ _ e).trans h1,(hother c k e h1).trans h2,h3,bB.ext he _ _ h4⟩
   | dead=>exact(Gh.aI _ _ _ e).trans h
   | hole=>exact(Gh.aI _ _ _ e).trans h
theorem tu (hr:Rel H g w0 w) {t t2 ty:TypeId} {wr:Bool} {x y z:A} {cx cy:Value} {H':aC} {lo:Nat} (h:bK P t t2 wr x y H lo=some (z,H')) (hx:VR H g w x cx) (hy:VR H g w y cy):Step H g w0 w lo ((Builtin.append_ #[t,t2] ty #[cx,cy]).run P w) z H':=by
 unfold bK at h
 replace h:=bE h
 obtain ⟨e,he,h⟩:=h
 have hu:=jP he
 replace h:=bE h
 obtain ⟨es,hes,h⟩:=h
 replace h:=bE h
 obtain ⟨by_,hby,h⟩:=h
 replace h:=bE h
 obtain ⟨zz,hz,h⟩:=h
 replace h:=bE h
 obtain ⟨ys,hys,h⟩:=h
 replace h:=eE h
 obtain ⟨h0,h⟩:=h
 simp only[YK,Zo,YV,Y8] at h0
 obtain ⟨⟨⟨h0,hb0⟩,h1⟩,h3⟩:=h0
 obtain ⟨it,v,hi,hv,rfl⟩:=fP hz
 obtain ⟨it',hi',hsz⟩:=gy hes
 rw[hi] at hi'; cases hi'
 have hvs:v.cells.size=es:=by simpa using h1
 have hbv:it.bytes=by_:=by unfold jN at hby; rw[hi] at hby; simpa using hby
 have hys3:∀ cs∈ys,cs.length=es/\∀ a∈cs,a.cell=true:=fun cs hcs=>by
  have:=X0.1 h3 cs hcs
  simp only[XQ,YV] at this
  exact⟨this.1,X0.1 this.2⟩
 obtain ⟨ds,hvd,hld,hsA,hsB⟩:∃ ds,bw H g w ys ds/\(∀ d∈ds,d.length=es)/\Src P t2 it cy ys.length ds.flatten w w/\Src P t2 it cy ys.length ds.flatten w w.drew:=by
  unfold yV at hys
  rw[bG] at hys
  split at hys
  ·rename_i hn
   obtain ⟨ds,hvd,hld,hsrc⟩:=AY (P:=P) hr hys hy (fun cs hcs=>(hys3 cs hcs).1)
   obtain ⟨hlen,hfirst⟩:=hsrc w (fun _=>rfl)
   obtain ⟨_,hfirstd⟩:=hsrc w.drew (fun _=>r8)
   have hdl:=hvd.length
   have hall:(ds.take ys.length).flatten=ds.flatten:=by rw[YA o3]
   have hf:=hfirst ys.length (XP _)
   have hfd:=hfirstd ys.length (XP _)
   rw[hall,<-hsz] at hf hfd
   exact⟨ds,hvd,hld,.inl ⟨hn,hlen,hf⟩,.inl ⟨hn,hlen,hfd⟩⟩
  ·split at hys
   ·rename_i n
    replace hys:=bu hys
    obtain ⟨hc,hys⟩:=hys
    simp only[XQ,XV] at hc
    obtain ⟨⟨⟨c1,c2⟩,c3⟩,c4⟩:=hc
    cases hys
    rw[VR] at hy
    subst hy
    unfold dF at c3 c4
    have hz0:0<v.cells.size:=o3
    have hb:n.toNat*it.bytes<=281474976710656:=by
     rw[hbv]
     have:((n.toNat*by_:Nat):Int)<=140737488355328:=by rw[Z2,qak c2]; exact c3
     omega
    have hsrc:∀ w',Src P t2 it (.int .i64 n) (List.replicate n.toNat ((v.cells.toList.map zx).map wk)).length (List.replicate n.toNat v.cells.toList).flatten w w':=fun w'=>by
     rw[List.length_replicate]
     refine .inr ⟨v,c1,by rw[qak c2],hv,hb,o3,o3,?_⟩
     rw[<-nC v.cells n.toNat hz0]
     rfl
    refine⟨List.replicate n.toNat v.cells.toList,cR.2 ⟨r8,fun i a d ha hd=>?_⟩,fun d hd=>by rw[(Z1.1 hd).2]; simpa using hvs,hsrc w,hsrc w.drew⟩
    rw[Zv] at ha hd
    split at ha
    ·rename_i hlt; rw[XX hlt] at hd; cases ha; cases hd; exact pL (jz _)
    ·cases ha
   ·cases hys
 have hdl:=hvd.length
 have hone:=hvd.one (fun cs hcs=>(hys3 cs hcs).2)
 have hfl:ds.flatten.length=ys.length*es:=by rw[b7 hld,hdl]
 have small:∀ {n:Nat},(n+ys.length)*by_<=dF->n+ys.length<=9223372036854775807/\(n+ys.length)*it.bytes<=140737488355328:=fun {n} hl=>by
  unfold dF at hl
  refine⟨?_,by rw[hbv]; exact hl⟩
  have:(n+ys.length)*1<=(n+ys.length)*by_:=ZJ _ o3
  omega
 have zero:∀ {n cap:Nat} {base:Option Addr},cx=.slice base n cap->n<=cap->ys.length=0->(Builtin.append_ #[t,t2] ty #[cx,cy]).run P w=.ok cx w:=fun {n cap base} hc hle hy0=>by
  subst hc
  have hd0:ds=[]:=Ye o3
  rw[hy0,hd0] at hsA
  exact qd hu hi hsA hle
 have grows:∀ {n cap:Nat} {base:Option Addr} {olds:List Value},cx=.slice base n cap->cap<n+ys.length->(n+ys.length)*by_<=dF->olds.length=n*es->(Builtin.firstCells es n (.slice base n cap)).run P w.drew=.ok olds.toArray w.drew ->
   ∃ c2 arr,(Builtin.append_ #[t,t2] ty #[cx,cy]).run P w=.ok (.slice (some ⟨w.heap.size,0,none⟩) (n+ys.length) c2) (w.drew.alloc (.cells arr e))/\n+ys.length<=c2/\c2*es<=arr.size/\∀ (j:Nat) x,(olds++ds.flatten)[j]? = some x->arr[j]? = some x:=fun {n cap base olds} hc hlt hl hol hfo=>by
  subst hc
  obtain ⟨s1,s2⟩:=small hl
  have hrun:=lH (P:=P) (ty:=ty) hu hi hv hsB (by rw[hsz]; exact hfo) hlt s1 (qbd hlt s2)
  refine⟨_,_,hrun,qaL w _ _ _,?_,fun j x hj=>?_⟩
  ·have:=qaL w (n+ys.length) cap e
   simp only[qaS,List.size_toArray,size_zeroCells,hvs,hol,hfl]
   rw[<-YL,<-YL]
   exact Zs _ o3
  ·have hlt:=(XS.1 hj).1
   rw[Zg (by simpa using hlt)]
   have:(olds.toArray++ds.flatten.toArray)[j]? = (olds++ds.flatten)[j]?:=r8
   rw[this]; exact hj
 have hbd:∀ arr,Below w.heap.size w (w.drew.alloc (.cells arr e)):=fun arr=>((Below.refl _ w).drew).alloc (XP _) _
 have hnew:∀ arr,(w.drew.alloc (.cells arr e)).heap[w.heap.size]? = some (.cells arr e (0,0)):=fun arr=>Zi w.drew _
 have fresh:∀ {n:Nat} {a:Option Addr} {xs:List (List A)} {xds:List (List Value)},cx=.slice a n n->xs.length=n->bw H g w xs xds->(∀ d∈xds,d.length=es)->(0<n->∃ k off,a=some ⟨k,off,none⟩/\bM H g w k off xds.flatten)->(n+ys.length)*by_<=dF ->
   Step H g w0 w lo ((Builtin.append_ #[t,t2] ty #[cx,cy]).run P w) (.sl H.length 0 (n+ys.length) false) (H++[.row false es (xs++ys)]):=fun {n a xs xds} hc hxl hxv hxd hcell hl=>by
  have hxdl:=hxv.length
  have hlens:∀ d∈xds++ds,d.length=es:=fun d hd=>(Y4.1 hd).elim (hxd d) (hld d)
  have hall2:((xds++ds).drop 0).take (n+ys.length)=xds++ds:=by rw[Yn,YA r9]
  have hblk:∀ {ko:Option Nat} {w':World},Ext H g w (H++[.row false es (xs++ys)]) (g.put H.length ko (xds++ds)) w'->lP (H++[.row false es (xs++ys)]) (g.put H.length ko (xds++ds)) w' H.length (.row false es (xs++ys)):=fun {ko w'} he'=>
   ⟨by rw[Gh.hY]; exact(bw.ext he' _ _ hxv).append (bw.ext he' _ _ hvd),by rw[Gh.hY]; exact hlens⟩
  by_cases hy0:ys.length=0
  ·have hyn:ys=[]:=Ye hy0
   have hdn:ds=[]:=Ye o3
   obtain ⟨r1,r2⟩:=hr.push (Below.refl _ _) (.row false es (xs++ys)) none (xds++ds) (fun k hk=>by cases hk) (fun he'=>hblk he')
   refine⟨_,_,_,zero hc (XP _) hy0,r1,r2,?_,r8,iK _ _ _,rfl⟩
   rw[VR,ew,Gh.hY,hall2]
   refine⟨r9,a,n,by rw[hc,hy0]; rfl,o3,fun h=>(by cases h),fun hp=>?_,fun _ _ _ h=>absurd h o3⟩
   obtain ⟨k,off,e1,e2⟩:=hcell o3
   exact⟨k,off,e1,by rw[hdn,YN] at r2 ⊢; exact e2.ext r2⟩
  ·have hfo:(Builtin.firstCells es n (.slice a n n)).run P w.drew=.ok xds.flatten.toArray w.drew:=by
    cases a with
    | none=>
     have hn0:n=0:=by
      by_cases hp:0<n
      ·obtain ⟨k,off,e1,_⟩:=hcell hp; cases e1
      ·omega
     have:xds=[]:=Ye o3
     subst this
     subst hn0
     simp[Builtin.firstCells]
    | some a=>
     refine Zl (P:=P) w.drew es n a n n _ (by rw[b7 hxd,hxdl,hxl]) fun j x hj=>?_
     by_cases hp:0<n
     ·obtain ⟨k,off,e1,hcc⟩:=hcell hp
      cases e1
      rw[Y3]; exact(hcc j x hj).1
     ·have:xds=[]:=Ye o3
      subst this
      simp at hj
   obtain ⟨c2,arr,hrun,k1,k2,k3⟩:=grows (olds:=xds.flatten) hc o3 hl (by rw[b7 hxd,hxdl,hxl]) hfo
   obtain ⟨r1,r2⟩:=hr.push (hbd arr) (.row false es (xs++ys)) (some w.heap.size) (xds++ds) (fun k hk=>by cases hk; exact⟨rfl,r8⟩) (fun he'=>hblk he')
   refine⟨_,_,_,hrun,r1,r2,?_,r8,iK _ _ _,rfl⟩
   rw[VR,ew,Gh.hY,hall2]
   refine⟨r9,_,c2,rfl,k1,fun h=>(by cases h),fun _=>⟨w.heap.size,0,rfl,fun j x hj=>?_⟩,fun _ _ _ _=>⟨w.heap.size,arr,e,Gh.bJ _ _ _ _,rfl,hnew arr,k2⟩⟩
   refine⟨by rw[YB,Zh _ _ j arr e (0,0) (hnew arr)]; exact k3 j x (by rw[<-Zy]; exact hj),hr.out _ _ (XP _),fun b hb=>?_⟩
   have hbe:b=H.length:=by
    by_cases e':b=H.length
    ·exact e'
    ·rw[Gh.aI _ _ _ e'] at hb; exact absurd (hr.dom b _ hb).2.2 (ZI _)
   subst hbe
   refine⟨es,xs++ys,ew _ _,?_⟩
   have:=(XS.1 hj).1
   rw[b7 hlens,YZ] at this
   simp only[X9] at this ⊢
   rw[hxdl,hdl] at this
   omega
 split at h
 ·rename_i xs
  replace h:=eE h
  obtain ⟨hl,h⟩:=h
  have hl:(xs.length+ys.length)*by_<=dF:=by simpa using hl
  rw[VR] at hx
  obtain ⟨a,cap,xds,xes,rfl,g1,g2,g3,g4,g5⟩:=hx
  have hcap:=g2 rfl
  subst hcap
  rw[bG] at h
  split at h
  ·rename_i hemp
   simp only[XQ] at hemp
   obtain ⟨hwr,hemp⟩:=hemp
   subst hwr
   have hx0:xs=[]:=by simpa using hemp
   subst hx0
   cases h
   by_cases hy0:ys.length=0
   ·have hyn:ys=[]:=Ye hy0
    subst hyn
    have hdn:ds=[]:=Ye (by simpa using hdl)
    subst hdn
    have hrun:=zero rfl r8 rfl
    obtain ⟨r1,r2⟩:=hr.push (Below.refl _ _) (.row true es []) none [] (fun k hk=>by cases hk) (fun _=>⟨[],by rw[bw],r8,r8⟩)
    refine⟨_,_,_,hrun,r1,r2,?_,r8,iK _ _ _,rfl⟩
    rw[VR,ew]
    exact⟨r8,a,0,rfl,XP _,fun _=>rfl,fun h=>absurd h r8,fun _ _ _ hlt=>absurd hlt (ZI _)⟩
   ·obtain ⟨c2,arr,hrun,k1,k2,k3⟩:=grows (olds:=[]) rfl r9 hl r8 (by
     cases a with
     | none=>simp[Builtin.firstCells]
     | some a=>exact Zl (P:=P) w.drew es 0 a 0 _ [] r8 (fun j v hj=>by simp at hj))
    simp only[Z3,YB,YR] at hrun k1 k3
    obtain ⟨r1,r2⟩:=hr.push (hbd arr) (.row true es ys) (some w.heap.size) [] (fun k hk=>by cases hk; exact⟨rfl,r8⟩) (fun he'=>⟨ds,bw.ext he' _ _ hvd,hld,fun _=>⟨w.heap.size,arr,e,Gh.bJ _ _ _ _,hnew arr,k3⟩⟩)
    refine⟨_,_,_,hrun,r1,r2,?_,r8,iK _ _ _,rfl⟩
    rw[VR,ew]
    exact⟨r8,_,c2,rfl,k1,fun h=>(by cases h),fun _=>⟨w.heap.size,Gh.bJ _ _ _ _,r8⟩,fun _ _ _ _=>⟨w.heap.size,arr,e,Gh.bJ _ _ _ _,rfl,hnew arr,k2⟩⟩
  ·replace h:=bu h
   obtain ⟨hxa,h⟩:=h
   cases h
   have hxes:∀ cs∈xs,cs.length=es/\∀ a∈cs,a.cell=true:=fun cs hcs=>by
    have:=X0.1 hxa cs hcs
    simp only[XQ,YV] at this
    exact⟨this.1,X0.1 this.2⟩
   refine fresh rfl rfl g5 (fun d hd=>?_) g4 hl
   have hxp:0<xs.length:=by have:=ZL hd; have:=g5.length; omega
   obtain rfl:xes=es:=g5.lens g3 (XN hxp) (hxes _ (Ys _)).1
   exact g3 d hd
 ·rename_i b o n cl
  split at h
  ·rename_i es' els hb
   replace h:=eE h
   obtain ⟨hl,h⟩:=h
   simp only[YK,Zo,YV,XV] at hl
   obtain ⟨⟨hl,hee⟩,hon⟩:=hl
   subst hee
   rw[VR,hb] at hx
   obtain ⟨_,a,cap,rfl,g1,g2,g3,g4⟩:=hx
   obtain ⟨hga,hgl⟩:=hr.blk b _ hb
   have hgll:=hga.length
   have hsub:∀ d∈((g.ga b).drop o).take n,d.length=es':=fun d hd=>hgl d (Yo (Yk hd))
   have hsl:(((g.ga b).drop o).take n).length=n:=r9
   have holdr:(Builtin.firstCells es' n (.slice a n cap)).run P w.drew=.ok (((g.ga b).drop o).take n).flatten.toArray w.drew:=by
    cases a with
    | none=>
     have hn0:n=0:=by
      by_cases hp:0<n
      ·obtain ⟨k,off,e1,_⟩:=g3 hp; cases e1
      ·omega
     subst hn0
     simp[Builtin.firstCells]
    | some a=>
     refine Zl (P:=P) w.drew es' n a n cap _ (by rw[b7 hsub,hsl]) fun j x hj=>?_
     by_cases hp:0<n
     ·obtain ⟨k,off,e1,hc⟩:=g3 hp
      cases e1
      rw[Y3]; exact(hc j x hj).1
     ·obtain rfl:n=0:=by omega
      simp at hj
   rw[bG] at h
   split at h
   ·rename_i hcl
    subst hcl
    cases h
    have hcap:=g2 rfl
    subst hcap
    exact fresh rfl r9 ((hga.drop o).take cap) hsub g3 hl
   ·rename_i hcl
    have hcl:cl=false:=by simpa using hcl
    subst hcl
    replace h:=bu h
    obtain ⟨hcc,h⟩:=h
    simp only[XQ,XV,YV] at hcc
    obtain ⟨⟨hlo,ho0⟩,hnl⟩:=hcc
    subst ho0
    cases h
    have hlt:b<H.length:=(XS.1 hb).1
    have hgall:(g.ga b).take n=g.ga b:=YA o3
    rw[Yn,hgall] at g3 holdr hsub hsl
    have hsame:∀ (ko:Option Nat),(H.set b (.row false es' (els++ys)))[b]? = some (.row false es' (els++ys)):=fun _=>Yf hlt
    have htake:(((g.ga b++ds).drop 0).take (n+ys.length))=g.ga b++ds:=by rw[Yn,YA r9]
    by_cases hroom:n+ys.length<=cap
    ·by_cases hy0:ys.length=0
     ·
      have hyn:ys=[]:=Ye hy0
      subst hyn
      have hdn:ds=[]:=Ye (by simpa using hdl)
      subst hdn
      obtain ⟨r1,r2⟩:=hr.grow (new:=[]) (γ:=[]) (ko:=g.mu b) hb (Below.refl _ _) (fun _ _ _ _ h=>h) (fun _ _ _=>rfl) (fun _ _ h _=>h) (XP _) (.inr (by rw[bw])) r8 (.inl ⟨rfl,fun k arr ty _ ha=>⟨arr,ha,XP _⟩⟩)
      refine⟨_,_,_,zero rfl g1 rfl,r1,r2,?_,r8,me _ _ hlo,rfl⟩
      refine VR.ext r2 _ _ ?_
      rw[VR,hb]
      refine⟨r9,a,cap,r8,by simpa using g1,fun h=>(by cases h),fun hp=>?_,fun _ _ _ hlt=>g4 rfl rfl hnl (by simpa using hlt)⟩
      obtain ⟨k,off,e1,e2⟩:=g3 (by simpa using hp)
      exact⟨k,off,e1,by simpa [hgall] using e2⟩
     ·
      obtain ⟨k,arr,ty',m1,m2,m3,m4⟩:=g4 rfl rfl hnl o3
      subst m2
      have hmul:(n+ys.length)*es'<=cap*es':=Zs _ hroom
      have hmul2:(n+ys.length)*es'=n*es'+ys.length*es':=YL _ _ _
      have hst:=qaR P k (n*es') ty' ds.flatten 0 arr w m3 (by simp[hfl]; omega) hone
      have hrun:=lI (P:=P) (ty:=ty) (a:=⟨k,0,none⟩) hu hi hsA hroom
      rw[Y3,YB,hsz,hst] at hrun
      simp only[Ym,Zf] at hrun
      obtain ⟨arr',harr'⟩:∃ arr':Array Value,arr'=(arr.toList.take (n*es')++ds.flatten++arr.toList.drop (n*es'+ds.flatten.length)).toArray:=⟨_,rfl⟩
      rw[<-harr'] at hrun
      have hsp:arr'.toList=bz arr.toList (n*es') ds.flatten:=by rw[harr']; rfl
      have hfit:n*es'+ds.flatten.length<=arr.toList.length:=by simp[hfl]; omega
      have hasz:arr'.size=arr.size:=by rw[<-ZW,hsp,iP _ _ _ hfit]; simp
      have hnk:(w.setRow k arr').heap[k]? = some (.cells arr' ty' (0,0)):=setRow_heap w k arr arr' ty' (0,0) m3
      have hok:∀ j,j≠k->(w.setRow k arr').heap[j]? = w.heap[j]?:=fun j hj=>setRow_other w k j arr' hj
      have hszw:(w.setRow k arr').heap.size=w.heap.size:=by simp[World.setRow]
      have hbw:Below w0.heap.size w (w.setRow k arr'):=⟨rfl,rfl,rfl,by rw[hszw]; exact XP _,fun j hj=>hok j (by have:=(hr.dom b k m1).2.1; omega)⟩
      have harrg:∀ j,arr'[j]? = if n*es'<=j/\j<n*es'+ds.flatten.length then ds.flatten[j - n*es']? else arr[j]?:=fun j=>by
       rw[<-Yt,hsp,gJ _ _ _ _ hfit]; simp
      obtain ⟨r1,r2⟩:=hr.grow (new:=ys) (γ:=ds) (ko:=g.mu b) hb hbw (fun k' o v hs hc=>by
        by_cases e:k'=k
        ·subst e
         obtain ⟨es2,els2,q1,q2⟩:=hs.2 b m1
         rw[hb] at q1; cases q1
         rw[Zh _ _ o arr ty' (0,0) m3] at hc
         rw[Zh _ _ o arr' ty' (0,0) hnk,harrg,XW (by rw[hnl,YZ]; omega)]
         exact hc
        ·exact(Zr (a:=⟨k',o,none⟩) (hok k' e)).trans hc) (fun k' _ hn=>hok k' (fun e=>hn (e ▸ m1))) (fun k' o ho hd=>(hok k' (fun e=>by subst e; rw[m3] at ho; cases ho; cases hd)).trans ho) (by rw[hszw]; exact XP _) (.inr hvd) hld (.inl ⟨rfl,fun k' arr1 ty1 hk1 ha1=>by
        rw[m1] at hk1; cases hk1
        rw[m3] at ha1; cases ha1
        exact⟨arr',hnk,o3⟩⟩)
      refine⟨_,_,_,hrun,r1,r2,?_,r8,me _ _ hlo,rfl⟩
      rw[VR,hsame none]
      refine⟨r9,_,cap,rfl,hroom,fun h=>(by cases h),fun _=>⟨k,0,rfl,?_⟩,fun _ _ _ _=>⟨k,arr',ty',by rw[Gh.bJ,m1],rfl,hnk,o3⟩⟩
      rw[Gh.hY,htake,Zy]
      intro j x hj
      have hgfl:(g.ga b).flatten.length=n*es':=by rw[b7 hsub,hsl]
      refine⟨?_,?_⟩
      ·rw[YB,Zh _ _ j arr' ty' (0,0) hnk,harrg]
       rw[ZE,hgfl] at hj
       split at hj
       ·rename_i hj1
        rw[XW o3]
        have hn0:0<n:=by
         rcases Z0 n with h | h
         ·rw[h] at hj1; simp at hj1
         ·exact h
        obtain ⟨k',off',e1,e2⟩:=g3 hn0
        cases e1
        have:=(e2 j x hj).1
        rw[YB,Zh _ _ j arr ty' (0,0) m3] at this
        exact this
       ·rename_i hj1
        have:=(XS.1 hj).1
        rw[XX o3]
        exact hj
      ·refine⟨by have h:=hr.own b k (0+j) m1; exact h,fun c hc=>?_⟩
       have hcb:c=b:=r1.inj c b k hc (by rw[Gh.bJ,m1])
       subst hcb
       refine⟨es',els++ys,hsame none,?_⟩
       have:=(XS.1 hj).1
       rw[X9,hgfl,hfl] at this
       simp only[X9,qaj]
       rw[YZ es' els.length,YZ es' ys.length,<-hnl]
       omega
    ·
     have hyp:ys≠[]:=fun e=>by subst e; simp at hroom; omega
     obtain ⟨c2,arr,hrun,k1,k2,k3⟩:=grows (olds:=(g.ga b).flatten) rfl o3 hl (by rw[b7 hsub,hsl]) holdr
     obtain ⟨r1,r2⟩:=hr.grow (new:=ys) (γ:=ds) (ko:=some w.heap.size) hb ((hbd arr).mono hr.below.size) (fun k' o v _ hc=>((hbd arr).cell (p:=⟨k',o,none⟩) (Zu w _ hc)).trans hc) (fun k' hk' _=>(hbd arr).block k' hk') (fun k' o ho _=>((hbd arr).block k' (XU.1 ho).1).trans ho) (hbd arr).size (.inr hvd) hld (.inr ⟨rfl,r8,hyp⟩)
     refine⟨_,_,_,hrun,r1,r2,?_,r8,me _ _ hlo,rfl⟩
     rw[VR,hsame none]
     refine⟨r9,_,c2,rfl,k1,fun h=>(by cases h),fun _=>⟨w.heap.size,0,rfl,?_⟩,fun _ _ _ _=>⟨w.heap.size,arr,e,Gh.bJ _ _ _ _,rfl,hnew arr,k2⟩⟩
     rw[Gh.hY,htake,Zy]
     intro j x hj
     refine⟨by rw[YB,Zh _ _ j arr e (0,0) (hnew arr)]; exact k3 j x hj,hr.out _ _ (XP _),fun c hc=>?_⟩
     have hcb:c=b:=r1.inj c b _ hc (by rw[Gh.bJ])
     subst hcb
     refine⟨es',els++ys,hsame none,?_⟩
     have:=(XS.1 hj).1
     rw[X9,b7 hsub,hsl,hfl] at this
     simp only[X9,qaj]
     rw[YZ es' els.length,YZ es' ys.length,<-hnl]
     omega
  ·cases h
 ·cases h
theorem Ex {t t2 ty e:TypeId} {es m n cap:Nat} {a:Option Addr} {c:Value} {news:List Value} (hu:P.underlying t=some (.slice e)) (hes:cQ P e=some es) (hlen:(Builtin.lenOf c).run P w=.ok m w) (hf:(Builtin.firstCells es (min m n) c).run P w=.ok news.toArray w) :
  (Builtin.copy_ #[t,t2] ty #[.slice a n cap,c]).run P w=match a with | none=>.ok (.int .i64 (min m n:Nat)) w | some a=>((storeCells a news).run P w).andThen fun _ w'=>.ok (.int .i64 (min m n:Nat)) w':=by
 have hs:=eA hes w
 have hf':(Builtin.firstCells es (Nat.min m n) c).run P w=.ok news.toArray w:=hf
 cases a with
 | none=>simp[Builtin.copy_,X2 hu,hlen,hs,hf',goInt]
 | some a=>simp[Builtin.copy_,X2 hu,hlen,hs,hf',goInt]
theorem wQ (hr:Rel H g w0 w) {t t2 ty:TypeId} {x y z:A} {cx cy:Value} {H':aC} {lo:Nat} (h:qn P t x y H lo=some (z,H')) (hx:VR H g w x cx) (hy:VR H g w y cy):Step H g w0 w lo ((Builtin.copy_ #[t,t2] ty #[cx,cy]).run P w) z H':=by
 unfold qn at h
 replace h:=bE h
 obtain ⟨e,he,h⟩:=h
 have hu:=jP he
 replace h:=bE h
 obtain ⟨es,hes,h⟩:=h
 replace h:=bE h
 obtain ⟨ys,hys,h⟩:=h
 replace h:=eE h
 obtain ⟨h0,h⟩:=h
 simp only[YK,Zo,Y8] at h0
 have hys3:∀ cs∈ys,cs.length=es/\∀ a∈cs,a.cell=true:=fun cs hcs=>by
  have:=X0.1 h0.2 cs hcs
  simp only[XQ,YV] at this
  exact⟨this.1,X0.1 this.2⟩
 obtain ⟨ds,hvd,hld,hsrc⟩:=AY (P:=P) hr hys hy (fun cs hcs=>(hys3 cs hcs).1)
 obtain ⟨hlen,hfirst⟩:=hsrc w (fun _=>rfl)
 have hdl:=hvd.length
 split at h
 ·rename_i b o n cl
  split at h
  ·rename_i es' els hb
   replace h:=bu h
   obtain ⟨hc,h⟩:=h
   simp only[XQ,XV,YV] at hc
   obtain ⟨hlo,rfl⟩:=hc
   cases h
   rw[VR,hb] at hx
   obtain ⟨hon,a,cap,rfl,g1,g2,g3,_⟩:=hx
   have hlt:b<H.length:=(XS.1 hb).1
   have hf:=hfirst (min ys.length n) (Nat.min_le_left _ _)
   have hrun:=Ex (P:=P) (t2:=t2) (ty:=ty) (a:=a) (cap:=cap) hu hes hlen hf
   have hxl:(ys.take n).length=min ys.length n:=by simp[Nat.min_comm]
   have htk:ds.take n=ds.take (min ys.length n):=by
    rw[<-hdl]
    rcases qa0 ds.length n with h | h
    ·rw[Zm h,YA h,YA (XP _)]
    ·rw[Nat.min_eq_right h]
   by_cases hm:min ys.length n=0
   ·have hyt:ys.take n=[]:=Ye o3
    have hspl:bz els o (ys.take n)=els:=by rw[hyt]; simp[bz]
    have hset:H.set b (.row true es' (bz els o (ys.take n)))=H:=by
     rw[hspl]
     apply Zk
     intro c
     by_cases e:c=b
     ·subst e; rw[Yf hlt,hb]
     ·rw[X4 (YS e)]
    rw[hset]
    have hrun':(Builtin.copy_ #[t,t2] ty #[.slice a n cap,cy]).run P w=.ok (.int .i64 (min ys.length n:Nat)) w:=by
     rw[hrun]
     cases a with
     | none=>rfl
     | some a=>
      rw[hm]
      simp[storeCells]
    exact⟨_,_,g,hrun',hr,Ext.below hr (Below.refl _ _),s6,XP _,fun _ _ _=>rfl,rfl⟩
   ·obtain ⟨k,hk,rfl⟩:=g3 o3
    obtain ⟨rds,hv,hl,hrow⟩:=hr.blk b _ hb
    obtain ⟨k',arr,ty',hk',har,hcell⟩:=hrow o3
    rw[hk] at hk'; cases hk'
    have hrl:=hv.length
    have hnl:(ds.take (min ys.length n)).flatten.length=min ys.length n*es':=fY hld o3
    have hone:∀ x∈(ds.take (min ys.length n)).flatten,x.oneCell'=true:=fun x hx=>by
     obtain ⟨d,hd,hxd⟩:=qaZ.1 hx
     exact hvd.one (fun cs hcs=>(hys3 cs hcs).2) x (qaZ.2 ⟨d,Yk hd,hxd⟩)
    have hfl:=b7 hl
    have hmul:(o+min ys.length n)*es'<=rds.length*es':=Zs _ o3
    rw[YL] at hmul
    have hal:rds.flatten.length<=arr.size:=by
     by_cases hz:rds.flatten.length=0
     ·omega
     ·have:=hcell (rds.flatten.length - 1) _ (XN o3)
      have:=(XU.1 this).1
      omega
    have hst:=qaR P k (o*es') ty' (ds.take (min ys.length n)).flatten 0 arr w har (by rw[hnl]; omega) hone
    simp only[Zf] at hst
    simp only[hst,Ym] at hrun
    obtain ⟨arr',harr'⟩:∃ arr':Array Value,arr'=(arr.toList.take (o*es')++(ds.take (min ys.length n)).flatten++arr.toList.drop (o*es'+(ds.take (min ys.length n)).flatten.length)).toArray:=⟨_,rfl⟩
    rw[<-harr'] at hrun
    have hsp:arr'.toList=bz arr.toList (o*es') (ds.take (min ys.length n)).flatten:=by rw[harr']; rfl
    have hdtl:(ds.take n).length=min ys.length n:=by rw[htk]; simp; omega
    obtain ⟨r1,r2⟩:=hr.write hk har (arr':=arr') (B':=.row true es' (bz els o (ys.take n))) hb (.inr ⟨es',els,_,rfl,rfl,by rw[iP _ _ _ o3],by rw[harr']; exact qf _ _ _⟩) (fun he hnew=>by
     refine⟨bz rds o (ds.take n),?_,?_,fun _=>⟨k,arr',ty',hk,hnew,fun j x hj=>?_⟩⟩
     ·have h1:=bw.ext he _ _ hv
      have h2:=bw.ext he _ _ (hvd.take n)
      have h3:=h2.length
      unfold bz
      rw[h3]
      exact((h1.take o).append h2).append (h1.drop _)
     ·intro d hd
      unfold bz at hd
      rcases Y4.1 hd with hd | hd
      ·rcases Y4.1 hd with hd | hd
       ·exact hl d (Yk hd)
       ·exact hld d (Yk hd)
      ·exact hl d (Yo hd)
     ·rw[m0 o hl (fun d hd=>hld d (Yk hd)) o3,htk,gJ _ _ _ _ o3] at hj
      rw[<-Yt,hsp,gJ _ _ _ _ (by have:=hnl; simp only[ZW] at *; omega)]
      split at hj
      ·rename_i hin; rw[XX hin]; exact hj
      ·rename_i hin; rw[XW hin]; simpa using hcell j x hj)
    exact⟨_,_,g,hrun,r1,r2,s6,r8,me _ _ hlo,rfl⟩
  ·cases h
 ·cases h
end
section
open Go.RowKit
variable {P:Program} {H H':aC} {g g':Gh} {w0 w w':World}
theorem uz {t:TypeId} {k:IntKind} {vt:TypeId} (h:BC P t=some (k,vt)):∃ kt,P.underlying t=some (.map kt vt)/\P.underlying kt=some (.int k):=by
 unfold BC at h
 split at h
 ·rename_i kt vt' hu
  split at h
  ·rename_i k' hk; cases h; exact⟨kt,hu,hk⟩
  ·cases h
 ·cases h
theorem su {k:IntKind} {x:A} {a:Int} {c:Value} (h:keyOf k x=some a) (hx:VR H g w x c):c=.int k a:=by
 unfold keyOf at h
 split at h
 ·rename_i j n
  obtain ⟨h1,h2⟩:=bu h
  cases h2
  have:=XY h1
  subst this
  rw[VR] at hx; exact hx
 ·cases h
def nK (a:Int):List Int->Option Nat
 | []=>none
 | x :: ks=>if a=x then some 0 else (nK a ks).map (·+1)
theorem wb {a:Int}:∀ {ks:List Int} {j:Nat},nK a ks=some j->j<ks.length/\ks[j]? = some a
 | [],_,h=>by cases h
 | x :: ks,j,h=>by
  rw[nK] at h
  split at h
  ·rename_i e; cases h; exact⟨r8,by simp[e]⟩
  ·rw[Yu] at h
   obtain ⟨i,h1,rfl⟩:=h
   obtain ⟨e1,e2⟩:=wb h1
   exact⟨r9,by simpa using e2⟩
theorem ru {a:Int}:∀ {ks:List Int} {vs:List A},ks.length=vs.length->n4 a ks vs=(nK a ks).bind fun j=>vs[j]?
 | [],[],_=>rfl
 | [],_ :: _,h=>by simp at h
 | _ :: _,[],h=>by simp at h
 | x :: ks,v :: vs,h=>by
  rw[n4,nK,bG]
  by_cases e:a=x
  ·rw[XX e,XX (by simpa using e)]; rfl
  ·rw[XW e,XW (by simpa using e),ru (by simpa using h),Option.bind_map]
   rfl
theorem xZ {a:Int} {y:A}:∀ {ks:List Int} {vs:List A},ks.length=vs.length->BG a y ks vs=match nK a ks with | some j=>(ks,vs.set j y) | none=>(ks++[a],vs++[y])
 | [],[],_=>rfl
 | [],_ :: _,h=>by simp at h
 | _ :: _,[],h=>by simp at h
 | x :: ks,v :: vs,h=>by
  rw[BG,nK,bG]
  by_cases e:a=x
  ·rw[XX e,XX (by simpa using e)]; rfl
  ·rw[XW e,XW (by simpa using e),xZ (by simpa using h)]
   cases nK a ks with
   | none=>rfl
   | some j=>rfl
theorem qs {k:IntKind} {a:Int}:∀ (es:List MapEntry) (ks:List Int) (i:Nat),es.map (·.key)=ks.map (Value.int k)->Instr.findNow (.int k) (.int k a) es i=some ((nK a ks).bind fun j=>(es[j]?).map fun e=>(i+j,e.val))
 | [],[],i,_=>rfl
 | [],_ :: _,_,h=>by simp at h
 | _ :: _,[],_,h=>by simp at h
 | e :: es,x :: ks,i,h=>by
  simp only[YW,YJ] at h
  obtain ⟨h1,h2⟩:=h
  have hs:Instr.sameNow (.int k) (.int k a) e.key=some (a==x):=by rw[h1]; simp[Instr.sameNow]
  rw[Instr.findNow,hs,nK]
  by_cases ex:a=x
  ·subst ex
   simp
  ·rw[show (a==x)=false by simpa using ex,XW ex]
   simp only[]
   rw[qs es ks (i+1) h2]
   cases nK a ks with
   | none=>rfl
   | some j=>
    simp only[YH,XM,qaq]
    rw[show i+1+j=i+(j+1) by omega]
theorem lT {kt:TypeId} {k:IntKind} (hk:P.underlying kt=some (.int k)) (a:Int) (b:Bool):(Instr.checkKey b 10000 kt (.int k a)).run P w=.ok () w:=by
 rw[show (10000:Nat)=9999+1 from rfl,Instr.checkKey]
 simp[X2 hk]
theorem mY {kt:TypeId} {k:IntKind} (hk:P.underlying kt=some (.int k)) {es:List MapEntry} {ks:List Int} (h:es.map (·.key)=ks.map (Value.int k)) (a:Int):(Instr.findKey kt (.int k a) es).run P w=.ok ((nK a ks).bind fun j=>(es[j]?).map fun e=>(j,e.val)) w:=by
 unfold Instr.findKey
 simp only[Yv,X2 hk,Ym,qs es ks 0 h,YB]
 rfl
theorem rn (hr:Rel H g w0 w) {t:TypeId} {y:A} {H':aC} (lo:Nat) (h:rm P t H=some (y,H')):Step H g w0 w lo ((Instr.makeMap t none).run P w) y H':=by
 unfold rm at h
 cases hk:BC P t with
 | none=>rw[hk] at h; cases h
 | some p=>
  rw[hk] at h
  cases h
  have hb:Below w.heap.size w (w.alloc (.map #[] 0)):=(Below.refl _ w).alloc (XP _) _
  obtain ⟨h1,h2⟩:=hr.push hb (.mp p.1 [] []) (some w.heap.size) [] (fun k hk=>by cases hk; exact⟨rfl,r8⟩) (fun he=>⟨w.heap.size,#[],0,Gh.bJ _ _ _ _,qaD w _,rfl,by rw[bB]; rfl⟩)
  refine⟨.map (some w.heap.size),_,_,by simp[Instr.makeMap,newObj]; rfl,h1,h2,?_,r8,iK _ _ _,rfl⟩
  rw[VR,ew]; exact⟨w.heap.size,Gh.bJ _ _ _ _,rfl⟩
theorem Rel.Nd (hr:Rel H g w0 w) {b r:Nat} {arr arr':Array MapEntry} {cl cl':Nat} {k:IntKind} {ks ks':List Int} {vs vs':List A} (hk:g.mu b=some r) (ha:w.heap[r]? = some (.map arr cl)) (hB:H[b]? = some (.mp k ks vs))
  (hkeys:arr'.toList.map (·.key)=ks'.map (Value.int k)) (hv:bB H g w vs' (arr'.toList.map (·.val))) :
  Rel (H.set b (.mp k ks' vs')) g w0 (w.putObj r (.map arr' cl'))/\Ext H g w (H.set b (.mp k ks' vs')) g (w.putObj r (.map arr' cl')):=by
 have hlt:b<H.length:=(XS.1 hB).1
 have hrl:r<w.heap.size:=(hr.dom b r hk).2.2
 have hoth:∀ j,j≠r->(w.putObj r (.map arr' cl')).heap[j]? = w.heap[j]?:=fun j hj=>Y2 hj
 have hsz:(w.putObj r (.map arr' cl')).heap.size=w.heap.size:=r8
 have hnot:∀ {o:Nat},¬ eF H g r o:=fun {o} hs=>by
  obtain ⟨es,els,h1,_⟩:=hs.2 b hk
  rw[hB] at h1; cases h1
 have hst:∀ {q o},eF H g q o->eF (H.set b (.mp k ks' vs')) g q o:=fun {q o} hs=>by
  refine⟨hs.1,fun c hck=>?_⟩
  obtain ⟨es,els,h1,h2⟩:=hs.2 c hck
  have hcb:c≠b:=fun e=>by subst e; rw[hB] at h1; cases h1
  exact⟨es,els,by rw[X4 (YS hcb)]; exact h1,h2⟩
 have he:Ext H g w (H.set b (.mp k ks' vs')) g (w.putObj r (.map arr' cl')):=by
  refine⟨fun k' o v hs hc=>?_,fun c C hC=>?_,fun k' x h=>(hoth k' (fun e=>by subst e; rw[ha] at h; cases h)).trans h,by rw[hsz]; exact XP _,fun k' marr mcl hs hm=>?_,fun k' _ hn=>hoth k' (fun e=>hn b (e ▸ hk)),fun c k' h=>.inl ⟨c,h⟩⟩
  ·have hne:k'≠r:=fun e=>hnot (e ▸ hs)
   exact⟨(Zr (a:=⟨k',o,none⟩) (hoth k' hne)).trans hc,hst hs⟩
  ·by_cases e:c=b
   ·subst e
    rw[hB] at hC; cases hC
    exact⟨.mp k ks' vs',by rw[Yf hlt],rfl⟩
   ·refine⟨C,by rw[X4 (YS e)]; exact hC,?_⟩
    cases C with
    | box _=>rfl
    | row wr es els=>cases wr with
     | true=>exact⟨rfl,rfl,rfl,fun k' arr1 ty1 hk1 ha1=>⟨arr1,(hoth k' (fun e2=>e (hr.inj c b r (e2 ▸ hk1) hk))).trans ha1,XP _⟩⟩
     | false=>exact⟨rfl,⟨[],r8⟩,(hr.blk c _ hC).len,XP _,fun _=>⟨rfl,fun k' arr1 ty1 hk1 ha1=>⟨arr1,(hoth k' (fun e2=>e (hr.inj c b r (e2 ▸ hk1) hk))).trans ha1,XP _⟩⟩⟩
    | rng _=>exact⟨rfl,rfl⟩
    | mp _ _ _=>rfl
    | dead=>trivial
    | hole=>trivial
  ·have hne:k'≠r:=fun e=>hnot (e ▸ hs)
   exact⟨(hoth k' hne).trans hm,hst hs⟩
 refine⟨⟨hr.below.trans ((Below.refl w0.heap.size w).grown (qa6 w r _) (hr.below.size) (fun k e=>by cases e; exact(hr.dom b r hk).2.1)),fun c j hcj=>⟨by simpa using (hr.dom c j hcj).1,(hr.dom c j hcj).2.1,by rw[hsz]; exact(hr.dom c j hcj).2.2⟩,hr.inj,hr.xW he,hr.wa he,fun c C hC=>?_⟩,he⟩
 by_cases e:c=b
 ·subst e
  rw[Yf hlt] at hC; cases hC
  exact⟨r,arr',cl',hk,qar hrl,hkeys,bB.ext he _ _ hv⟩
 ·rw[X4 (YS e)] at hC
  have h:=hr.blk c C hC
  have hmu:∀ {j},g.mu c=some j->j≠r:=fun {j} hj e2=>e (hr.inj c b r (e2 ▸ hj) hk)
  cases C with
  | box cs=>obtain ⟨j,arr1,ty1,h1,h2,h3⟩:=h; exact⟨j,arr1,ty1,h1,(hoth j (hmu h1)).trans h2,bB.ext he _ _ h3⟩
  | row wr es els=>cases wr with
   | true=>
    obtain ⟨ds,h1,h2,h3⟩:=h
    exact⟨ds,bw.ext he _ _ h1,h2,fun hp=>let ⟨j,arr1,ty1,e1,e2,e3⟩:=h3 hp; ⟨j,arr1,ty1,e1,(hoth j (hmu e1)).trans e2,e3⟩⟩
   | false=>exact⟨bw.ext he _ _ h.1,h.2⟩
  | rng st=>obtain ⟨j,h1,h2⟩:=h; exact⟨j,h1,(hoth j (hmu h1)).trans h2⟩
  | mp _ _ _=>obtain ⟨j,arr1,c1,h1,h2,h3,h4⟩:=h; exact⟨j,arr1,c1,h1,(hoth j (hmu h1)).trans h2,h3,bB.ext he _ _ h4⟩
  | dead=>exact h
  | hole=>exact h
theorem bB.setAt {vs:List A} {ds:List Value} (h:bB H g w vs ds) {y:A} {d:Value} (hy:VR H g w y d) (j:Nat):bB H g w (vs.set j y) (ds.set j d):=by
 rw[dG] at h ⊢
 refine⟨by simpa using h.1,fun i a e ha hd=>?_⟩
 rw[ZH] at ha hd
 by_cases hij:j=i
 ·subst hij
  rw[XX rfl] at ha hd
  split at ha
  ·split at hd
   ·cases ha; cases hd; exact hy
   ·cases hd
  ·cases ha
 ·rw[XW hij] at ha hd
  exact h.2 i a e ha hd
theorem nO (hr:Rel H g w0 w) {t:TypeId} {m i x:A} {H':aC} {lo:Nat} {cm ci cx:Value} (h:qP P t m i x H lo=some H') (hm:VR H g w m cm) (hi:VR H g w i ci) (hx:VR H g w x cx) :
  ∃ w',(Instr.mapUpdate t cm ci cx).run P w=.ok () w'/\Rel H' g w0 w'/\Ext H g w H' g w'/\H.length<=H'.length/\∀ b,b<lo->b<H.length->H'[b]? = H[b]?:=by
 unfold qP at h
 obtain ⟨⟨k,vt⟩,hk,h⟩:=bE h
 obtain ⟨a,ha,h⟩:=bE h
 obtain ⟨kt,hu,huk⟩:=uz hk
 have:=su ha hi
 subst this
 cases m with
 | mr b=>
  simp only[] at h
  split at h
  ·rename_i k' ks vs hB
   obtain ⟨hc,h⟩:=bu h
   cases h
   rw[XQ] at hc
   have hlo:=XY hc.1
   have hkk:k'=k:=XY hc.2
   subst hkk
   rw[VR,hB] at hm
   obtain ⟨r,hmu,rfl⟩:=hm
   obtain ⟨r',arr,cl,e1,e2,e3,e4⟩:=hr.blk b _ hB
   rw[hmu] at e1; cases e1
   have hlen:ks.length=vs.length:=by
    have:=e4.length
    have h2:=YF List.length e3
    simp at this h2
    omega
   have hal:ks.length=arr.size:=by have h2:=YF List.length e3; simp at h2; omega
   have hget:(getObj r).run P w=.ok (.map arr cl) w:=by simp[getObj,Sem.run,e2]
   have hset:∀ o,(setObj r o).run P w=.ok () (w.putObj r o):=fun o=>by simp[setObj,Sem.run,e2,World.putObj]
   have hlow:∀ B,∀ c,c<lo->c<H.length->(H.set b B)[c]? = H[c]?:=fun B c hc _=>X4 o3
   rw[xZ hlen]
   cases hp:nK a ks with
   | none=>
    simp only[]
    have hrun:(Instr.mapUpdate t (.map (some r)) (.int k' a) cx).run P w=.ok () (w.putObj r (.map (arr.push { key:=.int k' a,val:=cx,born:=cl }) (cl+1))):=by
     unfold Instr.mapUpdate
     simp only[Yv,X2 hu,Ym,hget,lT huk,mY huk e3,hp,qav,hset]
    obtain ⟨r1,r2⟩:=hr.Nd (arr':=arr.push { key:=.int k' a,val:=cx,born:=cl }) (cl':=cl+1) (ks':=ks++[a]) (vs':=vs++[x]) hmu e2 hB (by simp[e3]) (by
     rw[show (arr.push { key:=Value.int k' a,val:=cx,born:=cl }).toList.map (·.val)=arr.toList.map (·.val)++[cx] by simp]
     exact e4.append (by rw[bB]; exact⟨cx,[],rfl,hx,u3⟩))
    exact⟨_,hrun,r1,r2,r8,hlow _⟩
   | some j=>
    simp only[]
    obtain ⟨hj,hja⟩:=wb hp
    have hja':arr[j]? = some arr[j]:=YD o3
    have hkey:(arr[j]'(o3)).key=.int k' a:=by
     have h1:(arr.toList.map (·.key))[j]? = some (.int k' a):=by rw[e3,Yq,hja]; rfl
     rw[Yq,Yt,hja'] at h1
     simpa using h1
    have hsame:(Instr.keyThatStays (.int k' a) (.int k' a)).run P w=.ok (.int k' a) w:=by
     unfold Instr.keyThatStays
     rw[show Instr.sameBits 10000 (.int k' a) (.int k' a)=true by rw[show (10000:Nat)=9999+1 from rfl]; simp[Instr.sameBits]]
     rfl
    have hrun:(Instr.mapUpdate t (.map (some r)) (.int k' a) cx).run P w=.ok () (w.putObj r (.map (arr.modify j fun e=>{ e with key:=.int k' a,val:=cx }) cl)):=by
     unfold Instr.mapUpdate
     simp only[Yv,X2 hu,Ym,hget,lT huk,mY huk e3,hp,XM,Yt,hja',YH,Option.getD_some,hkey,hsame,hset]
    have hmod:∀ (f:MapEntry->Value) (v:Value),(f { (arr[j]'(o3)) with key:=.int k' a,val:=cx }=v)->((arr.modify j fun e=>{ e with key:=.int k' a,val:=cx }).toList.map f)=(arr.toList.map f).set j v:=fun f v hf=>by
     refine Zk fun i=>?_
     rw[Yq,Yt,qbe,ZH]
     by_cases hij:j=i
     ·subst hij
      rw[XX rfl,hja',XX rfl,XX r9]
      simp[hf]
     ·rw[XW hij,XW hij,Yq,Yt]
    obtain ⟨r1,r2⟩:=hr.Nd (arr':=arr.modify j fun e=>{ e with key:=.int k' a,val:=cx }) (cl':=cl) (ks':=ks) (vs':=vs.set j x) hmu e2 hB (by
     rw[hmod (·.key) (.int k' a) rfl,e3]
     refine Zk fun i=>?_
     rw[ZH]
     by_cases hij:j=i
     ·subst hij
      rw[XX rfl,XX r9,Yq,hja]; rfl
     ·rw[XW hij]) (by rw[hmod (·.val) cx rfl]; exact e4.setAt hx j)
    exact⟨_,hrun,r1,r2,r8,hlow _⟩
  ·cases h
 | _=>cases h
theorem JL {vt:TypeId} {c:Bool} {y:A} {es:List MapEntry} {ks:List Int} {vs:List A} {a:Int} (hl:ks.length=vs.length) (h:Kz P vt c (n4 a ks vs)=some y) (hv:bB H g w vs (es.map (·.val))) :
  ∃ d,(match (nK a ks).bind fun j=>(es[j]?).map fun e=>(j,e.val) with | some (_,v)=>(d=if c then .tuple #[v,.bool true] else v) | none=>∃ i z,P.info? vt=some i/\i.zero=some z/\(d=if c then .tuple #[z,.bool false] else z))/\VR H g w y d:=by
 rw[ru hl] at h
 cases hp:nK a ks with
 | none=>
  rw[hp] at h
  simp only[qav,Kz] at h ⊢
  obtain ⟨i,hi,h⟩:=bE h
  rw[Yu] at h
  obtain ⟨z,hz,h⟩:=h
  refine⟨_,⟨i,z,hi,hz,rfl⟩,?_⟩
  subst h
  cases c
  ·exact oE z
  ·rw[XR,VR]
   exact⟨_,rfl,by rw[bB]; exact⟨z,_,rfl,oE z,by rw[bB]; exact⟨_,_,rfl,s6,u3⟩⟩⟩
 | some j=>
  obtain ⟨hj,_⟩:=wb hp
  have hel:es.length=vs.length:=by have:=hv.length; simpa using this
  have hvj:vs[j]? = some vs[j]:=XN o3
  have hej:es[j]? = some es[j]:=XN o3
  rw[hp] at h
  simp only[XM,hvj,Kz,YE,hej,YH] at h ⊢
  refine⟨_,rfl,?_⟩
  subst h
  have hvv:VR H g w vs[j] es[j].val:=(dG.1 hv).2 j _ _ hvj (by rw[Yq,hej]; rfl)
  cases c
  ·exact hvv
  ·rw[XR,VR]
   exact⟨_,rfl,by rw[bB]; exact⟨_,_,rfl,hvv,by rw[bB]; exact⟨_,_,rfl,s6,u3⟩⟩⟩
theorem tx (hr:Rel H g w0 w) {t:TypeId} {m i y:A} {c:Bool} {cm ci:Value} (h:lR P t m i c H=some y) (hm:VR H g w m cm) (hi:VR H g w i ci):∃ d,(Instr.lookup t cm ci c).run P w=.ok d w/\VR H g w y d:=by
 unfold lR at h
 obtain ⟨⟨k,vt⟩,hk,h⟩:=bE h
 obtain ⟨a,ha,h⟩:=bE h
 obtain ⟨kt,hu,huk⟩:=uz hk
 have:=su ha hi
 subst this
 have main:∀ {r:Nat} {arr:Array MapEntry} {cl:Nat} {ks:List Int} {vs:List A},w.heap[r]? = some (.map arr cl)->arr.toList.map (·.key)=ks.map (Value.int k)->bB H g w vs (arr.toList.map (·.val))->Kz P vt c (n4 a ks vs)=some y->∃ d,(Instr.lookup t (.map (some r)) (.int k a) c).run P w=.ok d w/\VR H g w y d:=by
  intro r arr cl ks vs e2 e3 e4 hok
  have hlen:ks.length=vs.length:=by
   have:=e4.length
   have h2:=YF List.length e3
   simp at this h2
   omega
  obtain ⟨d,hd,hv⟩:=JL hlen hok e4
  refine⟨d,?_,hv⟩
  have hget:(getObj r).run P w=.ok (.map arr cl) w:=by simp[getObj,Sem.run,e2]
  unfold Instr.lookup
  simp only[Yv,X2 hu,Ym,hget,ZU,lT huk,mY huk e3]
  cases hf:(nK a ks).bind fun j=>(arr.toList[j]?).map fun e=>(j,e.val) with
  | none=>
   rw[hf] at hd
   obtain ⟨i,z,h1,h2,h3⟩:=hd
   have hz:(zeroValue vt).run P w=.ok z w:=by simp[zeroValue,typeInfo,h1,h2]
   simp only[Yv,hz,Ym,ZU,h3]
  | some p=>
   rw[hf] at hd
   obtain ⟨j,v⟩:=p
   simp only[ZU,Ym]
   have hd:d=if c then .tuple #[v,.bool true] else v:=hd
   rw[hd]
   cases c<;>rfl
 cases m with
 | mv k' ks vs=>
  obtain ⟨hc,h⟩:=bu h
  have hkk:k'=k:=XY hc
  subst hkk
  rw[VR] at hm
  obtain ⟨r,arr,cl,rfl,_,e2,e3,e4⟩:=hm
  exact main e2 e3 e4 h
 | mr b=>
  simp only[] at h
  split at h
  ·rename_i k' ks vs hB
   obtain ⟨hc,hok⟩:=bu h
   have hkk:k'=k:=XY hc
   subst hkk
   rw[VR,hB] at hm
   obtain ⟨r,hmu,rfl⟩:=hm
   obtain ⟨r',arr,cl,e1,e2,e3,e4⟩:=hr.blk b _ hB
   exact(by rw[hmu] at e1; cases e1; exact main e2 e3 e4 hok)
  ·cases h
 | _=>cases h
theorem uE {t:TypeId} {c:Bool} {y:A} (h:vX P t c=some y):c=true/\∃ z,(zeroValue t).run P w=.ok z w/\VR H g w y (.tuple #[z,.bool false]):=by
 unfold vX at h
 cases c with
 | false=>cases h
 | true=>
  simp only[XR] at h
  obtain ⟨i,hi,h⟩:=bE h
  rw[Yu] at h
  obtain ⟨z,hz,rfl⟩:=h
  refine⟨rfl,z,by simp[zeroValue,typeInfo,hi,hz],?_⟩
  rw[VR]
  exact⟨_,rfl,by rw[bB]; exact⟨z,_,rfl,oE z,by rw[bB]; exact⟨_,_,rfl,s6,u3⟩⟩⟩
theorem tv {t xt:TypeId} {x y:A} {c:Bool} {cv:Value} (h:nr P x t c=some y) (hx:VR H g w x cv):∃ d,(Instr.typeAssert cv xt t c).run P w=.ok d w/\VR H g w y d:=by
 unfold nr at h
 split at h
 ·cases h
 ·cases h
 ·rename_i u hn hu
  split at h
  ·rename_i t' z
   rw[VR] at hx
   obtain ⟨v,rfl,hv⟩:=hx
   rw[bG] at h
   split at h
   ·rename_i ht
    have ht:=X3 ht
    subst ht
    have hr:(Instr.typeAssert (.iface t' v) xt t' c).run P w=.ok (if c then .tuple #[v,.bool true] else v) w:=by
     unfold Instr.typeAssert
     rw[Yv,X2 hu]
     simp only[Ym]
     cases u<;>first | exact absurd hu (hn _) | simp
    refine⟨_,hr,?_⟩
    cases c with
    | false=>simp only[XO,YE] at h; subst h; exact hv
    | true=>
     simp only[XR,YE] at h
     subst h
     rw[XX rfl,VR]
     exact⟨_,rfl,by rw[bB]; exact⟨v,_,rfl,hv,by rw[bB]; exact⟨_,_,rfl,s6,u3⟩⟩⟩
   ·rename_i ht
    obtain ⟨rfl,z,hz,hv2⟩:=uE (H:=H) (g:=g) (w:=w) h
    have ht:¬ t'=t:=fun e=>ht (by rw[e]; simp)
    refine⟨_,?_,hv2⟩
    unfold Instr.typeAssert
    rw[Yv,X2 hu]
    simp only[Ym]
    cases u<;>first | exact absurd hu (hn _) | simp[ht,hz]
  ·rw[VR] at hx
   subst hx
   obtain ⟨rfl,z,hz,hv2⟩:=uE (H:=H) (g:=g) (w:=w) h
   refine⟨_,?_,hv2⟩
   unfold Instr.typeAssert
   rw[Yv,X2 hu]
   simp only[Ym]
   cases u<;>first | exact absurd hu (hn _) | simp[hz]
  ·cases h
end
section
open Go.RowKit
def gk (F:Fence):Prop:=F.depth=none/\(∀ f,F.fn f)/\F.alive=false
theorem zH:gk Fence.wide:=⟨rfl,fun _=>trivial,rfl⟩
theorem pv {F:Fence} (h:gk F) (P:Program) (m:Machine):m.fenced P F:=fun g _=>
 ⟨fun ha=>(by rw[h.2.2] at ha; cases ha),.inl (h.2.1 _),fun f _=>h.2.1 f,fun d hd=>(by rw[h.1] at hd; cases hd)⟩
theorem fS {F:Fence} {n:Nat} {P:Program} {f:FuncId} {args:Array Value} {w:World} {R:Ending->World->Prop} (hF:gk F) (h:Calls P f args w R):CallsIn F n P f args w R:=
 ⟨hF.2.1 f,fun cs _=>let ⟨e,w',fr,r,s,x⟩:=h cs; ⟨e,w',fr,r,(by cases e with
  | returned v=>exact(StepsIn.of_steps s).mono fun m _=>pv hF P m
  | panicked v=>exact(StepsIn.of_steps s).mono fun m _=>pv hF P m
  | outgrown=>exact s),x⟩⟩
def G0 (S:Nat->Nat->Prop):Gh:=⟨fun _=>none,fun _=>[],S,fun _=>Ii⟩
def eQ (P:Program) (glob:Nat->Option (List Value)) (k:Nat) (args:List A) (r:A):Prop:=
 ∀ (S:Nat->Nat->Prop) (w:World) (cargs:List Value),(∀ k o,w.heap.size<=k->S k o)->(∀ (G:Nat) (vs:List Value),glob G=some vs->bM [] (G0 S) w G 0 vs)->bB [] (G0 S) w args cargs ->
  Calls P k cargs.toArray w fun e w'=>∃ c,e=.returned c/\Below w.heap.size w w'/\VR [] (G0 S) w' r c
variable {H H':aC} {g g':Gh} {w0 w w':World}
mutual
theorem nh {G:Nat->Nat->Nat->A} {S:Nat->Nat->Prop} (hS:∀ k o,eF H g k o->S k o) (hG:∀ b o m cl c,VR H g w (.sl b o m cl) c->VR [] (G0 S) w (G b o m) c):∀ (a:A) (c:Value),VR H g w a c->VR [] (G0 S) w (cD G a) c
 | .any,_,_=>H6
 | .v x,c,h=>by simp only[cD]; rw[VR] at h ⊢; exact h
 | .ptr ..,_,_=>H6
 | .ep ..,_,_=>H6
 | .ip _,_,_=>H6
 | .imm els clip,c,h=>by
  simp only[cD]
  rw[VR] at h ⊢
  obtain ⟨a,cap,ds,es,h1,h2,h3,h4,h5,h6⟩:=h
  have hv:=iG hS hG els ds h6
  have hl:(dh G els).length=els.length:=by rw[<-hv.length,h6.length]
  exact⟨a,cap,ds,es,by rw[hl]; exact h1,by rw[hl]; exact h2,fun h=>(by cases h),h4,fun hp=>let ⟨k,off,e1,e2⟩:=h5 (by rw[hl] at hp; exact hp); ⟨k,off,e1,fun j v hj=>⟨(e2 j v hj).1,hS _ _ (e2 j v hj).2,fun b hb=>by cases hb⟩⟩,hv⟩
 | .sl b o m cl,c,h=>by simp only[cD]; exact hG b o m cl c h
 | .agg cs,c,h=>by
  simp only[cD]
  rw[VR] at h ⊢
  obtain ⟨ds,h1,h2⟩:=h
  exact⟨ds,h1,jE hS hG cs _ h2⟩
 | .tup cs,c,h=>by
  simp only[cD]
  rw[VR] at h ⊢
  obtain ⟨ds,h1,h2⟩:=h
  exact⟨ds,h1,jE hS hG cs _ h2⟩
 | .fn f [] [],c,h=>by
  simp only[cD]
  rw[VR] at h ⊢
  obtain ⟨ds,es,h1,h2,h3⟩:=h
  rw[bB] at h2 h3
  exact⟨ds,es,h1,by rw[bB]; exact h2,by rw[bB]; exact h3⟩
 | .fn _ (_ :: _) _,_,_=>H6
 | .fn _ [] (_ :: _),_,_=>H6
 | .yld _,c,h=>H6
 | .nq _,c,h=>H6
 | .mr _,c,h=>H6
 | .mv k ks vs,c,h=>by
  simp only[cD]
  rw[VR] at h ⊢
  obtain ⟨r,arr,cl,h1,h2,h3,h4,h5⟩:=h
  exact⟨r,arr,cl,h1,⟨hS _ _ h2,fun b hb=>by cases hb⟩,h3,h4,jE hS hG vs _ h5⟩
 | .ifc t x,c,h=>by
  simp only[cD]
  rw[VR] at h ⊢
  obtain ⟨d,h1,h2⟩:=h
  exact⟨d,h1,nh hS hG x d h2⟩
theorem jE {G:Nat->Nat->Nat->A} {S:Nat->Nat->Prop} (hS:∀ k o,eF H g k o->S k o) (hG:∀ b o m cl c,VR H g w (.sl b o m cl) c->VR [] (G0 S) w (G b o m) c):∀ (cs:List A) (ds:List Value),bB H g w cs ds->bB [] (G0 S) w (bp G cs) ds
 | [],_,h=>by simp only[bp]; rw[bB] at h ⊢; exact h
 | a :: as,_,h=>by
  simp only[bp]
  rw[bB] at h ⊢
  obtain ⟨d,ds',h1,h2,h3⟩:=h
  exact⟨d,ds',h1,nh hS hG a d h2,jE hS hG as ds' h3⟩
theorem iG {G:Nat->Nat->Nat->A} {S:Nat->Nat->Prop} (hS:∀ k o,eF H g k o->S k o) (hG:∀ b o m cl c,VR H g w (.sl b o m cl) c->VR [] (G0 S) w (G b o m) c):∀ (cs:List (List A)) (ds:List (List Value)),bw H g w cs ds->bw [] (G0 S) w (dh G cs) ds
 | [],_,h=>by simp only[dh]; rw[bw] at h ⊢; exact h
 | a :: as,_,h=>by
  simp only[dh]
  rw[bw] at h ⊢
  obtain ⟨d,ds',h1,h2,h3⟩:=h
  exact⟨d,ds',h1,jE hS hG a d h2,iG hS hG as ds' h3⟩
end
theorem uK {ds:List (List Value)} {es k o m:Nat} {arr:Array Value} {ty:TypeId} (hd:∀ d∈ds,d.length=es) (ha:w.heap[k]? = some (.cells arr ty (0,0))) (h:∀ (j:Nat) (v:Value),ds.flatten[j]? = some v->arr[j]? = some v) {j:Nat} {v:Value} (hj:((ds.drop o).take m).flatten[j]? = some v):w.cell? ⟨k,o*es+j,none⟩=some v:=by
 rw[Zh w k _ arr ty (0,0) ha]
 refine h _ v ?_
 have e1:ds=ds.take o++((ds.drop o).take m++(ds.drop o).drop m):=by rw[Zb,Zb]
 by_cases ho:o<=ds.length
 ·have hl:(ds.take o).flatten.length=o*es:=by
   have:∀ l:List (List Value),(∀ d∈l,d.length=es)->l.flatten.length=l.length*es:=fun l hl=>by
    induction l with
    | nil=>simp
    | cons x l ih=>rw[YX,X9,hl x r8,ih (fun d hd=>hl d (by simp[hd])),X8,YL]; omega
   rw[this _ (fun d hd'=>hd d (Yk hd')),YG,Zm ho]
  rw[e1,Zy,Yr o3,hl,show o*es+j - o*es=j by omega,Zy]
  rw[X6 (XS.1 hj).1]
  exact hj
 ·rw[List.drop_eq_nil_of_le o3] at hj
  simp at hj
theorem pG (hr:Rel H g w0 w):∀ (q b o m:Nat) (cl:Bool) (c:Value),VR H g w (.sl b o m cl) c->VR [] (G0 (eF H g)) w (iv q H b o m) c
 | 0,_,_,_,_,_,_=>by simp only[iv]; rw[VR]; trivial
 | q+1,b,o,m,cl,c,h=>by
  simp only[iv]
  split
  ·rename_i es els hb
   rw[VR,hb] at h
   obtain ⟨h0,a,cap,rfl,h1,h2,h3,_⟩:=h
   obtain ⟨hga,hgl⟩:=hr.blk b _ hb
   have hv:=iG (fun _ _ h=>h) (fun b o m cl c h=>pG hr q b o m cl c h) _ _ ((hga.drop o).take m)
   have hl:(dh (iv q H) ((els.drop o).take m)).length=m:=by rw[<-hv.length]; simp[hga.length]; omega
   rw[VR]
   exact⟨a,cap,_,es,by rw[hl],by rw[hl]; exact h1,fun h=>(by cases h),fun d hd=>hgl d (Yo (Yk hd)),fun hp=>let ⟨k,off,e1,e2⟩:=h3 (by rw[hl] at hp; exact hp); ⟨k,off,e1,fun j v hj=>⟨(e2 j v hj).1,(e2 j v hj).2,fun b hb=>by cases hb⟩⟩,hv⟩
  ·rw[VR]; trivial
theorem lK (hr:Rel H g w0 w):∀ (q b o m:Nat) (cl:Bool) (c:Value),VR H g w (.sl b o m cl) c->VR [] (G0 g.S) w (iE q H b o m) c
 | 0,_,_,_,_,_,_=>by simp only[iE]; rw[VR]; trivial
 | q+1,b,o,m,cl,c,h=>by
  simp only[iE]
  split
  ·rename_i wr es els hb
   rw[VR,hb] at h
   have hS:∀ k o,eF H g k o->g.S k o:=fun k o h=>h.1
   cases wr with
   | false=>
    obtain ⟨h0,a,cap,rfl,h1,h2,h3,_⟩:=h
    obtain ⟨hga,hgl⟩:=hr.blk b _ hb
    have hv:=iG hS (fun b o m cl c h=>lK hr q b o m cl c h) _ _ ((hga.drop o).take m)
    have hl:(dh (iE q H) ((els.drop o).take m)).length=m:=by rw[<-hv.length]; simp[hga.length]; omega
    rw[VR]
    exact⟨a,cap,_,es,by rw[hl],by rw[hl]; exact h1,fun h=>(by cases h),fun d hd=>hgl d (Yo (Yk hd)),fun hp=>let ⟨k,off,e1,e2⟩:=h3 (by rw[hl] at hp; exact hp); ⟨k,off,e1,fun j v hj=>⟨(e2 j v hj).1,(e2 j v hj).2.1,fun b hb=>by cases hb⟩⟩,hv⟩
   | true=>
    obtain ⟨h0,a,cap,rfl,h1,h2,h3,_⟩:=h
    obtain ⟨ds,d1,d2,d3⟩:=hr.blk b _ hb
    have hv:=iG hS (fun b o m cl c h=>lK hr q b o m cl c h) _ _ ((d1.drop o).take m)
    have hl:(dh (iE q H) ((els.drop o).take m)).length=m:=by rw[<-hv.length]; simp[d1.length]; omega
    rw[VR]
    refine⟨a,cap,_,es,by rw[hl],by rw[hl]; exact h1,fun h=>(by cases h),fun d hd=>d2 d (Yo (Yk hd)),fun hp=>?_,hv⟩
    rw[hl] at hp
    obtain ⟨k,hk,ha⟩:=h3 hp
    obtain ⟨k',arr,ty,m1,m2,m3⟩:=d3 o3
    rw[hk] at m1; cases m1
    exact⟨k,o*es,ha,fun j v hj=>⟨uK d2 m2 m3 hj,hr.own b k _ hk,fun b hb=>by cases hb⟩⟩
  ·rw[VR]; trivial
theorem bB.HT {S:aC}:∀ (o:Nat) {cs:List A} {ds:List Value},bB S g w cs ds->bB S g w (cs.drop o) (ds.drop o)
 | 0,_,_,h=>h
 | o+1,[],_,h=>by rw[bB] at h; subst h; rw[List.drop_nil,List.drop_nil,bB]
 | o+1,a :: as,_,h=>by rw[bB] at h; obtain ⟨d,ds',rfl,_,h3⟩:=h; exact bB.HT o h3
theorem sV (hr:Rel H g w0 w):∀ (n:Nat) (a:A) (c:Value),VR H g w a c->VR [] (G0 g.S) w (kl n H a) c
 | 0,a,_,_=>by rw[show kl 0 H a=.any from rfl,VR]; trivial
 | n+1,a,c,h=>by
  have hm:∀ (cs:List A) (ds:List Value),bB H g w cs ds->bB [] (G0 g.S) w (cs.map (kl n H)) ds:=fun cs=>by
   induction cs with
   | nil=>intro ds h; rw[bB] at h; rw[qaE,bB]; exact h
   | cons a as ih=>intro ds h; rw[bB] at h; obtain ⟨d,ds',h1,h2,h3⟩:=h; rw[YW,bB]; exact⟨d,ds',h1,sV hr n a d h2,ih ds' h3⟩
  cases a with
  | ptr b o=>
   show VR [] (G0 g.S) w (match H[b]? with | some (.box cs)=>A.ip ((cs.drop o).map (kl n H)) | _=>.any) c
   split
   ·rename_i cs hb
    rw[VR,hb] at h
    obtain ⟨k,h1,rfl⟩:=h
    obtain ⟨k',arr,ty,e1,e2,e3⟩:=hr.blk b _ hb
    rw[h1] at e1; cases e1
    rw[VR]
    refine⟨k,o,arr.toList.drop o,rfl,fun j v hj=>⟨?_,hr.own b k _ h1,fun b hb=>by cases hb⟩,hm _ _ (e3.HT o)⟩
    rw[Zh w k _ arr ty (0,0) e2]
    rw[Y0] at hj
    simpa using hj
   ·rw[VR]; trivial
  | fn f p q=>
   rw[VR] at h
   obtain ⟨ds,es,h1,h2,h3⟩:=h
   show VR [] (G0 g.S) w (.fn f (p.map (kl n H)) (q.map (kl n H))) c
   rw[VR]
   exact⟨ds,es,h1,hm _ _ h2,hm _ _ h3⟩
  | agg cs=>
   rw[VR] at h
   obtain ⟨ds,h1,h2⟩:=h
   show VR [] (G0 g.S) w (.agg (cs.map (kl n H))) c
   rw[VR]
   exact⟨ds,h1,hm _ _ h2⟩
  | _=>exact nh (fun _ _ h=>h.1) (fun b o m cl c h=>lK hr 4 b o m cl c h) _ c h
theorem EG (hr:Rel H g w0 w) (a:A) (c:Value) (h:VR H g w a c):VR [] (G0 g.S) w (aS H a) c:=by
 unfold aS
 split
 ·rename_i b
  split
  ·rename_i k ks vs hb
   rw[VR,hb] at h
   obtain ⟨r,h1,h2⟩:=h
   obtain ⟨r',arr,cl,e1,e2,e3,e4⟩:=hr.blk b _ hb
   rw[h1] at e1; cases e1
   rw[VR]
   exact⟨r,arr,cl,h2,⟨hr.own b r 0 h1,fun b hb=>by cases hb⟩,e2,e3,jE (fun _ _ h=>h.1) (fun b o m cl c h=>lK hr 4 b o m cl c h) _ _ e4⟩
  ·rw[VR]; trivial
 ·exact sV hr 6 _ c h
 ·exact nh (fun _ _ h=>h.1) (fun b o m cl c h=>lK hr 4 b o m cl c h) a c h
theorem uO (hr:Rel H g w0 w) (n:Nat):∀ (cs:List A) (ds:List Value),bB H g w cs ds->bB [] (G0 g.S) w (cs.map (kl n H)) ds
 | [],_,h=>by rw[bB] at h; rw[qaE,bB]; exact h
 | a :: as,_,h=>by rw[bB] at h; obtain ⟨d,ds',h1,h2,h3⟩:=h; rw[YW,bB]; exact⟨d,ds',h1,sV hr n a d h2,uO hr n as ds' h3⟩
theorem pH (hr:Rel H g w0 w) (a:A) (c:Value) (h:VR H g w a c):VR [] (G0 (eF H g)) w (snap H a) c:=nh (fun _ _ h=>h) (fun b o m cl c h=>pG hr 4 b o m cl c h) a c h
theorem yk (hr:Rel H g w0 w) {l:List A} {cs:List Value} (h:bB H g w l cs):bB [] (G0 (eF H g)) w (l.map (snap H)) cs:=by
 obtain ⟨h1,h2⟩:=dG.1 h
 refine dG.2 ⟨by simpa using h1,fun i a d ha hd=>?_⟩
 rw[Yq] at ha
 cases hx:l[i]? with
 | none=>rw[hx] at ha; cases ha
 | some x=>rw[hx] at ha; cases ha; exact pH hr x d (h2 i x d hx hd)
theorem VR.back {S:Nat->Nat->Prop} {x:A} {c:Value} (hS:∀ k o,S k o->eF H g k o) (h:VR [] (G0 S) w x c):VR H g w x c:=
 VR.fc (H:=[]) (g:=G0 S) ⟨fun k o _ hs hc=>⟨hc,hS k o hs.1⟩,fun b B hB=>(by simp at hB),fun k arr cl hs hm=>⟨hm,hS k 0 hs.1⟩⟩ x c h
theorem Fm (hr:Rel H g w0 w) {a:A} {c:Value} (h:VR H g w a c):VR H g w (Br H a) c:=by
 unfold Br
 split
 ·exact VR.back (fun _ _ h=>h) (pH hr _ c h)
 ·rw[VR] at h ⊢
  obtain ⟨a,cap,ds,es,h1,h2,_,h4,h5,h6⟩:=h
  exact⟨a,cap,ds,es,h1,h2,fun h=>(by cases h),h4,h5,h6⟩
 ·exact h
theorem xu (hr:Rel H g w0 w):∀ {cs:List A} {ds:List Value},bB H g w cs ds->bB H g w (cs.map (Br H)) ds
 | [],_,h=>h
 | a :: as,_,h=>by
  rw[bB] at h
  obtain ⟨d,ds',rfl,h1,h2⟩:=h
  rw[YW,bB]
  exact⟨d,ds',rfl,Fm hr h1,xu hr h2⟩
theorem Ax (hr:Rel H g w0 w) {a:A} {c:Value} (h:VR H g w a c):VR H g w (di H a) c:=by
 unfold di
 split
 ·exact VR.back (fun _ _ h=>h) (pH hr _ c h)
 ·rw[VR] at h ⊢
  obtain ⟨ds,h1,h2⟩:=h
  exact⟨ds,h1,xu hr h2⟩
 ·exact h
theorem J9 (hr:Rel H g w0 w) {b a:A} {c:Value} (h:VR H g w a c):VR H g w (bN b H a) c:=by
 unfold bN
 split
 ·exact Ax hr h
 ·exact h
theorem Ext.refl (hr:Rel H g w0 w):Ext H g w H g w:=Ext.below hr (Below.refl _ _)
theorem Ext.trans {H1 H2 H3:aC} {g1 g2 g3:Gh} {w1 w2 w3:World} (h:Ext H1 g1 w1 H2 g2 w2) (k:Ext H2 g2 w2 H3 g3 w3):Ext H1 g1 w1 H3 g3 w3:=by
 refine⟨fun a o v hs hc=>?_,fun b B hB=>?_,fun a o ho=>k.kept a o (h.kept a o ho),Yb h.size k.size,fun a arr cl hs hm=>let ⟨c1,s1⟩:=h.map a arr cl hs hm; k.map a arr cl s1 c1,fun a ha hn=>(k.obj a (X5 ha h.size) fun b hb=>?_).trans (h.obj a ha hn),fun b a hb=>?_⟩
 rotate_right 2
 ·rcases h.fresh b a hb with ⟨c,hc⟩ | hle
  ·exact hn c hc
  ·omega
 ·rcases k.fresh b a hb with ⟨c,hc⟩ | hle
  ·exact h.fresh c a hc
  ·exact .inr (Yb h.size hle)
 ·obtain ⟨c1,s1⟩:=h.cell a o v hs hc
  exact k.cell a o v s1 c1
 ·obtain ⟨B2,hB2,t1⟩:=h.blk b B hB
  obtain ⟨B3,hB3,t2⟩:=k.blk b B2 hB2
  refine⟨B3,hB3,?_⟩
  by_cases hB0:B=.hole
  ·subst hB0; trivial
  cases B3 with
  | dead=>cases B with
   | row wr _ _=>cases wr<;>trivial
   | _=>trivial
  | hole=>cases B2 with
   | hole=>cases B with
    | row wr _ _=>cases wr<;>exact False.elim t1
    | hole=>exact absurd rfl hB0
    | _=>exact False.elim t1
   | row wr _ _=>cases wr<;>exact False.elim t2
   | _=>exact False.elim t2
  | box cs3=>cases B2 with
   | box cs2=>cases B with
    | box cs=>exact Eq.trans t2 t1
    | row wr _ _=>cases wr<;>exact False.elim t1
    | rng _=>exact False.elim t1
    | mp _ _ _=>exact False.elim t1
    | dead=>exact False.elim t1
    | hole=>exact absurd rfl hB0
   | row wr _ _=>cases wr<;>exact False.elim t2
   | rng _=>exact False.elim t2
   | mp _ _ _=>exact False.elim t2
   | dead=>exact False.elim t2
   | hole=>cases B with
    | hole=>exact absurd rfl hB0
    | row wr _ _=>cases wr<;>exact False.elim t1
    | _=>exact False.elim t1
  | rng st3=>cases B2 with
   | rng st2=>cases B with
    | rng st=>exact⟨t2.1.trans t1.1,t2.2.trans t1.2⟩
    | row wr _ _=>cases wr<;>exact False.elim t1
    | box _=>exact False.elim t1
    | mp _ _ _=>exact False.elim t1
    | dead=>exact False.elim t1
    | hole=>exact absurd rfl hB0
   | row wr _ _=>cases wr<;>exact False.elim t2
   | box _=>exact False.elim t2
   | mp _ _ _=>exact False.elim t2
   | dead=>exact False.elim t2
   | hole=>cases B with
    | hole=>exact absurd rfl hB0
    | row wr _ _=>cases wr<;>exact False.elim t1
    | _=>exact False.elim t1
  | mp k3 ks3 vs3=>cases B2 with
   | mp k2 ks2 vs2=>cases B with
    | mp _ _ _=>exact Eq.trans t2 t1
    | rng _=>exact False.elim t1
    | row wr _ _=>cases wr<;>exact False.elim t1
    | box _=>exact False.elim t1
    | dead=>exact False.elim t1
    | hole=>exact absurd rfl hB0
   | row wr _ _=>cases wr<;>exact False.elim t2
   | box _=>exact False.elim t2
   | rng _=>exact False.elim t2
   | dead=>exact False.elim t2
   | hole=>cases B with
    | hole=>exact absurd rfl hB0
    | row wr _ _=>cases wr<;>exact False.elim t1
    | _=>exact False.elim t1
  | row wr3 es3 els3=>cases wr3 with
   | true=>cases B2 with
    | box _=>exact False.elim t2
    | rng _=>exact False.elim t2
    | mp _ _ _=>exact False.elim t2
    | dead=>exact False.elim t2
    | hole=>cases B with
     | hole=>exact absurd rfl hB0
     | row wr _ _=>cases wr<;>exact False.elim t1
     | _=>exact False.elim t1
    | row wr2 es2 els2=>cases wr2 with
     | false=>exact False.elim t2
     | true=>cases B with
      | box _=>exact False.elim t1
      | rng _=>exact False.elim t1
      | mp _ _ _=>exact False.elim t1
      | dead=>exact False.elim t1
      | hole=>exact absurd rfl hB0
      | row wr es els=>cases wr with
       | false=>exact False.elim t1
       | true=>
        obtain ⟨a1,a2,a3,a4⟩:=t1
        obtain ⟨b1,b2,b3,b4⟩:=t2
        refine⟨b1.trans a1,b2.trans a2,b3.trans a3,fun k arr ty hk ha=>?_⟩
        obtain ⟨arr1,c1,c2⟩:=a4 k arr ty hk ha
        obtain ⟨arr2,c3,c4⟩:=b4 k arr1 ty (a3.trans hk) c1
        exact⟨arr2,c3,Yb c2 c4⟩
   | false=>cases B2 with
    | box _=>exact False.elim t2
    | rng _=>exact False.elim t2
    | mp _ _ _=>exact False.elim t2
    | dead=>exact False.elim t2
    | hole=>cases B with
     | hole=>exact absurd rfl hB0
     | row wr _ _=>cases wr<;>exact False.elim t1
     | _=>exact False.elim t1
    | row wr2 es2 els2=>cases wr2 with
     | true=>exact False.elim t2
     | false=>cases B with
      | box _=>exact False.elim t1
      | rng _=>exact False.elim t1
      | mp _ _ _=>exact False.elim t1
      | dead=>exact False.elim t1
      | hole=>exact absurd rfl hB0
      | row wr es els=>cases wr with
       | true=>exact False.elim t1
       | false=>
        obtain ⟨a1,⟨r1,a2⟩,a3,a4,a5⟩:=t1
        obtain ⟨b1,⟨r2,b2⟩,b3,b4,b5⟩:=t2
        refine⟨b1.trans a1,⟨r1++r2,by rw[b2,a2,Yx]⟩,a3,o3,fun hl=>?_⟩
        obtain ⟨c1,c2⟩:=a5 o3
        obtain ⟨d1,d2⟩:=b5 o3
        refine⟨d1.trans c1,fun j arr ty hj ha=>?_⟩
        obtain ⟨arr',e1,e2⟩:=c2 j arr ty hj ha
        obtain ⟨arr'',f1,f2⟩:=d2 j arr' ty (c1.trans hj) e1
        exact⟨arr'',f1,o3⟩
structure SR (cx:Cx) (s:St) (g:Gh) (w0:World) (a:Act) (w:World):Prop where
 rel:Rel s.H g w0 w
 fr:∀ t,VR s.H g w (look s.fr t) (a.tmps.getD t undef)
 gl:∀ (G:Nat) (vs:List Value),cx.glob G=some vs->bM s.H g w G 0 vs
variable {cx:Cx} {s:St} {a:Act}
structure tn (cx:Cx) (s:St) (g:Gh) (w0:World) (o:Op) (ev:Operand->Value) (w:World):Prop where
 rel:Rel s.H g w0 w
 op:∀ x∈o.operands.toList,VR s.H g w (cg cx s x) (ev x)
 k:∀ x,ev (.const x)=x
theorem Fq {G:Nat} {vs:List Value} (h:bM H g w G 0 vs):VR H g w (.ip (vs.map .v)) (.pointer (some ⟨G,0,none⟩)):=by
 rw[VR]
 exact⟨G,0,vs,rfl,h,dG.2 ⟨r8,fun i x d hx hd=>by rw[Yq,hd] at hx; cases hx; rw[VR]⟩⟩
theorem oG {x:Operand} (hf:∀ t,x=.tmp t->VR s.H g w (look s.fr t) (a.tmps.getD t undef)) (gl:∀ (G:Nat) (vs:List Value),cx.glob G=some vs->bM s.H g w G 0 vs):VR s.H g w (cg cx s x) (a.eval x):=by
 cases x with
 | tmp t=>exact hf t rfl
 | const v=>exact oE v
 | global G=>
  show VR s.H g w (match cx.glob G with | some vs=>.ip (vs.map .v) | none=>.any) _
  cases hG:cx.glob G with
  | none=>rw[VR]; trivial
  | some vs=>exact Fq (gl G vs hG)
 | func f=>
  show VR s.H g w (.fn (.func f) [] []) (.func (.func f) #[] #[])
  rw[VR]; exact⟨#[],#[],rfl,u3,u3⟩
theorem SR.Uf (h:SR cx s g w0 a w) (o:Op):tn cx s g w0 o a.eval w:=⟨h.rel,fun _ _=>oG (fun t _=>h.fr t) h.gl,fun _=>rfl⟩
variable {o:Op} {ev:Operand->Value}
theorem tn.one (h:tn cx s g w0 o ev w) (x:Operand) (hx:x∈o.operands.toList):VR s.H g w (cg cx s x) (ev x):=h.op x hx
theorem tn.many (h:tn cx s g w0 o ev w) (l:List Operand) (hl:∀ x∈l,x∈o.operands.toList):bB s.H g w (l.map (cg cx s)) (l.map ev):=
 dG.2 ⟨r8,fun i x d hx hd=>by
  simp only[Yq,Yu] at hx hd
  obtain ⟨y,hy,rfl⟩:=hx
  obtain ⟨y',hy',rfl⟩:=hd
  rw[hy] at hy'; cases hy'
  exact h.op y (hl y (Yh hy))⟩
theorem tn.parts (h:tn cx s g w0 o ev w) (l:Array (Nat×Operand)) (hl:∀ p∈l.toList,p.2∈o.operands.toList):mK s.H g w (l.toList.map fun p=>(p.1,cg cx s p.2)) (l.map fun (i,x)=>(i,ev x)).toList:=
 ⟨r8,fun i p hp=>by
  simp only[Yq,Yu] at hp
  obtain ⟨q,hq,rfl⟩:=hp
  refine⟨(q.1,ev q.2),?_,rfl,h.op _ (hl q (Yh hq))⟩
  simp[hq]⟩
theorem tn.Er (h:tn cx s g w0 o ev w) (l:Array (Nat×Operand)) (hl:∀ p∈l.toList,p.2∈o.operands.toList):mK s.H g w (l.toList.map fun p=>(p.1,di s.H (cg cx s p.2))) (l.map fun (i,x)=>(i,ev x)).toList:=
 ⟨r8,fun i p hp=>by
  simp only[Yq,Yu] at hp
  obtain ⟨q,hq,rfl⟩:=hp
  refine⟨(q.1,ev q.2),?_,rfl,Ax h.rel (h.op _ (hl q (Yh hq)))⟩
  simp[hq]⟩
theorem tn.opt (h:tn cx s g w0 o ev w) (x:Option Operand) (hx:∀ y,x=some y->y∈o.operands.toList):I0 s.H g w (x.map (cg cx s)) (x.map ev):=by
 cases x with
 | none=>trivial
 | some x=>exact h.op x (hx x rfl)
theorem ez (fr:List (Nat×A)) (d t:Nat) (x:A):look ((d,x) :: fr) t=if d=t then x else look fr t:=by
 show (bif Nat.beq d t then x else look fr t)=_
 by_cases e:d=t
 ·subst e; simp
 ·have:Nat.beq d t=false:=by cases hb:Nat.beq d t with
   | false=>rfl
   | true=>exact absurd (X3 hb) e
  rw[this,XW e]; rfl
theorem SR.step (h:SR cx s g w0 a w) {H':aC} (hr:Rel H' g' w0 w') (he:Ext s.H g w H' g' w') {dst:Option Nat} {x:A} {c:Value} (hx:VR H' g' w' x c) (hd:∀ d,dst=some d->d<a.tmps.size):SR cx (({ s with H:=H' }:St).put dst x) g' w0 (a.put dst c) w':=by
 have hH:(({ s with H:=H' }:St).put dst x).H=H':=by cases dst<;>rfl
 refine⟨by rw[hH]; exact hr,fun t=>?_,fun G vs hG=>by rw[hH]; exact(h.gl G vs hG).ext he⟩
 rw[hH]
 cases dst with
 | none=>exact VR.ext he _ _ (h.fr t)
 | some d=>
  show VR H' g' w' (look ((d,x) :: s.fr) t) _
  rw[ez]
  by_cases e:d=t
  ·subst e
   rw[XX rfl]
   have:=hd d rfl
   simp only[Act.put]
   rw[YM,qai this]
   exact hx
  ·rw[XW e]
   simp only[Act.put]
   rw[YM,ZD e,<-YM]
   exact VR.ext he _ _ (h.fr t)
def lO (s:St) (g:Gh) (w0 w:World) (lo:Nat) (res:Result Next) (K:A->aC->Prop):Prop:=
 ∃ c w' x H' g',(res=.ok (.value c) w'∨(res=.ok .skip w'/\c=undef))/\K x H'/\Rel H' g' w0 w'/\Ext s.H g w H' g' w'/\VR H' g' w' x c/\s.H.length<=H'.length/\(∀ b,b<lo->b<s.H.length->H'[b]? = s.H[b]?)/\g'.S=g.S
theorem lO.same {lo:Nat} {res:Result Next} {K:A->aC->Prop} (h:Rel s.H g w0 w) {x:A} {c:Value} (hres:res=.ok (.value c) w) (hK:K x s.H) (hx:VR s.H g w x c):lO s g w0 w lo res K:=
 ⟨c,w,x,s.H,g,.inl hres,hK,h,Ext.refl h,hx,XP _,fun _ _ _=>rfl,rfl⟩
theorem lO.fresh {lo:Nat} {res:Result Next} {K:A->aC->Prop} (h:Rel s.H g w0 w) {x:A} {c:Value} (hres:res=.ok (.value c) w') (hb:Below w.heap.size w w') (hK:K x s.H) (hx:VR s.H g w' x c):lO s g w0 w lo res K:=
 ⟨c,w',x,s.H,g,.inl hres,hK,h.eK hb,Ext.below h hb,hx,XP _,fun _ _ _=>rfl,rfl⟩
theorem lO.kh {lo:Nat} {res:Result Value} {res':Result Next} {K:A->aC->Prop} {x:A} {H':aC} (h:Step s.H g w0 w lo res x H') (hres:∀ d w',res=.ok d w'->res'=.ok (.value d) w') (hK:K x H'):lO s g w0 w lo res' K:=
 let ⟨d,w',g',e1,e2,e3,e4,e5,e6,e7⟩:=h; ⟨d,w',x,H',g',.inl (hres d w' e1),hK,e2,e3,e4,e5,e6,e7⟩
theorem iH {P:Program} {sem:Sem Value} {d:Value} (h:sem.run P w=.ok d w'):(do pure (.value (<-sem)):Sem Next).run P w=.ok (.value d) w':=by simp[h]
theorem pT {P:Program} {mn:Bool}:∀ {ys:List A} {ds:List Value} {x z:A} {c:Value},BV mn x ys=some z->VR H g w x c->bB H g w ys ds->∃ d,(ds.foldlM (if mn then Builtin.min2 else Builtin.max2) c).run P w=.ok d w/\VR H g w z d
 | [],ds,x,z,c,h,hx,hy=>by
  rw[bB] at hy
  subst hy
  simp only[BV,YE] at h
  subst h
  exact⟨c,r8,hx⟩
 | y :: r,ds,x,z,c,h,hx,hy=>by
  rw[bB] at hy
  obtain ⟨d,ds',rfl,hy1,hy2⟩:=hy
  simp only[BV] at h
  obtain ⟨u,h1,h2⟩:=bE h
  unfold Ah at h1
  split at h1
  ·rename_i k p l q
   obtain ⟨h3,h4⟩:=bu h1
   cases h4
   rw[VR] at hx hy1
   subst hx; subst hy1
   have hu:VR H g w (.v (.int k (if mn=true then (if q<p then q else p) else (if p<q then q else p)))) (.int k (if mn=true then (if q<p then q else p) else (if p<q then q else p))):=s6
   obtain ⟨e,e1,e2⟩:=pT (P:=P) h2 hu hy2
   refine⟨e,?_,e2⟩
   rw[List.foldlM_cons,Yv]
   cases mn
   ·simp only[Yg,Z7] at e1 ⊢
    simp only[Builtin.max2,gt_iff_lt,ZU,Ym]
    exact e1
   ·simp only[ZS] at e1 ⊢
    simp only[Builtin.min2,ZU,Ym]
    exact e1
  ·cases h1
theorem oX {l:Array Operand} {xs:List Operand} (h:l.toList=xs):l=xs.toArray:=by rw[<-h]
theorem yX {β:Type} {f lo:Nat} {o:Oper} {c:Call} {k:A->aC->Option β} {r:β} (hs:tn cx s g w0 (.call c) ev w) (h:pn cx f lo o.dst c s k=some r):lO s g w0 w lo ((do let d <-resolve ev c o.type; invoke d.target d.args:Sem Next).run cx.P w) (fun x H'=>k x H'=some r):=by
 unfold pn at h
 obtain ⟨callee,args,argTypes⟩:=c
 simp only at h
 split at h
 ·rename_i x t e1 e2
  cases oX e1
  have ht:argTypes=#[t]:=by rw[<-qaF (xs:=argTypes),e2]
  subst ht
  replace h:=bE h
  obtain ⟨z,h1,h⟩:=h
  obtain ⟨d,e1,e2⟩:=yI (ty:=o.type) h1 (hs.one x (by simp[Op.operands,Call.operands]))
  exact lO.same hs.rel (by simp[resolve,invoke,builtin,e1]) h e2
 ·rename_i x y t t2 e1 e2
  cases oX e1
  have ht:argTypes=#[t,t2]:=by rw[<-qaF (xs:=argTypes),e2]
  subst ht
  replace h:=bE h
  obtain ⟨⟨z,H'⟩,h1,h⟩:=h
  exact lO.kh (tu (ty:=o.type) hs.rel h1 (hs.one x (by simp[Op.operands,Call.operands])) (hs.one y (by simp[Op.operands,Call.operands]))) (fun d w' e=>by simp[resolve,invoke,builtin,e]) h
 ·rename_i x y t t2 e1 e2
  cases oX e1
  have ht:argTypes=#[t,t2]:=by rw[<-qaF (xs:=argTypes),e2]
  subst ht
  replace h:=bE h
  obtain ⟨⟨z,H'⟩,h1,h⟩:=h
  exact lO.kh (wQ (t2:=t2) (ty:=o.type) hs.rel h1 (hs.one x (by simp[Op.operands,Call.operands])) (hs.one y (by simp[Op.operands,Call.operands]))) (fun d w' e=>by simp[resolve,invoke,builtin,e]) h
 ·rename_i x r e1
  cases oX e1
  replace h:=bE h
  obtain ⟨z,h1,h⟩:=h
  obtain ⟨d,e1,e2⟩:=pT (P:=cx.P) h1 (hs.one x (by simp[Op.operands,Call.operands])) (hs.many r (by simp[Op.operands,Call.operands]; exact fun y hy=>.inr hy))
  simp only[ZS] at e1
  exact lO.same hs.rel (by simp[resolve,invoke,builtin,Builtin.min_,e1]) h e2
 ·rename_i x r e1
  cases oX e1
  replace h:=bE h
  obtain ⟨z,h1,h⟩:=h
  obtain ⟨d,e1,e2⟩:=pT (P:=cx.P) h1 (hs.one x (by simp[Op.operands,Call.operands])) (hs.many r (by simp[Op.operands,Call.operands]; exact fun y hy=>.inr hy))
  simp only[Yg,Z7] at e1
  exact lO.same hs.rel (by simp[resolve,invoke,builtin,Builtin.max_,e1]) h e2
 ·cases h
theorem Bb {P:Program} {H:aC} {t:TypeId} {op:BinOp} {p y:Operand} {x z:A} {c d:Value} (hn:JE op y=true) (h:I1 P t x=some z) (hx:VR H g w x c) (hd:∀ v,y=.const v->d=v) :
  ∃ e,(do eqGuard op t p y c d; binOp op t c d:Sem Value).run P w=.ok e w/\VR H g w z e:=by
 unfold JE at hn
 split at hn
 ·have hd:=hd _ rfl
  subst hd
  unfold I1 at h
  split at h
  ·rename_i e els cl hu
   cases h
   rw[VR] at hx
   obtain ⟨a,cap,ds,es,rfl,h1,h2,h3,h4,h5⟩:=hx
   have hem:a.isNone=true->els=[]:=fun hb=>by
    cases els with
    | nil=>rfl
    | cons x l=>
     obtain ⟨k,off,e1,_⟩:=h4 r8
     rw[e1] at hb; cases hb
   refine⟨.bool a.isNone,?_,by rw[VR]; exact⟨_,rfl,hem⟩⟩
   ·have h1:=Lib.run_eql_slice_nil (P:=P) w t e a els.length cap 0 0 hu
    have h2:(eqGuard .eql t p (.const (.slice none 0 0)) (.slice a els.length cap) (.slice none 0 0)).run P w=.ok () w:=by cases a<;>rfl
    simp only[Yv,h2,Ym,h1]
  ·cases h
 ·cases hn
theorem zw {H:aC} {a:A} {c:Value} (h:qb H a=true) (hv:VR H g w a c):(∃ ad,c=.pointer (some ad))∨∃ f x y,c=.func (.func f) x y:=by
 cases a with
 | ptr b o=>
  rw[VR] at hv
  simp only[qb,gw] at h
  cases hb:H[b]? with
  | none=>rw[hb] at h; cases h
  | some B=>cases B with
   | box _=>rw[hb] at hv; obtain ⟨k,_,e⟩:=hv; exact .inl ⟨_,e⟩
   | _=>rw[hb] at h; cases h
 | ep b i o=>
  rw[VR] at hv
  simp only[qb,gw] at h
  cases hb:H[b]? with
  | none=>rw[hb] at h; cases h
  | some B=>cases B with
   | row wr _ _=>cases wr with
    | true=>rw[hb] at hv; obtain ⟨_,k,_,e⟩:=hv; exact .inl ⟨_,e⟩
    | false=>rw[hb] at h; cases h
   | _=>rw[hb] at h; cases h
 | ip cs=>rw[VR] at hv; obtain ⟨_,_,_,e,_⟩:=hv; exact .inl ⟨_,e⟩
 | fn f x y=>cases f with
  | func k=>rw[VR] at hv; obtain ⟨_,_,e,_⟩:=hv; exact .inr ⟨_,_,_,e⟩
  | _=>cases h
 | _=>cases h
theorem kd {β:Type} {f lo:Nat} {o:Oper} {k:A->aC->Option β} {r:β} (hs:tn cx s g w0 o.op ev w) (h:bQ cx f lo o s k=some r):lO s g w0 w lo ((execOp ev o).run cx.P w) (fun x H'=>k x H'=some r):=by
 unfold bQ at h
 unfold execOp
 split at h
 ·rename_i x ho
  rw[ho] at hs ⊢; exact lO.same hs.rel rfl h (hs.one x (by simp[Op.operands]))
 ·rename_i x ho
  rw[ho] at hs ⊢; exact lO.same hs.rel rfl h (hs.one x (by simp[Op.operands]))
 ·rename_i t ho
  rw[ho] at hs ⊢
  replace h:=bE h
  obtain ⟨⟨y,H'⟩,h1,h⟩:=h
  unfold n0 at h1
  rw[bG] at h1
  split at h1
  ·exact lO.kh (tt hs.rel lo h1) (fun d w' e=>iH e) h
  exact lO.kh (vd hs.rel lo h1) (fun d w' e=>iH e) h
 ·rename_i t x ho
  rw[ho] at hs ⊢
  replace h:=bE h
  obtain ⟨⟨y,H'⟩,h1,h⟩:=h
  unfold yK at h1
  rw[bG] at h1
  split at h1
  ·exact lO.kh (wP hs.rel lo h1 (hs.one x (by simp[Op.operands]))) (fun d w' e=>iH e) h
  exact lO.kh (yD hs.rel lo h1 (hs.one x (by simp[Op.operands]))) (fun d w' e=>iH e) h
 ·rename_i t parts ho
  rw[ho] at hs ⊢
  replace h:=bE h
  obtain ⟨y,h1,h⟩:=h
  obtain ⟨d,e1,e2⟩:=vg h1 (hs.parts parts (by simp[Op.operands]; exact fun a b h=>⟨a,h⟩))
  exact lO.same hs.rel (iH e1) h e2
 ·rename_i t n parts ho
  rw[ho] at hs ⊢
  replace h:=bE h
  obtain ⟨y,h1,h⟩:=h
  obtain ⟨d,w',e1,e2,e3⟩:=oU hs.rel h1 (hs.Er parts (by simp[Op.operands]; exact fun a b h=>⟨a,h⟩))
  exact lO.fresh hs.rel (iH e1) e2 h e3
 ·rename_i t x ho
  rw[ho] at hs ⊢
  replace h:=bE h
  obtain ⟨y,h1,h⟩:=h
  obtain ⟨d,e1,e2⟩:=qo hs.rel h1 (hs.one x (by simp[Op.operands]))
  exact lO.same hs.rel (iH e1) h e2
 ·rename_i t x y ho
  rw[ho] at hs ⊢
  replace h:=bE h
  obtain ⟨H',h1,h⟩:=h
  obtain ⟨w',e1,e2,e3,e4,e5⟩:=vk hs.rel h1 (hs.one x (by simp[Op.operands])) (J9 hs.rel (hs.one y (by simp[Op.operands])))
  exact⟨undef,w',.any,H',g,.inr ⟨by simp[e1],rfl⟩,h,e2,e3,H7,e4,e5,rfl⟩
 ·rename_i op t x y t2 ho
  rw[ho] at hs ⊢
  replace h:=bE h
  obtain ⟨z,h1,h⟩:=h
  unfold Lg at h1
  rw[bG] at h1
  split at h1
  ·rename_i hn
   obtain ⟨d,e1,e2⟩:=Bb (p:=x) (d:=ev y) hn h1 (hs.one x (by simp[Op.operands])) (fun v hv=>by subst hv; exact hs.k v)
   exact lO.same hs.rel (iH e1) h e2
  obtain ⟨d,e1,e2⟩:=yB (p:=x) (q:=y) h1 (hs.one x (by simp[Op.operands])) (hs.one y (by simp[Op.operands]))
  exact lO.same hs.rel (iH e1) h e2
 ·rename_i op t x ho
  rw[ho] at hs ⊢
  replace h:=bE h
  obtain ⟨z,h1,h⟩:=h
  obtain ⟨d,e1,e2⟩:=Bc h1 (hs.one x (by simp[Op.operands]))
  exact lO.same hs.rel (iH e1) h e2
 ·rename_i t u x ho
  rw[ho] at hs ⊢
  replace h:=bE h
  obtain ⟨z,h1,h⟩:=h
  obtain ⟨d,w',e1,e2,e3⟩:=ri hs.rel h1 (hs.one x (by simp[Op.operands]))
  exact lO.fresh hs.rel (iH e1) e2 h e3
 ·rename_i t x ho
  rw[ho] at hs ⊢
  replace h:=bE h
  obtain ⟨z,h1,h⟩:=h
  obtain ⟨d,e1,e2⟩:=yG h1 (hs.one x (by simp[Op.operands]))
  exact lO.same hs.rel (iH e1) h e2
 ·rename_i fn p q ho
  rw[ho] at hs ⊢
  refine lO.same hs.rel (c:=.func fn (p.map ev) (q.map ev)) (by simp[Instr.makeFunc]) h ?_
  rw[VR]
  refine⟨_,_,rfl,?_,?_⟩
  ·rw[Array.toList_map]; exact hs.many _ (by simp[Op.operands]; intro x hx; simp[hx])
  ·rw[Array.toList_map]; exact hs.many _ (by simp[Op.operands]; intro x hx; simp[hx])
 ·rename_i t n c ho
  rw[ho] at hs ⊢
  replace h:=bE h
  obtain ⟨⟨y,H'⟩,h1,h⟩:=h
  unfold sx at h1
  rw[bG] at h1
  split at h1
  ·obtain ⟨rfl,d,w',e1,e2,e3⟩:=rl hs.rel h1 (hs.one n (by simp[Op.operands])) (hs.one c (by simp[Op.operands]))
   exact lO.fresh hs.rel (iH e1) e2 h e3
  exact lO.kh (pU hs.rel lo h1 (hs.one n (by simp[Op.operands])) (hs.one c (by simp[Op.operands]))) (fun d w' e=>iH e) h
 ·rename_i t x lo' hi mx ho
  rw[ho] at hs ⊢
  replace h:=bE h
  obtain ⟨z,h1,h⟩:=h
  replace h1:=bu h1
  obtain ⟨hhm,h1⟩:=h1
  obtain ⟨d,e1,e2⟩:=vj hs.rel h1 (hs.one x (by simp[Op.operands])) (hs.opt lo' (by rintro y rfl; simp[Op.operands])) (hs.opt hi (by rintro y rfl; simp[Op.operands])) (hs.opt mx (by rintro y rfl; simp[Op.operands])) (by cases mx<;>cases hi<;>simp at hhm ⊢)
  exact lO.same hs.rel (iH e1) h e2
 ·rename_i t x i ho
  rw[ho] at hs ⊢
  replace h:=bE h
  obtain ⟨z,h1,h⟩:=h
  obtain ⟨d,e1,e2⟩:=pR h1 (hs.one x (by simp[Op.operands]))
  exact lO.same hs.rel (iH e1) h e2
 ·rename_i t x i ho
  rw[ho] at hs ⊢
  replace h:=bE h
  obtain ⟨z,h1,h⟩:=h
  obtain ⟨d,e1,e2⟩:=vh h1 (hs.one x (by simp[Op.operands]))
  exact lO.same hs.rel (iH e1) h e2
 ·rename_i t x i ho
  rw[ho] at hs ⊢
  replace h:=bE h
  obtain ⟨z,h1,h⟩:=h
  obtain ⟨d,e1,e2⟩:=pS hs.rel h1 (hs.one x (by simp[Op.operands])) (hs.one i (by simp[Op.operands]))
  exact lO.same hs.rel (iH e1) h e2
 ·rename_i t x i ho
  rw[ho] at hs ⊢
  replace h:=bE h
  obtain ⟨z,h1,h⟩:=h
  obtain ⟨d,e1,e2⟩:=vi h1 (hs.one x (by simp[Op.operands])) (hs.one i (by simp[Op.operands]))
  exact lO.same hs.rel (iH e1) h e2
 ·rename_i x i ho
  rw[ho] at hs ⊢
  replace h:=bE h
  obtain ⟨z,h1,h⟩:=h
  obtain ⟨d,e1,e2⟩:=rj h1 (hs.one x (by simp[Op.operands]))
  exact lO.same hs.rel (iH e1) h e2
 ·rename_i x ho
  rw[ho] at hs ⊢
  obtain ⟨y,h1,h⟩:=bE h
  obtain ⟨hn,e0⟩:=bu h1
  cases e0
  have hv:=hs.one x (by simp[Op.operands])
  refine lO.same hs.rel (c:=ev x) ?_ h hv
  rcases zw hn hv with ⟨ad,e⟩ | ⟨f,a,b,e⟩
  ·simp only[e]; rfl
  ·simp only[e]; rfl
 ·rename_i t ho
  rw[ho] at hs ⊢
  replace h:=bE h
  obtain ⟨⟨y,H'⟩,h1,h⟩:=h
  exact lO.kh (rn hs.rel lo h1) (fun d w' e=>iH e) h
 ·rename_i t m i x ho
  rw[ho] at hs ⊢
  replace h:=bE h
  obtain ⟨H',h1,h⟩:=h
  obtain ⟨w',e1,e2,e3,e4,e5⟩:=nO hs.rel h1 (hs.one m (by simp[Op.operands])) (hs.one i (by simp[Op.operands])) (hs.one x (by simp[Op.operands]))
  exact⟨undef,w',.any,H',g,.inr ⟨by simp[e1],rfl⟩,h,e2,e3,H7,e4,e5,rfl⟩
 ·rename_i t m i x ho
  rw[ho] at hs ⊢
  replace h:=bE h
  obtain ⟨H',h1,h⟩:=h
  obtain ⟨w',e1,e2,e3,e4,e5⟩:=nO hs.rel h1 (hs.one m (by simp[Op.operands])) (hs.one i (by simp[Op.operands])) (hs.one x (by simp[Op.operands]))
  exact⟨undef,w',.any,H',g,.inr ⟨by simp[e1],rfl⟩,h,e2,e3,H7,e4,e5,rfl⟩
 ·rename_i t m i c ho
  rw[ho] at hs ⊢
  replace h:=bE h
  obtain ⟨z,h1,h⟩:=h
  obtain ⟨d,e1,e2⟩:=tx hs.rel h1 (hs.one m (by simp[Op.operands])) (hs.one i (by simp[Op.operands]))
  exact lO.same hs.rel (iH e1) h e2
 ·rename_i x t u c ho
  rw[ho] at hs ⊢
  replace h:=bE h
  obtain ⟨z,h1,h⟩:=h
  obtain ⟨d,e1,e2⟩:=tv h1 (hs.one x (by simp[Op.operands]))
  exact lO.same hs.rel (iH e1) h e2
 ·rename_i c ho
  rw[ho] at hs ⊢
  exact yX hs h
 ·cases h
end
section
open Go.RowKit
variable {H H':aC} {g g':Gh} {w0 w w':World}
theorem Rel.kill (hr:Rel H g w0 w) {b:Nat} (hb:b<H.length):Rel (H.set b .dead) (g.put b none []) w0 w/\Ext H g w (H.set b .dead) (g.put b none []) w:=by
 have hget:∀ c,c≠b->(H.set b .dead)[c]? = H[c]?:=fun c hc=>X4 (YS hc)
 have hgetb:(H.set b aO.dead)[b]? = some .dead:=Yf hb
 have hmu:∀ {c k},(g.put b none []).mu c=some k->c≠b/\g.mu c=some k:=fun {c k} h=>by
  by_cases e:c=b
  ·subst e; rw[Gh.bJ] at h; cases h
  ·exact⟨e,by rwa [Gh.aI _ _ _ e] at h⟩
 have he:Ext H g w (H.set b .dead) (g.put b none []) w:=by
  have hst:∀ {k o},eF H g k o->eF (H.set b .dead) (g.put b none []) k o:=fun {k o} hs=>by
   refine⟨hs.1,fun c hck=>?_⟩
   obtain ⟨h1,h2⟩:=hmu hck
   obtain ⟨es,els,h3,h4⟩:=hs.2 c h2
   exact⟨es,els,by rw[hget c h1]; exact h3,h4⟩
  refine⟨fun k o v hs hc=>⟨hc,hst hs⟩,fun c B' hB'=>?_,fun _ _ h=>h,XP _,fun k arr cl hs hm=>⟨hm,hst hs⟩,fun _ _ _=>rfl,fun c k h=>.inl ⟨c,(hmu h).2⟩⟩
  ·by_cases e:c=b
   ·subst e
    refine⟨.dead,hgetb,?_⟩
    cases B' with
    | row wr _ _=>cases wr<;>trivial
    | _=>trivial
   ·refine⟨B',by rw[hget c e]; exact hB',?_⟩
    cases B' with
    | box _=>exact Gh.aI _ _ _ e
    | row wr es els=>cases wr with
     | true=>exact⟨rfl,rfl,Gh.aI _ _ _ e,fun k arr ty hk' ha=>⟨arr,ha,XP _⟩⟩
     | false=>exact⟨rfl,⟨[],by rw[Gh.eB _ _ _ e]; simp⟩,(hr.blk c _ hB').len,XP _,fun _=>⟨Gh.aI _ _ _ e,fun k arr ty hk' ha=>⟨arr,ha,XP _⟩⟩⟩
    | rng _=>exact⟨Gh.aI _ _ _ e,rfl⟩
    | mp _ _ _=>exact Gh.aI _ _ _ e
    | dead=>trivial
    | hole=>trivial
 refine⟨⟨hr.below,fun c k hck=>?_,fun c d k h1 h2=>hr.inj c d k (hmu h1).2 (hmu h2).2,hr.xW he,hr.wa he,fun c B' hB'=>?_⟩,he⟩
 ·obtain ⟨_,h2⟩:=hmu hck
  have:=hr.dom c k h2
  exact⟨by simpa using this.1,this.2⟩
 ·by_cases e:c=b
  ·subst e
   rw[hgetb] at hB'; cases hB'
   exact Gh.bJ _ _ _ _
  ·rw[hget c e] at hB'
   have h:=hr.blk c B' hB'
   cases B' with
   | box cs=>obtain ⟨k,arr,ty,h1,h2,h3⟩:=h; exact⟨k,arr,ty,(Gh.aI _ _ _ e).trans h1,h2,bB.ext he _ _ h3⟩
   | row wr es els=>cases wr with
    | true=>
     obtain ⟨ds,h1,h2,h3⟩:=h
     exact⟨ds,bw.ext he _ _ h1,h2,fun hp=>let ⟨k,arr,ty,e1,e2,e3⟩:=h3 hp; ⟨k,arr,ty,(Gh.aI _ _ _ e).trans e1,e2,e3⟩⟩
    | false=>
     obtain ⟨h1,h2⟩:=h
     refine⟨?_,?_⟩
     ·rw[Gh.eB _ _ _ e]; exact bw.ext he _ _ h1
     ·rw[Gh.eB _ _ _ e]; exact h2
   | rng st=>obtain ⟨k,h1,h2⟩:=h; exact⟨k,(Gh.aI _ _ _ e).trans h1,h2⟩
   | mp _ _ _=>obtain ⟨k,arr,cl,h1,h2,h3,h4⟩:=h; exact⟨k,arr,cl,(Gh.aI _ _ _ e).trans h1,h2,h3,bB.ext he _ _ h4⟩
   | dead=>exact(Gh.aI _ _ _ e).trans h
   | hole=>exact(Gh.aI _ _ _ e).trans h
theorem AE (hr:Rel H g w0 w) {lo:Nat} {x:A} {c:Value} {r:A×aC} (hk:mP lo x H=some r) (h:VR H g w x c):∃ g',Rel r.2 g' w0 w/\Ext H g w r.2 g' w/\VR r.2 g' w r.1 c/\r.2.length=H.length/\(∀ b,b<lo->b<H.length->r.2[b]? = H[b]?)/\g'.S=g.S:=by
 unfold mP at hk
 split at hk
 ·rename_i b o n cl
  split at hk
  ·rename_i es els hb
   obtain ⟨hlo,hk⟩:=bu hk
   cases hk
   have hlo:lo<=b:=by simpa using hlo
   have hbl:=(XS.1 hb).1
   obtain ⟨h1,h2⟩:=hr.kill hbl
   refine⟨_,h1,h2,?_,r8,fun b' hb' _=>X4 o3,rfl⟩
   rw[VR,hb] at h
   obtain ⟨h0,a,cap,rfl,e1,e2,e3,_⟩:=h
   obtain ⟨ds,d1,d2,d3⟩:=hr.blk b _ hb
   have hv:=iG (S:=eF H g) (fun _ _ h=>h) (fun b o m cl c h=>pG hr 4 b o m cl c h) _ _ ((d1.drop o).take n)
   have hl:(dh (iv 4 H) ((els.drop o).take n)).length=n:=by rw[<-hv.length]; simp[d1.length]; omega
   rw[VR]
   refine⟨a,cap,(ds.drop o).take n,es,by rw[hl],by rw[hl]; exact e1,fun h=>(by cases h),fun d hd=>d2 d (Yo (Yk hd)),fun hp=>?_,?_⟩
   ·rw[hl] at hp
    obtain ⟨k,hk,ha⟩:=e3 hp
    obtain ⟨k',arr,ty,m1,m2,m3⟩:=d3 o3
    rw[hk] at m1; cases m1
    refine⟨k,o*es,ha,fun j v hj=>⟨uK d2 m2 m3 hj,hr.own b k _ hk,fun c hc=>?_⟩⟩
    exfalso
    by_cases e:c=b
    ·subst e; rw[Gh.bJ] at hc; cases hc
    ·rw[Gh.aI _ _ _ e] at hc
     exact e (hr.inj c b k hc hk)
   ·exact bw.ext h2 _ _ (bw.fc (H:=[]) (g:=G0 (eF H g)) ⟨fun k o _ hs hc=>⟨hc,hs.1⟩,fun b B hB=>(by simp at hB),fun k arr cl hs hm=>⟨hm,hs.1⟩⟩ _ _ hv)
  ·rename_i es els hb
   cases hk
   refine⟨g,hr,Ext.refl hr,?_,rfl,fun _ _ _=>rfl,rfl⟩
   exact VR.back (fun _ _ h=>h) (by have:=pG hr 5 b o n cl c h; unfold iv at this; rw[hb] at this; exact this)
  ·cases hk
 ·rename_i b o
  split at hk
  ·rename_i cs hb
   obtain ⟨hlo,hk⟩:=bu hk
   cases hk
   rw[XQ] at hlo
   have hlo':lo<=b:=XY hlo.1
   have ho:o=0:=X3 hlo.2
   subst ho
   have hbl:=(XS.1 hb).1
   obtain ⟨h1,h2⟩:=hr.kill hbl
   refine⟨_,h1,h2,?_,r8,fun b' hb' _=>X4 o3,rfl⟩
   rw[VR,hb] at h
   obtain ⟨k,hk,rfl⟩:=h
   obtain ⟨k',arr,ty,m1,m2,m3⟩:=hr.blk b _ hb
   rw[hk] at m1; cases m1
   rw[VR]
   refine⟨k,0,arr.toList,rfl,fun j v hj=>⟨?_,hr.own b k _ hk,fun c hc=>?_⟩,bB.ext h2 _ _ m3⟩
   ·rw[YB,Zh w k j arr ty (0,0) m2]; simpa using hj
   ·exfalso
    by_cases e:c=b
    ·subst e; rw[Gh.bJ] at hc; cases hc
    ·rw[Gh.aI _ _ _ e] at hc
     exact e (hr.inj c b k hc hk)
  ·cases hk
 ·cases hk
  exact⟨g,hr,Ext.refl hr,h,rfl,fun _ _ _=>rfl,rfl⟩
 ·cases hk
theorem Rel.Xg (hr:Rel H g w0 w) {k:Nat} {arr:Array Value} {ty:TypeId} (hk:w0.heap.size<=k) (hw:w.heap[k]? = some (.cells arr ty (0,0))) (hn:∀ b,g.mu b≠some k) (f:Nat×Nat) :
  Rel H g w0 (w.putObj k (.cells arr ty f))/\wx H g w H g (w.putObj k (.cells arr ty f))/\∀ {H0:aC} {g0:Gh} {c0:Nat},Ext H0 g0 w H g w->g0.mu c0=some k->Ext H0 g0 w H g (w.putObj k (.cells arr ty f)):=by
 have hlt:k<w.heap.size:=(XU.1 hw).1
 have hoth:∀ j,j≠k->(w.putObj k (.cells arr ty f)).heap[j]? = w.heap[j]?:=fun j hj=>Y2 hj
 have hsz:(w.putObj k (.cells arr ty f)).heap.size=w.heap.size:=r8
 have hcell:∀ j o v,w.cell? ⟨j,o,none⟩=some v->(w.putObj k (.cells arr ty f)).cell? ⟨j,o,none⟩=some v:=fun j o v hc=>by
  by_cases e:j=k
  ·subst e
   rw[Zh w j o arr ty (0,0) hw] at hc
   rw[Zh _ j o arr ty f (qar hlt)]
   exact hc
  ·exact(Zr (a:=⟨j,o,none⟩) (hoth j e)).trans hc
 have hne:∀ {c j},g.mu c=some j->j≠k:=fun {c j} h e=>hn c (e ▸ h)
 have he:wx H g w H g (w.putObj k (.cells arr ty f)):=by
  refine⟨fun j o v hs hc=>⟨hcell j o v hc,hs⟩,fun c C hC=>⟨C,hC,?_⟩,fun j marr cl hs hm=>⟨(hoth j (fun e=>by subst e; rw[hw] at hm; cases hm)).trans hm,hs⟩⟩
  cases C with
  | box _=>rfl
  | row wr es els=>cases wr with
   | true=>exact⟨rfl,rfl,rfl,fun j arr ty hj ha=>⟨arr,(hoth j (hne hj)).trans ha,XP _⟩⟩
   | false=>exact⟨rfl,⟨[],r8⟩,(hr.blk c _ hC).len,XP _,fun _=>⟨rfl,fun j arr ty hj ha=>⟨arr,(hoth j (hne hj)).trans ha,XP _⟩⟩⟩
  | rng _=>exact⟨rfl,rfl⟩
  | mp _ _ _=>rfl
  | dead=>trivial
  | hole=>trivial
 refine⟨⟨hr.below.trans ((Below.refl w0.heap.size w).grown (qa6 w k _) (hr.below.size) (fun j e=>by cases e; exact hk)),fun c j hc=>⟨(hr.dom c j hc).1,(hr.dom c j hc).2.1,by rw[hsz]; exact(hr.dom c j hc).2.2⟩,hr.inj,(by rw[hsz]; exact hr.out),hr.own,fun c C hC=>?_⟩,he,fun {H0 g0 c0} hp hc0=>⟨fun j o v hs hc=>let ⟨q1,q2⟩:=hp.cell j o v hs hc; ⟨hcell j o v q1,q2⟩,fun c C hC=>?_,fun j x h=>(hoth j (fun e=>by subst e; rw[hw] at h; cases h)).trans h,by rw[hsz]; exact XP _,fun j marr cl hs hm=>⟨(hoth j (fun e=>by subst e; rw[hw] at hm; cases hm)).trans hm,(hp.map j marr cl hs hm).2⟩,fun j _ hj=>hoth j (fun e=>hj c0 (e ▸ hc0)),hp.fresh⟩⟩
 rotate_left 1
 ·obtain ⟨C',hC',ht⟩:=hp.blk c C hC
  refine⟨C',hC',?_⟩
  cases C with
  | row wr es els=>cases wr with
   | true=>cases C' with
    | row wr' es' els'=>cases wr' with
     | true=>
      obtain ⟨t1,t2,t3,t4⟩:=ht
      exact⟨t1,t2,t3,fun j arr ty hj ha=>⟨arr,(hoth j (hne (t3.trans hj))).trans ha,XP _⟩⟩
     | false=>exact ht
    | _=>exact ht
   | false=>cases C' with
    | row wr' es' els'=>cases wr' with
     | true=>exact ht
     | false=>
      obtain ⟨t1,t2,t3,t4,t5⟩:=ht
      exact⟨t1,t2,t3,t4,fun hl=>⟨(t5 hl).1,fun j arr ty hj ha=>⟨arr,(hoth j (hne ((t5 hl).1.trans hj))).trans ha,XP _⟩⟩⟩
    | _=>exact ht
  | _=>cases C'<;>exact ht
 have h:=hr.blk c C hC
 cases C with
 | box cs=>obtain ⟨j,arr',ty',h1,h2,h3⟩:=h; exact⟨j,arr',ty',h1,(hoth j (hne h1)).trans h2,bB.fc he _ _ h3⟩
 | row wr es els=>cases wr with
  | true=>
   obtain ⟨ds,h1,h2,h3⟩:=h
   exact⟨ds,bw.fc he _ _ h1,h2,fun hp=>let ⟨j,arr',ty',e1,e2,e3⟩:=h3 hp; ⟨j,arr',ty',e1,(hoth j (hne e1)).trans e2,e3⟩⟩
  | false=>
   obtain ⟨h1,h2⟩:=h
   exact⟨bw.fc he _ _ h1,h2⟩
 | rng st=>obtain ⟨j,h1,h2⟩:=h; exact⟨j,h1,(hoth j (hne h1)).trans h2⟩
 | mp _ _ _=>obtain ⟨j,marr,cl,h1,h2,h3,h4⟩:=h; exact⟨j,marr,cl,h1,(hoth j (hne h1)).trans h2,h3,bB.fc he _ _ h4⟩
 | dead=>exact h
 | hole=>exact h
theorem tD {w:World} {k n:Nat} {arr:Array Value} {ty:TypeId} (hw:w.heap[k]? = some (.cells arr ty (0,0))):w.freeze ⟨k,n,none⟩ 1=w.putObj k (.cells arr ty (n,n+1)):=by
 unfold World.freeze World.putObj
 rw[XW (by decide)]
 congr 1
 apply Array.ext
 ·simp
 ·intro i h1 h2
  have hi:i<w.heap.size:=by simpa using h1
  rw[qbj,Array.getElem_setIfInBounds]
  by_cases h:k=i
  ·subst h
   have e:w.heap[k]=.cells arr ty (0,0):=by
    have:=(XU.1 hw).2
    exact this
   rw[XX rfl,XX rfl,e]
   simp
  ·rw[XW h,XW h]
theorem wR {P:Program} (hr:Rel H g w0 w) {lo:Nat} {s t:TypeId} {x:A} {c:Value} {r:A×aC} (h:Db P s t x H lo=some r) (hx:VR H g w x c) :
  Step H g w0 w lo ((convert s t c).run P w) r.1 r.2:=by
 unfold Db at h
 split at h
 ·rename_i e hs
  split at h
  ·rename_i he
   split at h
   ·rename_i b o n cl
    split at h
    ·rename_i es els hb
     obtain ⟨hc,hk⟩:=bu h
     rw[XQ] at hc
     have hst:s=t:=X3 hc.1
     have hn:0<n:=XY hc.2
     subst hst
     have hx0:=hx
     rw[VR,hb] at hx
     obtain ⟨h0,a,cap,rfl,e1,e2,e3,_⟩:=hx
     obtain ⟨k,hk1,rfl⟩:=e3 hn
     obtain ⟨ds,d1,d2,d3⟩:=hr.blk b _ hb
     obtain ⟨k',arr,ty,m1,m2,m3⟩:=d3 o3
     rw[hk1] at m1; cases m1
     obtain ⟨g',r1,r2,r3,r4,r5,r6⟩:=AE hr hk hx0
     have hkk:r.2=H.set b .dead:=by
      simp only[mP,hb] at hk
      obtain ⟨_,hk⟩:=bu hk
      cases hk; rfl
     have hno:∀ c,g'.mu c≠some k:=fun c hc=>by
      have hcl:=(r1.dom c k hc).1
      rw[r4] at hcl
      obtain ⟨C,hC⟩:∃ C,H[c]? = some C:=⟨_,XN hcl⟩
      obtain ⟨C',hC',hbt⟩:=r2.blk c C hC
      by_cases ecb:c=b
      ·subst ecb
       rw[hkk,Yf hcl] at hC'
       cases hC'
       have:=r1.blk c .dead (by rw[hkk,Yf hcl])
       rw[show g'.mu c=none from this] at hc; cases hc
      ·rw[hkk,X4 (YS ecb),hC] at hC'
       cases hC'
       have hmu:g.mu c=some k∨C=.dead∨C=.hole:=by
        cases C with
        | box _=>left; exact(show g'.mu c=g.mu c from hbt).symm.trans hc
        | row wr es' els'=>cases wr with
         | true=>left; exact hbt.2.2.1.symm.trans hc
         | false=>left; exact(hbt.2.2.2.2 rfl).1.symm.trans hc
        | rng _=>left; exact hbt.1.symm.trans hc
        | mp _ _ _=>left; exact(show g'.mu c=g.mu c from hbt).symm.trans hc
        | dead=>right; left; rfl
        | hole=>right; right; rfl
       rcases hmu with h1 | rfl | rfl
       ·exact ecb (hr.inj c b k h1 hk1)
       ·have:=r1.blk c .dead (by rw[hkk,X4 (YS ecb)]; exact hC)
        rw[show g'.mu c=none from this] at hc; cases hc
       ·have:=r1.blk c .hole (by rw[hkk,X4 (YS ecb)]; exact hC)
        rw[show g'.mu c=none from this] at hc; cases hc
     obtain ⟨q1,q0,q2⟩:=r1.Xg (hr.dom b k hk1).2.1 m2 hno (arr.size,arr.size+1)
     refine⟨_,_,g',?_,q1,q2 r2 hk1,VR.fc q0 _ _ r3,qam r4.symm,r5,r6⟩
     have hsh:w.shape? k=some (ty,arr.size):=by unfold World.shape?; rw[m2]
     rw[<-tD m2]
     simp[convert,X2 hs,X2 he,markStringish,hsh]
    ·cases h
   ·cases h
  ·cases h
 ·cases h
end
section
open Go.RowKit
variable {H H':aC} {g g':Gh} {w0 w w':World} {cx:Cx} {s:St} {a:Act} {F:Fence} {n:Nat}
def gi (H:aC) (g:Gh) (w0 w:World) (lo:Nat) (r:R) (e:Ending) (w':World):Prop:=∃ g',Rel r.2 g' w0 w'/\Ext H g w r.2 g' w'/\H.length<=r.2.length/\(∀ b,b<lo->b<H.length->r.2[b]? = H[b]?)/\g'.S=g.S ∧
  match r.1,e with
  | .ret x,.returned c=>VR r.2 g' w' x c
  | .pan x,.panicked ch=>∃ c,ch=[{ v:=c,recovered:=false }]/\VR r.2 g' w' x c
  | _,_=>False
structure oQ (cx:Cx) (Bs:aC->Gh->World->Prop) (call:bo):Prop where
 up:∀ (H:aC) (g:Gh) (w:World) (H':aC) (g':Gh) (w':World),Bs H g w->Ext H g w H' g' w'->Bs H' g' w'
 yl:∀ (b:Nat) (args:List A) (H:aC) (lo:Nat) (r:R),call (cx.P.funcs.size+b) args H lo=some r->∀ (F:Fence) (n l:Nat) (g:Gh) (w0 w:World) (cargs:List Value),gk F->Bs H g w->Rel H g w0 w ->
  (∀ (G:Nat) (vs:List Value),cx.glob G=some vs->bM H g w G 0 vs)->bB H g w args cargs->g.mu b=some l->YieldAt F n cx.P l cargs.toArray w (gi H g w0 w lo r)
structure eh (cx:Cx) (Bs:aC->Gh->World->Prop) (call:bo):Prop extends oQ cx Bs call where
 fn:∀ (k:Nat) (args:List A) (H:aC) (lo:Nat) (r:R),k<cx.P.funcs.size->call k args H lo=some r->∀ (F:Fence) (n:Nat) (g:Gh) (w0 w:World) (cargs:List Value),gk F->F.round=none->Bs H g w->Rel H g w0 w ->
  (∀ (G:Nat) (vs:List Value),cx.glob G=some vs->bM H g w G 0 vs)->bB H g w args cargs->CallsIn F n cx.P k cargs.toArray w (gi H g w0 w lo r)
 ct:∀ (k:Nat) (args:List A) (H:aC) (lo:Nat) (r:R),k<cx.P.funcs.size->cx.cut k≠0->cx.cut k<=H.length->call k args H lo=some r->r.2.length=H.length/\∀ b,cx.cut k<=b->r.2[b]? = H[b]?
theorem iW {P:Program} {k:Nat} (hk:cK P k=true):k<P.funcs.size:=by
 unfold cK at hk
 cases hf:P.funcs[k]? with
 | none=>rw[hf] at hk; cases hk
 | some fn=>exact(XU.1 hf).1
def jK (cx:Cx):Prop:=∀ k args r,(cx.isOrc k=true∨cx.isOrcV k=true∨cx.deep k=true)->cx.C k args=some r->eQ cx.P cx.glob k args r
theorem Lh {ev:Operand->Value} {c:Call} {gop:Operand} (hc:c.callee=.value gop) {k:Nat} {ds es:Array Value} (hv:ev gop=.func (.func k) ds es) (hk:cK cx.P k=true) (ty:TypeId) (w:World) :
  (do let d <-resolve ev c ty; invoke d.target d.args:Sem Next).run cx.P w=.ok (.enter k (ds++c.args.map ev++es)) w:=by
 unfold cK at hk
 cases hf:cx.P.funcs[k]? with
 | none=>rw[hf] at hk; cases hk
 | some fn=>
  rw[hf] at hk
  simp only[XQ,YQ] at hk
  have h1:¬ fn.body=none:=by intro hb; rw[hb] at hk; simp at hk
  have h2:¬ fn.name = "runtime.NumGoroutine" := by simpa using hk.2
  simp[resolve,hc,hv,Deferred.ofValue,invoke,callFunc,program,Sem.run,hf,h1,h2]
theorem ka {ev:Operand->Value} {o:Oper} {k:Nat} {args:List A} (hs:tn cx s g w0 o.op ev w) (h:callee? cx s o.op=some (k,args)):cK cx.P k=true ∧
  ∃ cargs:List Value,(execOp ev o).run cx.P w=.ok (.enter k cargs.toArray) w/\bB s.H g w args cargs:=by
 unfold callee? at h
 split at h
 ·rename_i c ho
  rw[ho] at hs
  split at h
  ·rename_i gop hgop
   split at h
   ·rename_i k' first cap hf
    obtain ⟨hcb,h⟩:=bu h
    cases h
    have hgv:=hs.one gop (by simp[Op.operands,Call.operands,hgop])
    rw[hf,VR] at hgv
    obtain ⟨ds,es,hev,h1,h2⟩:=hgv
    refine⟨hcb,ds.toList++(c.args.toList.map ev)++es.toList,?_,(h1.append (hs.many _ (fun x hx=>by simp[Op.operands,Call.operands,hgop]; exact .inr (by simpa using hx)))).append h2⟩
    have:=Lh (cx:=cx) hgop hev hcb o.type w
    unfold execOp
    rw[ho]
    refine this.trans ?_
    congr 2
    apply ZF
    simp
   ·cases h
  ·cases h
 ·cases h
theorem EP {ev:Operand->Value} {o:Oper} {b:Nat} {args:List A} (hs:tn cx s g w0 o.op ev w) (h:yldOf? cx s o.op=some (b,args)) (hb:AD s.H b=true) :
  ∃ (l:Nat) (cargs:List Value),(execOp ev o).run cx.P w=(Instr.yield l cargs.toArray).run cx.P w/\bB s.H g w args cargs/\g.mu b=some l:=by
 have hblk:∃ st,s.H[b]? = some (.rng st):=by
  unfold AD at hb
  split at hb
  ·rename_i st h; exact⟨st,h⟩
  ·cases hb
 obtain ⟨st,hst⟩:=hblk
 unfold yldOf? at h
 split at h
 ·rename_i c ho
  rw[ho] at hs
  split at h
  ·rename_i gop hgop
   split at h
   ·rename_i b' hf
    cases h
    have hgv:=hs.one gop (by simp[Op.operands,Call.operands,hgop])
    rw[hf,VR,hst] at hgv
    obtain ⟨l,hl,hev⟩:=hgv
    refine⟨l,c.args.toList.map ev,?_,hs.many _ (fun x hx=>by simp[Op.operands,Call.operands,hgop]; exact .inr (by simpa using hx)),hl⟩
    unfold execOp
    rw[ho]
    have ea:(c.args.toList.map ev).toArray=c.args.map ev:=by apply ZF; simp
    rw[ea]
    simp[resolve,hgop,hev,Deferred.ofValue,invoke]
   ·cases h
  ·cases h
 ·cases h
theorem Marks.mc {B:Nat} {W W':World} {ds:List Deferred} (h:Marks B W ds) (hk:∀ (k:Nat) (x:Option (List Deferred)),W.heap[k]? = some (.deferred x)->W'.heap[k]? = some (.deferred x)):Marks B W' ds:=by
 obtain ⟨rs,e,h2,h3⟩:=h
 exact⟨rs,e,h2,fun r hr=>⟨(h3 r hr).1,hk r _ (h3 r hr).2⟩⟩
structure Mb where
 B:Nat
 base:List Deferred
 free:Bool
def ix (mb:Mb) (W:World) (ds:List Deferred):Prop:=∃ ms,ds=ms++mb.base/\Marks mb.B W ms/\(mb.free=false->ms=[])
theorem ix.mc {mb:Mb} {W W':World} {ds:List Deferred} (h:ix mb W ds) (hk:∀ (k:Nat) (x:Option (List Deferred)),W.heap[k]? = some (.deferred x)->W'.heap[k]? = some (.deferred x)):ix mb W' ds:=
 let ⟨ms,e,h1,h2⟩:=h; ⟨ms,e,h1.mc hk,h2⟩
theorem ix.start (B:Nat) (W:World) (ds:List Deferred) (fr:Bool):ix ⟨B,ds,fr⟩ W ds:=⟨[],rfl,Marks.nil _ _,fun _=>rfl⟩
structure Good (cx:Cx) (N:Nat) (mb:Mb) (lo:Nat) (H0:aC) (gs:Gh) (ws w0:World) (s:St) (g:Gh) (a:Act) (w:World):Prop where
 sr:SR cx s g w0 a w
 ext:Ext H0 gs ws s.H g w
 len:H0.length<=s.H.length
 low:∀ b,b<lo->b<H0.length->s.H[b]? = H0[b]?
 siz:a.tmps.size=N
 dfr:ix mb w a.defers
 mbw:mb.B<=w.heap.size
 st:g.S=gs.S
variable {N lo:Nat} {mb:Mb} {H0:aC} {gs:Gh} {ws:World} {Bs:aC->Gh->World->Prop}
theorem Act.pE (a:Act) (d:Option Nat) (v:Value):(a.put d v).tmps.size=a.tmps.size:=by cases d<;>simp[Act.put]
theorem Act.ya (a:Act) (d:Option Nat) (v:Value):(a.put d v).defers=a.defers:=by cases d<;>rfl
theorem Good.step (h:Good cx N mb lo H0 gs ws w0 s g a w) {H':aC} (hr:Rel H' g' w0 w') (he:Ext s.H g w H' g' w') (hl:s.H.length<=H'.length) (hlo:∀ b,b<lo->b<s.H.length->H'[b]? = s.H[b]?) (hst:g'.S=g.S) {dst:Option Nat} {x:A} {c:Value} (hx:VR H' g' w' x c) (hd:∀ d,dst=some d->d<N) :
  Good cx N mb lo H0 gs ws w0 (({ s with H:=H' }:St).put dst x) g' (a.put dst c) w':=by
 have hH:(({ s with H:=H' }:St).put dst x).H=H':=by cases dst<;>rfl
 refine⟨h.sr.step hr he hx (by rw[h.siz]; exact hd),by rw[hH]; exact h.ext.trans he,by rw[hH]; exact Yb h.len hl,fun b hb hb'=>?_,by rw[Act.pE]; exact h.siz,by rw[Act.ya]; exact h.dfr.mc he.kept,Yb h.mbw he.size,hst.trans h.st⟩
 rw[hH,hlo b hb (X5 hb' h.len)]
 exact h.low b hb hb'
theorem Good.same (h:Good cx N mb lo H0 gs ws w0 s g a w) {dst:Option Nat} {x:A} {c:Value} (hx:VR s.H g w x c) (hd:∀ d,dst=some d->d<N):Good cx N mb lo H0 gs ws w0 (s.put dst x) g (a.put dst c) w:=
 h.step (H':=s.H) h.sr.rel (Ext.refl h.sr.rel) (XP _) (fun _ _ _=>rfl) rfl hx hd
theorem Good.lit (h:Good cx N mb lo H0 gs ws w0 s g a w) {t:Nat} {x:A} (hx:look s.fr t=x):Good cx N mb lo H0 gs ws w0 (s.put (some t) x) g a w:=by
 have hlk:∀ u,look (s.put (some t) x).fr u=look s.fr u:=fun u=>by
  show look ((t,x) :: s.fr) u=_
  rw[ez]; split
  ·rename_i e; rw[<-e,hx]
  ·rfl
 exact⟨⟨h.sr.rel,fun u=>by rw[hlk]; exact h.sr.fr u,h.sr.gl⟩,h.ext,h.len,h.low,h.siz,h.dfr,h.mbw,h.st⟩
theorem Bd {x:A} {p q:Option R} {r:R} {H:aC} {g:Gh} {w:World} {c:Value} (h:aW x p q=some r) (hv:VR H g w x c):∃ b,c=.bool b/\(if b=true then p else q)=some r:=by
 cases x with
 | nq els=>
  rw[VR] at hv
  obtain ⟨b,rfl,hb⟩:=hv
  refine⟨b,rfl,?_⟩
  simp only[aW,Lf] at h
  cases els with
  | nil=>
   obtain ⟨e,h⟩:=Be h
   cases b
   ·exact h
   ·simp only[ZS]; rw[e]; exact h
  | cons a l=>
   cases b with
   | false=>exact h
   | true=>cases hb rfl
 | v y=>
  cases y with
  | bool b=>
   rw[VR] at hv
   subst hv
   refine⟨b,rfl,?_⟩
   cases b<;>exact h
  | _=>cases h
 | _=>cases h
theorem oY {β:Type} {x:A} {p q:Option β} {r:β} (h:cC x p q=some r):∃ b,x=.v (.bool b)/\(if b then p else q)=some r:=by
 unfold cC at h
 split at h
 ·rename_i b; exact⟨b,rfl,by cases b<;>exact h⟩
 ·cases h
theorem fm {Q:Exit->Act->World->Prop} {next:Act->World->Prop} {o:Oper} {res:Result Next} {c:Value} {w':World} (h:res=.ok (.value c) w'∨(res=.ok .skip w'/\c=undef)) (hn:next (a.put o.dst c) w'):o.uponIn F n cx.P a next Q res:=by
 rcases h with rfl | ⟨rfl,rfl⟩<;>exact hn
theorem ed {Q:Exit->Act->World->Prop} {next:Act->World->Prop} {o:Oper} (hF:gk F) (hnd:∀ c,o.op≠.defer c) (h:o.uponIn F n cx.P a next Q ((execOp a.eval o).run cx.P w)):o.wpIn F n cx.P a w next Q:=by
 refine⟨fun f _=>hF.2.1 f,?_⟩
 rw[qbm _ _ _ hnd]
 exact h
theorem mW {β:Type} {f lo:Nat} {o:Oper} {k:A->aC->Option β} {r:β} (h:bQ cx f lo o s k=some r):∀ c,o.op≠.defer c:=fun c hc=>by
 unfold bQ at h; rw[hc] at h; cases h
theorem za {call:bo} (hcall:eh cx Bs call) (horc:jK cx) (hF:gk F) {f:Nat} {o:Oper} {k:St->Option R} {pan:A->St->Option R} {r:R} {next:Act->World->Prop} {Q:Exit->Act->World->Prop}
  (hb0:Bs H0 gs ws) (hg:Good cx N mb lo H0 gs ws w0 s g a w) (hd:∀ d,o.dst=some d->d<N) (h:rH cx call f lo o s k pan=some r)
  (hk:∀ s' g' a' w',Good cx N mb lo H0 gs ws w0 s' g' a' w'->k s'=some r->next a' w')
  (hp:∀ x s' g' w' c,Good cx N mb lo H0 gs ws w0 s' g' a w'->VR s'.H g' w' x c->pan x s'=some r->Q (.panic [{ v:=c,recovered:=false }]) a w'):o.wpIn F n cx.P a w next Q:=by
 have hs:=hg.sr.Uf o.op
 have direct:bQ cx f lo o s (fun x H=>k ({ s with H:=H }.put o.dst x))=some r->o.wpIn F n cx.P a w next Q:=fun h=>by
  obtain ⟨c,w',x,H',g',e1,e2,e3,e4,e5,e6,e7,e8⟩:=kd hs h
  exact ed hF (mW h) (fm e1 (hk _ _ _ _ (hg.step e3 e4 e6 e7 e8 e5 hd) e2))
 unfold rH at h
 split at h
 ·rename_i c x y ho
  obtain ⟨z,h0,h⟩:=bE h
  obtain ⟨b,hb,h0⟩:=oY h0
  have hc:=hs.one c (by rw[ho]; simp[Op.operands])
  have hx:=hs.one x (by rw[ho]; simp[Op.operands])
  have hy:=hs.one y (by rw[ho]; simp[Op.operands])
  rw[hb,VR] at hc
  refine ed hF (by rw[ho]; simp) (fm (c:=if b then a.eval x else a.eval y) (w':=w) (.inl ?_) ?_)
  ·unfold execOp
   rw[ho]
   simp[hc,asBool]
  ·cases b
   ·cases h0; exact hk _ _ _ _ (hg.same hy hd) h
   ·cases h0; exact hk _ _ _ _ (hg.same hx hd) h
 ·rename_i x ho
  have hx:=hs.one x (by rw[ho]; simp[Op.operands])
  unfold GS at h
  split at h
  ·rename_i t y hy
   rw[hy] at hx
   have hx':=hx
   rw[VR] at hx
   obtain ⟨d,hd',_⟩:=hx
   refine ed hF (by rw[ho]; simp) ?_
   have hrun:(execOp a.eval o).run cx.P w=.halt (.panic (a.eval x)) w:=by
    unfold execOp
    rw[ho]
    show (do pure (.value (<-Instr.panic (a.eval x))):Sem Next).run cx.P w=_
    rw[hd']
    simp[Instr.panic,goPanic,Sem.run,Result.andThen]
   rw[hrun]
   exact hp _ s g w _ hg hx' h
  ·cases h
 ·rename_i t' n' parts ho
  rw[bG] at h
  split at h
  ·obtain ⟨q,h1,h2⟩:=bE h
   obtain ⟨d,w',g',e1,e2,e3,e4,e5,e6,e7⟩:=qF hg.sr.rel lo h1 (hs.Er parts (by rw[ho]; simp[Op.operands]; exact fun a b h=>⟨a,h⟩))
   refine ed hF (by rw[ho]; simp) (fm (.inl ?_) (hk _ _ _ _ (hg.step e2 e3 e5 e6 e7 e4 hd) h2))
   unfold execOp
   rw[ho]
   exact iH e1
  ·exact direct h
 ·rename_i t' n' c' ho
  rw[bG] at h
  split at h
  ·obtain ⟨q,h1,h2⟩:=bE h
   obtain ⟨d,w',g',e1,e2,e3,e4,e5,e6,e7⟩:=j0 hg.sr.rel lo h1 (hs.one n' (by rw[ho]; simp[Op.operands])) (hs.one c' (by rw[ho]; simp[Op.operands]))
   refine ed hF (by rw[ho]; simp) (fm (.inl ?_) (hk _ _ _ _ (hg.step e2 e3 e5 e6 e7 e4 hd) h2))
   unfold execOp
   rw[ho]
   exact iH e1
  ·exact direct h
 ·rename_i t' t'' x ho
  rw[bG] at h
  split at h
  ·obtain ⟨q,h1,h2⟩:=bE h
   obtain ⟨d,w',g',e1,e2,e3,e4,e5,e6,e7⟩:=wR hg.sr.rel h1 (hs.one x (by rw[ho]; simp[Op.operands]))
   refine ed hF (by rw[ho]; simp) (fm (.inl ?_) (hk _ _ _ _ (hg.step e2 e3 e5 e6 e7 e4 hd) h2))
   unfold execOp
   rw[ho]
   exact iH e1
  ·exact direct h
 ·rename_i c ho
  rw[bG] at h
  split at h
  ·rw[rE] at h
   unfold IB at h
   split at h
   ·rename_i p hy
    obtain ⟨b,args⟩:=p
    obtain ⟨hrb,h⟩:=bu h
    obtain ⟨l,cargs,hrun,hv,hl⟩:=EP hs hy hrb
    refine ed hF (by rw[ho]; simp) ?_
    replace h:=bE h
    obtain ⟨⟨out,H'⟩,hy,h⟩:=h
    obtain ⟨fn',tm',as',bo',hrun',hR⟩:=hcall.yl b args s.H lo (out,H') hy F (n - 1) l g w0 w cargs hF (hcall.up _ _ _ _ _ _ hb0 hg.ext) hg.sr.rel hg.sr.gl hv hl
    rw[hrun,hrun',Oper.uponIn_round]
    refine⟨fun hd=>(by rw[hF.1] at hd; cases hd),hR.mono ?_⟩
    rintro e w' ⟨g',e1,e2,e3,e4,e6,e5⟩
    cases out with
    | ret x=>
     cases e with
     | returned c'=>exact hk _ _ _ _ (hg.step e1 e2 e3 e4 e6 e5 hd) h
     | panicked _=>exact e5.elim
     | outgrown=>exact e5.elim
    | pan x=>cases h
   replace h:=bE h
   obtain ⟨⟨k',args⟩,hce,h⟩:=h
   obtain ⟨hcb,cargs,hrun,hv⟩:=ka hs hce
   refine ed hF (by rw[ho]; simp) ?_
   rw[hrun,Oper.uponIn_enter]
   refine⟨fun hd=>(by rw[hF.1] at hd; cases hd),?_⟩
   rw[bG] at h
   split at h
   ·rename_i hiso
    replace h:=bE h
    obtain ⟨y,hy,h⟩:=h
    have hr:=hg.sr.rel
    have hst:∀ k o,w.heap.size<=k->eF s.H g k o:=fun k o hk=>⟨hr.out k o hk,fun b hb=>absurd (hr.dom b k hb).2.2 o3⟩
    have hcallok:=horc k' _ y (.inl hiso) hy (eF s.H g) w cargs hst (fun G vs hG j v hj=>let ⟨e1,e2⟩:=hg.sr.gl G vs hG j v hj; ⟨e1,e2,fun b hb=>by cases hb⟩) (yk hr hv)
    refine(fS hF hcallok).mono ?_
    rintro e w' ⟨c',rfl,hb,hvr⟩
    exact hk _ _ _ _ (hg.step (H':=s.H) (hr.eK hb) (Ext.below hr hb) (XP _) (fun _ _ _=>rfl) rfl (VR.back (fun _ _ h=>h) hvr) hd) h
   ·replace h:=bE h
    obtain ⟨⟨out,H'⟩,hy,h⟩:=h
    have hci:CallsIn F.plain (n - 1) cx.P k' cargs.toArray w _:=hcall.fn k' args s.H lo (out,H') (iW hcb) hy F.plain (n - 1) g w0 w cargs hF rfl (hcall.up _ _ _ _ _ _ hb0 hg.ext) hg.sr.rel hg.sr.gl hv
    have hci':CallsIn F (n - 1) cx.P k' cargs.toArray w _:=hci
    refine hci'.mono ?_
    rintro e w' ⟨g',e1,e2,e3,e4,e6,e5⟩
    cases out with
    | ret x=>
     cases e with
     | returned c'=>exact hk _ _ _ _ (hg.step e1 e2 e3 e4 e6 e5 hd) h
     | panicked _=>exact e5.elim
     | outgrown=>exact e5.elim
    | pan x=>
     cases e with
     | returned _=>exact e5.elim
     | panicked ch=>
      obtain ⟨c',rfl,hvr⟩:=e5
      have hg':=hg.step (dst:=none) (x:=x) e1 e2 e3 e4 e6 hvr (fun d hd=>by cases hd)
      exact hp x { s with H:=H' } g' w' c' hg' hvr h
     | outgrown=>exact e5.elim
  ·exact direct h
 ·exact direct h
theorem jR {ops:Array Oper} {o:Oper} {t:Nat} {want:Bool} (h:cd ops o=some (t,want)) {b:Bool} (hg:a.tmps.getD t undef=.bool b):Region.wanted o (yielded ops a.tmps)=(b==want):=by
 rw[jw] at h
 split at h
 ·rename_i j want' hgd
  cases hd:(ops[j]?).bind (·.dst) with
  | none=>rw[hd] at h; cases h
  | some t'=>
   rw[hd] at h
   cases h
   have ht:a.tmps[t]? = some (.bool b):=by
    rw[YM] at hg
    cases hx:a.tmps[t]? with
    | none=>rw[hx] at hg; cases hg
    | some v=>rw[hx] at hg; simp at hg; rw[hg]
   simp only[Region.wanted,hgd,yielded,hd,XM,ht]
   cases b<;>cases want<;>rfl
 ·cases h
theorem lZ {ops:Array Oper} {o:Oper} {t:Nat} {want:Bool} (h:cd ops o=some (t,want)) {y:Array Value} (hg:a.tmps.getD t undef=.tuple y):Region.wanted o (yielded ops a.tmps)=false:=by
 rw[jw] at h
 split at h
 ·rename_i j want' hgd
  cases hd:(ops[j]?).bind (·.dst) with
  | none=>rw[hd] at h; cases h
  | some t'=>
   rw[hd] at h
   cases h
   rw[YM] at hg
   simp only[Region.wanted,hgd,yielded,hd,XM]
   cases hx:a.tmps[t]? with
   | none=>cases want<;>rfl
   | some v=>rw[hx] at hg; simp at hg; subst hg; cases want<;>rfl
 ·cases h
theorem m6 {β:Type} {x:A} {want:Bool} {p q:Option β} {r:β} (h:pA x want p q=some r):(∃ b,x=.v (.bool b)/\(if b==want then p else q)=some r)∨∃ y,x=.v (.tuple y)/\q=some r:=by
 unfold pA at h
 split at h
 ·rename_i b; exact .inl ⟨b,rfl,by cases b<;>cases want<;>exact h⟩
 ·exact .inr ⟨_,rfl,h⟩
 ·cases h
end
section
open Go.RowKit
variable {H H':aC} {g g':Gh} {w0 w w':World}
theorem ult {b:Nat} {H:aC} {B:aO} (h:H[b]? = some B):decide (b<H.length)=true:=XT (XS.1 h).1
mutual
theorem VR.under:∀ (a:A) (c:Value),VR H g w a c->A.under H.length a=true
 | .any,_,_=>rfl
 | .v _,_,_=>rfl
 | .ptr b o,c,h=>by
  rw[VR] at h
  cases hb:H[b]? with
  | none=>rw[hb] at h; exact h.elim
  | some B=>exact ult hb
 | .ep b i o,c,h=>by
  rw[VR] at h
  cases hb:H[b]? with
  | none=>rw[hb] at h; exact h.elim
  | some B=>exact ult hb
 | .ip cs,c,h=>by rw[VR] at h; obtain ⟨_,_,ds,_,_,h3⟩:=h; rw[A.under]; exact bB.under cs ds h3
 | .imm els cl,c,h=>by rw[VR] at h; obtain ⟨_,_,ds,_,_,_,_,_,_,h6⟩:=h; rw[A.under]; exact bw.under els ds h6
 | .sl b o n cl,c,h=>by
  rw[VR] at h
  cases hb:H[b]? with
  | none=>rw[hb] at h; exact h.elim
  | some B=>exact ult hb
 | .nq _,_,_=>rfl
 | .mr b,c,h=>by
  rw[VR] at h
  cases hb:H[b]? with
  | none=>rw[hb] at h; exact h.elim
  | some B=>exact ult hb
 | .mv k ks vs,c,h=>by rw[VR] at h; obtain ⟨_,_,_,_,_,_,_,h5⟩:=h; rw[A.under]; exact bB.under vs _ h5
 | .yld b,c,h=>by
  rw[VR] at h
  cases hb:H[b]? with
  | none=>rw[hb] at h; exact h.elim
  | some B=>exact ult hb
 | .agg cs,c,h=>by rw[VR] at h; obtain ⟨ds,_,h2⟩:=h; rw[A.under]; exact bB.under cs _ h2
 | .tup cs,c,h=>by rw[VR] at h; obtain ⟨ds,_,h2⟩:=h; rw[A.under]; exact bB.under cs _ h2
 | .fn f p q,c,h=>by rw[VR] at h; obtain ⟨ds,es,_,h2,h3⟩:=h; rw[A.under,bB.under p _ h2,bB.under q _ h3]; rfl
 | .ifc t x,c,h=>by rw[VR] at h; obtain ⟨d,_,h2⟩:=h; rw[A.under]; exact VR.under x d h2
theorem bB.under:∀ (cs:List A) (ds:List Value),bB H g w cs ds->bq H.length cs=true
 | [],_,_=>rfl
 | a :: as,_,h=>by rw[bB] at h; obtain ⟨d,ds',_,h2,h3⟩:=h; rw[bq,VR.under a d h2,bB.under as ds' h3]; rfl
theorem bw.under:∀ (cs:List (List A)) (ds:List (List Value)),bw H g w cs ds->bk H.length cs=true
 | [],_,_=>rfl
 | a :: as,_,h=>by rw[bw] at h; obtain ⟨d,ds',_,h2,h3⟩:=h; rw[bk,bB.under a d h2,bw.under as ds' h3]; rfl
end
theorem lP.under {b:Nat} {B:aO} (h:lP H g w b B):B.under H.length=true:=by
 cases B with
 | box cs=>obtain ⟨_,_,_,_,_,h3⟩:=h; exact bB.under cs _ h3
 | row wr es els=>cases wr with
  | true=>obtain ⟨ds,h1,_⟩:=h; exact bw.under els ds h1
  | false=>exact bw.under els _ h.1
 | rng _=>rfl
 | mp _ _ _=>obtain ⟨_,_,_,_,_,_,h4⟩:=h; exact bB.under _ _ h4
 | dead=>rfl
 | hole=>rfl
structure kI (L:Nat) (H:aC) (g:Gh) (H':aC) (g':Gh):Prop where
 stab:∀ k o,eF H g k o->eF H' g' k o
 blk:∀ b,b<L->H'[b]? = H[b]?
 mu:∀ (b:Nat) (B:aO),b<L->H[b]? = some B->g'.mu b=g.mu b
 ga:∀ (b es:Nat) (els:List (List A)),b<L->H[b]? = some (.row false es els)->g'.ga b=g.ga b
 lr:∀ (b:Nat) (st:E9),b<L->H[b]? = some (.rng st)->g'.lr b=g.lr b
theorem bM.to {L:Nat} (ha:kI L H g H' g') {k off:Nat} {ds:List Value} (h:bM H g w k off ds):bM H' g' w k off ds:=fun j v hj=>⟨(h j v hj).1,ha.stab _ _ (h j v hj).2⟩
mutual
theorem VR.to {L:Nat} (ha:kI L H g H' g'):∀ (a:A) (c:Value),A.under L a=true->VR H g w a c->VR H' g' w a c
 | .any,_,_,_=>H7
 | .v x,c,_,h=>by rw[VR] at h ⊢; exact h
 | .ptr b o,c,hu,h=>by
  rw[A.under] at hu
  have hu:=XY hu
  rw[VR] at h ⊢
  rw[ha.blk b hu]
  cases hb:H[b]? with
  | none=>rw[hb] at h; exact h
  | some B=>
   rw[hb] at h
   have hm:=ha.mu b B hu hb
   cases B with
   | box _=>obtain ⟨k,h1,h2⟩:=h; exact⟨k,hm.trans h1,h2⟩
   | _=>exact h
 | .ep b i o,c,hu,h=>by
  rw[A.under] at hu
  have hu:=XY hu
  rw[VR] at h ⊢
  rw[ha.blk b hu]
  cases hb:H[b]? with
  | none=>rw[hb] at h; exact h
  | some B=>
   rw[hb] at h
   have hm:=ha.mu b B hu hb
   cases B with
   | row wr es els=>cases wr with
    | true=>obtain ⟨h0,k,h1,h2⟩:=h; exact⟨h0,k,hm.trans h1,h2⟩
    | false=>exact h
   | _=>exact h
 | .ip cs,c,hu,h=>by
  rw[A.under] at hu
  rw[VR] at h ⊢
  obtain ⟨k,off,ds,h1,h2,h3⟩:=h
  exact⟨k,off,ds,h1,h2.to ha,bB.to ha cs ds hu h3⟩
 | .imm els cl,c,hu,h=>by
  rw[A.under] at hu
  rw[VR] at h ⊢
  obtain ⟨a,cap,ds,es,h1,h2,h3,h4,h5,h6⟩:=h
  exact⟨a,cap,ds,es,h1,h2,h3,h4,fun hp=>let ⟨k,off,e1,e2⟩:=h5 hp; ⟨k,off,e1,e2.to ha⟩,bw.to ha els ds hu h6⟩
 | .sl b o n cl,c,hu,h=>by
  rw[A.under] at hu
  have hu:=XY hu
  rw[VR] at h ⊢
  rw[ha.blk b hu]
  cases hb:H[b]? with
  | none=>rw[hb] at h; exact h
  | some B=>
   rw[hb] at h
   have hm:=ha.mu b B hu hb
   cases B with
   | row wr es els=>cases wr with
    | true=>
     obtain ⟨h0,a,cap,h1,h2,h3,h4,h5⟩:=h
     exact⟨h0,a,cap,h1,h2,h3,fun hp=>let ⟨k,e1,e2⟩:=h4 hp; ⟨k,hm.trans e1,e2⟩,fun p q r t=>let ⟨k,arr,ty,e1,e2,e3,e4⟩:=h5 p q r t; ⟨k,arr,ty,hm.trans e1,e2,e3,e4⟩⟩
    | false=>
     obtain ⟨h0,a,cap,h1,h2,h3,h4,h5⟩:=h
     exact⟨h0,a,cap,h1,h2,h3,fun hp=>let ⟨k,off,e1,e2⟩:=h4 hp; ⟨k,off,e1,by rw[ha.ga b es els hu hb]; exact e2.to ha⟩,fun p q r t=>let ⟨k,arr,ty,e1,e2,e3,e4⟩:=h5 p q r t; ⟨k,arr,ty,hm.trans e1,e2,e3,e4⟩⟩
   | _=>exact h
 | .nq _,c,hu,h=>by rw[VR] at h ⊢; exact h
 | .mr b,c,hu,h=>by
  rw[A.under] at hu
  have hu:=XY hu
  rw[VR] at h ⊢
  rw[ha.blk b hu]
  cases hb:H[b]? with
  | none=>rw[hb] at h; exact h
  | some B=>
   rw[hb] at h
   have hm:=ha.mu b B hu hb
   cases B with
   | mp _ _ _=>obtain ⟨k,e1,e2⟩:=h; exact⟨k,hm.trans e1,e2⟩
   | _=>exact h
 | .mv k ks vs,c,hu,h=>by
  rw[A.under] at hu
  rw[VR] at h ⊢
  obtain ⟨r,arr,cl,h1,h2,h3,h4,h5⟩:=h
  exact⟨r,arr,cl,h1,ha.stab _ _ h2,h3,h4,bB.to ha vs _ hu h5⟩
 | .yld b,c,hu,h=>by
  rw[A.under] at hu
  have hu:=XY hu
  rw[VR] at h ⊢
  rw[ha.blk b hu]
  cases hb:H[b]? with
  | none=>rw[hb] at h; exact h
  | some B=>
   rw[hb] at h
   have hm:=ha.mu b B hu hb
   cases B with
   | rng _=>obtain ⟨k,e1,e2⟩:=h; exact⟨k,hm.trans e1,e2⟩
   | _=>exact h
 | .agg cs,c,hu,h=>by
  rw[A.under] at hu
  rw[VR] at h ⊢
  obtain ⟨ds,h1,h2⟩:=h
  exact⟨ds,h1,bB.to ha cs _ hu h2⟩
 | .tup cs,c,hu,h=>by
  rw[A.under] at hu
  rw[VR] at h ⊢
  obtain ⟨ds,h1,h2⟩:=h
  exact⟨ds,h1,bB.to ha cs _ hu h2⟩
 | .fn f p q,c,hu,h=>by
  rw[A.under,XQ] at hu
  rw[VR] at h ⊢
  obtain ⟨ds,es,h1,h2,h3⟩:=h
  exact⟨ds,es,h1,bB.to ha p _ hu.1 h2,bB.to ha q _ hu.2 h3⟩
 | .ifc t x,c,hu,h=>by
  rw[A.under] at hu
  rw[VR] at h ⊢
  obtain ⟨d,h1,h2⟩:=h
  exact⟨d,h1,VR.to ha x d hu h2⟩
theorem bB.to {L:Nat} (ha:kI L H g H' g'):∀ (cs:List A) (ds:List Value),bq L cs=true->bB H g w cs ds->bB H' g' w cs ds
 | [],_,_,h=>by rw[bB] at h ⊢; exact h
 | a :: as,_,hu,h=>by
  rw[bq,XQ] at hu
  rw[bB] at h ⊢
  obtain ⟨d,ds',h1,h2,h3⟩:=h
  exact⟨d,ds',h1,VR.to ha a d hu.1 h2,bB.to ha as ds' hu.2 h3⟩
theorem bw.to {L:Nat} (ha:kI L H g H' g'):∀ (cs:List (List A)) (ds:List (List Value)),bk L cs=true->bw H g w cs ds->bw H' g' w cs ds
 | [],_,_,h=>by rw[bw] at h ⊢; exact h
 | a :: as,_,hu,h=>by
  rw[bk,XQ] at hu
  rw[bw] at h ⊢
  obtain ⟨d,ds',h1,h2,h3⟩:=h
  exact⟨d,ds',h1,bB.to ha a d hu.1 h2,bw.to ha as ds' hu.2 h3⟩
end
theorem lP.to {L:Nat} (ha:kI L H g H' g') {b:Nat} {B:aO} (hb:b<L) (hB:H[b]? = some B) (hu:B.under L=true) (h:lP H g w b B):lP H' g' w b B:=by
 have hm:=ha.mu b B hb hB
 cases B with
 | box cs=>obtain ⟨k,arr,ty,h1,h2,h3⟩:=h; exact⟨k,arr,ty,hm.trans h1,h2,bB.to ha cs _ hu h3⟩
 | row wr es els=>cases wr with
  | true=>obtain ⟨ds,h1,h2,h3⟩:=h; exact⟨ds,bw.to ha els _ hu h1,h2,fun hp=>let ⟨k,arr,ty,e1,e2⟩:=h3 hp; ⟨k,arr,ty,hm.trans e1,e2⟩⟩
  | false=>
   have hga:=ha.ga b es els hb hB
   exact⟨by rw[hga]; exact bw.to ha els _ hu h.1,by rw[hga]; exact h.2⟩
 | rng st=>obtain ⟨k,h1,h2⟩:=h; exact⟨k,hm.trans h1,by rw[ha.lr b st hb hB]; exact h2⟩
 | mp _ _ _=>obtain ⟨k,arr,cl,h1,h2,h3,h4⟩:=h; exact⟨k,arr,cl,hm.trans h1,h2,h3,bB.to ha _ _ hu h4⟩
 | dead=>exact hm.trans h
 | hole=>exact hm.trans h
theorem Rel.back (hr:Rel H g w0 w) (hr':Rel H' g' w0 w') (he:Ext H g w H' g' w') (hst:g'.S=g.S) (hlow:∀ b,b<H.length->H'[b]? = H[b]?):Rel H g w0 w'/\Ext H g w H g w'/\kI H.length H' g' H g:=by
 have hbt:∀ (b:Nat) (B:aO),H[b]? = some B->BT g w g' w' b B B:=fun b B hB=>by
  obtain ⟨B',hB',ht⟩:=he.blk b B hB
  rw[hlow b (XS.1 hB).1,hB] at hB'
  cases hB'
  exact ht
 have hmu:∀ (b:Nat) (B:aO),H[b]? = some B->g'.mu b=g.mu b:=fun b B hB=>by
  have ht:=hbt b B hB
  cases B with
  | box _=>exact ht
  | row wr es els=>cases wr with
   | true=>exact ht.2.2.1
   | false=>exact(ht.2.2.2.2 rfl).1
  | rng _=>exact ht.1
  | mp _ _ _=>exact ht
  | dead=>
   have h1:g.mu b=none:=hr.blk b _ hB
   have h2:g'.mu b=none:=hr'.blk b .dead (by rw[hlow b (XS.1 hB).1]; exact hB)
   rw[h1,h2]
  | hole=>
   have h1:g.mu b=none:=hr.blk b _ hB
   have h2:g'.mu b=none:=hr'.blk b .hole (by rw[hlow b (XS.1 hB).1]; exact hB)
   rw[h1,h2]
 have hga:∀ (b es:Nat) (els:List (List A)),H[b]? = some (.row false es els)->g'.ga b=g.ga b:=fun b es els hB=>by
  obtain ⟨_,⟨r,e1⟩,e2,_,_⟩:=hbt b _ hB
  have h2:=(hr'.blk b _ (by rw[hlow b (XS.1 hB).1]; exact hB)).len
  rw[e1,X9,e2] at h2
  have:r=[]:=Ye o3
  rw[e1,this,YN]
 have ag:kI H.length H' g' H g:=by
  refine⟨fun k o hs=>⟨hst ▸ hs.1,fun b hb=>?_⟩,fun b hb=>(hlow b hb).symm,fun b B hb hB=>(hmu b B (by rw[<-hlow b hb]; exact hB)).symm,fun b es els hb hB=>(hga b es els (by rw[<-hlow b hb]; exact hB)).symm,fun b st hb hB=>(show g'.mu b=g.mu b/\g'.lr b=g.lr b from hbt b (.rng st) (by rw[<-hlow b hb]; exact hB)).2.symm⟩
  have hlt:=(hr.dom b k hb).1
  have hB:=XN hlt
  obtain ⟨es,els,h1,h2⟩:=hs.2 b ((hmu b _ hB).trans hb)
  exact⟨es,els,by rw[<-hlow b hlt]; exact h1,h2⟩
 refine⟨⟨hr'.below,fun b k hb=>?_,hr.inj,(fun k o hk=>hst ▸ hr'.out k o hk),hr.own,fun b B hB=>?_⟩,⟨fun k o v hs hc=>⟨(he.cell k o v hs hc).1,hs⟩,fun b B hB=>⟨B,hB,?_⟩,he.kept,he.size,fun k arr cl hs hm=>⟨(he.map k arr cl hs hm).1,hs⟩,he.obj,fun b k h=>.inl ⟨b,h⟩⟩,ag⟩
 ·have h1:=hr.dom b k hb
  have h2:=hr'.dom b k ((hmu b _ (XN h1.1)).trans hb)
  exact⟨h1.1,h1.2.1,h2.2.2⟩
 ·have hlt:=(XS.1 hB).1
  exact lP.to ag hlt (by rw[hlow b hlt]; exact hB) (hr.blk b B hB).under (hr'.blk b B (by rw[hlow b hlt]; exact hB))
 ·have ht:=hbt b B hB
  cases B with
  | box _=>rfl
  | row wr es els=>cases wr with
   | true=>exact⟨rfl,rfl,rfl,ht.2.2.2⟩
   | false=>exact⟨rfl,⟨[],r8⟩,ht.2.2.1,XP _,fun _=>⟨rfl,(ht.2.2.2.2 rfl).2⟩⟩
  | rng _=>exact⟨rfl,rfl⟩
  | mp _ _ _=>rfl
  | dead=>trivial
  | hole=>trivial
def Gh.cut (g:Gh) (L:Nat):Gh:={ g with mu:=fun b=>if b<L then g.mu b else none }
theorem Rel.cut (hr:Rel H g w0 w) {L:Nat} (hL:L<=H.length) (hu:∀ (b:Nat) B,b<L->H[b]? = some B->B.under L=true):Rel (H.take L) (g.cut L) w0 w/\kI L H g (H.take L) (g.cut L):=by
 have hmu:∀ {b k},(g.cut L).mu b=some k->b<L/\g.mu b=some k:=fun {b k} h=>by
  simp only[Gh.cut] at h
  split at h
  ·rename_i hb; exact⟨hb,h⟩
  ·cases h
 have hget:∀ b,b<L->(H.take L)[b]? = H[b]?:=fun b hb=>by rw[Yc,XX hb]
 have ag:kI L H g (H.take L) (g.cut L):=by
  refine⟨fun k o hs=>⟨hs.1,fun b hb=>?_⟩,fun b hb=>hget b hb,fun b B hb _=>by simp[Gh.cut,hb],fun b es els _ _=>rfl,fun b st _ _=>rfl⟩
  obtain ⟨h1,h2⟩:=hmu hb
  obtain ⟨es,els,h3,h4⟩:=hs.2 b h2
  exact⟨es,els,by rw[hget b h1]; exact h3,h4⟩
 refine⟨⟨hr.below,fun b k hb=>?_,fun b c k h1 h2=>hr.inj b c k (hmu h1).2 (hmu h2).2,hr.out,(fun b k o h=>hr.own b k o (hmu h).2),fun b B hB=>?_⟩,ag⟩
 ·obtain ⟨h1,h2⟩:=hmu hb
  have:=hr.dom b k h2
  exact⟨y6,this.2⟩
 ·have hb:b<L:=by have:=(XS.1 hB).1; rw[YG] at this; omega
  rw[hget b hb] at hB
  exact lP.to ag hb hB (hu b B hb hB) (hr.blk b B hB)
theorem Ext.cut {H0:aC} {gs:Gh} {ws:World} (he:Ext H0 gs ws H g w) {L:Nat} (hL:H0.length<=L):Ext H0 gs ws (H.take L) (g.cut L) w:=by
 have hst:∀ {k o},eF H g k o->eF (H.take L) (g.cut L) k o:=fun {k o} h2=>by
  refine⟨h2.1,fun b hb=>?_⟩
  simp only[Gh.cut] at hb
  split at hb
  ·rename_i hlt
   obtain ⟨es,els,h3,h4⟩:=h2.2 b hb
   exact⟨es,els,by rw[Yc,XX hlt]; exact h3,h4⟩
  ·cases hb
 refine⟨fun k o v hs hc=>?_,fun b B hB=>?_,he.kept,he.size,fun k arr cl hs hm=>⟨(he.map k arr cl hs hm).1,hst (he.map k arr cl hs hm).2⟩,he.obj,fun b k h=>he.fresh b k (by
  simp only[Gh.cut] at h
  split at h
  ·exact h
  ·cases h)⟩
 ·obtain ⟨h1,h2⟩:=he.cell k o v hs hc
  refine⟨h1,h2.1,fun b hb=>?_⟩
  simp only[Gh.cut] at hb
  split at hb
  ·rename_i hlt
   obtain ⟨es,els,h3,h4⟩:=h2.2 b hb
   exact⟨es,els,by rw[Yc,XX hlt]; exact h3,h4⟩
  ·cases hb
 ·obtain ⟨B',hB',ht⟩:=he.blk b B hB
  have hb:b<L:=X5 (XS.1 hB).1 hL
  refine⟨B',by rw[Yc,XX hb]; exact hB',?_⟩
  have e:(g.cut L).mu b=g.mu b:=by simp[Gh.cut,hb]
  cases B with
  | box _=>cases B' with
   | box _=>exact e.trans ht
   | row wr _ _=>exact ht
   | rng _=>exact ht
   | mp _ _ _=>exact ht
   | dead=>trivial
   | hole=>exact ht
  | row wr es els=>cases wr with
   | true=>cases B' with
    | box _=>exact ht
    | rng _=>exact ht
    | mp _ _ _=>exact ht
    | row wr' es' els'=>cases wr' with
     | true=>exact⟨ht.1,ht.2.1,e.trans ht.2.2.1,ht.2.2.2⟩
     | false=>exact ht
    | dead=>trivial
    | hole=>exact ht
   | false=>cases B' with
    | box _=>exact ht
    | rng _=>exact ht
    | mp _ _ _=>exact ht
    | row wr' es' els'=>cases wr' with
     | true=>exact ht
     | false=>
      obtain ⟨h1,h2,h3,h4,h5⟩:=ht
      exact⟨h1,h2,h3,h4,fun hl=>⟨e.trans (h5 hl).1,(h5 hl).2⟩⟩
    | dead=>trivial
    | hole=>exact ht
  | rng st=>cases B' with
   | rng st'=>exact⟨e.trans ht.1,ht.2⟩
   | dead=>trivial
   | hole=>exact ht
   | box _=>exact ht
   | mp _ _ _=>exact ht
   | row wr _ _=>cases wr<;>exact ht
  | mp _ _ _=>cases B' with
   | mp _ _ _=>exact e.trans ht
   | rng _=>exact ht
   | dead=>trivial
   | hole=>exact ht
   | box _=>exact ht
   | row wr _ _=>cases wr<;>exact ht
  | dead=>cases B'<;>exact ht
  | hole=>trivial
end
section
open Go.RowKit
variable {H H1:aC} {g g1:Gh} {w0 w w1:World}
def Gh.qJ (g:Gh) (H:aC) (m:Nat):Gh:={ g.cut m with S:=fun k o=>g.S k o/\∀ c,m<=c->g.mu c=some k->∃ es els,H[c]? = some (.row false es els)/\o<es*els.length }
theorem km {g:Gh} {m b k:Nat} (h:(g.cut m).mu b=some k):b<m/\g.mu b=some k:=by
 simp only[Gh.cut] at h
 split at h
 ·rename_i hb; exact⟨hb,h⟩
 ·cases h
theorem Rel.qJ (hr:Rel H g w0 w) {m:Nat} (hm:m<=H.length) (hu:∀ (b:Nat) B,b<m->H[b]? = some B->B.under m=true):Rel (H.take m) (g.qJ H m) w0 w/\kI m H g (H.take m) (g.qJ H m):=by
 have hget:∀ b,b<m->(H.take m)[b]? = H[b]?:=fun b hb=>by rw[Yc,XX hb]
 have ag:kI m H g (H.take m) (g.qJ H m):=by
  refine⟨fun k o hs=>⟨⟨hs.1,fun c _ hc=>hs.2 c hc⟩,fun b hb=>?_⟩,fun b hb=>hget b hb,fun b B hb _=>by simp[Gh.qJ,Gh.cut,hb],fun b es els _ _=>rfl,fun b st _ _=>rfl⟩
  obtain ⟨h1,h2⟩:=km hb
  obtain ⟨es,els,h3,h4⟩:=hs.2 b h2
  exact⟨es,els,by rw[hget b h1]; exact h3,h4⟩
 refine⟨⟨hr.below,fun b k hb=>?_,fun b c k h1 h2=>hr.inj b c k (km h1).2 (km h2).2,fun k o hk=>⟨hr.out k o hk,fun c _ hc=>absurd (hr.dom c k hc).2.2 o3⟩,fun b k o hb=>⟨hr.own b k o (km hb).2,fun c hc hck=>?_⟩,fun b B hB=>?_⟩,ag⟩
 ·obtain ⟨h1,h2⟩:=km hb
  have:=hr.dom b k h2
  exact⟨y6,this.2⟩
 ·obtain ⟨h1,h2⟩:=km hb
  have:=hr.inj b c k h2 hck
  omega
 ·have hb:b<m:=by have:=(XS.1 hB).1; rw[YG] at this; omega
  rw[hget b hb] at hB
  exact lP.to ag hb hB (hu b B hb hB) (hr.blk b B hB)
theorem Rel.join (hr:Rel H g w0 w) {m:Nat} (hm:m<=H.length) (hr1:Rel H1 g1 w0 w1) (he:Ext (H.take m) (g.qJ H m) w H1 g1 w1) (hm1:m<=H1.length) (hS:g1.S=(g.qJ H m).S) (hu:∀ (b:Nat) B,b<m->H1[b]? = some B->B.under m=true) :
  ∃ g2,Rel (H1.take m++H.drop m) g2 w0 w1/\Ext H g w (H1.take m++H.drop m) g2 w1/\g2.S=g.S/\kI m H1 g1 (H1.take m++H.drop m) g2:=by
 have lo:∀ b,b<m->(H1.take m++H.drop m)[b]? = H1[b]?:=fun b hb=>by
  rw[X6 y6,Yc,XX hb]
 have hi:∀ b,m<=b->(H1.take m++H.drop m)[b]? = H[b]?:=fun b hb=>by
  rw[Yr y6,YG,Y0,Zm hm1]
  congr 1; omega
 have tk:∀ b,b<m->(H.take m)[b]? = H[b]?:=fun b hb=>by rw[Yc,XX hb]
 let g2:Gh:={ mu:=fun b=>if b<m then g1.mu b else g.mu b,ga:=fun b=>if b<m then g1.ga b else g.ga b,S:=g.S,lr:=fun b=>if b<m then g1.lr b else g.lr b }
 have mlo:∀ b,b<m->g2.mu b=g1.mu b:=fun b hb=>XX hb
 have mhi:∀ b,m<=b->g2.mu b=g.mu b:=fun b hb=>XW o3
 have glo:∀ b,b<m->g2.ga b=g1.ga b:=fun b hb=>XX hb
 have ghi:∀ b,m<=b->g2.ga b=g.ga b:=fun b hb=>XW o3
 have llo:∀ b,b<m->g2.lr b=g1.lr b:=fun b hb=>XX hb
 have lhi:∀ b,m<=b->g2.lr b=g.lr b:=fun b hb=>XW o3
 have nof:∀ {c k},m<=c->g.mu c=some k->∀ b,(g.qJ H m).mu b≠some k:=fun {c k} hc hk b hb=>by
  obtain ⟨h1,h2⟩:=km hb
  have:=hr.inj b c k h2 hk
  omega
 have same:∀ {c k},m<=c->g.mu c=some k->w1.heap[k]? = w.heap[k]?:=fun {c k} hc hk=>he.obj k (hr.dom c k hk).2.2 (nof hc hk)
 have hne:∀ {b c k},b<m->m<=c->g1.mu b=some k->g.mu c=some k->False:=fun {b c k} _ hc hb hk=>by
  rcases he.fresh b k hb with ⟨c',hc'⟩ | hl
  ·exact nof hc hk c' hc'
  ·have:=(hr.dom c k hk).2.2
   omega
 have toB:∀ {k o},eF H g k o->eF (H.take m) (g.qJ H m) k o:=fun {k o} hs=>⟨⟨hs.1,fun c _ hc=>hs.2 c hc⟩,fun b hb=>by
  obtain ⟨h1,h2⟩:=km hb
  obtain ⟨es,els,h3,h4⟩:=hs.2 b h2
  exact⟨es,els,by rw[tk b h1]; exact h3,h4⟩⟩
 have stab:∀ k o,eF H1 g1 k o->eF (H1.take m++H.drop m) g2 k o:=fun k o hs=>by
  have h1:(g.qJ H m).S k o:=by rw[<-hS]; exact hs.1
  refine⟨h1.1,fun b hb=>?_⟩
  by_cases e:b<m
  ·rw[mlo b e] at hb
   obtain ⟨es,els,h3,h4⟩:=hs.2 b hb
   exact⟨es,els,by rw[lo b e]; exact h3,h4⟩
  ·rw[mhi b o3] at hb
   obtain ⟨es,els,h3,h4⟩:=h1.2 b o3 hb
   exact⟨es,els,by rw[hi b o3]; exact h3,h4⟩
 have ag:kI m H1 g1 (H1.take m++H.drop m) g2:=⟨stab,lo,fun b B hb _=>mlo b hb,fun b es els hb _=>glo b hb,fun b st hb _=>llo b hb⟩
 have hx:Ext H g w (H1.take m++H.drop m) g2 w1:=by
  refine⟨fun k o v hs hc=>?_,fun b B hB=>?_,he.kept,he.size,fun k arr cl hs hmm=>?_,fun k hk hn=>he.obj k hk fun b hb=>hn b (km hb).2,fun b k hb=>?_⟩
  ·obtain ⟨h1,h2⟩:=he.cell k o v (toB hs) hc
   exact⟨h1,stab k o h2⟩
  ·by_cases e:b<m
   ·obtain ⟨B',hB',ht⟩:=he.blk b B (by rw[tk b e]; exact hB)
    refine⟨B',by rw[lo b e]; exact hB',?_⟩
    have hm0:(g.qJ H m).mu b=g.mu b:=XX e
    have hm2:=mlo b e
    have hg2:=glo b e
    have hl2:=llo b e
    unfold BT at ht ⊢
    rw[hm2,hg2,hl2,<-hm0]
    exact ht
   ·refine⟨B,by rw[hi b o3]; exact hB,?_⟩
    have hm2:=mhi b o3
    have hg2:=ghi b o3
    cases B with
    | box _=>exact hm2
    | row wr es els=>cases wr with
     | true=>exact⟨rfl,rfl,hm2,fun k arr ty hk ha=>⟨arr,(same o3 hk).trans ha,XP _⟩⟩
     | false=>exact⟨rfl,⟨[],by rw[hg2]; simp⟩,(hr.blk b _ hB).len,XP _,fun _=>⟨hm2,fun k arr ty hk ha=>⟨arr,(same o3 hk).trans ha,XP _⟩⟩⟩
    | rng _=>exact⟨hm2,lhi b o3⟩
    | mp _ _ _=>exact hm2
    | dead=>trivial
    | hole=>trivial
  ·obtain ⟨h1,h2⟩:=he.map k arr cl (toB hs) hmm
   exact⟨h1,stab k 0 h2⟩
  ·by_cases e:b<m
   ·rw[mlo b e] at hb
    rcases he.fresh b k hb with ⟨c,hc⟩ | hl
    ·exact .inl ⟨c,(km hc).2⟩
    ·exact .inr hl
   ·rw[mhi b o3] at hb
    exact .inl ⟨b,hb⟩
 refine⟨g2,⟨hr1.below,fun b k hb=>?_,fun b c k h1 h2=>?_,fun k o hk=>hr.out k o (Yb he.size hk),hr.wa hx,fun b B hB=>?_⟩,hx,rfl,ag⟩
 ·by_cases e:b<m
  ·rw[mlo b e] at hb
   have:=hr1.dom b k hb
   exact⟨XI,this.2⟩
  ·rw[mhi b o3] at hb
   have:=hr.dom b k hb
   exact⟨XI,this.2.1,X5 this.2.2 he.size⟩
 ·by_cases e1:b<m
  ·by_cases e2:c<m
   ·rw[mlo b e1] at h1; rw[mlo c e2] at h2; exact hr1.inj b c k h1 h2
   ·rw[mlo b e1] at h1; rw[mhi c o3] at h2; exact(hne e1 o3 h1 h2).elim
  ·by_cases e2:c<m
   ·rw[mhi b o3] at h1; rw[mlo c e2] at h2; exact(hne e2 o3 h2 h1).elim
   ·rw[mhi b o3] at h1; rw[mhi c o3] at h2; exact hr.inj b c k h1 h2
 ·by_cases e:b<m
  ·rw[lo b e] at hB
   exact lP.to ag e hB (hu b B e hB) (hr1.blk b B hB)
  ·rw[hi b o3] at hB
   have h:=hr.blk b B hB
   have hm2:=mhi b o3
   have hg2:=ghi b o3
   cases B with
   | box cs=>obtain ⟨k,arr,ty,h1,h2,h3⟩:=h; exact⟨k,arr,ty,hm2.trans h1,(same o3 h1).trans h2,bB.ext hx _ _ h3⟩
   | row wr es els=>cases wr with
    | true=>
     obtain ⟨ds,h1,h2,h3⟩:=h
     exact⟨ds,bw.ext hx _ _ h1,h2,fun hp=>let ⟨k,arr,ty,e1,e2,e3⟩:=h3 hp; ⟨k,arr,ty,hm2.trans e1,(same o3 e1).trans e2,e3⟩⟩
    | false=>
     obtain ⟨h1,h2⟩:=h
     exact⟨by rw[hg2]; exact bw.ext hx _ _ h1,by rw[hg2]; exact h2⟩
   | rng st=>obtain ⟨k,h1,h2⟩:=h; exact⟨k,hm2.trans h1,by rw[lhi b o3]; exact(same o3 h1).trans h2⟩
   | mp _ _ _=>obtain ⟨k,arr,cl,h1,h2,h3,h4⟩:=h; exact⟨k,arr,cl,hm2.trans h1,(same o3 h1).trans h2,h3,bB.ext hx _ _ h4⟩
   | dead=>exact hm2.trans h
   | hole=>exact hm2.trans h
end
section
open Go.RowKit
variable {H H':aC} {g g':Gh} {w0 w w':World} {cx:Cx} {s:St} {a:Act} {F:Fence} {n:Nat} {N lo:Nat} {mb:Mb} {H0:aC} {gs:Gh} {ws:World} {Bs:aC->Gh->World->Prop}
def pO (cx:Cx) (Bs:aC->Gh->World->Prop) (s:St) (o:Oper) (x:A):Prop:=∀ (F:Fence) (n:Nat) (g:Gh) (w0 W:World) (ev:Operand->Value),gk F->tn cx s g w0 o.op ev W->(∀ (G:Nat) (vs:List Value),cx.glob G=some vs->bM s.H g W G 0 vs)->Bs s.H g W ->
 yq F n cx.P o ev W fun v W'=>VR s.H g W' x v/\Rel s.H g w0 W'/\Ext s.H g W s.H g W'
theorem Ds {β:Type} {f lo:Nat} {dst:Option Nat} {c:Call} (k:A->aC->Option β):pn cx f lo dst c s k=(pn cx f lo dst c s (fun x H=>some (x,H))).bind fun r=>k r.1 r.2:=by
 unfold pn
 split<;>simp[Yw]
theorem iB {β:Type} {f lo:Nat} {o:Oper} (k:A->aC->Option β):bQ cx f lo o s k=(bQ cx f lo o s (fun x H=>some (x,H))).bind fun r=>k r.1 r.2:=by
 unfold bQ
 split
 case h_27=>exact Ds k
 all_goals simp[Yw]
theorem rI {f lo:Nat} {o:Oper} {r:A×aC} (h:bQ cx f lo o s (fun x H=>some (x,H))=some r) (hh:vL o.op=false):∃ x,r=(x,s.H):=by
 unfold bQ at h
 split at h
 all_goals first
  | cases h; done
  | (rename_i ho; rw[ho] at hh; cases hh; done)
  | (cases h; exact⟨_,rfl⟩)
  | (obtain ⟨y,_,h⟩:=bE h; cases h; exact⟨_,rfl⟩)
theorem jU {P:Program} {o:Oper} {ev:Operand->Value} {c:Value} {Rr:Value->World->Prop} (h:(execOp ev o).run P w=.ok (.value c) w'∨((execOp ev o).run P w=.ok .skip w'/\c=undef)) (hr:Rr c w'):yq F n P o ev w Rr:=by
 unfold yq
 rcases h with h | ⟨h,rfl⟩<;>rw[h]<;>exact hr
theorem qA {f lo:Nat} {o:Oper} {x:A} (h:bQ cx f lo o s (fun x H=>some (x,H))=some (x,s.H)):pO cx Bs s o x:=by
 intro F n g w0 W ev hF hs hgl hbs
 obtain ⟨c,w',x',H',g',e1,e2,e3,e4,e5,e6,e7,e8⟩:=kd hs h
 cases e2
 obtain ⟨r1,r2,r3⟩:=Rel.back hs.rel e3 e4 e8 (fun _ _=>rfl)
 exact jU e1 ⟨VR.to r3 x c (VR.under x c e5) e5,r1,r2⟩
theorem mX {call:bo} (hcall:eh cx Bs call) (horc:jK cx) {f:Nat} {o:Oper} {x:A} (h:gS cx call f o s=some x):pO cx Bs s o x:=by
 have direct:∀ {lo:Nat},vL o.op=false->bQ cx f lo o s (fun x _=>some x)=some x->pO cx Bs s o x:=fun {lo} hh h=>by
  rw[iB] at h
  obtain ⟨q,h1,h2⟩:=bE h
  obtain ⟨x',rfl⟩:=rI h1 hh
  cases h2
  exact qA h1
 unfold gS at h
 split at h
 ·rename_i c x y ho
  obtain ⟨b,hb,h⟩:=oY h
  intro F n g w0 W ev hF hs hgl hbs
  have hc:=hs.one c (by rw[ho]; simp[Op.operands])
  have hx:=hs.one x (by rw[ho]; simp[Op.operands])
  have hy:=hs.one y (by rw[ho]; simp[Op.operands])
  rw[hb,VR] at hc
  refine jU (c:=if b then ev x else ev y) (w':=W) (.inl ?_) ⟨by cases b<;>cases h<;>assumption,hs.rel,Ext.refl hs.rel⟩
  unfold execOp
  rw[ho]
  simp[hc,asBool]
 ·cases h
 ·cases h
 ·cases h
 ·cases h
 ·cases h
 ·cases h
 ·cases h
 ·cases h
 ·rename_i c ho
  rw[bG] at h
  split at h
  ·rw[vw] at h
   replace h:=bE h
   obtain ⟨x0,h,hx0⟩:=h
   cases hx0
   replace h:=bE h
   obtain ⟨⟨k',args⟩,hce,h⟩:=h
   rw[bG] at h
   split at h
   ·rename_i hiso
    have hy:=h
    intro F n g w0 W ev hF hs hgl hbs
    obtain ⟨hcb,cargs,hrun,hv⟩:=ka hs hce
    unfold yq
    rw[hrun]
    have hr:=hs.rel
    have hst:∀ k o,W.heap.size<=k->eF s.H g k o:=fun k o hk=>⟨hr.out k o hk,fun b hb=>absurd (hr.dom b k hb).2.2 o3⟩
    have hcallok:=horc k' _ x (.inr (.inl hiso)) hy (eF s.H g) W cargs hst (fun G vs hG j v hj=>let ⟨e1,e2⟩:=hgl G vs hG j v hj; ⟨e1,e2,fun b hb=>by cases hb⟩) (yk hr hv)
    refine(fS hF hcallok).mono ?_
    rintro e w' ⟨c',rfl,hb,hvr⟩
    exact⟨VR.back (fun _ _ h=>h) hvr,hr.eK hb,Ext.below hr hb⟩
   ·replace h:=bE h
    obtain ⟨⟨out,H'⟩,hy,h⟩:=h
    cases out with
    | pan x=>cases h
    | ret y=>
     obtain ⟨hu,h⟩:=bu (show (bif A.under s.H.length y then some y else none)=some x from h)
     cases h
     intro F n g w0 W ev hF hs hgl hbs
     obtain ⟨hcb,cargs,hrun,hv⟩:=ka hs hce
     unfold yq
     rw[hrun]
     have hci:CallsIn F.plain (n - 1) cx.P k' cargs.toArray W _:=hcall.fn k' args s.H s.H.length (.ret x,H') (iW hcb) hy F.plain (n - 1) g w0 W cargs hF rfl hbs hs.rel hgl hv
     have hci':CallsIn F (n - 1) cx.P k' cargs.toArray W _:=hci
     refine hci'.mono ?_
     rintro e w' ⟨g',e1,e2,e3,e4,e6,e5⟩
     cases e with
     | returned c'=>
      obtain ⟨r1,r2,r3⟩:=Rel.back hs.rel e1 e2 e6 (fun b hb=>e4 b hb hb)
      exact⟨VR.to r3 x c' hu e5,r1,r2⟩
     | panicked _=>exact e5.elim
     | outgrown=>exact e5.elim
  ·split at h
   ·rename_i hcl
    rw[iB] at h
    obtain ⟨q,h1,h2⟩:=bE h
    have hq:∃ x,q=(x,s.H):=by
     unfold bQ at h1
     rw[ho] at h1
     simp only at h1
     unfold pn at h1
     split at h1
     ·obtain ⟨y,_,h1⟩:=bE h1; cases h1; exact⟨_,rfl⟩
     ·rename_i he _ _; rw[hcl] at he; cases he
     ·rename_i he _ _; rw[hcl] at he; cases he
     ·rename_i he _; rw[hcl] at he; cases he
     ·rename_i he _; rw[hcl] at he; cases he
     ·cases h1
    obtain ⟨x',rfl⟩:=hq
    cases h2
    exact qA h1
   ·cases h
 ·rename_i h1 h2 h3 h4 h5 h6 h8 h9 h10 h7
  refine direct ?_ h
  cases ho:o.op<;>first
   | rfl
   | exact absurd ho (by intro hh; first | exact h2 _ hh | exact h3 _ _ hh | exact h4 _ _ _ hh | exact h5 _ _ _ hh | exact h6 _ hh | exact h7 _ hh | exact h8 _ _ hh | exact h9 _ _ _ _ hh | exact h10 _ _ _ _ hh)
def Fact (cx:Cx) (Bs:aC->Gh->World->Prop) (ops:Array Oper) (s:St) (o:Oper) (x:A):Prop:=
 (o.guard=none/\pO cx Bs s o x)∨∃ t want,cd ops o=some (t,want)/\((∃ b,look s.fr t=.v (.bool b)/\if b==want then pO cx Bs s o x else x=.v undef)∨((∃ y,look s.fr t=.v (.tuple y))/\x=.v undef))
theorem yo {o:Oper} {next:Act->World->Prop} {Q:Exit->Act->World->Prop} {Rr:Value->World->Prop} (hF:gk F) (hnd:∀ c,o.op≠.defer c) (h:yq F n cx.P o a.eval w Rr) (hn:∀ v w',Rr v w'->next (a.put o.dst v) w'):o.wpIn F n cx.P a w next Q:=by
 refine ed hF hnd ?_
 unfold yq at h
 split at h
 ·rename_i hr; rw[hr]; exact hn _ _ h
 ·rename_i hr; rw[hr]; exact hn _ _ h
 ·rename_i hr
  rw[hr,Oper.uponIn_enter]
  refine⟨fun hd=>(by rw[hF.1] at hd; cases hd),?_⟩
  refine h.mono ?_
  intro e w' he
  cases e with
  | returned c=>exact hn _ _ he
  | panicked _=>exact he.elim
  | outgrown=>exact he.elim
 ·rename_i hr
  rw[hr]
  exact⟨fun hd=>(by rw[hF.1] at hd; cases hd),h.mono hn⟩
 ·rename_i hr
  rw[hr]
  refine⟨fun hd=>(by rw[hF.1] at hd; cases hd),?_⟩
  refine h.mono ?_
  intro e w' he
  cases e with
  | returned c=>exact hn _ _ he
  | panicked _=>exact he.elim
  | outgrown=>exact he.elim
 ·exact h.elim
theorem vF {call:bo} {f:Nat} {o:Oper} {x:A} (h:gS cx call f o s=some x):∀ c,o.op≠.defer c:=fun c hc=>by
 unfold gS at h; rw[hc] at h; exact mW (show bQ cx f 0 o s (fun a _=>some a)=some x from h) c hc
theorem fJ {call:bo} (hcall:eh cx Bs call) (hb0:Bs H0 gs ws) (horc:jK cx) (hF:gk F) {f:Nat} {ops:Array Oper} {k:E->St->Option R} {r:R} {Q:Exit->Act->World->Prop}
  (hk:∀ s' g' a' w',Good cx N mb lo H0 gs ws w0 s' g' a' w'->k .normal s'=some r->Q .normal a' w')
  (hp:∀ x s' g' a' w' c,Good cx N mb lo H0 gs ws w0 s' g' a' w'->VR s'.H g' w' x c->k (.pan x) s'=some r->Q (.panic [{ v:=c,recovered:=false }]) a' w') :
  ∀ (os:List Oper) (s:St) (g:Gh) (a:Act) (w:World),(∀ o∈os,∀ d,o.dst=some d->d<N)->Good cx N mb lo H0 gs ws w0 s g a w->fI cx call f lo ops os s k=some r->wpListIn F n cx.P ops Q os a w
 | [],s,g,a,w,_,hg,h=>hk s g a w hg h
 | o :: os,s,g,a,w,hd,hg,h=>by
  have hd0:=hd o r8
  have ih:=fun s g a w hg h=>fJ (f:=f) (ops:=ops) hcall hb0 horc hF hk hp os s g a w (fun o ho=>hd o (by simp[ho])) hg h
  have one:rH cx call f lo o s (fun s=>fI cx call f lo ops os s k) (fun a s=>k (.pan a) s)=some r->o.wpIn F n cx.P a w (wpListIn F n cx.P ops Q os) Q:=fun h=>
   za hcall horc hF hb0 hg hd0 h (fun s' g' a' w' hg' h'=>ih s' g' a' w' hg' h') (fun x s' g' w' c hg' hv h'=>hp x s' g' a w' c hg' hv h')
  have val:∀ {x:A},gS cx call f o s=some x->fI cx call f lo ops os (s.put o.dst x) k=some r->o.wpIn F n cx.P a w (wpListIn F n cx.P ops Q os) Q:=fun {x} hx h=>
   yo hF (vF hx) (mX hcall horc hx F n g w0 w a.eval hF (hg.sr.Uf o.op) hg.sr.gl (hcall.up _ _ _ _ _ _ hb0 hg.ext)) fun v w' hv=>
    ih _ _ _ _ (hg.step (H':=s.H) hv.2.1 hv.2.2 (XP _) (fun _ _ _=>rfl) rfl hv.1 hd0) h
  have skip:fI cx call f lo ops os (s.put o.dst (.v undef)) k=some r->(∀ f,o.about cx.P w a.eval=some f->F.fn f)/\wpListIn F n cx.P ops Q os (a.put o.dst undef) w:=fun h=>
   ⟨fun f _=>hF.2.1 f,ih _ _ _ _ (hg.same s6 hd0) h⟩
  unfold fI at h
  unfold wpListIn
  split at h
  ·rename_i hgd
   rw[XX (by simp[Region.wanted,hgd])]
   exact one h
  ·rename_i x hgd
   split at h
   ·cases h
   ·rename_i t want hgs
    have hv:=hg.sr.fr t
    rw[bG] at h
    split at h
    ·obtain ⟨x,h0,h⟩:=bE h
     rcases m6 h0 with ⟨b,hb,h0⟩ | ⟨y,hb,h0⟩
     ·rw[hb,VR] at hv
      rw[jR hgs hv]
      split at h0
      ·rename_i hbw
       rw[XX hbw]
       exact val h0 h
      ·rename_i hbw
       rw[XW hbw]
       cases h0
       exact skip h
     ·rw[hb,VR] at hv
      rw[lZ hgs hv]
      cases h0
      rw[XW r8]
      exact skip h
    ·rcases m6 h with ⟨b,hb,h⟩ | ⟨y,hb,h⟩
     ·rw[hb,VR] at hv
      rw[jR hgs hv]
      split at h
      ·rename_i hbw
       rw[XX hbw]
       exact one h
      ·rename_i hbw
       rw[XW hbw]
       exact skip h
     ·rw[hb,VR] at hv
      rw[lZ hgs hv,XW r8]
      exact skip h
theorem xK (s:St) (dst:Option Nat) (x:A) (u:Nat) (h:dst≠some u):look (s.put dst x).fr u=look s.fr u:=by
 cases dst with
 | none=>rfl
 | some d=>
  show look ((d,x) :: s.fr) u=_
  rw[ez,XW (fun e=>h (by rw[e]))]
theorem BD (s:St) (d:Nat) (x:A):look (s.put (some d) x).fr d=x:=by
 show look ((d,x) :: s.fr) d=_
 rw[ez,XX rfl]
theorem rK {call:bo} (hcall:eh cx Bs call) (horc:jK cx) {f:Nat} {ops:Array Oper} {k:St->Option R} {r:R}:∀ (os:List Oper) (s:St),jr cx call f ops os s k=some r ->
  ∃ z,k z=some r/\z.H=s.H/\(∀ t,(∀ o∈os,o.dst≠some t)->look z.fr t=look s.fr t) ∧
   ∀ (i:Nat) o,os[i]? = some o->∃ si x,si.H=s.H/\(∀ t,(∀ (j:Nat) o',j<i->os[j]? = some o'->o'.dst≠some t)->look si.fr t=look s.fr t)/\(∀ t,(∀ (j:Nat) o',i<=j->os[j]? = some o'->o'.dst≠some t)->look si.fr t=look z.fr t) ∧
    (∀ t,o.dst=some t->(∀ (j:Nat) o',i<j->os[j]? = some o'->o'.dst≠some t)->look z.fr t=x)/\Fact cx Bs ops si o x
 | [],s,h=>⟨s,h,rfl,fun _ _=>rfl,fun i o h=>by simp at h⟩
 | o :: os,s,h=>by
  have fin:∀ (s':St) (x:A),s'.H=s.H->(∀ u,look s'.fr u=look s.fr u)->Fact cx Bs ops s' o x->jr cx call f ops os (s'.put o.dst x) k=some r ->
    ∃ z,k z=some r/\z.H=s.H/\(∀ t,(∀ o'∈o :: os,o'.dst≠some t)->look z.fr t=look s.fr t) ∧
     ∀ (i:Nat) o1,(o :: os)[i]? = some o1->∃ si x,si.H=s.H/\(∀ t,(∀ (j:Nat) o',j<i->(o :: os)[j]? = some o'->o'.dst≠some t)->look si.fr t=look s.fr t)/\(∀ t,(∀ (j:Nat) o',i<=j->(o :: os)[j]? = some o'->o'.dst≠some t)->look si.fr t=look z.fr t) ∧
      (∀ t,o1.dst=some t->(∀ (j:Nat) o',i<j->(o :: os)[j]? = some o'->o'.dst≠some t)->look z.fr t=x)/\Fact cx Bs ops si o1 x:=by
   intro s' x hH hl hf h
   obtain ⟨z,h1,h2,h3,h4⟩:=rK hcall horc os (s'.put o.dst x) h
   have hpH:(s'.put o.dst x).H=s.H:=by rw[<-hH]; cases o.dst<;>rfl
   have hz:∀ t,(∀ o'∈o :: os,o'.dst≠some t)->look z.fr t=look s.fr t:=fun t ht=>by
    rw[h3 t (fun o' ho'=>ht o' (by simp[ho'])),xK _ _ _ _ (ht o r8),hl]
   refine⟨z,h1,h2.trans hpH,hz,fun i o1 ho1=>?_⟩
   cases i with
   | zero=>
    simp at ho1
    subst ho1
    refine⟨s',x,hH,fun t _=>hl t,fun t ht=>?_,fun t hd ht=>?_,hf⟩
    ·have hall:∀ o'∈o :: os,o'.dst≠some t:=fun o' ho'=>by
      obtain ⟨j,hj,rfl⟩:=YI ho'
      exact ht j _ (Ya _) (XN hj)
     rw[hz t hall,hl]
    ·rw[h3 t (fun o' ho'=>by
      obtain ⟨j,hj,rfl⟩:=YI ho'
      exact ht (j+1) _ o3 r8),hd,BD]
   | succ i=>
    obtain ⟨si,x1,g1,g2,g3,g4,g5⟩:=h4 i o1 (by simpa using ho1)
    refine⟨si,x1,g1.trans hpH,fun t ht=>?_,fun t ht=>?_,fun t hd ht=>?_,g5⟩
    ·rw[g2 t (fun j o' hj ho'=>ht (j+1) o' o3 (by simpa using ho')),xK _ _ _ _ (ht 0 o o3 rfl),hl]
    ·exact g3 t (fun j o' hj ho'=>ht (j+1) o' o3 (by simpa using ho'))
    ·exact g4 t hd (fun j o' hj ho'=>ht (j+1) o' o3 (by simpa using ho'))
  unfold jr at h
  split at h
  ·rename_i hgd
   obtain ⟨x,h1,h2⟩:=bE h
   exact fin s x rfl (fun _=>rfl) (.inl ⟨hgd,mX hcall horc h1⟩) h2
  ·rename_i q hgd
   split at h
   ·cases h
   ·rename_i t want hgs
    obtain ⟨x,h1,h2⟩:=bE h
    refine fin s x rfl (fun _=>rfl) (.inr ⟨t,want,hgs,?_⟩) h2
    rcases m6 h1 with ⟨b,hb,h1⟩ | ⟨y,hb,h1⟩
    ·refine .inl ⟨b,hb,?_⟩
     split at h1
     ·rename_i hbw; rw[XX hbw]; exact mX hcall horc h1
     ·rename_i hbw; rw[XW hbw]; cases h1; rfl
    ·cases h1; exact .inr ⟨⟨y,hb⟩,rfl⟩
theorem np {ops:Array Oper} {N:Nat} (lU:tI ops N=true) {i j:Nat} (h:nL ops i j):j<i:=by
 have lt:∀ {i o e},ops[i]? = some o->e∈o.after->Region.binds .any e=true->e.on<i:=fun {i o e} ho he hb=>by
  have hi:i<ops.size:=(XU.1 ho).1
  have h:=X0.1 lU i (Yj.2 hi)
  simp only[ho,XQ] at h
  have:=ZT.1 h.1.1.1.2 e he
  rw[hb] at this; simpa using this
 induction h with
 | edge ho he hb=>exact lt ho he hb
 | thru ho he hb _ ih=>exact Nat.lt_trans ih (lt ho he hb)
theorem mi {ops:Array Oper} {N:Nat} (lU:tI ops N=true) {i:Nat} {o:Oper} (ho:ops[i]? = some o):(∀ j d,i≠j->o.dst=some d->cw ops j≠some d)/\(∀ j t,cw ops j=some t->t∈o.looksAt ops->i=j∨fB ops i j=true∨fB ops j i=true):=by
 have hi:i<ops.size:=(XU.1 ho).1
 have h:=X0.1 lU i (Yj.2 hi)
 simp only[ho,XQ] at h
 obtain ⟨⟨⟨⟨⟨_,_⟩,_⟩,h4⟩,h5⟩,_⟩:=h
 have lt:∀ {j t},cw ops j=some t->j<ops.size:=fun {j t} hj=>by
  unfold cw at hj
  cases hx:ops[j]? with
  | none=>rw[hx] at hj; cases hj
  | some _=>exact(XU.1 hx).1
 refine⟨fun j d hij hd hj=>?_,fun j t hj ht=>?_⟩
 ·have:=X0.1 h4 j (Yj.2 (lt hj))
  rw[hd,hj] at this
  simp at this
  exact hij this
 ·have:=X0.1 h5 j (Yj.2 (lt hj))
  rw[hj] at this
  simp[ht] at this
  rcases this with (h | h) | h
  ·exact .inl h
  ·exact .inr (.inl h)
  ·exact .inr (.inr h)
theorem vB {call:bo} (hcall:eh cx Bs call) (hb0:Bs H0 gs ws) (horc:jK cx) (hF:gk F) (hmx:cx.P.follows .mixedOrders=true) {f m:Nat} {ops:Array Oper} {k:E->St->Option R} {r:R} {Q:Exit->Act->World->Prop} (lU:tI ops N=true) (chkt:ft ops m=true)
  (hg:Good cx N mb lo H0 gs ws w0 s g a w) (hd:∀ o∈ops.toList,∀ d,o.dst=some d->d<N)
  (h:jr cx call f ops (ops.toList.take m) s (fun s=>fI cx call f lo ops (ops.toList.drop m) s k)=some r)
  (hk:∀ s' g' a' w',Good cx N mb lo H0 gs ws w0 s' g' a' w'->k .normal s'=some r->Q .normal a' w')
  (hp:∀ x s' g' a' w' c,Good cx N mb lo H0 gs ws w0 s' g' a' w'->VR s'.H g' w' x c->k (.pan x) s'=some r->Q (.panic [{ v:=c,recovered:=false }]) a' w'):LW F n cx.P ops Q a w:=by
 obtain ⟨z,hz,hzH,hzk,hfacts⟩:=rK hcall horc _ s h
 have hr:=hg.sr.rel
 have hget:∀ {i o},i<m->ops[i]? = some o->(ops.toList.take m)[i]? = some o:=fun {i o} him ho=>by
  rw[Yc,XX him,Yt]; exact ho
 have hget':∀ {i o},(ops.toList.take m)[i]? = some o->i<m/\ops[i]? = some o:=fun {i o} ho=>by
  rw[Yc] at ho
  split at ho
  ·rename_i him; exact⟨him,by rwa [Yt] at ho⟩
  ·cases ho
 have hdst:∀ {i o},ops[i]? = some o->cw ops i=o.dst:=fun {i o} ho=>by unfold cw; rw[ho]; rfl
 refine BJ (F:=F) ⟨hF.1,hF.2.1⟩ hmx N m hg.siz lU chkt (fun W=>Rel s.H g w0 W/\Ext s.H g w s.H g W) (fun W W'=>Ext s.H g W s.H g W') (fun i v W=>∀ t,cw ops i=some t->VR s.H g W (look z.fr t) v)
  (fun i v W W' hv he t ht=>VR.ext he _ _ (hv t ht)) ⟨hr.eK (Below.refl _ _).drew,Ext.below hr (Below.refl _ _).drew⟩ ?_ ?_
 ·rintro i o him ho a' W ⟨hrW,heW⟩ h1 h2 hsz
  obtain ⟨si,x,g1,g2,g3,g4,g5⟩:=hfacts i o (hget him ho)
  obtain ⟨c4,c5⟩:=mi lU ho
  have hlook:∀ t∈o.looksAt ops,VR s.H g W (look si.fr t) (a'.tmps.getD t undef):=fun t ht=>by
   by_cases hj:∃ j,cw ops j=some t/\fB ops i j=true
   ·obtain ⟨j,hjt,hjb⟩:=hj
    have hji:=np lU (fR i j hjb)
    have hv:=h1 t ht j hjt hjb t hjt
    rw[g3 t (fun j' o' hij' ho' hd'=>by
     obtain ⟨_,ho''⟩:=hget' ho'
     obtain ⟨c4',_⟩:=mi lU ho''
     exact c4' j t o3 hd' hjt)]
    exact hv
   ·have hno:∀ j,cw ops j=some t->fB ops i j=false:=fun j hjt=>by
     cases hb:fB ops i j with
     | false=>rfl
     | true=>exact absurd ⟨j,hjt,hb⟩ hj
    have hs:=h2 t ht hno
    unfold slot at hs
    rw[hs,g2 t (fun j o' hji ho' hd'=>by
     obtain ⟨hjm,ho''⟩:=hget' ho'
     have hjt:cw ops j=some t:=(hdst ho'').trans hd'
     rcases c5 j t hjt ht with h | h | h
     ·omega
     ·rw[hno j hjt] at h; cases h
     ·have:=np lU (fR j i h); omega)]
    exact VR.ext heW _ _ (hg.sr.fr t)
  have hopr:tn cx si g w0 o.op a'.eval W:=⟨by rw[g1]; exact hrW,fun y hy=>oG (fun t ht=>by
    rw[g1]
    refine hlook t ?_
    subst ht
    unfold Oper.looksAt
    exact Y4.2 (.inl (qaO.2 ⟨.tmp t,hy,rfl⟩))) (fun G vs hG=>by rw[g1]; exact(hg.sr.gl G vs hG).ext heW),fun _=>rfl⟩
  have hx:∀ t,cw ops i=some t->look z.fr t=x:=fun t ht=>g4 t ((hdst ho).symm.trans ht) (fun j o' hij ho' hd'=>by
   obtain ⟨_,ho''⟩:=hget' ho'
   exact c4 j t o3 ((hdst ho).symm.trans ht) ((hdst ho'').trans hd'))
  have run:pO cx Bs si o x->yq F n cx.P o a'.eval W (fun v w'=>(∀ t,cw ops i=some t->VR s.H g w' (look z.fr t) v)/\(Rel s.H g w0 w'/\Ext s.H g w s.H g w')/\Ext s.H g W s.H g w'):=fun hpo=>by
   refine(hpo F n g w0 W a'.eval hF hopr (fun G vs hG=>by rw[g1]; exact(hg.sr.gl G vs hG).ext heW) (by rw[g1]; exact hcall.up _ _ _ _ _ _ hb0 (hg.ext.trans heW))).mono ?_
   rintro v w' ⟨k1,k2,k3⟩
   rw[g1] at k1 k2 k3
   exact⟨fun t ht=>by rw[hx t ht]; exact k1,⟨k2,heW.trans k3⟩,k3⟩
  rcases g5 with ⟨hgd,hpo⟩ | ⟨t,want,hgs,hor⟩
  ·rw[XX (by simp[Region.wanted,hgd])]
   exact run hpo
  ·have htl:t∈o.looksAt ops:=by
    rw[jw] at hgs
    unfold Oper.looksAt
    split at hgs
    ·rename_i j want' hgd
     cases hdj:(ops[j]?).bind (·.dst) with
     | none=>rw[hdj] at hgs; cases hgs
     | some t'=>
      rw[hdj] at hgs
      cases hgs
      refine Y4.2 (.inr ?_)
      rw[hgd]
      simp[hdj]
    ·cases hgs
   have hv:=hlook t htl
   have sk:x=.v undef->(∀ t',cw ops i=some t'->VR s.H g W (look z.fr t') undef)/\(Rel s.H g w0 W/\Ext s.H g w s.H g W)/\Ext s.H g W s.H g W:=fun hcond=>
    ⟨fun t' ht'=>by rw[hx t' ht',hcond,VR],⟨hrW,heW⟩,Ext.refl hrW⟩
   rcases hor with ⟨b,hlb,hcond⟩ | ⟨⟨y,hlb⟩,hcond⟩
   ·rw[hlb,VR] at hv
    rw[jR hgs hv]
    split at hcond
    ·rename_i hbw
     rw[XX hbw]
     exact run hcond
    ·rename_i hbw
     rw[XW hbw]
     exact sk hcond
   ·rw[hlb,VR] at hv
    rw[lZ hgs hv,XW r8]
    exact sk hcond
 ·rintro a' W ⟨hrW,heW⟩ hdf hsz hv hno _
  refine fJ (f:=f) (ops:=ops) hcall hb0 horc hF hk hp _ z g a' W (fun o ho=>hd o (Yo ho)) ⟨⟨by rw[hzH]; exact hrW,fun t=>?_,fun G vs hG=>by rw[hzH]; exact(hg.sr.gl G vs hG).ext heW⟩,by rw[hzH]; exact hg.ext.trans heW,by rw[hzH]; exact hg.len,by rw[hzH]; exact hg.low,hsz,(by rw[hdf]; exact hg.dfr.mc heW.kept),Yb hg.mbw heW.size,hg.st⟩ hz
  rw[hzH]
  by_cases ht:∃ i,i<m/\cw ops i=some t
  ·obtain ⟨i,him,hit⟩:=ht
   exact hv i t him hit t hit
  ·have hs:=hno t (fun i him hit=>ht ⟨i,him,hit⟩)
   unfold slot at hs
   rw[hs,hzk t (fun o ho hd'=>by
    obtain ⟨i,hi,rfl⟩:=YI ho
    obtain ⟨him,ho'⟩:=hget' (XN hi)
    exact ht ⟨i,him,(hdst ho').trans hd'⟩)]
   exact VR.ext heW _ _ (hg.sr.fr t)
end
section
variable {cx:Cx} {call:bo} {f:Nat} {ops:Array Oper}
def mG (cx:Cx) (call:bo) (f:Nat) (ops:Array Oper) (o:Oper) (s:St):Option A:=match o.guard with
 | none=>gS cx call f o s
 | some _=>match cd ops o with
  | none=>none
  | some (g,w)=>pA (look s.fr g) w (gS cx call f o s) (some (.v undef))
theorem qS {β:Type} {o:Oper} {s:St} (k:A->Option β):rO cx call f o s k=(gS cx call f o s).bind k:=by
 have one:(bQ cx f 0 o s fun a _=>k a)=(bQ cx f 0 o s fun a _=>some a).bind k:=by
  rw[iB,iB (k:=fun a _=>some a),Yw]; rfl
 unfold rO gS
 split
 ·rfl
 ·rfl
 ·rfl
 ·rfl
 ·rfl
 ·rfl
 ·rfl
 ·rfl
 ·rfl
 ·rw[bG,bG]
  split
  ·rw[vw,vw]; simp only[Yw,XM]
  ·split
   ·exact one
   ·rfl
 ·exact one
theorem te {β:Type} {r:β}:∀ (ds:List Nat) (l:List A) (k:List (Nat×A)->Option β),G3 ds l k=some r->∃ fr l',fr.map (·.1)=ds/\l=fr.map (·.2)++l'/\k fr=some r
 | [],l,k,h=>⟨[],l,rfl,rfl,h⟩
 | d :: ds,[],k,h=>by cases h
 | d :: ds,a :: l,k,h=>by
  obtain ⟨fr,l',h1,h2,h3⟩:=te ds l _ h
  exact⟨(d,a) :: fr,l',by simp[h1],by simp[h2],h3⟩
theorem zf:∀ {a b:List (Nat×A)} {l':List A},a.map (·.1)=b.map (·.1)->a.map (·.2)=b.map (·.2)++l'->a=b
 | [],[],_,_,_=>rfl
 | [],_ :: _,_,h,_=>by simp at h
 | _ :: _,[],_,h,_=>by simp at h
 | (x,y) :: a,(z,t) :: b,l',h,k=>by
  simp only[YW,YJ,Yz] at h k
  obtain ⟨rfl,h⟩:=h
  obtain ⟨rfl,k⟩:=k
  rw[zf h k]
theorem sG (dl:List (Nat×A)) (s:St) (o:Oper) (x:A):(eD dl s).put o.dst x=eD (yU o.dst x dl) s:=by
 cases o.dst<;>rfl
theorem Ep (s:St):eD [] s=s:=rfl
theorem uH (a b:List (Nat×A)) (s:St):eD a (eD b s)=eD (a++b) s:=by simp[eD]
theorem nB {t:Nat}:∀ {dl:List (Nat×A)} {s:St},jq t (dl.map (·.1))=false->look (eD dl s).fr t=look s.fr t
 | [],s,_=>rfl
 | (d,x) :: dl,s,h=>by
  simp only[YW,jq,bG] at h
  split at h
  ·cases h
  ·rename_i hd
   show look ((d,x) :: (dl++s.fr)) t=_
   rw[ez,XW (fun e=>hd (by simp[e]))]
   exact nB (dl:=dl) (s:=s) h
theorem ja (t:Nat):∀ (a b:List Nat),jq t (a++b)=(jq t a || jq t b)
 | [],b=>rfl
 | x :: a,b=>by
  simp only[Yz,jq,bG]
  split
  ·rfl
  ·exact ja t a b
def tX (ops:Array Oper) (g:Nat) (w:Bool):List Nat->List Oper->Prop
 | _,[]=>True
 | ds,o :: os=>sf ops g w ds o=true/\tX ops g w (kq o++ds) os
theorem eO (g:Nat) (w:Bool):∀ (os:List Oper) (ds:List Nat),os=(b8 ops g w ds os).1++(b8 ops g w ds os).2/\tX ops g w ds (b8 ops g w ds os).1
 | [],ds=>⟨rfl,trivial⟩
 | o :: os,ds=>by
  unfold b8
  rw[bG]
  split
  ·rename_i h
   obtain ⟨h1,h2⟩:=eO g w os (kq o++ds)
   exact⟨by rw[Yz,<-h1],h,h2⟩
  ·exact⟨rfl,trivial⟩
theorem sj {g:Nat} {w:Bool} {ds:List Nat} {o:Oper} (h:sf ops g w ds o=true):o.guard≠none/\jq g (kq o)=false/\∃ t w',cd ops o=some (t,w')/\((t=g/\w'=w)∨jq t ds=true):=by
 unfold sf at h
 split at h
 ·cases h
 ·rename_i q hq
  split at h
  ·cases h
  ·rename_i t w' hgs
   rw[bG] at h
   split at h
   ·cases h
   ·rename_i hm
    refine⟨by rw[hq]; simp,by simpa using hm,t,w',hgs,?_⟩
    rw[bG] at h
    split at h
    ·rename_i hb
     refine .inl ⟨X3 hb,?_⟩
     cases w<;>cases w'<;>simp at h<;>rfl
    ·exact .inr h
theorem tX.out {g:Nat} {w:Bool}:∀ {ds:List Nat} {os:List Oper},tX ops g w ds os->(∀ o∈os,jq g (kq o)=false/\o.guard≠none)/\jq g (il os)=false
 | _,[],_=>⟨fun o ho=>(by cases ho),rfl⟩
 | ds,o :: os,h=>by
  obtain ⟨h1,h2⟩:=sj h.1
  obtain ⟨h3,h4⟩:=tX.out h.2
  refine⟨fun o' ho'=>?_,?_⟩
  ·rcases YC.1 ho' with rfl | ho'
   ·exact⟨h2.1,h1⟩
   ·exact h3 o' ho'
  ·rw[il,ja,h4,h2.1]; rfl
variable {X:Type} {E:List Oper->St->Option X} {Q:Oper->Prop}
theorem AX (hE:∀ o os s,Q o->E (o :: os) s=(mG cx call f ops o s).bind fun x=>E os (s.put o.dst x)) {g:Nat} {w:Bool} (rest:List Oper):∀ (os:List Oper) (ds:List Nat) (dl:List (Nat×A)) (s:St),tX ops g w ds os->(∀ o∈os,Q o)->(look (eD dl s).fr g=.v (.bool (!w))∨∃ y,look (eD dl s).fr g=.v (.tuple y)) ->
  (∀ t,jq t ds=true->look (eD dl s).fr t=.v undef)->E (os++rest) (eD dl s)=E rest (eD (qk (il os)++dl) s)
 | [],ds,dl,s,_,_,_,_=>rfl
 | o :: os,ds,dl,s,hr,hq,hg,hd=>by
  obtain ⟨hgd,hm,t,w',hgs,hor⟩:=sj hr.1
  have hv:mG cx call f ops o (eD dl s)=some (.v undef):=by
   unfold mG
   cases hgu:o.guard with
   | none=>exact absurd hgu hgd
   | some q=>
    rw[hgs]
    rcases hor with ⟨rfl,rfl⟩ | hmem
    ·rcases hg with hg | ⟨y,hg⟩
     ·simp only[hg,pA]; cases w'<;>rfl
     ·simp only[hg,pA]
    ·simp only[hd t hmem,undef,pA]
  rw[Yz,hE o _ _ (hq o r8),hv,XM,sG]
  have hlk:∀ t,look (eD (yU o.dst (.v undef) dl) s).fr t=if jq t (kq o)=true then .v undef else look (eD dl s).fr t:=fun t=>by
   cases hdo:o.dst with
   | none=>simp[kq,hdo,jq,yU]
   | some d=>
    show look ((d,.v undef) :: (dl++s.fr)) t=_
    rw[ez]
    simp only[kq,hdo,jq,bG]
    by_cases e:d=t
    ·subst e; simp
    ·rw[XW e]
     rw[XW (by simp[e])]
     rfl
  rw[AX hE rest os (kq o++ds) _ s hr.2 (fun o' ho'=>hq o' (by simp[ho'])) (by rw[hlk,XW (by simp[hm])]; exact hg) (fun t ht=>?_)]
  ·congr 2
   cases hdo:o.dst with
   | none=>simp[il,kq,hdo,yU]
   | some d=>simp[il,kq,hdo,qk,yU]
  ·rw[hlk]
   split
   ·rfl
   ·rename_i hn
    rw[ja] at ht
    exact hd t (by simpa [hn] using ht)
theorem mU:∀ (a b:List Oper),il (a++b)=il b++il a
 | [],b=>by simp[il]
 | o :: a,b=>by simp[il,mU a b]
theorem vA {asm:Option (Nat×Bool)} {g d:Nat} {a b:Operand} {os:List Oper} (h:vz ops asm g os=some (d,a,b)):∃ o os',os=o :: os'/\sH ops asm o=true/\o.op=.pick (.tmp g) a b/\o.dst=some d:=by
 unfold vz at h
 split at h
 ·rename_i o os'
  rw[bG] at h
  split at h
  ·rename_i hp
   split at h
   ·rename_i t x y d' ho hd
    rw[bG] at h
    split at h
    ·rename_i ht
     cases h
     exact⟨o,os',rfl,hp,by rw[ho,X3 ht],hd⟩
    ·cases h
   ·cases h
  ·cases h
 ·cases h
theorem sI {asm:Option (Nat×Bool)} {o:Oper} {s:St} (h:sH ops asm o=true) (ha:∀ g w,asm=some (g,w)->look s.fr g=.v (.bool w)):mG cx call f ops o s=gS cx call f o s:=by
 unfold sH at h
 unfold mG
 split at h
 ·rename_i hg; rw[hg]
 ·rename_i q hq
  split at h
  ·rename_i g w t w' hgs
   rw[bG] at h
   split at h
   ·rename_i ht
    have:=X3 ht
    subst this
    rw[hq,hgs]
    simp only[ha t w rfl,pA]
    cases w<;>cases w'<;>first | rfl | (simp at h)
   ·cases h
  ·cases h
theorem sa (hE:∀ o os s,Q o->E (o :: os) s=(mG cx call f ops o s).bind fun x=>E os (s.put o.dst x)) (hpick:∀ o c a b,o.op=.pick c a b->Q o) {β:Type} {r:β} {asm:Option (Nat×Bool)} {g:Nat} {w:Bool} {os:List Oper} {s:St} {vals:Option (Nat×Operand)->List Oper->Option (List A)} {k:List Oper->List (Nat×A)->Option β}
  (hq:∀ o∈(b8 ops g w [] os).1,Q o) (ha:∀ g w,asm=some (g,w)->look s.fr g=.v (.bool w)/\∀ o∈os,jq g (kq o)=false)
  (hv:look s.fr g=.v (.bool w)->∀ fin l,vals fin (b8 ops g w [] os).1=some l->∃ dl,l=(xn cx fin dl s).map (·.2)/\dl.map (·.1)=il (b8 ops g w [] os).1/\∀ rest,E ((b8 ops g w [] os).1++rest) s=E rest (eD dl s))
  (h:LV ops asm g w os s vals (OV cx s) k=some r):∃ pre rest fr,os=pre++rest/\k rest fr=some r/\fr.map (·.1)=il pre/\∀ rest',E (pre++rest') s=E rest' (eD fr s):=by
 obtain ⟨hsp,hrun⟩:=eO (ops:=ops) g w os []
 obtain ⟨hro,hgn⟩:=hrun.out
 have hskip:(look s.fr g=.v (.bool (!w))∨∃ y,look s.fr g=.v (.tuple y))->∀ rest,E ((b8 ops g w [] os).1++rest) s=E rest (eD (qk (il (b8 ops g w [] os).1)) s):=fun hg rest=>by
  have:=AX hE rest _ [] [] s hrun hq hg (fun t ht=>by cases ht)
  simpa [Ep] using this
 have hmu:∀ ds:List Nat,(qk ds).map (·.1)=ds:=fun ds=>by simp[qk,Function.comp_def]
 unfold LV at h
 split at h
 ·rename_i d a b hep
  obtain ⟨o,os',hrest,hpl,hop,hdst⟩:=vA hep
  obtain ⟨l,hl,h⟩:=bE h
  obtain ⟨fr,l',e1,e2,e3⟩:=te _ _ _ h
  obtain ⟨bb,hb,hl⟩:=oY hl
  rw[hrest,List.tail_cons] at e3
  have fin:∀ (dl:List (Nat×A)) (x:Operand),l=(xn cx (some (d,x)) dl s).map (·.2)->dl.map (·.1)=il (b8 ops g w [] os).1->(∀ rest,E ((b8 ops g w [] os).1++rest) s=E rest (eD dl s))->x=(if bb then a else b) ->
    ∃ pre rest fr,os=pre++rest/\k rest fr=some r/\fr.map (·.1)=il pre/\∀ rest',E (pre++rest') s=E rest' (eD fr s):=by
   intro dl x h1 h2 h3 h4
   have hfr:xn cx (some (d,x)) dl s=fr:=zf (l':=l') (by rw[e1]; simp[xn,h2]) (by rw[<-h1,e2])
   refine⟨(b8 ops g w [] os).1++[o],os',fr,?_,e3,?_,?_⟩
   ·rw[Yx,Zn,<-hrest]; exact hsp
   ·rw[e1,mU]; simp[il,kq,hdst]
   ·intro rest'
    rw[Yx,Zn,h3,hE o _ _ (hpick o _ _ _ hop)]
    have hgl:look (eD dl s).fr g=.v (.bool bb):=by rw[nB (by rw[h2]; exact hgn),hb]
    have hval:mG cx call f ops o (eD dl s)=gS cx call f o (eD dl s):=sI hpl fun g' w' hga=>by
     obtain ⟨ha1,ha2⟩:=ha g' w' hga
     rw[nB ?_,ha1]
     rw[h2]
     have:∀ (l:List Oper),(∀ o∈l,jq g' (kq o)=false)->jq g' (il l)=false:=by
      intro l
      induction l with
      | nil=>intro _; rfl
      | cons o' l ih=>intro hh; rw[il,ja,ih (fun o'' ho''=>hh o'' (by simp[ho''])),hh o' r8]; rfl
     exact this _ fun o' ho'=>ha2 o' (by rw[hsp]; simp[ho'])
    rw[hval]
    have:gS cx call f o (eD dl s)=some (cg cx (eD dl s) x):=by
     unfold gS
     rw[hop]
     show cC (cg cx (eD dl s) (.tmp g)) _ _=_
     rw[show cg cx (eD dl s) (.tmp g)=.v (.bool bb) from hgl]
     subst h4
     cases bb<;>rfl
    rw[this,XM,sG,hdst]
    show E rest' (eD ((d,cg cx (eD dl s) x) :: dl) s)=_
    rw[<-hfr]; rfl
  cases bb with
  | true=>
   rw[XX rfl] at hl
   cases w with
   | true=>
    obtain ⟨dl,h1,h2,h3⟩:=hv hb _ _ hl
    exact fin dl a h1 h2 h3 rfl
   | false=>
    cases hl
    exact fin _ a rfl (hmu _) (hskip (.inl hb)) rfl
  | false=>
   rw[XW r8] at hl
   cases w with
   | true=>
    cases hl
    exact fin _ b rfl (hmu _) (hskip (.inl hb)) rfl
   | false=>
    obtain ⟨dl,h1,h2,h3⟩:=hv hb _ _ hl
    exact fin dl b h1 h2 h3 rfl
 ·obtain ⟨l,hl,h⟩:=bE h
  obtain ⟨fr,l',e1,e2,e3⟩:=te _ _ _ h
  have fin:∀ (dl:List (Nat×A)),l=(xn cx none dl s).map (·.2)->dl.map (·.1)=il (b8 ops g w [] os).1->(∀ rest,E ((b8 ops g w [] os).1++rest) s=E rest (eD dl s)) ->
    ∃ pre rest fr,os=pre++rest/\k rest fr=some r/\fr.map (·.1)=il pre/\∀ rest',E (pre++rest') s=E rest' (eD fr s):=by
   intro dl h1 h2 h3
   have hfr:dl=fr:=zf (l':=l') (by rw[e1,h2]) (by rw[<-e2,h1]; rfl)
   subst hfr
   exact⟨_,_,dl,hsp,e3,h2,h3⟩
  rcases m6 hl with ⟨bb,hb,hl⟩ | ⟨y,hb,hl⟩
  ·split at hl
   ·rename_i hbw
    have hbw:bb=w:=by simpa using hbw
    subst hbw
    obtain ⟨dl,h1,h2,h3⟩:=hv hb _ _ hl
    exact fin dl h1 h2 h3
   ·rename_i hbw
    have hbw:bb = !w:=by cases bb<;>cases w<;>simp at hbw ⊢
    subst hbw
    cases hl
    exact fin _ rfl (hmu _) (hskip (.inl hb))
  ·cases hl
   exact fin _ rfl (hmu _) (hskip (.inr ⟨y,hb⟩))
theorem iX (hE:∀ o os s,Q o->E (o :: os) s=(mG cx call f ops o s).bind fun x=>E os (s.put o.dst x)) (hpick:∀ o c a b,o.op=.pick c a b->Q o):∀ (q:Nat) (asm:Option (Nat×Bool)) (fin:Option (Nat×Operand)) (os:List Oper) (dl:List (Nat×A)) (s:St) (l:List A),n9 cx call f ops q asm fin os dl s=some l->(∀ o∈os,Q o) ->
  (∀ g w,asm=some (g,w)->look (eD dl s).fr g=.v (.bool w)/\∀ o∈os,jq g (kq o)=false) ->
  ∃ dl',l=(xn cx fin dl' s).map (·.2)/\dl'.map (·.1)=il os++dl.map (·.1)/\∀ rest,E (os++rest) (eD dl s)=E rest (eD dl' s)
 | 0,_,_,_,_,_,_,h,_,_=>by cases h
 | q+1,asm,fin,[],dl,s,l,h,_,_=>by cases h; exact⟨dl,rfl,rfl,fun _=>rfl⟩
 | q+1,asm,fin,o :: os,dl,s,l,h,hq,ha=>by
  unfold n9 at h
  rw[bG] at h
  split at h
  ·rename_i hpl
   rw[qS] at h
   obtain ⟨x,hx,h⟩:=bE h
   obtain ⟨dl',h1,h2,h3⟩:=iX hE hpick q asm fin os _ s l h (fun o' ho'=>hq o' (by simp[ho'])) (fun g w hg=>by
    obtain ⟨k1,k2⟩:=ha g w hg
    refine⟨?_,fun o' ho'=>k2 o' (by simp[ho'])⟩
    have hm:=k2 o r8
    cases hd:o.dst with
    | none=>exact k1
    | some d=>
     simp only[kq,hd] at hm
     show look ((d,x) :: (dl++s.fr)) g=_
     rw[ez,XW (fun e=>by simp[jq,e] at hm)]
     exact k1)
   refine⟨dl',h1,?_,fun rest=>?_⟩
   ·rw[h2]
    cases hd:o.dst<;>simp[il,kq,hd,yU]
   ·rw[Yz,hE o _ _ (hq o r8),sI hpl (fun g w hg=>(ha g w hg).1),hx,XM,sG,h3]
  ·split at h
   ·cases h
   ·rename_i t w hgs
    obtain ⟨_,h⟩:=bu h
    obtain ⟨pre,rest,fr,h1,h2,h3,h4⟩:=sa (E:=fun os' s'=>E os' s') hE hpick (fun o' ho'=>hq o' (by
     rw[(eO (ops:=ops) t w (o :: os) []).1]; simp[ho'])) ha (fun hlk fin' l' hl'=>by
     obtain ⟨dl2,k1,k2,k3⟩:=iX hE hpick q (some (t,w)) fin' _ [] (eD dl s) l' hl' (fun o' ho'=>hq o' (by
      rw[(eO (ops:=ops) t w (o :: os) []).1]; simp[ho'])) (fun g' w' hg'=>by
      cases hg'
      exact⟨hlk,fun o' ho'=>((eO (ops:=ops) t w (o :: os) []).2.out.1 o' ho').1⟩)
     exact⟨dl2,k1,by simpa using k2,k3⟩) h
    rw[h1] at hq ha ⊢
    have hnm:∀ g,(∀ o∈pre,jq g (kq o)=false)->jq g (il pre)=false:=by
     intro g
     clear h1 h2 h3 h4 hq ha
     induction pre with
     | nil=>intro _; rfl
     | cons o' l ih=>intro hh; rw[il,ja,ih (fun o'' ho''=>hh o'' (by simp[ho''])),hh o' r8]; rfl
    obtain ⟨dl',k1,k2,k3⟩:=iX hE hpick q asm fin rest (fr++dl) s l h2 (fun o' ho'=>hq o' (by simp[ho'])) (fun g' w' hg'=>by
     obtain ⟨m1,m2⟩:=ha g' w' hg'
     refine⟨?_,fun o' ho'=>m2 o' (by simp[ho'])⟩
     rw[<-uH,nB (by rw[h3]; exact hnm g' fun o' ho'=>m2 o' (by simp[ho']))]
     exact m1)
    refine⟨dl',k1,by rw[k2,mU]; simp[h3],fun rest'=>?_⟩
    rw[Yx,h4,uH,k3]
end
section
open Go.RowKit
variable {P:Program} {H H':aC} {g g':Gh} {w0 w w':World} {cx:Cx} {s:St} {z:Nat->Bool} {f lo:Nat}
def b9 (z:Nat->Bool) (H:aC):aC:=H.mapIdx fun b B=>bif z b then .hole else B
theorem fo (z:Nat->Bool) (H:aC) (b:Nat):(b9 z H)[b]? = (H[b]?).map fun B=>bif z b then .hole else B:=by simp[b9,List.getElem?_mapIdx]
theorem df (z:Nat->Bool) (H:aC):(b9 z H).length=H.length:=by simp[b9]
theorem eX {b:Nat} (h:z b=false):(b9 z H)[b]? = H[b]?:=by rw[fo,h]; cases H[b]?<;>rfl
theorem sz {b:Nat} {B:aO} (h:z b=true) (hB:H[b]? = some B):(b9 z H)[b]? = some .hole:=by rw[fo,h,hB]; rfl
theorem fL {B:aO} (h:z H.length=false):b9 z (H++[B])=b9 z H++[B]:=by
 refine Zk fun b=>?_
 rw[fo]
 by_cases hb:b<H.length
 ·rw[X6 hb,X6 (by rw[df]; exact hb),fo]
 ·by_cases e:b=H.length
  ·subst e
   rw[Yr (XP _),Yr (by rw[df]; exact XP _),df,h]
   simp
  ·rw[YT r9,YT (by simp[df]; omega)]
   rfl
theorem lB {b:Nat} {B:aO} (h:z b=false):b9 z (H.set b B)=(b9 z H).set b B:=by
 refine Zk fun c=>?_
 rw[fo,ZH,ZH,df]
 by_cases e:b=c
 ·subst e
  rw[XX rfl,XX rfl,h]
  split<;>rfl
 ·rw[XW e,XW e,fo]
theorem zv {z':Nat->Bool} {b:Nat} {B:aO} (hB:H[b]? = some B) (h1:z' b=false) (h2:∀ c,c≠b->z' c=z c):b9 z' H=(b9 z H).set b B:=by
 refine Zk fun c=>?_
 rw[fo,ZH,df]
 by_cases e:b=c
 ·subst e
  rw[XX rfl,XX (XS.1 hB).1,h1,hB]
  rfl
 ·rw[XW e,fo,h2 c (YS e)]
theorem sy (h:∀ b,z b=false):b9 z H=H:=by
 refine Zk fun c=>?_
 rw[fo,h]
 cases H[c]?<;>rfl
theorem tZ {a:A} {c:Value} {b:Nat} (h:VR H g w a c) (hb:blk? a=some b):∃ B,H[b]? = some B/\B≠.hole:=by
 cases a with
 | ptr b' o=>
  cases hb
  rw[VR] at h
  cases hq:H[b]? with
  | none=>rw[hq] at h; exact h.elim
  | some B=>rw[hq] at h; exact⟨B,rfl,fun e=>by subst e; exact h.elim⟩
 | ep b' i o=>
  cases hb
  rw[VR] at h
  cases hq:H[b]? with
  | none=>rw[hq] at h; exact h.elim
  | some B=>rw[hq] at h; exact⟨B,rfl,fun e=>by subst e; exact h.elim⟩
 | sl b' o n cl=>
  cases hb
  rw[VR] at h
  cases hq:H[b]? with
  | none=>rw[hq] at h; exact h.elim
  | some B=>rw[hq] at h; exact⟨B,rfl,fun e=>by subst e; exact h.elim⟩
 | mr b'=>
  cases hb
  rw[VR] at h
  cases hq:H[b]? with
  | none=>rw[hq] at h; exact h.elim
  | some B=>rw[hq] at h; exact⟨B,rfl,fun e=>by subst e; exact h.elim⟩
 | _=>cases hb
theorem Af {a:A} {c:Value} {b:Nat} (h:VR (b9 z H) g w a c) (hb:blk? a=some b):z b=false:=by
 obtain ⟨B,h1,h2⟩:=tZ h hb
 cases hz:z b with
 | false=>rfl
 | true=>
  rw[fo,hz] at h1
  cases hq:H[b]? with
  | none=>rw[hq] at h1; cases h1
  | some B'=>rw[hq] at h1; cases h1; exact absurd rfl h2
theorem Rel.DF:∀ (q:Nat) {H:aC} {g:Gh},Rel H g w0 w->∃ g',Rel (H++List.replicate q .hole) g' w0 w/\Ext H g w (H++List.replicate q .hole) g' w/\g'.S=g.S
 | 0,H,g,hr=>⟨g,by simpa using hr,by simpa using Ext.refl hr,rfl⟩
 | q+1,H,g,hr=>by
  obtain ⟨h1,h2⟩:=hr.push (Below.refl _ w) .hole none [] (fun k hk=>by cases hk) (fun _=>Gh.bJ _ _ _ _)
  obtain ⟨g',e1,e2,e3⟩:=Rel.DF q h1
  have e:H++List.replicate (q+1) aO.hole=H++[.hole]++List.replicate q .hole:=by rw[List.replicate_succ,Yx]; rfl
  rw[e]
  exact⟨g',e1,h2.trans e2,e3⟩
theorem Rel.fill (hr:Rel H g w0 w) {w':World} (hb:Below w.heap.size w w') {b:Nat} (hB0:H[b]? = some .hole) {cs:List A} {arr:Array Value} {ty:TypeId} (hw:w'.heap[w.heap.size]? = some (.cells arr ty (0,0)))
  (hv:Ext H g w (H.set b (.box cs)) (g.put b (some w.heap.size) []) w'->bB (H.set b (.box cs)) (g.put b (some w.heap.size) []) w' cs arr.toList) :
  Rel (H.set b (.box cs)) (g.put b (some w.heap.size) []) w0 w'/\Ext H g w (H.set b (.box cs)) (g.put b (some w.heap.size) []) w':=by
 have hsz:w.heap.size<w'.heap.size:=(XU.1 hw).1
 have hbl:b<H.length:=(XS.1 hB0).1
 have hget:∀ c,c≠b->(H.set b (.box cs))[c]? = H[c]?:=fun c hc=>X4 (YS hc)
 have hgetb:(H.set b (aO.box cs))[b]? = some (.box cs):=by rw[Yf (by simpa using hbl)]
 have hmub:g.mu b=none:=hr.blk b _ hB0
 have he:Ext H g w (H.set b (.box cs)) (g.put b (some w.heap.size) []) w':=by
  refine⟨fun k o v hs hc=>?_,fun c B' hB'=>?_,fun k o ho=>(hb.block k (XU.1 ho).1).trans ho,hb.size,fun k marr cl hs hm=>?_,fun k hk _=>hb.block k hk,fun c k h=>?_⟩
  rotate_right 1
  ·by_cases e:c=b
   ·subst e; rw[Gh.bJ] at h; cases h; exact .inr (XP _)
   ·exact .inl ⟨c,by rwa [Gh.aI _ _ _ e] at h⟩
  ·have hlt:=Zu w ⟨k,o,none⟩ hc
   refine⟨(hb.cell (p:=⟨k,o,none⟩) hlt).trans hc,hs.1,fun c hck=>?_⟩
   have hne:c≠b:=fun e=>by subst e; rw[Gh.bJ] at hck; cases hck; exact absurd hlt (ZI _)
   rw[Gh.aI _ _ _ hne] at hck
   obtain ⟨es,els,h3,h4⟩:=hs.2 c hck
   exact⟨es,els,by rw[hget c hne]; exact h3,h4⟩
  ·by_cases e:c=b
   ·subst e
    rw[hB0] at hB'; cases hB'
    exact⟨_,hgetb,trivial⟩
   ·refine⟨B',by rw[hget c e]; exact hB',?_⟩
    cases B' with
    | box _=>exact Gh.aI _ _ _ e
    | row wr es els=>cases wr with
     | true=>exact⟨rfl,rfl,Gh.aI _ _ _ e,fun k arr ty hk' ha=>⟨arr,dS hb ha,XP _⟩⟩
     | false=>exact⟨rfl,⟨[],by rw[Gh.eB _ _ _ e]; simp⟩,(hr.blk c _ hB').len,XP _,fun _=>⟨Gh.aI _ _ _ e,fun k arr ty hk' ha=>⟨arr,dS hb ha,XP _⟩⟩⟩
    | rng _=>exact⟨Gh.aI _ _ _ e,rfl⟩
    | mp _ _ _=>exact Gh.aI _ _ _ e
    | dead=>trivial
    | hole=>trivial
  ·have hlt:=(XU.1 hm).1
   refine⟨(hb.block k hlt).trans hm,hs.1,fun c hck=>?_⟩
   have hne:c≠b:=fun e=>by subst e; rw[Gh.bJ] at hck; cases hck; exact absurd hlt (ZI _)
   rw[Gh.aI _ _ _ hne] at hck
   obtain ⟨es,els,h3,h4⟩:=hs.2 c hck
   exact⟨es,els,by rw[hget c hne]; exact h3,h4⟩
 refine⟨⟨hr.below.trans (hb.mono hr.below.size),fun c k hck=>?_,fun c d k h1 h2=>?_,hr.xW he,hr.wa he,fun c B' hB'=>?_⟩,he⟩
 ·by_cases e:c=b
  ·subst e; rw[Gh.bJ] at hck; cases hck
   exact⟨by simpa using hbl,hr.below.size,hsz⟩
  ·rw[Gh.aI _ _ _ e] at hck
   obtain ⟨h1,h2,h3⟩:=hr.dom c k hck
   exact⟨by simpa using h1,h2,X5 h3 hb.size⟩
 ·by_cases e:c=b
  ·by_cases e':d=b
   ·rw[e,e']
   ·subst e
    rw[Gh.bJ] at h1; cases h1
    rw[Gh.aI _ _ _ e'] at h2
    exact absurd (hr.dom d _ h2).2.2 (ZI _)
  ·by_cases e':d=b
   ·subst e'
    rw[Gh.bJ] at h2; cases h2
    rw[Gh.aI _ _ _ e] at h1
    exact absurd (hr.dom c _ h1).2.2 (ZI _)
   ·rw[Gh.aI _ _ _ e] at h1
    rw[Gh.aI _ _ _ e'] at h2
    exact hr.inj c d k h1 h2
 ·by_cases e:c=b
  ·subst e
   rw[hgetb] at hB'; cases hB'
   exact⟨w.heap.size,arr,ty,Gh.bJ _ _ _ _,hw,hv he⟩
  ·rw[hget c e] at hB'
   have h:=hr.blk c B' hB'
   cases B' with
   | box cs=>obtain ⟨k,arr,ty,h1,h2,h3⟩:=h; exact⟨k,arr,ty,(Gh.aI _ _ _ e).trans h1,dS hb h2,bB.ext he _ _ h3⟩
   | row wr es els=>cases wr with
    | true=>
     obtain ⟨ds,h1,h2,h3⟩:=h
     exact⟨ds,bw.ext he _ _ h1,h2,fun hp=>let ⟨k,arr,ty,e1,e2,e3⟩:=h3 hp; ⟨k,arr,ty,(Gh.aI _ _ _ e).trans e1,dS hb e2,e3⟩⟩
    | false=>
     obtain ⟨h1,h2⟩:=h
     refine⟨?_,?_⟩
     ·rw[Gh.eB _ _ _ e]; exact bw.ext he _ _ h1
     ·rw[Gh.eB _ _ _ e]; exact h2
   | rng st=>obtain ⟨k,h1,h2⟩:=h; exact⟨k,(Gh.aI _ _ _ e).trans h1,dS hb h2⟩
   | mp _ _ _=>obtain ⟨k,arr,cl,h1,h2,h3,h4⟩:=h; exact⟨k,arr,cl,(Gh.aI _ _ _ e).trans h1,dS hb h2,h3,bB.ext he _ _ h4⟩
   | dead=>exact(Gh.aI _ _ _ e).trans h
   | hole=>exact(Gh.aI _ _ _ e).trans h
theorem yJ (hr:Rel H g w0 w) {t:TypeId} {b:Nat} {cs:List A} (hB0:H[b]? = some .hole) (hz:gR P t=some cs) :
  ∃ d w' g',(Instr.alloc t true (.tuple #[])).run P w=.ok d w'/\Rel (H.set b (.box cs)) g' w0 w'/\Ext H g w (H.set b (.box cs)) g' w'/\VR (H.set b (.box cs)) g' w' (.ptr b 0) d/\g'.S=g.S:=by
 obtain ⟨i,z,hi,hzz,rfl⟩:=fP hz
 have hb:Below w.heap.size w (w.alloc (.cells z.cells t)):=(Below.refl _ w).alloc (XP _) _
 obtain ⟨h1,h2⟩:=hr.fill hb hB0 (cs:=z.cells.toList.map zx) (Zi w _) (fun he=>jz _)
 refine⟨.pointer (some ⟨w.heap.size,0,none⟩),_,_,by simp[Instr.alloc,zeroValue,typeInfo,hi,hzz,newVar,newRow,newObj]; rfl,h1,h2,?_,rfl⟩
 rw[VR,Yf (by simpa using (XS.1 hB0).1)]
 exact⟨w.heap.size,Gh.bJ _ _ _ _,rfl⟩
def fX (H:aC) (b:Nat):Option (List (List A)):=match H[b]? with | some (.row false _ els)=>some els | _=>none
theorem uJ {H:aC} {b:Nat} {C:aO} (h:H[b]? = some C) (hC:∀ es els,C≠aO.row false es els):fX H b=none:=by
 unfold fX
 rw[h]
 cases C with
 | row wr es els=>cases wr with
  | true=>rfl
  | false=>exact absurd rfl (hC es els)
 | _=>rfl
theorem sW {H H':aC} (h:∀ b,fX H b=fX H' b):∀ q,iv q H=iv q H'
 | 0=>rfl
 | q+1=>by
  funext b o m
  have hb:=h b
  have gen:∀ K:aC,iv (q+1) K b o m=match fX K b with | some els=>.imm (dh (iv q K) ((els.drop o).take m)) false | none=>.any:=fun K=>by
   unfold iv fX
   cases K[b]? with
   | none=>rfl
   | some B=>cases B with
    | row wr es els=>cases wr<;>rfl
    | _=>rfl
  rw[gen H,gen H',hb,sW h q]
theorem qe {H H':aC} (h:∀ b,fX H b=fX H' b):snap H=snap H':=by
 funext a
 unfold snap
 rw[sW h 4]
theorem uu {H H':aC} (h:∀ b,fX H b=fX H' b):di H=di H':=by
 funext a
 unfold di Br
 rw[qe h]
def uD (z:Nat->Bool) (r:A×aC):A×aC:=(r.1,b9 z r.2)
theorem cH {α β γ:Type} {q:Option α} {F:α->Option β} {G:α->Option γ} {h:γ->β} (hh:∀ a,F a=(G a).map h):q.bind F=(q.bind G).map h:=by
 cases q with
 | none=>rfl
 | some a=>exact hh a
theorem wS {t:TypeId} {a x:A} (hb:∀ b,blk? a=some b->z b=false):ji P t a x (b9 z H) lo=(ji P t a x H lo).map (b9 z):=by
 unfold ji
 cases cQ P t with
 | none=>rfl
 | some n=>
  cases x.cells? with
  | none=>rfl
  | some xs=>
   simp only[XM]
   cases (n==0 || !(xs.length==n)) with
   | true=>rfl
   | false=>
    simp only[XO]
    cases a with
    | ptr b o=>
     have hz:=hb b rfl
     simp only[eX hz]
     split
     ·rename_i cs _
      cases (decide (lo<=b)&&decide (o+n<=cs.length)) with
      | false=>rfl
      | true=>simp only[XR,YH,lB hz]
     ·rfl
    | ep b i o=>
     have hz:=hb b rfl
     simp only[eX hz]
     split
     ·rename_i es els _
      split
      ·rename_i cs _
       cases (decide (lo<=b)&&decide (o+n<=cs.length)) with
       | true=>simp only[XR,YH,lB hz]
       | false=>
        simp only[XO]
        cases (decide (lo<=b)&&Nat.beq o 0&&Nat.beq (n / es*es) n&&decide (i+n / es<=els.length)) with
        | true=>simp only[XR,YH,lB hz]
        | false=>rfl
      ·rfl
     ·rfl
    | _=>rfl
theorem sN {t:TypeId} {cs:List A} (hz:z H.length=false):rowOf P t cs (b9 z H)=(rowOf P t cs H).map (uD z):=by
 unfold rowOf
 split
 ·cases cQ P _ with
  | none=>rfl
  | some es=>
   simp only[XM]
   rename_i n e _
   cases (Nat.beq es 0 || Nat.beq n 0 || !Nat.beq cs.length (n*es)) with
   | true=>rfl
   | false=>simp only[XO,YH,uD,fL hz,df]
 ·rfl
theorem wX {t:TypeId} {c:Bool} (hz:z H.length=false):n0 c P t (b9 z H)=(n0 c P t H).map (uD z):=by
 unfold n0
 cases c with
 | true=>
  simp only[XR]
  unfold jZ
  cases gR P t with
  | none=>rfl
  | some cs=>exact sN hz
 | false=>
  simp only[XO]
  unfold lQ
  cases gR P t with
  | none=>rfl
  | some cs=>simp only[YH,uD,fL hz,df]
theorem Bf {t:TypeId} {x:A} {c:Bool} (hz:z H.length=false):yK c P t x (b9 z H)=(yK c P t x H).map (uD z):=by
 unfold yK
 cases c with
 | true=>
  simp only[XR]
  unfold ua
  cases x.cells? with
  | none=>rfl
  | some cs=>exact sN hz
 | false=>
  simp only[XO]
  unfold yC
  cases x.cells? with
  | none=>rfl
  | some cs=>simp only[YH,uD,fL hz,df]
theorem qG {t:TypeId} {n c:A} (hz:z H.length=false):gE P t n c (b9 z H)=(gE P t n c H).map (uD z):=by
 unfold gE fH
 refine cH fun e=>cH fun es=>cH fun by_=>cH fun zz=>cH fun n=>cH fun c=>?_
 cases (es==0 || !(zz.length==es) || !decide (c*by_<=dF) || !decide (c<=dF) || !decide (n<=c)) with
 | true=>rfl
 | false=>
  simp only[XO]
  cases n==c with
  | true=>simp only[XR,YH,uD,fL hz,df]
  | false=>cases n==0 with
   | true=>simp only[XR,XO,YH,uD,fL hz,df]
   | false=>rfl
theorem zu {t:TypeId} {n c:A} {b:Bool} (hz:z H.length=false):sx b P t n c (b9 z H)=(sx b P t n c H).map (uD z):=by
 unfold sx
 cases b with
 | false=>exact qG hz
 | true=>
  simp only[XR]
  unfold gW
  refine cH fun e=>cH fun es=>cH fun by_=>cH fun zz=>cH fun n=>cH fun c=>?_
  cases (es==0 || !(zz.length==es) || !decide (c*by_<=dF) || !decide (c<=dF) || !(n==c))<;>rfl
theorem xd {a:A} (hb:∀ b,blk? a=some b->z b=false):els? (b9 z H) a=els? H a:=by
 cases a with
 | sl b o n c=>simp only[els?,eX (hb b rfl)]
 | v x=>cases x<;>rfl
 | _=>rfl
theorem yE {t:TypeId} {x y:A} (hx:∀ b,blk? x=some b->z b=false) (hy:∀ b,blk? y=some b->z b=false):qn P t x y (b9 z H) lo=(qn P t x y H lo).map (uD z):=by
 unfold qn
 rw[xd hy]
 refine cH fun e=>cH fun es=>cH fun ys=>?_
 cases (es==0 || !(ys.all fun cs=>cs.length==es&&cs.all A.cell)) with
 | true=>rfl
 | false=>
  simp only[XO]
  cases x with
  | sl b o n c=>
   have hz:=hx b rfl
   simp only[eX hz]
   split
   ·rename_i es' els _
    cases (decide (lo<=b)&&es'==es) with
    | true=>simp only[XR,YH,uD,lB hz]
    | false=>rfl
   ·rfl
  | _=>rfl
theorem Bl {t2:TypeId} {by_:Nat} {zz:List A} {a:A} (hb:∀ b,blk? a=some b->z b=false):yV P (b9 z H) t2 by_ zz a=yV P H t2 by_ zz a:=by
 unfold yV
 rw[xd hb]
theorem ve {t t2:TypeId} {wr:Bool} {x y:A} (hz:z H.length=false) (hx:∀ b,blk? x=some b->z b=false) (hy:∀ b,blk? y=some b->z b=false):bK P t t2 wr x y (b9 z H) lo=(bK P t t2 wr x y H lo).map (uD z):=by
 unfold bK
 simp only[Bl hy]
 refine cH fun e=>cH fun es=>cH fun by_=>cH fun zz=>cH fun ys=>?_
 cases (es==0 || by_==0 || !(zz.length==es) || !(ys.all fun cs=>cs.length==es&&cs.all A.cell)) with
 | true=>rfl
 | false=>
  simp only[XO]
  cases x with
  | imm xs cl=>cases cl with
   | false=>rfl
   | true=>
    simp only[]
    cases !decide ((xs.length+ys.length)*by_<=dF) with
    | true=>rfl
    | false=>
     simp only[XO]
     cases wr&&xs.isEmpty with
     | true=>simp only[XR,YH,uD,fL hz,df]
     | false=>
      simp only[XO]
      cases (xs.all fun cs=>cs.length==es&&cs.all A.cell) with
      | true=>simp only[XR,YH,uD,fL hz,df]
      | false=>rfl
  | sl b o n c=>
   have hzb:=hx b rfl
   simp only[eX hzb]
   split
   ·rename_i es' els _
    cases (!decide ((n+ys.length)*by_<=dF) || !(es'==es) || !decide (o+n<=els.length)) with
    | true=>rfl
    | false=>
     simp only[XO]
     cases c with
     | true=>simp only[XR,YH,uD,fL hz,df]
     | false=>
      simp only[XO]
      cases (decide (lo<=b)&&o==0&&n==els.length) with
      | true=>simp only[XR,YH,uD,lB hzb]
      | false=>rfl
   ·rfl
  | _=>rfl
theorem EH {a x:A} (hrow:∀ b,fX (b9 z H) b=fX H b):bN a (b9 z H) x=bN a H x:=by
 unfold bN
 rw[uu hrow]
theorem Dq {o:Oper} {fr:List (Nat×A)} (he:dQ o=true) (hz:z H.length=false) (hrow:∀ b,fX (b9 z H) b=fX H b) (hop:∀ y∈o.op.operands.toList,∀ b,blk? (cg cx ⟨fr,H⟩ y)=some b->z b=false) :
  bQ cx f lo o ⟨fr,b9 z H⟩ (fun a H=>some (a,H))=(bQ cx f lo o ⟨fr,H⟩ (fun a H=>some (a,H))).map (uD z):=by
 have ho:∀ x,cg cx ⟨fr,b9 z H⟩ x=cg cx ⟨fr,H⟩ x:=fun x=>by cases x<;>rfl
 have bm:∀ (q:Option (A×aC)),(q.map (uD z)).bind (fun r=>some (r.1,r.2))=(q.bind fun r=>some (r.1,r.2)).map (uD z):=fun q=>by cases q<;>rfl
 unfold dQ at he
 split at he
 ·rename_i t ad v h
  unfold bQ
  simp only[h,ho]
  rw[EH hrow,wS (hop ad (by rw[h]; simp[Op.operands]))]
  cases ji cx.P t (cg cx ⟨fr,H⟩ ad) (bN (cg cx ⟨fr,H⟩ ad) H (cg cx ⟨fr,H⟩ v)) H lo<;>rfl
 ·rename_i t h
  unfold bQ
  simp only[h,ho]
  rw[wX hz,bm]
 ·rename_i t v h
  unfold bQ
  simp only[h,ho]
  rw[Bf hz,bm]
 ·rename_i t l c h
  unfold bQ
  simp only[h,ho]
  rw[zu hz,bm]
 ·rename_i c h
  unfold bQ
  simp only[h]
  have hopc:∀ y∈c.args.toList,∀ b,blk? (cg cx ⟨fr,H⟩ y)=some b->z b=false:=fun y hy=>hop y (by rw[h]; simp[Op.operands,Call.operands]; exact .inr (by simpa using hy))
  split at he
  ·rename_i hca
   unfold pn
   simp only[hca]
   split
   all_goals first | (rename_i hh _ _; cases hh; done) | (rename_i hh _ _; injection hh with hh; cases hh; done) | skip
   ·rename_i x y t t2 _ hargs _
    simp only[ho]
    rw[ve hz (hopc x (by rw[hargs]; simp)) (hopc y (by rw[hargs]; simp)),bm]
   all_goals first | rfl | (rename_i hh _; injection hh with hh; cases hh; done)
  ·rename_i hca
   unfold pn
   simp only[hca]
   split
   all_goals first | (rename_i hh _ _; cases hh; done) | (rename_i hh _ _; injection hh with hh; cases hh; done) | skip
   ·rename_i x y t t2 _ hargs _
    simp only[ho]
    rw[yE (hopc x (by rw[hargs]; simp)) (hopc y (by rw[hargs]; simp)),bm]
   all_goals first | rfl | (rename_i hh _; injection hh with hh; cases hh; done)
  ·cases he
 ·cases he
end
end Go.Proofs.YtebkhfhcipnfgaaGreat
