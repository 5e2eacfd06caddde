/-
 Blocks that are not there yet: holes in the heap, and what fills them.
-/
import Derived.Test.YtebkhfhcipnfgaaGreatEvWrite2
import Derived.TacticsIn
import Derived.Lib.SliceRun
namespace Go.Proofs.YtebkhfhcipnfgaaGreat
set_option linter.unusedSimpArgs false
set_option linter.unusedVariables false
set_option linter.defProp false
theorem X0 {p:Prop} (h:p:=by simp only[cE]; rw[VR]; trivial):p:=h
theorem X9 {p:Prop} (h:p:=by simp only[List.length_append,List.length_take,List.length_drop]; omega):p:=h
def Yl:=@decide_eq_true
def Yx:=@Nat.zero_le
def YL:=@List.drop_zero
def Y3:=@List.take_of_length_le
def Y8:=@List.cons.injEq
def ZS:=@List.singleton_append
def ZW:=@List.getElem?_set
def qac:=@Nat.mul_le_mul_left
def qao:=@Option.getD_some
def qap:=@if_false
def qaF:=@Option.bind_none
def qaL:=@List.map_take
def qaM:=@Array.getElem?_setIfInBounds_self_of_lt
def qaO:=@Nat.mul_add
def qaQ:=@run_firstCells_some
def qaS:=@List.length_nil
def qaW:=@List.map_nil
def qaY:=@List.getElem?_cons_succ
def qaZ:=@World.putObj_heap_same
def qa2:=@List.length_replicate
def qa8:=@World.alloc_heap_new
def qa9:=@Array.toArray_toList
def qbg:=@List.mem_filterMap
def qbp:=@List.mem_flatten
def qbq:=@Nat.le_total
def qbx:=@grownBy_putObj'
def qbI:=@Array.getElem_modify
section
open Go.RowKit
variable {P:Program} {H:aB} {g:Gh} {w0 w:World}
theorem pb {t:TypeId} (h:nK P t=true):P.underlying t=some .string∨∃ e,P.underlying t=some (.slice e):=by
 unfold nK at h
 split at h
 ·rename_i e hu; exact .inr ⟨e,hu⟩
 ·rename_i hu; exact .inl hu
 ·cases h
theorem oZ {t:TypeId} (h:vZ P t=true):∃ k,P.underlying t=some (.int k):=by
 unfold vZ at h
 split at h
 ·rename_i k hu; exact⟨k,hu⟩
 ·cases h
def Src (P:Program) (t2:TypeId) (i:TypeInfo) (c:Value) (m:Nat) (news:List Value) (w w2:World):Prop:=
 (nK P t2=true/\(Builtin.lenOf c).run P w=.ok m w/\(Builtin.firstCells i.size m c).run P w2=.ok news.toArray w2)∨∃ z,vZ P t2=true/\c=.int .i64 (m:Int)/\i.zero=some z/\m*i.bytes<=281474976710656/\m<=140737488355328/\i.size≠0/\news.toArray=Builtin.zeroCells z.cells m
set_option maxHeartbeats 800000 in
theorem qK {t t2 ty e:TypeId} {i:TypeInfo} (ht:P.underlying t=some (.slice e)) (hi:P.info? e=some i) {a:Addr} {n cap m:Nat} {c:Value} {news:List Value} (h2:Src P t2 i c m news w w) (hroom:n+m<=cap):(Builtin.append_ #[t,t2] ty #[.slice (some a) n cap,c]).run P w=((storeCells (a.add (n*i.size)) news).run P w).andThen fun _ w'=>.ok (.slice (some a) (n+m) cap) w':=by
 rcases h2 with ⟨h2,hlen,hf⟩ | ⟨z,h2,rfl,hz,h3,h4,h6,h5⟩
 ·have hd:=pb h2
  rcases hd with hd | ⟨e2,hd⟩<;>simp[Builtin.append_,Yu ht,Yu hd,sizeOf,typeInfo,hi,hlen,hf,hroom]
 ·obtain ⟨k,hd⟩:=oZ h2
  have hw:IntKind.i64.wrap (m:Int)=(m:Int):=by simp only[IntKind.wrap,IntKind.bits,IntKind.signed]; simp; omega
  have hb:¬ (281474976710656<(m:Int)*(i.bytes:Int)):=by rw[<-qax]; omega
  have hn0:¬ ((m:Int)<0):=r7
  have e5:news=(Builtin.zeroCells z.cells m).toList:=by rw[<-h5]
  by_cases hm:m=0
  ·subst hm
   have:news=[]:=by rw[e5]; simp[Builtin.zeroCells]
   subst this
   have hroom':n<=cap:=r7
   have hw0:IntKind.i64.wrap (0:Int)=(0:Int):=by decide
   simp[Builtin.append_,Yu ht,Yu hd,sizeOf,typeInfo,zeroValue,asInt,asIntOf,hi,hz,hroom',hw0]
  ·have hms:¬ (m*i.size=0):=Nat.mul_ne_zero hm h6
   simp[Builtin.append_,Yu ht,Yu hd,sizeOf,typeInfo,zeroValue,asInt,asIntOf,hi,hz,hroom,hw,hb,hn0,e5]
   intro h0; exact absurd h0 hms
set_option maxHeartbeats 800000 in
theorem qJ {t t2 ty e:TypeId} {i:TypeInfo} (ht:P.underlying t=some (.slice e)) (hi:P.info? e=some i) {n cap:Nat} {base:Option Addr} {c:Value} (h2:Src P t2 i c 0 [] w w) (hroom:n<=cap):(Builtin.append_ #[t,t2] ty #[.slice base n cap,c]).run P w=.ok (.slice base n cap) w:=by
 rcases h2 with ⟨h2,hlen,hf⟩ | ⟨z,h2,rfl,hz,h3,h4,h6,h5⟩
 ·have hd:=pb h2
  rcases hd with hd | ⟨e2,hd⟩<;>cases base<;>simp[Builtin.append_,Yu ht,Yu hd,sizeOf,typeInfo,hi,hlen,hf,hroom,storeCells]
 ·obtain ⟨k,hd⟩:=oZ h2
  have hw:IntKind.i64.wrap (0:Int)=(0:Int):=by decide
  cases base<;>simp[Builtin.append_,Yu ht,Yu hd,sizeOf,typeInfo,zeroValue,asInt,asIntOf,hi,hz,hroom,hw,storeCells]
set_option maxHeartbeats 800000 in
theorem qI {t t2 ty e:TypeId} {i:TypeInfo} {z:Value} (ht:P.underlying t=some (.slice e)) (hi:P.info? e=some i) (hz:i.zero=some z) {base:Option Addr} {n cap m:Nat} {c:Value} {news olds:List Value} (h2:Src P t2 i c m news w w.drew)
  (hfo:(Builtin.firstCells i.size n (.slice base n cap)).run P w.drew=.ok olds.toArray w.drew) (hg:cap<n+m) (h63:n+m<=9223372036854775807) (hfit:Builtin.nextslicecap (n+m) cap*i.bytes<=281474976710656) :
  (Builtin.append_ #[t,t2] ty #[.slice base n cap,c]).run P w=.ok (.slice (some ⟨w.heap.size,0,none⟩) (n+m) (grownCap w (n+m) cap e)) (w.drew.alloc (.cells (olds.toArray++news.toArray++Builtin.zeroCells z.cells (grownCap w (n+m) cap e - (n+m))) e)):=by
 have hn:¬ (n+m<=cap):=r7
 have h63':¬ (9223372036854775807<((n:Int)+(m:Int))):=r7
 have h48':¬ (281474976710656<Builtin.nextslicecap (n+m) cap*i.bytes):=r7
 rcases h2 with ⟨h2,hlen,hf⟩ | ⟨z',h2,rfl,hz',h3,h4,h6,h5⟩
 ·have hd:=pb h2
  rcases hd with hd | ⟨e2,hd⟩
  all_goals
   simp[Builtin.append_,Yu ht,Yu hd,sizeOf,typeInfo,zeroValue,hi,hz,hlen,hn,h63',h48',Question.forced,hf,hfo,newRow,grownCap]
   congr 2
   apply Z6
   simp[Za]
 ·obtain ⟨k,hd⟩:=oZ h2
  rw[hz] at hz'; cases hz'
  have hw:IntKind.i64.wrap (m:Int)=(m:Int):=by simp only[IntKind.wrap,IntKind.bits,IntKind.signed]; simp; omega
  have hb:¬ (281474976710656<(m:Int)*(i.bytes:Int)):=by rw[<-qax]; omega
  have hn0:¬ ((m:Int)<0):=r7
  have e5:news=(Builtin.zeroCells z.cells m).toList:=by rw[<-h5]
  have hmax:IntKind.i64.max=9223372036854775807:=by decide
  have h63m:¬ (IntKind.i64.max<((n:Int)+(m:Int))):=by rw[hmax]; exact h63'
  by_cases hm:m=0
  ·subst hm
   have:news=[]:=by rw[e5]; simp[Builtin.zeroCells]
   subst this
   have hw0:IntKind.i64.wrap (0:Int)=(0:Int):=by decide
   have hn':¬ (n<=cap):=r7
   have g63:¬ (9223372036854775807<(n:Int)):=r7
   have g48:¬ (281474976710656<Builtin.nextslicecap n cap*i.bytes):=h48'
   simp[Builtin.append_,Yu ht,Yu hd,sizeOf,typeInfo,zeroValue,asInt,asIntOf,hi,hz,hw0,hn',g63,g48,hfo,Question.forced,newRow,grownCap]
  ·simp[Builtin.append_,Yu ht,Yu hd,sizeOf,typeInfo,zeroValue,asInt,asIntOf,hi,hz,hw,hb,hn0,e5,hn,h63',h63m,h48',Question.forced,hfo,newRow,grownCap]
   intro h0; exact absurd h0 (Nat.mul_ne_zero hm h6)
theorem tW {ds:List (List Value)} {m:Nat} {j:Nat} {v:Value} (h:(ds.take m).flatten[j]? = some v):ds.flatten[j]? = some v:=by
 have:ds.flatten=(ds.take m).flatten++(ds.drop m).flatten:=X8
 rw[this,YE (Ym.1 h).1]
 exact h
theorem Bm (hr:Rel H g w0 w) {y:A} {ys:List (List A)} {c:Value} {es:Nat} (h:els? H y=some ys) (hy:VR H g w y c) (hes:∀ cs∈ys,cs.length=es) :
  ∃ ds,bC H g w ys ds/\(∀ d∈ds,d.length=es)/\∀ w',(∀ a,w'.cell? a=w.cell? a)->(Builtin.lenOf c).run P w'=.ok ys.length w'/\∀ m,m<=ys.length->(Builtin.firstCells es m c).run P w'=.ok (ds.take m).flatten.toArray w':=by
 have lens:∀ {ds:List (List Value)},bC H g w ys ds->∀ d∈ds,d.length=es:=fun {ds} hv d hd=>by
  obtain ⟨i,hi,rfl⟩:=Zf hd
  have hl:=hv.length
  obtain ⟨d',hd',hv'⟩:=hv.get (i:=i) (Yg r7)
  rw[Yg hi] at hd'
  cases hd'
  rw[hv'.length]
  exact hes _ (YH _)
 rcases uu hr h hy with ⟨s,rfl,rfl⟩ | ⟨a,cap,ds,es',rfl,h2,h3,h4,h5⟩
 ·simp only[els?,Zd] at h
  have hv:bC H g w ys (s.data.toList.map fun b=>[.int .u8 b.toNat]):=by
   rw[<-h]
   refine cX.2 ⟨r9,fun i a d ha hd=>?_⟩
   simp only[YJ,Y2] at ha hd
   obtain ⟨b,hb,rfl⟩:=ha
   obtain ⟨b',hb',rfl⟩:=hd
   rw[hb] at hb'; cases hb'
   rw[bE]; exact⟨_,[],rfl,y7,H7⟩
  have hn:ys.length=s.size:=by rw[<-h,ZR,qar]; rfl
  refine⟨_,hv,lens hv,fun w' _=>⟨by rw[hn]; rfl,fun m hm=>?_⟩⟩
  have e:(Array.map (fun b:UInt8=>Value.int IntKind.u8 (b.toNat:Int)) (s.extract 0 m).data)=((s.data.toList.map fun b=>[Value.int .u8 (b.toNat:Int)]).take m).flatten.toArray:=by
   rw[<-qaL,nr]
   apply Z6
   simp[ByteArray.data_extract,qaL]
  simp only[Builtin.firstCells]
  rw[e]
  rfl
 ·refine⟨ds,h4,lens h4,fun w' hw'=>⟨rfl,fun m hm=>?_⟩⟩
  have hl:=h4.length
  cases a with
  | none=>
   have:ys.length=0:=by
    by_cases hp:0<ys.length
    ·obtain ⟨k,off,e1,_⟩:=h5 hp; cases e1
    ·omega
   obtain rfl:m=0:=r7
   simp[Builtin.firstCells]
  | some a=>
   refine qaQ (P:=P) w' es m a _ cap _ (iX (lens h4) r7) fun j v hj=>?_
   rw[hw']
   by_cases hp:0<ys.length
   ·obtain ⟨k,off,e1,hc⟩:=h5 hp
    cases e1
    rw[ZA]
    exact hc j v (tW hj)
   ·obtain rfl:m=0:=by omega
    simp at hj
theorem bC.one {els:List (List A)} {ds:List (List Value)} (h:bC H g w els ds) (hc:∀ cs∈els,∀ a∈cs,a.cell=true):∀ x∈ds.flatten,x.oneCell'=true:=fun x hx=>by
 obtain ⟨d,hd,hxd⟩:=qbp.1 hx
 obtain ⟨i,hi,rfl⟩:=Zf hd
 have hl:=h.length
 obtain ⟨d',hd',hv'⟩:=h.get (i:=i) (Yg r7)
 rw[Yg hi] at hd'
 cases hd'
 obtain ⟨j,hj,rfl⟩:=Zf hxd
 have hl':=hv'.length
 obtain ⟨x',hx',hvx⟩:=hv'.get (i:=j) (Yg r7)
 rw[Yg hj] at hx'
 cases hx'
 exact rX (hc _ (YH _) _ (YH _)) hvx
def isCells:Obj->Bool
 | .cells ..=>true
 | _=>false
theorem Rel.grow (hr:Rel H g w0 w) {b es:Nat} {els new:List (List A)} (hB:H[b]? = some (.row false es els)) {w':World} {γ:List (List Value)} {ko:Option Nat} (hbelow:Below w0.heap.size w w')
  (hcell:∀ k o v,fi H g k o->w.cell? ⟨k,o,none⟩=some v->w'.cell? ⟨k,o,none⟩=some v)
  (hobj:∀ k,k<w.heap.size->g.mu b≠some k->w'.heap[k]? = w.heap[k]?) (hkept:∀ (k:Nat) (o:Obj),w.heap[k]? = some o->isCells o=false->w'.heap[k]? = some o) (hsize:w.heap.size<=w'.heap.size)
  (hnew:bC (H.set b (.row false es (els++new))) (g.put b ko (g.ga b++γ)) w' new γ∨bC H g w new γ) (hγ:∀ d∈γ,d.length=es)
  (hko:(ko=g.mu b/\∀ k arr ty,g.mu b=some k->w.heap[k]? = some (.cells arr ty (0,0))->∃ arr',w'.heap[k]? = some (.cells arr' ty (0,0))/\arr.size<=arr'.size)∨(ko=some w.heap.size/\w.heap.size<w'.heap.size/\new≠[])) :
  Rel (H.set b (.row false es (els++new))) (g.put b ko (g.ga b++γ)) w0 w'/\Ext H g w (H.set b (.row false es (els++new))) (g.put b ko (g.ga b++γ)) w':=by
 have hlt:b<H.length:=(Ym.1 hB).1
 have hlen:=(hr.blk b _ hB).len
 have hother:∀ c k,c≠b->g.mu c=some k->w'.heap[k]? = w.heap[k]?:=fun c k hc hk=>hobj k (hr.dom c k hk).2.2 fun h=>hc (hr.inj c b k hk h)
 have hkb:∀ k,ko=some k->g.mu b=some k∨k=w.heap.size:=fun k hk=>by
  rcases hko with ⟨h1,_⟩ | ⟨h1,_⟩
  ·exact .inl (h1 ▸ hk)
  ·rw[h1] at hk; cases hk; exact .inr rfl
 have he:Ext H g w (H.set b (.row false es (els++new))) (g.put b ko (g.ga b++γ)) w':=by
  refine⟨fun k o v hs hc=>⟨hcell k o v hs hc,hs.1,fun c hck=>?_⟩,fun c C hC=>?_,fun k x h=>hkept k _ h rfl,hsize,fun k arr cl hs hm=>⟨hkept k _ hm rfl,hs.1,fun c hck=>?_⟩,fun k hk hn=>hobj k hk (hn b),fun c k h=>?_⟩
  rotate_right 1
  ·by_cases e:c=b
   ·subst e
    rw[Gh.bJ] at h
    rcases hkb k h with h1 | h1
    ·exact .inl ⟨c,h1⟩
    ·exact .inr (qaV h1.symm)
   ·exact .inl ⟨c,by rwa [Gh.aR _ _ _ e] at h⟩
  ·by_cases e:c=b
   ·subst e
    rw[Gh.bJ] at hck
    refine⟨es,els++new,by rw[YO hlt],?_⟩
    rcases hkb k hck with h1 | rfl
    ·obtain ⟨es',els',h2,h3⟩:=hs.2 c h1
     rw[hB] at h2; cases h2
     have:=qac es (show els.length<=(els++new).length by simp)
     omega
    ·exact absurd (Z9 w ⟨_,o,none⟩ hc) r9
   ·rw[Gh.aR _ _ _ e] at hck
    obtain ⟨es',els',h2,h3⟩:=hs.2 c hck
    exact⟨es',els',by rw[Yz (Zl e)]; exact h2,h3⟩
  ·by_cases e:c=b
   ·subst e
    rw[hB] at hC; cases hC
    refine⟨.row false es (els++new),by rw[YO hlt],rfl,⟨γ,Gh.iv _ _ _ _⟩,hlen,r9,fun hl=>?_⟩
    have hn0:new=[]:=by simpa using hl
    rcases hko with ⟨h1,h2⟩ | ⟨_,_,h3⟩
    ·exact⟨by rw[Gh.bJ,h1],h2⟩
    ·exact absurd hn0 h3
   ·refine⟨C,by rw[Yz (Zl e)]; exact hC,?_⟩
    cases C with
    | box _=>exact Gh.aR _ _ _ e
    | row wr es' els'=>cases wr with
     | true=>exact⟨rfl,rfl,Gh.aR _ _ _ e⟩
     | false=>exact⟨rfl,⟨[],by rw[Gh.ft _ _ _ e]; simp⟩,(hr.blk c _ hC).len,Yk _,fun _=>⟨Gh.aR _ _ _ e,fun k arr ty hk ha=>⟨arr,(hother c k e hk).trans ha,Yk _⟩⟩⟩
    | rng _=>exact⟨Gh.aR _ _ _ e,rfl⟩
    | mp _ _ _=>exact Gh.aR _ _ _ e
    | dead=>trivial
    | hole=>trivial
  ·by_cases e:c=b
   ·subst e
    rw[Gh.bJ] at hck
    refine⟨es,els++new,by rw[YO hlt],?_⟩
    rcases hkb k hck with h1 | rfl
    ·obtain ⟨es',els',h2,h3⟩:=hs.2 c h1
     rw[hB] at h2; cases h2
     have:=qac es (show els.length<=(els++new).length by simp)
     omega
    ·exact absurd (Yo.1 hm).1 r9
   ·rw[Gh.aR _ _ _ e] at hck
    obtain ⟨es',els',h2,h3⟩:=hs.2 c hck
    exact⟨es',els',by rw[Yz (Zl e)]; exact h2,h3⟩
 have hsz:=hbelow.size
 refine⟨⟨hr.below.trans hbelow,fun c k hck=>?_,fun c d k h1 h2=>?_,hr.Aa he,hr.yk he,fun c C hC=>?_⟩,he⟩
 ·by_cases e:c=b
  ·subst e
   rw[Gh.bJ] at hck
   rcases hko with ⟨h1,_⟩ | ⟨h1,h2,_⟩
   ·have:=hr.dom c k (h1 ▸ hck)
    exact⟨by simpa using this.1,this.2.1,r7⟩
   ·rw[h1] at hck; cases hck
    exact⟨by simpa using hlt,hr.below.size,h2⟩
  ·rw[Gh.aR _ _ _ e] at hck
   have:=hr.dom c k hck
   exact⟨by simpa using this.1,this.2.1,r7⟩
 ·by_cases e:c=b
  ·by_cases e':d=b
   ·rw[e,e']
   ·subst e
    rw[Gh.bJ] at h1
    rw[Gh.aR _ _ _ e'] at h2
    rcases hkb k h1 with h | rfl
    ·exact hr.inj _ _ k h h2
    ·have:=(hr.dom d _ h2).2.2; omega
  ·by_cases e':d=b
   ·subst e'
    rw[Gh.bJ] at h2
    rw[Gh.aR _ _ _ e] at h1
    rcases hkb k h2 with h | rfl
    ·exact hr.inj _ _ k h1 h
    ·have:=(hr.dom c _ h1).2.2; omega
   ·rw[Gh.aR _ _ _ e] at h1
    rw[Gh.aR _ _ _ e'] at h2
    exact hr.inj c d k h1 h2
 ·by_cases e:c=b
  ·subst e
   rw[YO hlt] at hC; cases hC
   obtain ⟨h1,h2⟩:=hr.blk c _ hB
   refine⟨?_,?_⟩
   ·rw[Gh.iv]
    exact(bC.ext he _ _ h1).append (hnew.elim id (fun h=>bC.ext he _ _ h))
   ·rw[Gh.iv]
    intro d hd
    rcases Zz.1 hd with hd | hd
    ·exact h2 d hd
    ·exact hγ d hd
  ·rw[Yz (Zl e)] at hC
   have h:=hr.blk c C hC
   cases C with
   | box cs=>obtain ⟨k,arr,ty,h1,h2,h3⟩:=h; exact⟨k,arr,ty,(Gh.aR _ _ _ e).trans h1,(hother c k e h1).trans h2,bE.ext he _ _ h3⟩
   | row wr es' els'=>cases wr with
    | true=>
     obtain ⟨ds,h1,h2,h3⟩:=h
     exact⟨ds,bC.ext he _ _ h1,h2,fun hp=>let ⟨k,arr,ty,e1,e2,e3⟩:=h3 hp; ⟨k,arr,ty,(Gh.aR _ _ _ e).trans e1,(hother c k e e1).trans e2,e3⟩⟩
    | false=>
     obtain ⟨h1,h2⟩:=h
     refine⟨?_,?_⟩
     ·rw[Gh.ft _ _ _ e]; exact bC.ext he _ _ h1
     ·rw[Gh.ft _ _ _ e]; exact h2
   | rng st=>obtain ⟨k,h1,h2⟩:=h; exact⟨k,(Gh.aR _ _ _ e).trans h1,(hother c k e h1).trans h2⟩
   | mp _ _ _=>obtain ⟨k,arr,cl,h1,h2,h3,h4⟩:=h; exact⟨k,arr,cl,(Gh.aR _ _ _ e).trans h1,(hother c k e h1).trans h2,h3,bE.ext he _ _ h4⟩
   | dead=>exact(Gh.aR _ _ _ e).trans h
   | hole=>exact(Gh.aR _ _ _ e).trans h
theorem tI (hr:Rel H g w0 w) {t t2 ty:TypeId} {wr:Bool} {x y z:A} {cx cy:Value} {H':aB} {lo:Nat} (h:bN P t t2 wr x y H lo=some (z,H')) (hx:VR H g w x cx) (hy:VR H g w y cy):Step H g w0 w lo ((Builtin.append_ #[t,t2] ty #[cx,cy]).run P w) z H':=by
 unfold bN at h
 replace h:=bD h
 obtain ⟨e,he,h⟩:=h
 have hu:=ka he
 replace h:=bD h
 obtain ⟨es,hes,h⟩:=h
 replace h:=bD h
 obtain ⟨by_,hby,h⟩:=h
 replace h:=bD h
 obtain ⟨zz,hz,h⟩:=h
 replace h:=bD h
 obtain ⟨ys,hys,h⟩:=h
 replace h:=eG h
 obtain ⟨h0,h⟩:=h
 simp only[Zh,ZT,Zx,qab] at h0
 obtain ⟨⟨⟨h0,hb0⟩,h1⟩,h3⟩:=h0
 obtain ⟨it,v,hi,hv,rfl⟩:=fS hz
 obtain ⟨it',hi',hsz⟩:=gC hes
 rw[hi] at hi'; cases hi'
 have hvs:v.cells.size=es:=by simpa using h1
 have hbv:it.bytes=by_:=by unfold jY at hby; rw[hi] at hby; simpa using hby
 have hys3:∀ cs∈ys,cs.length=es/\∀ a∈cs,a.cell=true:=fun cs hcs=>by
  have:=Yw.1 h3 cs hcs
  simp only[Yj,Zx] at this
  exact⟨this.1,Yw.1 this.2⟩
 obtain ⟨ds,hvd,hld,hsA,hsB⟩:∃ ds,bC H g w ys ds/\(∀ d∈ds,d.length=es)/\Src P t2 it cy ys.length ds.flatten w w/\Src P t2 it cy ys.length ds.flatten w w.drew:=by
  unfold zv at hys
  rw[bF] at hys
  split at hys
  ·rename_i hn
   obtain ⟨ds,hvd,hld,hsrc⟩:=Bm (P:=P) hr hys hy (fun cs hcs=>(hys3 cs hcs).1)
   obtain ⟨hlen,hfirst⟩:=hsrc w (fun _=>rfl)
   obtain ⟨_,hfirstd⟩:=hsrc w.drew (fun _=>r9)
   have hdl:=hvd.length
   have hall:(ds.take ys.length).flatten=ds.flatten:=by rw[Y3 r7]
   have hf:=hfirst ys.length (Yk _)
   have hfd:=hfirstd ys.length (Yk _)
   rw[hall,<-hsz] at hf hfd
   exact⟨ds,hvd,hld,.inl ⟨hn,hlen,hf⟩,.inl ⟨hn,hlen,hfd⟩⟩
  ·split at hys
   ·rename_i n
    replace hys:=bu hys
    obtain ⟨hc,hys⟩:=hys
    simp only[Yj,Yn] at hc
    obtain ⟨⟨⟨c1,c2⟩,c3⟩,c4⟩:=hc
    cases hys
    rw[VR] at hy
    subst hy
    unfold di at c3 c4
    have hz0:0<v.cells.size:=r7
    have hb:n.toNat*it.bytes<=281474976710656:=by
     rw[hbv]
     have:((n.toNat*by_:Nat):Int)<=140737488355328:=by rw[qax,qaP c2]; exact c3
     omega
    have hsrc:∀ w',Src P t2 it (.int .i64 n) (List.replicate n.toNat ((v.cells.toList.map zY).map tX)).length (List.replicate n.toNat v.cells.toList).flatten w w':=fun w'=>by
     rw[qa2]
     refine .inr ⟨v,c1,by rw[qaP c2],hv,hb,r7,r7,?_⟩
     rw[<-nY v.cells n.toNat hz0]
     rfl
    refine⟨List.replicate n.toNat v.cells.toList,cX.2 ⟨r9,fun i a d ha hd=>?_⟩,fun d hd=>by rw[(qaw.1 hd).2]; simpa using hvs,hsrc w,hsrc w.drew⟩
    rw[ZK] at ha hd
    split at ha
    ·rename_i hlt; rw[Yq hlt] at hd; cases ha; cases hd; exact p9 (jO _)
    ·cases ha
   ·cases hys
 have hdl:=hvd.length
 have hone:=hvd.one (fun cs hcs=>(hys3 cs hcs).2)
 have hfl:ds.flatten.length=ys.length*es:=by rw[cp hld,hdl]
 have small:∀ {n:Nat},(n+ys.length)*by_<=di->n+ys.length<=9223372036854775807/\(n+ys.length)*it.bytes<=140737488355328:=fun {n} hl=>by
  unfold di at hl
  refine⟨?_,by rw[hbv]; exact hl⟩
  have:(n+ys.length)*1<=(n+ys.length)*by_:=qac _ r7
  omega
 have zero:∀ {n cap:Nat} {base:Option Addr},cx=.slice base n cap->n<=cap->ys.length=0->(Builtin.append_ #[t,t2] ty #[cx,cy]).run P w=.ok cx w:=fun {n cap base} hc hle hy0=>by
  subst hc
  have hd0:ds=[]:=YI r7
  rw[hy0,hd0] at hsA
  exact qJ hu hi hsA hle
 have grows:∀ {n cap:Nat} {base:Option Addr} {olds:List Value},cx=.slice base n cap->cap<n+ys.length->(n+ys.length)*by_<=di->olds.length=n*es->(Builtin.firstCells es n (.slice base n cap)).run P w.drew=.ok olds.toArray w.drew ->
   ∃ c2 arr,(Builtin.append_ #[t,t2] ty #[cx,cy]).run P w=.ok (.slice (some ⟨w.heap.size,0,none⟩) (n+ys.length) c2) (w.drew.alloc (.cells arr e))/\n+ys.length<=c2/\c2*es<=arr.size/\∀ (j:Nat) x,(olds++ds.flatten)[j]? = some x->arr[j]? = some x:=fun {n cap base olds} hc hlt hl hol hfo=>by
  subst hc
  obtain ⟨s1,s2⟩:=small hl
  have hrun:=qI (P:=P) (ty:=ty) hu hi hv hsB (by rw[hsz]; exact hfo) hlt s1 (growslice_fits hlt s2)
  refine⟨_,_,hrun,qbU w _ _ _,?_,fun j x hj=>?_⟩
  ·have:=qbU w (n+ys.length) cap e
   simp only[Array.size_append,List.size_toArray,size_zeroCells,hvs,hol,hfl]
   rw[<-Zi,<-Zi]
   exact ZV _ r7
  ·have hlt:=(Ym.1 hj).1
   rw[qaK (by simpa using hlt)]
   have:(olds.toArray++ds.flatten.toArray)[j]? = (olds++ds.flatten)[j]?:=r9
   rw[this]; exact hj
 have hbd:∀ arr,Below w.heap.size w (w.drew.alloc (.cells arr e)):=fun arr=>((Below.refl _ w).drew).alloc (Yk _) _
 have hnew:∀ arr,(w.drew.alloc (.cells arr e)).heap[w.heap.size]? = some (.cells arr e (0,0)):=fun arr=>ZO w.drew _
 have fresh:∀ {n:Nat} {a:Option Addr} {xs:List (List A)} {xds:List (List Value)},cx=.slice a n n->xs.length=n->bC H g w xs xds->(∀ d∈xds,d.length=es)->(0<n->∃ k off,a=some ⟨k,off,none⟩/\bK H g w k off xds.flatten)->(n+ys.length)*by_<=di ->
   Step H g w0 w lo ((Builtin.append_ #[t,t2] ty #[cx,cy]).run P w) (.sl H.length 0 (n+ys.length) false) (H++[.row false es (xs++ys)]):=fun {n a xs xds} hc hxl hxv hxd hcell hl=>by
  have hxdl:=hxv.length
  have hlens:∀ d∈xds++ds,d.length=es:=fun d hd=>(Zz.1 hd).elim (hxd d) (hld d)
  have hall2:((xds++ds).drop 0).take (n+ys.length)=xds++ds:=by rw[YL,Y3 so]
  have hblk:∀ {ko:Option Nat} {w':World},Ext H g w (H++[.row false es (xs++ys)]) (g.put H.length ko (xds++ds)) w'->lZ (H++[.row false es (xs++ys)]) (g.put H.length ko (xds++ds)) w' H.length (.row false es (xs++ys)):=fun {ko w'} he'=>
   ⟨by rw[Gh.iv]; exact(bC.ext he' _ _ hxv).append (bC.ext he' _ _ hvd),by rw[Gh.iv]; exact hlens⟩
  by_cases hy0:ys.length=0
  ·have hyn:ys=[]:=YI hy0
   have hdn:ds=[]:=YI r7
   obtain ⟨r1,r2⟩:=hr.push (Below.refl _ _) (.row false es (xs++ys)) none (xds++ds) (fun k hk=>by cases hk) (fun he'=>hblk he')
   refine⟨_,_,_,zero hc (Yk _) hy0,r1,r2,?_,r9,jc _ _ _,rfl⟩
   rw[VR,ew,Gh.iv,hall2]
   refine⟨so,a,n,by rw[hc,hy0]; rfl,r7,fun h=>(by cases h),fun hp=>?_,fun _ _ _ h=>absurd h r7⟩
   obtain ⟨k,off,e1,e2⟩:=hcell r7
   exact⟨k,off,e1,by rw[hdn,Zp] at r2 ⊢; exact e2.ext r2⟩
  ·have hfo:(Builtin.firstCells es n (.slice a n n)).run P w.drew=.ok xds.flatten.toArray w.drew:=by
    cases a with
    | none=>
     have hn0:n=0:=by
      by_cases hp:0<n
      ·obtain ⟨k,off,e1,_⟩:=hcell hp; cases e1
      ·omega
     have:xds=[]:=YI r7
     subst this
     subst hn0
     simp[Builtin.firstCells]
    | some a=>
     refine qaQ (P:=P) w.drew es n a n n _ (by rw[cp hxd,hxdl,hxl]) fun j x hj=>?_
     by_cases hp:0<n
     ·obtain ⟨k,off,e1,hcc⟩:=hcell hp
      cases e1
      rw[ZA]; exact(hcc j x hj).1
     ·have:xds=[]:=YI r7
      subst this
      simp at hj
   obtain ⟨c2,arr,hrun,k1,k2,k3⟩:=grows (olds:=xds.flatten) hc r7 hl (by rw[cp hxd,hxdl,hxl]) hfo
   obtain ⟨r1,r2⟩:=hr.push (hbd arr) (.row false es (xs++ys)) (some w.heap.size) (xds++ds) (fun k hk=>by cases hk; exact⟨rfl,r9⟩) (fun he'=>hblk he')
   refine⟨_,_,_,hrun,r1,r2,?_,r9,jc _ _ _,rfl⟩
   rw[VR,ew,Gh.iv,hall2]
   refine⟨so,_,c2,rfl,k1,fun h=>(by cases h),fun _=>⟨w.heap.size,0,rfl,fun j x hj=>?_⟩,fun _ _ _ _=>⟨w.heap.size,arr,e,Gh.bJ _ _ _ _,rfl,hnew arr,k2⟩⟩
   refine⟨by rw[Y9,ZN _ _ j arr e (0,0) (hnew arr)]; exact k3 j x (by rw[<-qaa]; exact hj),hr.out _ _ (Yk _),fun b hb=>?_⟩
   have hbe:b=H.length:=by
    by_cases e':b=H.length
    ·exact e'
    ·rw[Gh.aR _ _ _ e'] at hb; exact absurd (hr.dom b _ hb).2.2 (ZZ _)
   subst hbe
   refine⟨es,xs++ys,ew _ _,?_⟩
   have:=(Ym.1 hj).1
   rw[cp hlens,Zr] at this
   simp only[YF] at this ⊢
   rw[hxdl,hdl] at this
   omega
 split at h
 ·rename_i xs
  replace h:=eG h
  obtain ⟨hl,h⟩:=h
  have hl:(xs.length+ys.length)*by_<=di:=by simpa using hl
  rw[VR] at hx
  obtain ⟨a,cap,xds,xes,rfl,g1,g2,g3,g4,g5⟩:=hx
  have hcap:=g2 rfl
  subst hcap
  rw[bF] at h
  split at h
  ·rename_i hemp
   simp only[Yj] at hemp
   obtain ⟨hwr,hemp⟩:=hemp
   subst hwr
   have hx0:xs=[]:=by simpa using hemp
   subst hx0
   cases h
   by_cases hy0:ys.length=0
   ·have hyn:ys=[]:=YI hy0
    subst hyn
    have hdn:ds=[]:=YI (by simpa using hdl)
    subst hdn
    have hrun:=zero rfl r9 rfl
    obtain ⟨r1,r2⟩:=hr.push (Below.refl _ _) (.row true es []) none [] (fun k hk=>by cases hk) (fun _=>⟨[],by rw[bC],r9,r9⟩)
    refine⟨_,_,_,hrun,r1,r2,?_,r9,jc _ _ _,rfl⟩
    rw[VR,ew]
    exact⟨r9,a,0,rfl,Yk _,fun _=>rfl,fun h=>absurd h r9⟩
   ·obtain ⟨c2,arr,hrun,k1,k2,k3⟩:=grows (olds:=[]) rfl so hl r9 (by
     cases a with
     | none=>simp[Builtin.firstCells]
     | some a=>exact qaQ (P:=P) w.drew es 0 a 0 _ [] r9 (fun j v hj=>by simp at hj))
    simp only[qaS,Y9,Zs] at hrun k1 k3
    obtain ⟨r1,r2⟩:=hr.push (hbd arr) (.row true es ys) (some w.heap.size) [] (fun k hk=>by cases hk; exact⟨rfl,r9⟩) (fun he'=>⟨ds,bC.ext he' _ _ hvd,hld,fun _=>⟨w.heap.size,arr,e,Gh.bJ _ _ _ _,hnew arr,k3⟩⟩)
    refine⟨_,_,_,hrun,r1,r2,?_,r9,jc _ _ _,rfl⟩
    rw[VR,ew]
    exact⟨r9,_,c2,rfl,k1,fun h=>(by cases h),fun _=>⟨w.heap.size,Gh.bJ _ _ _ _,r9⟩⟩
  ·replace h:=bu h
   obtain ⟨hxa,h⟩:=h
   cases h
   have hxes:∀ cs∈xs,cs.length=es/\∀ a∈cs,a.cell=true:=fun cs hcs=>by
    have:=Yw.1 hxa cs hcs
    simp only[Yj,Zx] at this
    exact⟨this.1,Yw.1 this.2⟩
   refine fresh rfl rfl g5 (fun d hd=>?_) g4 hl
   have hxp:0<xs.length:=by have:=qag hd; have:=g5.length; omega
   obtain rfl:xes=es:=g5.lens g3 (Yg hxp) (hxes _ (YH _)).1
   exact g3 d hd
 ·rename_i b o n cl
  split at h
  ·rename_i es' els hb
   replace h:=eG h
   obtain ⟨hl,h⟩:=h
   simp only[Zh,ZT,Zx,Yn] at hl
   obtain ⟨⟨hl,hee⟩,hon⟩:=hl
   subst hee
   rw[VR,hb] at hx
   obtain ⟨_,a,cap,rfl,g1,g2,g3,g4⟩:=hx
   obtain ⟨hga,hgl⟩:=hr.blk b _ hb
   have hgll:=hga.length
   have hsub:∀ d∈((g.ga b).drop o).take n,d.length=es':=fun d hd=>hgl d (Y0 (YT hd))
   have hsl:(((g.ga b).drop o).take n).length=n:=so
   have holdr:(Builtin.firstCells es' n (.slice a n cap)).run P w.drew=.ok (((g.ga b).drop o).take n).flatten.toArray w.drew:=by
    cases a with
    | none=>
     have hn0:n=0:=by
      by_cases hp:0<n
      ·obtain ⟨k,off,e1,_⟩:=g3 hp; cases e1
      ·omega
     subst hn0
     simp[Builtin.firstCells]
    | some a=>
     refine qaQ (P:=P) w.drew es' n a n cap _ (by rw[cp hsub,hsl]) fun j x hj=>?_
     by_cases hp:0<n
     ·obtain ⟨k,off,e1,hc⟩:=g3 hp
      cases e1
      rw[ZA]; exact(hc j x hj).1
     ·obtain rfl:n=0:=by omega
      simp at hj
   rw[bF] at h
   split at h
   ·rename_i hcl
    subst hcl
    cases h
    have hcap:=g2 rfl
    subst hcap
    exact fresh rfl so ((hga.drop o).take cap) hsub g3 hl
   ·rename_i hcl
    have hcl:cl=false:=by simpa using hcl
    subst hcl
    replace h:=bu h
    obtain ⟨hcc,h⟩:=h
    simp only[Yj,Yn,Zx] at hcc
    obtain ⟨⟨hlo,ho0⟩,hnl⟩:=hcc
    subst ho0
    cases h
    have hlt:b<H.length:=(Ym.1 hb).1
    have hgall:(g.ga b).take n=g.ga b:=Y3 r7
    rw[YL,hgall] at g3 holdr hsub hsl
    have hsame:∀ (ko:Option Nat),(H.set b (.row false es' (els++ys)))[b]? = some (.row false es' (els++ys)):=fun _=>YO hlt
    have htake:(((g.ga b++ds).drop 0).take (n+ys.length))=g.ga b++ds:=by rw[YL,Y3 so]
    by_cases hroom:n+ys.length<=cap
    ·by_cases hy0:ys.length=0
     ·
      have hyn:ys=[]:=YI hy0
      subst hyn
      have hdn:ds=[]:=YI (by simpa using hdl)
      subst hdn
      obtain ⟨r1,r2⟩:=hr.grow (new:=[]) (γ:=[]) (ko:=g.mu b) hb (Below.refl _ _) (fun _ _ _ _ h=>h) (fun _ _ _=>rfl) (fun _ _ h _=>h) (Yk _) (.inr (by rw[bC])) r9 (.inl ⟨rfl,fun k arr ty _ ha=>⟨arr,ha,Yk _⟩⟩)
      refine⟨_,_,_,zero rfl g1 rfl,r1,r2,?_,r9,nH _ _ hlo,rfl⟩
      refine VR.ext r2 _ _ ?_
      rw[VR,hb]
      refine⟨so,a,cap,r9,by simpa using g1,fun h=>(by cases h),fun hp=>?_,fun _ _ _ hlt=>g4 rfl rfl hnl (by simpa using hlt)⟩
      obtain ⟨k,off,e1,e2⟩:=g3 (by simpa using hp)
      exact⟨k,off,e1,by simpa [hgall] using e2⟩
     ·
      obtain ⟨k,arr,ty',m1,m2,m3,m4⟩:=g4 rfl rfl hnl r7
      subst m2
      have hmul:(n+ys.length)*es'<=cap*es':=ZV _ hroom
      have hmul2:(n+ys.length)*es'=n*es'+ys.length*es':=Zi _ _ _
      have hst:=qbk P k (n*es') ty' ds.flatten 0 arr w m3 (by simp[hfl]; omega) hone
      have hrun:=qK (P:=P) (ty:=ty) (a:=⟨k,0,none⟩) hu hi hsA hroom
      rw[ZA,Y9,hsz,hst] at hrun
      simp only[YS,ZM] at hrun
      obtain ⟨arr',harr'⟩:∃ arr':Array Value,arr'=(arr.toList.take (n*es')++ds.flatten++arr.toList.drop (n*es'+ds.flatten.length)).toArray:=⟨_,rfl⟩
      rw[<-harr'] at hrun
      have hsp:arr'.toList=bB arr.toList (n*es') ds.flatten:=by rw[harr']; rfl
      have hfit:n*es'+ds.flatten.length<=arr.toList.length:=by simp[hfl]; omega
      have hasz:arr'.size=arr.size:=by rw[<-qar,hsp,jf _ _ _ hfit]; simp
      have hnk:(w.setRow k arr').heap[k]? = some (.cells arr' ty' (0,0)):=setRow_heap w k arr arr' ty' (0,0) m3
      have hok:∀ j,j≠k->(w.setRow k arr').heap[j]? = w.heap[j]?:=fun j hj=>setRow_other w k j arr' hj
      have hszw:(w.setRow k arr').heap.size=w.heap.size:=by simp[World.setRow]
      have hbw:Below w0.heap.size w (w.setRow k arr'):=⟨rfl,rfl,rfl,by rw[hszw]; exact Yk _,fun j hj=>hok j (by have:=(hr.dom b k m1).2.1; omega)⟩
      have harrg:∀ j,arr'[j]? = if n*es'<=j/\j<n*es'+ds.flatten.length then ds.flatten[j - n*es']? else arr[j]?:=fun j=>by
       rw[<-YV,hsp,gQ _ _ _ _ hfit]; simp
      obtain ⟨r1,r2⟩:=hr.grow (new:=ys) (γ:=ds) (ko:=g.mu b) hb hbw (fun k' o v hs hc=>by
        by_cases e:k'=k
        ·subst e
         obtain ⟨es2,els2,q1,q2⟩:=hs.2 b m1
         rw[hb] at q1; cases q1
         rw[ZN _ _ o arr ty' (0,0) m3] at hc
         rw[ZN _ _ o arr' ty' (0,0) hnk,harrg,Yp (by rw[hnl,Zr]; omega)]
         exact hc
        ·exact(ZU (a:=⟨k',o,none⟩) (hok k' e)).trans hc) (fun k' _ hn=>hok k' (fun e=>hn (e ▸ m1))) (fun k' o ho hd=>(hok k' (fun e=>by subst e; rw[m3] at ho; cases ho; cases hd)).trans ho) (by rw[hszw]; exact Yk _) (.inr hvd) hld (.inl ⟨rfl,fun k' arr1 ty1 hk1 ha1=>by
        rw[m1] at hk1; cases hk1
        rw[m3] at ha1; cases ha1
        exact⟨arr',hnk,r7⟩⟩)
      refine⟨_,_,_,hrun,r1,r2,?_,r9,nH _ _ hlo,rfl⟩
      rw[VR,hsame none]
      refine⟨so,_,cap,rfl,hroom,fun h=>(by cases h),fun _=>⟨k,0,rfl,?_⟩,fun _ _ _ _=>⟨k,arr',ty',by rw[Gh.bJ,m1],rfl,hnk,r7⟩⟩
      rw[Gh.iv,htake,qaa]
      intro j x hj
      have hgfl:(g.ga b).flatten.length=n*es':=by rw[cp hsub,hsl]
      refine⟨?_,?_⟩
      ·rw[Y9,ZN _ _ j arr' ty' (0,0) hnk,harrg]
       rw[Z5,hgfl] at hj
       split at hj
       ·rename_i hj1
        rw[Yp r7]
        have hn0:0<n:=by
         rcases qav n with h | h
         ·rw[h] at hj1; simp at hj1
         ·exact h
        obtain ⟨k',off',e1,e2⟩:=g3 hn0
        cases e1
        have:=(e2 j x hj).1
        rw[Y9,ZN _ _ j arr ty' (0,0) m3] at this
        exact this
       ·rename_i hj1
        have:=(Ym.1 hj).1
        rw[Yq r7]
        exact hj
      ·refine⟨by have h:=hr.own b k (0+j) m1; exact h,fun c hc=>?_⟩
       have hcb:c=b:=r1.inj c b k hc (by rw[Gh.bJ,m1])
       subst hcb
       refine⟨es',els++ys,hsame none,?_⟩
       have:=(Ym.1 hj).1
       rw[YF,hgfl,hfl] at this
       simp only[YF,qaO]
       rw[Zr es' els.length,Zr es' ys.length,<-hnl]
       omega
    ·
     have hyp:ys≠[]:=fun e=>by subst e; simp at hroom; omega
     obtain ⟨c2,arr,hrun,k1,k2,k3⟩:=grows (olds:=(g.ga b).flatten) rfl r7 hl (by rw[cp hsub,hsl]) holdr
     obtain ⟨r1,r2⟩:=hr.grow (new:=ys) (γ:=ds) (ko:=some w.heap.size) hb ((hbd arr).mono hr.below.size) (fun k' o v _ hc=>((hbd arr).cell (p:=⟨k',o,none⟩) (Z9 w _ hc)).trans hc) (fun k' hk' _=>(hbd arr).block k' hk') (fun k' o ho _=>((hbd arr).block k' (Yo.1 ho).1).trans ho) (hbd arr).size (.inr hvd) hld (.inr ⟨rfl,r9,hyp⟩)
     refine⟨_,_,_,hrun,r1,r2,?_,r9,nH _ _ hlo,rfl⟩
     rw[VR,hsame none]
     refine⟨so,_,c2,rfl,k1,fun h=>(by cases h),fun _=>⟨w.heap.size,0,rfl,?_⟩,fun _ _ _ _=>⟨w.heap.size,arr,e,Gh.bJ _ _ _ _,rfl,hnew arr,k2⟩⟩
     rw[Gh.iv,htake,qaa]
     intro j x hj
     refine⟨by rw[Y9,ZN _ _ j arr e (0,0) (hnew arr)]; exact k3 j x hj,hr.out _ _ (Yk _),fun c hc=>?_⟩
     have hcb:c=b:=r1.inj c b _ hc (by rw[Gh.bJ])
     subst hcb
     refine⟨es',els++ys,hsame none,?_⟩
     have:=(Ym.1 hj).1
     rw[YF,cp hsub,hsl,hfl] at this
     simp only[YF,qaO]
     rw[Zr es' els.length,Zr es' ys.length,<-hnl]
     omega
  ·cases h
 ·cases h
theorem Fe {t t2 ty e:TypeId} {es m n cap:Nat} {a:Option Addr} {c:Value} {news:List Value} (hu:P.underlying t=some (.slice e)) (hes:cM P e=some es) (hlen:(Builtin.lenOf c).run P w=.ok m w) (hf:(Builtin.firstCells es (min m n) c).run P w=.ok news.toArray w) :
  (Builtin.copy_ #[t,t2] ty #[.slice a n cap,c]).run P w=match a with | none=>.ok (.int .i64 (min m n:Nat)) w | some a=>((storeCells a news).run P w).andThen fun _ w'=>.ok (.int .i64 (min m n:Nat)) w':=by
 have hs:=eC hes w
 have hf':(Builtin.firstCells es (Nat.min m n) c).run P w=.ok news.toArray w:=hf
 cases a with
 | none=>simp[Builtin.copy_,Yu hu,hlen,hs,hf',goInt]
 | some a=>simp[Builtin.copy_,Yu hu,hlen,hs,hf',goInt]
theorem w6 (hr:Rel H g w0 w) {t t2 ty:TypeId} {x y z:A} {cx cy:Value} {H':aB} {lo:Nat} (h:m8 P t x y H lo=some (z,H')) (hx:VR H g w x cx) (hy:VR H g w y cy):Step H g w0 w lo ((Builtin.copy_ #[t,t2] ty #[cx,cy]).run P w) z H':=by
 unfold m8 at h
 replace h:=bD h
 obtain ⟨e,he,h⟩:=h
 have hu:=ka he
 replace h:=bD h
 obtain ⟨es,hes,h⟩:=h
 replace h:=bD h
 obtain ⟨ys,hys,h⟩:=h
 replace h:=eG h
 obtain ⟨h0,h⟩:=h
 simp only[Zh,ZT,qab] at h0
 have hys3:∀ cs∈ys,cs.length=es/\∀ a∈cs,a.cell=true:=fun cs hcs=>by
  have:=Yw.1 h0.2 cs hcs
  simp only[Yj,Zx] at this
  exact⟨this.1,Yw.1 this.2⟩
 obtain ⟨ds,hvd,hld,hsrc⟩:=Bm (P:=P) hr hys hy (fun cs hcs=>(hys3 cs hcs).1)
 obtain ⟨hlen,hfirst⟩:=hsrc w (fun _=>rfl)
 have hdl:=hvd.length
 split at h
 ·rename_i b o n cl
  split at h
  ·rename_i es' els hb
   replace h:=bu h
   obtain ⟨hc,h⟩:=h
   simp only[Yj,Yn,Zx] at hc
   obtain ⟨hlo,rfl⟩:=hc
   cases h
   rw[VR,hb] at hx
   obtain ⟨hon,a,cap,rfl,g1,g2,g3⟩:=hx
   have hlt:b<H.length:=(Ym.1 hb).1
   have hf:=hfirst (min ys.length n) (Nat.min_le_left _ _)
   have hrun:=Fe (P:=P) (t2:=t2) (ty:=ty) (a:=a) (cap:=cap) hu hes hlen hf
   have hxl:(ys.take n).length=min ys.length n:=by simp[Nat.min_comm]
   have htk:ds.take n=ds.take (min ys.length n):=by
    rw[<-hdl]
    rcases qbq ds.length n with h | h
    ·rw[ZQ h,Y3 h,Y3 (Yk _)]
    ·rw[Nat.min_eq_right h]
   by_cases hm:min ys.length n=0
   ·have hyt:ys.take n=[]:=YI r7
    have hspl:bB els o (ys.take n)=els:=by rw[hyt]; simp[bB]
    have hset:H.set b (.row true es' (bB els o (ys.take n)))=H:=by
     rw[hspl]
     apply Zv
     intro c
     by_cases e:c=b
     ·subst e; rw[YO hlt,hb]
     ·rw[Yz (Zl e)]
    rw[hset]
    have hrun':(Builtin.copy_ #[t,t2] ty #[.slice a n cap,cy]).run P w=.ok (.int .i64 (min ys.length n:Nat)) w:=by
     rw[hrun]
     cases a with
     | none=>rfl
     | some a=>
      rw[hm]
      simp[storeCells]
    exact⟨_,_,g,hrun',hr,Ext.below hr (Below.refl _ _),y7,Yk _,fun _ _ _=>rfl,rfl⟩
   ·obtain ⟨k,hk,rfl⟩:=g3 r7
    obtain ⟨rds,hv,hl,hrow⟩:=hr.blk b _ hb
    obtain ⟨k',arr,ty',hk',har,hcell⟩:=hrow r7
    rw[hk] at hk'; cases hk'
    have hrl:=hv.length
    have hnl:(ds.take (min ys.length n)).flatten.length=min ys.length n*es':=iX hld r7
    have hone:∀ x∈(ds.take (min ys.length n)).flatten,x.oneCell'=true:=fun x hx=>by
     obtain ⟨d,hd,hxd⟩:=qbp.1 hx
     exact hvd.one (fun cs hcs=>(hys3 cs hcs).2) x (qbp.2 ⟨d,YT hd,hxd⟩)
    have hfl:=cp hl
    have hmul:(o+min ys.length n)*es'<=rds.length*es':=ZV _ r7
    rw[Zi] at hmul
    have hal:rds.flatten.length<=arr.size:=by
     by_cases hz:rds.flatten.length=0
     ·omega
     ·have:=hcell (rds.flatten.length - 1) _ (Yg r7)
      have:=(Yo.1 this).1
      omega
    have hst:=qbk P k (o*es') ty' (ds.take (min ys.length n)).flatten 0 arr w har (by rw[hnl]; omega) hone
    simp only[ZM] at hst
    simp only[hst,YS] at hrun
    obtain ⟨arr',harr'⟩:∃ arr':Array Value,arr'=(arr.toList.take (o*es')++(ds.take (min ys.length n)).flatten++arr.toList.drop (o*es'+(ds.take (min ys.length n)).flatten.length)).toArray:=⟨_,rfl⟩
    rw[<-harr'] at hrun
    have hsp:arr'.toList=bB arr.toList (o*es') (ds.take (min ys.length n)).flatten:=by rw[harr']; rfl
    have hdtl:(ds.take n).length=min ys.length n:=by rw[htk]; simp; omega
    obtain ⟨r1,r2⟩:=hr.write hk har (arr':=arr') (B':=.row true es' (bB els o (ys.take n))) hb (.inr ⟨es',els,_,rfl,rfl,by rw[jf _ _ _ r7]⟩) (fun he hnew=>by
     refine⟨bB rds o (ds.take n),?_,?_,fun _=>⟨k,arr',ty',hk,hnew,fun j x hj=>?_⟩⟩
     ·have h1:=bC.ext he _ _ hv
      have h2:=bC.ext he _ _ (hvd.take n)
      have h3:=h2.length
      unfold bB
      rw[h3]
      exact((h1.take o).append h2).append (h1.drop _)
     ·intro d hd
      unfold bB at hd
      rcases Zz.1 hd with hd | hd
      ·rcases Zz.1 hd with hd | hd
       ·exact hl d (YT hd)
       ·exact hld d (YT hd)
      ·exact hl d (Y0 hd)
     ·rw[nu o hl (fun d hd=>hld d (YT hd)) r7,htk,gQ _ _ _ _ r7] at hj
      rw[<-YV,hsp,gQ _ _ _ _ (by have:=hnl; simp only[qar] at *; omega)]
      split at hj
      ·rename_i hin; rw[Yq hin]; exact hj
      ·rename_i hin; rw[Yp hin]; simpa using hcell j x hj)
    exact⟨_,_,g,hrun,r1,r2,y7,r9,nH _ _ hlo,rfl⟩
  ·cases h
 ·cases h
end
section
open Go.RowKit
variable {P:Program} {H H':aB} {g g':Gh} {w0 w w':World}
theorem uL {t:TypeId} {k:IntKind} {vt:TypeId} (h:wc P t=some (k,vt)):∃ kt,P.underlying t=some (.map kt vt)/\P.underlying kt=some (.int k):=by
 unfold wc at h
 split at h
 ·rename_i kt vt' hu
  split at h
  ·rename_i k' hk; cases h; exact⟨kt,hu,hk⟩
  ·cases h
 ·cases h
theorem sO {k:IntKind} {x:A} {a:Int} {c:Value} (h:keyOf k x=some a) (hx:VR H g w x c):c=.int k a:=by
 unfold keyOf at h
 split at h
 ·rename_i j n
  obtain ⟨h1,h2⟩:=bu h
  cases h2
  have:=Yr h1
  subst this
  rw[VR] at hx; exact hx
 ·cases h
def n7 (a:Int):List Int->Option Nat
 | []=>none
 | x :: ks=>if a=x then some 0 else (n7 a ks).map (·+1)
theorem wv {a:Int}:∀ {ks:List Int} {j:Nat},n7 a ks=some j->j<ks.length/\ks[j]? = some a
 | [],_,h=>by cases h
 | x :: ks,j,h=>by
  rw[n7] at h
  split at h
  ·rename_i e; cases h; exact⟨r9,by simp[e]⟩
  ·rw[Y2] at h
   obtain ⟨i,h1,rfl⟩:=h
   obtain ⟨e1,e2⟩:=wv h1
   exact⟨so,by simpa using e2⟩
theorem rT {a:Int}:∀ {ks:List Int} {vs:List A},ks.length=vs.length->mh a ks vs=(n7 a ks).bind fun j=>vs[j]?
 | [],[],_=>rfl
 | [],_ :: _,h=>by simp at h
 | _ :: _,[],h=>by simp at h
 | x :: ks,v :: vs,h=>by
  rw[mh,n7,bF]
  by_cases e:a=x
  ·rw[Yq e,Yq (by simpa using e)]; rfl
  ·rw[Yp e,Yp (by simpa using e),rT (by simpa using h),Option.bind_map]
   rfl
theorem yo {a:Int} {y:A}:∀ {ks:List Int} {vs:List A},ks.length=vs.length->wx a y ks vs=match n7 a ks with | some j=>(ks,vs.set j y) | none=>(ks++[a],vs++[y])
 | [],[],_=>rfl
 | [],_ :: _,h=>by simp at h
 | _ :: _,[],h=>by simp at h
 | x :: ks,v :: vs,h=>by
  rw[wx,n7,bF]
  by_cases e:a=x
  ·rw[Yq e,Yq (by simpa using e)]; rfl
  ·rw[Yp e,Yp (by simpa using e),yo (by simpa using h)]
   cases n7 a ks with
   | none=>rfl
   | some j=>rfl
theorem q9 {k:IntKind} {a:Int}:∀ (es:List MapEntry) (ks:List Int) (i:Nat),es.map (·.key)=ks.map (Value.int k)->Instr.findNow (.int k) (.int k a) es i=some ((n7 a ks).bind fun j=>(es[j]?).map fun e=>(i+j,e.val))
 | [],[],i,_=>rfl
 | [],_ :: _,_,h=>by simp at h
 | _ :: _,[],_,h=>by simp at h
 | e :: es,x :: ks,i,h=>by
  simp only[Zc,Y8] at h
  obtain ⟨h1,h2⟩:=h
  have hs:Instr.sameNow (.int k) (.int k a) e.key=some (a==x):=by rw[h1]; simp[Instr.sameNow]
  rw[Instr.findNow,hs,n7]
  by_cases ex:a=x
  ·subst ex
   simp
  ·rw[show (a==x)=false by simpa using ex,Yp ex]
   simp only[]
   rw[q9 es ks (i+1) h2]
   cases n7 a ks with
   | none=>rfl
   | some j=>
    simp only[Y6,Yf,qaY]
    rw[show i+1+j=i+(j+1) by omega]
theorem mi {kt:TypeId} {k:IntKind} (hk:P.underlying kt=some (.int k)) (a:Int) (b:Bool):(Instr.checkKey b 10000 kt (.int k a)).run P w=.ok () w:=by
 rw[show (10000:Nat)=9999+1 from rfl,Instr.checkKey]
 simp[Yu hk]
theorem np {kt:TypeId} {k:IntKind} (hk:P.underlying kt=some (.int k)) {es:List MapEntry} {ks:List Int} (h:es.map (·.key)=ks.map (Value.int k)) (a:Int):(Instr.findKey kt (.int k a) es).run P w=.ok ((n7 a ks).bind fun j=>(es[j]?).map fun e=>(j,e.val)) w:=by
 unfold Instr.findKey
 simp only[YZ,Yu hk,YS,q9 es ks 0 h,Y9]
 rfl
theorem rO (hr:Rel H g w0 w) {t:TypeId} {y:A} {H':aB} (lo:Nat) (h:pC P t H=some (y,H')):Step H g w0 w lo ((Instr.makeMap t none).run P w) y H':=by
 unfold pC at h
 cases hk:wc P t with
 | none=>rw[hk] at h; cases h
 | some p=>
  rw[hk] at h
  cases h
  have hb:Below w.heap.size w (w.alloc (.map #[] 0)):=(Below.refl _ w).alloc (Yk _) _
  obtain ⟨h1,h2⟩:=hr.push hb (.mp p.1 [] []) (some w.heap.size) [] (fun k hk=>by cases hk; exact⟨rfl,r9⟩) (fun he=>⟨w.heap.size,#[],0,Gh.bJ _ _ _ _,qa8 w _,rfl,by rw[bE]; rfl⟩)
  refine⟨.map (some w.heap.size),_,_,by simp[Instr.makeMap,newObj]; rfl,h1,h2,?_,r9,jc _ _ _,rfl⟩
  rw[VR,ew]; exact⟨w.heap.size,Gh.bJ _ _ _ _,rfl⟩
theorem Rel.Og (hr:Rel H g w0 w) {b r:Nat} {arr arr':Array MapEntry} {cl cl':Nat} {k:IntKind} {ks ks':List Int} {vs vs':List A} (hk:g.mu b=some r) (ha:w.heap[r]? = some (.map arr cl)) (hB:H[b]? = some (.mp k ks vs))
  (hkeys:arr'.toList.map (·.key)=ks'.map (Value.int k)) (hv:bE H g w vs' (arr'.toList.map (·.val))) :
  Rel (H.set b (.mp k ks' vs')) g w0 (w.putObj r (.map arr' cl'))/\Ext H g w (H.set b (.mp k ks' vs')) g (w.putObj r (.map arr' cl')):=by
 have hlt:b<H.length:=(Ym.1 hB).1
 have hrl:r<w.heap.size:=(hr.dom b r hk).2.2
 have hoth:∀ j,j≠r->(w.putObj r (.map arr' cl')).heap[j]? = w.heap[j]?:=fun j hj=>Zu hj
 have hsz:(w.putObj r (.map arr' cl')).heap.size=w.heap.size:=r9
 have hnot:∀ {o:Nat},¬ fi H g r o:=fun {o} hs=>by
  obtain ⟨es,els,h1,_⟩:=hs.2 b hk
  rw[hB] at h1; cases h1
 have hst:∀ {q o},fi H g q o->fi (H.set b (.mp k ks' vs')) g q o:=fun {q o} hs=>by
  refine⟨hs.1,fun c hck=>?_⟩
  obtain ⟨es,els,h1,h2⟩:=hs.2 c hck
  have hcb:c≠b:=fun e=>by subst e; rw[hB] at h1; cases h1
  exact⟨es,els,by rw[Yz (Zl hcb)]; exact h1,h2⟩
 have he:Ext H g w (H.set b (.mp k ks' vs')) g (w.putObj r (.map arr' cl')):=by
  refine⟨fun k' o v hs hc=>?_,fun c C hC=>?_,fun k' x h=>(hoth k' (fun e=>by subst e; rw[ha] at h; cases h)).trans h,by rw[hsz]; exact Yk _,fun k' marr mcl hs hm=>?_,fun k' _ hn=>hoth k' (fun e=>hn b (e ▸ hk)),fun c k' h=>.inl ⟨c,h⟩⟩
  ·have hne:k'≠r:=fun e=>hnot (e ▸ hs)
   exact⟨(ZU (a:=⟨k',o,none⟩) (hoth k' hne)).trans hc,hst hs⟩
  ·by_cases e:c=b
   ·subst e
    rw[hB] at hC; cases hC
    exact⟨.mp k ks' vs',by rw[YO hlt],rfl⟩
   ·refine⟨C,by rw[Yz (Zl e)]; exact hC,?_⟩
    cases C with
    | box _=>rfl
    | row wr es els=>cases wr with
     | true=>exact⟨rfl,rfl,rfl⟩
     | false=>exact⟨rfl,⟨[],r9⟩,(hr.blk c _ hC).len,Yk _,fun _=>⟨rfl,fun k' arr1 ty1 hk1 ha1=>⟨arr1,(hoth k' (fun e2=>e (hr.inj c b r (e2 ▸ hk1) hk))).trans ha1,Yk _⟩⟩⟩
    | rng _=>exact⟨rfl,rfl⟩
    | mp _ _ _=>rfl
    | dead=>trivial
    | hole=>trivial
  ·have hne:k'≠r:=fun e=>hnot (e ▸ hs)
   exact⟨(hoth k' hne).trans hm,hst hs⟩
 refine⟨⟨hr.below.trans ((Below.refl w0.heap.size w).grown (qbx w r _) (hr.below.size) (fun k e=>by cases e; exact(hr.dom b r hk).2.1)),fun c j hcj=>⟨by simpa using (hr.dom c j hcj).1,(hr.dom c j hcj).2.1,by rw[hsz]; exact(hr.dom c j hcj).2.2⟩,hr.inj,hr.Aa he,hr.yk he,fun c C hC=>?_⟩,he⟩
 by_cases e:c=b
 ·subst e
  rw[YO hlt] at hC; cases hC
  exact⟨r,arr',cl',hk,qaZ hrl,hkeys,bE.ext he _ _ hv⟩
 ·rw[Yz (Zl e)] at hC
  have h:=hr.blk c C hC
  have hmu:∀ {j},g.mu c=some j->j≠r:=fun {j} hj e2=>e (hr.inj c b r (e2 ▸ hj) hk)
  cases C with
  | box cs=>obtain ⟨j,arr1,ty1,h1,h2,h3⟩:=h; exact⟨j,arr1,ty1,h1,(hoth j (hmu h1)).trans h2,bE.ext he _ _ h3⟩
  | row wr es els=>cases wr with
   | true=>
    obtain ⟨ds,h1,h2,h3⟩:=h
    exact⟨ds,bC.ext he _ _ h1,h2,fun hp=>let ⟨j,arr1,ty1,e1,e2,e3⟩:=h3 hp; ⟨j,arr1,ty1,e1,(hoth j (hmu e1)).trans e2,e3⟩⟩
   | false=>exact⟨bC.ext he _ _ h.1,h.2⟩
  | rng st=>obtain ⟨j,h1,h2⟩:=h; exact⟨j,h1,(hoth j (hmu h1)).trans h2⟩
  | mp _ _ _=>obtain ⟨j,arr1,c1,h1,h2,h3,h4⟩:=h; exact⟨j,arr1,c1,h1,(hoth j (hmu h1)).trans h2,h3,bE.ext he _ _ h4⟩
  | dead=>exact h
  | hole=>exact h
theorem bE.setAt {vs:List A} {ds:List Value} (h:bE H g w vs ds) {y:A} {d:Value} (hy:VR H g w y d) (j:Nat):bE H g w (vs.set j y) (ds.set j d):=by
 rw[dK] at h ⊢
 refine⟨by simpa using h.1,fun i a e ha hd=>?_⟩
 rw[ZW] at ha hd
 by_cases hij:j=i
 ·subst hij
  rw[Yq rfl] at ha hd
  split at ha
  ·split at hd
   ·cases ha; cases hd; exact hy
   ·cases hd
  ·cases ha
 ·rw[Yp hij] at ha hd
  exact h.2 i a e ha hd
theorem od (hr:Rel H g w0 w) {t:TypeId} {m i x:A} {H':aB} {lo:Nat} {cm ci cx:Value} (h:iZ P t m i x H lo=some H') (hm:VR H g w m cm) (hi:VR H g w i ci) (hx:VR H g w x cx) :
  ∃ w',(Instr.mapUpdate t cm ci cx).run P w=.ok () w'/\Rel H' g w0 w'/\Ext H g w H' g w'/\H.length<=H'.length/\∀ b,b<lo->b<H.length->H'[b]? = H[b]?:=by
 unfold iZ at h
 obtain ⟨⟨k,vt⟩,hk,h⟩:=bD h
 obtain ⟨a,ha,h⟩:=bD h
 obtain ⟨kt,hu,huk⟩:=uL hk
 have:=sO ha hi
 subst this
 cases m with
 | mr b=>
  simp only[] at h
  split at h
  ·rename_i k' ks vs hB
   obtain ⟨hc,h⟩:=bu h
   cases h
   rw[Yj] at hc
   have hlo:=Yr hc.1
   have hkk:k'=k:=Yr hc.2
   subst hkk
   rw[VR,hB] at hm
   obtain ⟨r,hmu,rfl⟩:=hm
   obtain ⟨r',arr,cl,e1,e2,e3,e4⟩:=hr.blk b _ hB
   rw[hmu] at e1; cases e1
   have hlen:ks.length=vs.length:=by
    have:=e4.length
    have h2:=YX List.length e3
    simp at this h2
    omega
   have hal:ks.length=arr.size:=by have h2:=YX List.length e3; simp at h2; omega
   have hget:(getObj r).run P w=.ok (.map arr cl) w:=by simp[getObj,Sem.run,e2]
   have hset:∀ o,(setObj r o).run P w=.ok () (w.putObj r o):=fun o=>by simp[setObj,Sem.run,e2,World.putObj]
   have hlow:∀ B,∀ c,c<lo->c<H.length->(H.set b B)[c]? = H[c]?:=fun B c hc _=>Yz r7
   rw[yo hlen]
   cases hp:n7 a ks with
   | none=>
    simp only[]
    have hrun:(Instr.mapUpdate t (.map (some r)) (.int k' a) cx).run P w=.ok () (w.putObj r (.map (arr.push { key:=.int k' a,val:=cx,born:=cl }) (cl+1))):=by
     unfold Instr.mapUpdate
     simp only[YZ,Yu hu,YS,hget,mi huk,np huk e3,hp,qaF,hset]
    obtain ⟨r1,r2⟩:=hr.Og (arr':=arr.push { key:=.int k' a,val:=cx,born:=cl }) (cl':=cl+1) (ks':=ks++[a]) (vs':=vs++[x]) hmu e2 hB (by simp[e3]) (by
     rw[show (arr.push { key:=Value.int k' a,val:=cx,born:=cl }).toList.map (·.val)=arr.toList.map (·.val)++[cx] by simp]
     exact e4.append (by rw[bE]; exact⟨cx,[],rfl,hx,H7⟩))
    exact⟨_,hrun,r1,r2,r9,hlow _⟩
   | some j=>
    simp only[]
    obtain ⟨hj,hja⟩:=wv hp
    have hja':arr[j]? = some arr[j]:=Zo r7
    have hkey:(arr[j]'(r7)).key=.int k' a:=by
     have h1:(arr.toList.map (·.key))[j]? = some (.int k' a):=by rw[e3,YJ,hja]; rfl
     rw[YJ,YV,hja'] at h1
     simpa using h1
    have hsame:(Instr.keyThatStays (.int k' a) (.int k' a)).run P w=.ok (.int k' a) w:=by
     unfold Instr.keyThatStays
     rw[show Instr.sameBits 10000 (.int k' a) (.int k' a)=true by rw[show (10000:Nat)=9999+1 from rfl]; simp[Instr.sameBits]]
     rfl
    have hrun:(Instr.mapUpdate t (.map (some r)) (.int k' a) cx).run P w=.ok () (w.putObj r (.map (arr.modify j fun e=>{ e with key:=.int k' a,val:=cx }) cl)):=by
     unfold Instr.mapUpdate
     simp only[YZ,Yu hu,YS,hget,mi huk,np huk e3,hp,Yf,YV,hja',Y6,qao,hkey,hsame,hset]
    have hmod:∀ (f:MapEntry->Value) (v:Value),(f { (arr[j]'(r7)) with key:=.int k' a,val:=cx }=v)->((arr.modify j fun e=>{ e with key:=.int k' a,val:=cx }).toList.map f)=(arr.toList.map f).set j v:=fun f v hf=>by
     refine Zv fun i=>?_
     rw[YJ,YV,Array.getElem?_modify,ZW]
     by_cases hij:j=i
     ·subst hij
      rw[Yq rfl,hja',Yq rfl,Yq so]
      simp[hf]
     ·rw[Yp hij,Yp hij,YJ,YV]
    obtain ⟨r1,r2⟩:=hr.Og (arr':=arr.modify j fun e=>{ e with key:=.int k' a,val:=cx }) (cl':=cl) (ks':=ks) (vs':=vs.set j x) hmu e2 hB (by
     rw[hmod (·.key) (.int k' a) rfl,e3]
     refine Zv fun i=>?_
     rw[ZW]
     by_cases hij:j=i
     ·subst hij
      rw[Yq rfl,Yq so,YJ,hja]; rfl
     ·rw[Yp hij]) (by rw[hmod (·.val) cx rfl]; exact e4.setAt hx j)
    exact⟨_,hrun,r1,r2,r9,hlow _⟩
  ·cases h
 | _=>cases h
theorem KR {vt:TypeId} {c:Bool} {y:A} {es:List MapEntry} {ks:List Int} {vs:List A} {a:Int} (hl:ks.length=vs.length) (h:Lz P vt c (mh a ks vs)=some y) (hv:bE H g w vs (es.map (·.val))) :
  ∃ d,(match (n7 a ks).bind fun j=>(es[j]?).map fun e=>(j,e.val) with | some (_,v)=>(d=if c then .tuple #[v,.bool true] else v) | none=>∃ i z,P.info? vt=some i/\i.zero=some z/\(d=if c then .tuple #[z,.bool false] else z))/\VR H g w y d:=by
 rw[rT hl] at h
 cases hp:n7 a ks with
 | none=>
  rw[hp] at h
  simp only[qaF,Lz] at h ⊢
  obtain ⟨i,hi,h⟩:=bD h
  rw[Y2] at h
  obtain ⟨z,hz,h⟩:=h
  refine⟨_,⟨i,z,hi,hz,rfl⟩,?_⟩
  subst h
  cases c
  ·exact pe z
  ·rw[Yi,VR]
   exact⟨_,rfl,by rw[bE]; exact⟨z,_,rfl,pe z,by rw[bE]; exact⟨_,_,rfl,y7,H7⟩⟩⟩
 | some j=>
  obtain ⟨hj,_⟩:=wv hp
  have hel:es.length=vs.length:=by have:=hv.length; simpa using this
  have hvj:vs[j]? = some vs[j]:=Yg r7
  have hej:es[j]? = some es[j]:=Yg r7
  rw[hp] at h
  simp only[Yf,hvj,Lz,Zd,hej,Y6] at h ⊢
  refine⟨_,rfl,?_⟩
  subst h
  have hvv:VR H g w vs[j] es[j].val:=(dK.1 hv).2 j _ _ hvj (by rw[YJ,hej]; rfl)
  cases c
  ·exact hvv
  ·rw[Yi,VR]
   exact⟨_,rfl,by rw[bE]; exact⟨_,_,rfl,hvv,by rw[bE]; exact⟨_,_,rfl,y7,H7⟩⟩⟩
theorem tK (hr:Rel H g w0 w) {t:TypeId} {m i y:A} {c:Bool} {cm ci:Value} (h:fp P t m i c H=some y) (hm:VR H g w m cm) (hi:VR H g w i ci):∃ d,(Instr.lookup t cm ci c).run P w=.ok d w/\VR H g w y d:=by
 unfold fp at h
 obtain ⟨⟨k,vt⟩,hk,h⟩:=bD h
 obtain ⟨a,ha,h⟩:=bD h
 obtain ⟨kt,hu,huk⟩:=uL hk
 have:=sO ha hi
 subst this
 have main:∀ {r:Nat} {arr:Array MapEntry} {cl:Nat} {ks:List Int} {vs:List A},w.heap[r]? = some (.map arr cl)->arr.toList.map (·.key)=ks.map (Value.int k)->bE H g w vs (arr.toList.map (·.val))->Lz P vt c (mh a ks vs)=some y->∃ d,(Instr.lookup t (.map (some r)) (.int k a) c).run P w=.ok d w/\VR H g w y d:=by
  intro r arr cl ks vs e2 e3 e4 hok
  have hlen:ks.length=vs.length:=by
   have:=e4.length
   have h2:=YX List.length e3
   simp at this h2
   omega
  obtain ⟨d,hd,hv⟩:=KR hlen hok e4
  refine⟨d,?_,hv⟩
  have hget:(getObj r).run P w=.ok (.map arr cl) w:=by simp[getObj,Sem.run,e2]
  unfold Instr.lookup
  simp only[YZ,Yu hu,YS,hget,qam,mi huk,np huk e3]
  cases hf:(n7 a ks).bind fun j=>(arr.toList[j]?).map fun e=>(j,e.val) with
  | none=>
   rw[hf] at hd
   obtain ⟨i,z,h1,h2,h3⟩:=hd
   have hz:(zeroValue vt).run P w=.ok z w:=by simp[zeroValue,typeInfo,h1,h2]
   simp only[YZ,hz,YS,qam,h3]
  | some p=>
   rw[hf] at hd
   obtain ⟨j,v⟩:=p
   simp only[qam,YS]
   have hd:d=if c then .tuple #[v,.bool true] else v:=hd
   rw[hd]
   cases c<;>rfl
 cases m with
 | mv k' ks vs=>
  obtain ⟨hc,h⟩:=bu h
  have hkk:k'=k:=Yr hc
  subst hkk
  rw[VR] at hm
  obtain ⟨r,arr,cl,rfl,_,e2,e3,e4⟩:=hm
  exact main e2 e3 e4 h
 | mr b=>
  simp only[] at h
  split at h
  ·rename_i k' ks vs hB
   obtain ⟨hc,hok⟩:=bu h
   have hkk:k'=k:=Yr hc
   subst hkk
   rw[VR,hB] at hm
   obtain ⟨r,hmu,rfl⟩:=hm
   obtain ⟨r',arr,cl,e1,e2,e3,e4⟩:=hr.blk b _ hB
   exact(by rw[hmu] at e1; cases e1; exact main e2 e3 e4 hok)
  ·cases h
 | _=>cases h
theorem uO {t:TypeId} {c:Bool} {y:A} (h:wj P t c=some y):c=true/\∃ z,(zeroValue t).run P w=.ok z w/\VR H g w y (.tuple #[z,.bool false]):=by
 unfold wj at h
 cases c with
 | false=>cases h
 | true=>
  simp only[Yi] at h
  obtain ⟨i,hi,h⟩:=bD h
  rw[Y2] at h
  obtain ⟨z,hz,rfl⟩:=h
  refine⟨rfl,z,by simp[zeroValue,typeInfo,hi,hz],?_⟩
  rw[VR]
  exact⟨_,rfl,by rw[bE]; exact⟨z,_,rfl,pe z,by rw[bE]; exact⟨_,_,rfl,y7,H7⟩⟩⟩
theorem tJ {t xt:TypeId} {x y:A} {c:Bool} {cv:Value} (h:nT P x t c=some y) (hx:VR H g w x cv):∃ d,(Instr.typeAssert cv xt t c).run P w=.ok d w/\VR H g w y d:=by
 unfold nT at h
 split at h
 ·cases h
 ·cases h
 ·rename_i u hn hu
  split at h
  ·rename_i t' z
   rw[VR] at hx
   obtain ⟨v,rfl,hv⟩:=hx
   rw[bF] at h
   split at h
   ·rename_i ht
    have ht:=Yy ht
    subst ht
    have hr:(Instr.typeAssert (.iface t' v) xt t' c).run P w=.ok (if c then .tuple #[v,.bool true] else v) w:=by
     unfold Instr.typeAssert
     rw[YZ,Yu hu]
     simp only[YS]
     cases u<;>first | exact absurd hu (hn _) | simp
    refine⟨_,hr,?_⟩
    cases c with
    | false=>simp only[Yh,Zd] at h; subst h; exact hv
    | true=>
     simp only[Yi,Zd] at h
     subst h
     rw[Yq rfl,VR]
     exact⟨_,rfl,by rw[bE]; exact⟨v,_,rfl,hv,by rw[bE]; exact⟨_,_,rfl,y7,H7⟩⟩⟩
   ·rename_i ht
    obtain ⟨rfl,z,hz,hv2⟩:=uO (H:=H) (g:=g) (w:=w) h
    have ht:¬ t'=t:=fun e=>ht (by rw[e]; simp)
    refine⟨_,?_,hv2⟩
    unfold Instr.typeAssert
    rw[YZ,Yu hu]
    simp only[YS]
    cases u<;>first | exact absurd hu (hn _) | simp[ht,hz]
  ·rw[VR] at hx
   subst hx
   obtain ⟨rfl,z,hz,hv2⟩:=uO (H:=H) (g:=g) (w:=w) h
   refine⟨_,?_,hv2⟩
   unfold Instr.typeAssert
   rw[YZ,Yu hu]
   simp only[YS]
   cases u<;>first | exact absurd hu (hn _) | simp[hz]
  ·cases h
end
section
open Go.RowKit
def gV (F:Fence):Prop:=F.depth=none/\(∀ f,F.fn f)/\F.alive=false
theorem Ak:gV Fence.wide:=⟨rfl,fun _=>trivial,rfl⟩
theorem pT {F:Fence} (h:gV F) (P:Program) (m:Machine):m.fenced P F:=fun g _=>
 ⟨fun ha=>(by rw[h.2.2] at ha; cases ha),.inl (h.2.1 _),fun f _=>h.2.1 f,fun d hd=>(by rw[h.1] at hd; cases hd)⟩
theorem iL {F:Fence} {n:Nat} {P:Program} {f:FuncId} {args:Array Value} {w:World} {R:Ending->World->Prop} (hF:gV F) (h:Calls P f args w R):CallsIn F n P f args w R:=
 ⟨hF.2.1 f,fun cs _=>let ⟨e,w',fr,r,s,x⟩:=h cs; ⟨e,w',fr,r,(by cases e with
  | returned v=>exact(StepsIn.of_steps s).mono fun m _=>pT hF P m
  | panicked v=>exact(StepsIn.of_steps s).mono fun m _=>pT hF P m
  | outgrown=>exact s),x⟩⟩
def G0 (S:Nat->Nat->Prop):Gh:=⟨fun _=>none,fun _=>[],S,fun _=>Jh⟩
def fm (P:Program) (glob:Nat->Option (List Value)) (k:Nat) (args:List A) (r:A):Prop:=
 ∀ (S:Nat->Nat->Prop) (w:World) (cargs:List Value),(∀ k o,w.heap.size<=k->S k o)->(∀ (G:Nat) (vs:List Value),glob G=some vs->bK [] (G0 S) w G 0 vs)->bE [] (G0 S) w args cargs ->
  Calls P k cargs.toArray w fun e w'=>∃ c,e=.returned c/\Below w.heap.size w w'/\VR [] (G0 S) w' r c
variable {H H':aB} {g g':Gh} {w0 w w':World}
mutual
theorem nN {G:Nat->Nat->Nat->A} {S:Nat->Nat->Prop} (hS:∀ k o,fi H g k o->S k o) (hG:∀ b o m cl c,VR H g w (.sl b o m cl) c->VR [] (G0 S) w (G b o m) c):∀ (a:A) (c:Value),VR H g w a c->VR [] (G0 S) w (cE G a) c
 | .any,_,_=>X0
 | .v x,c,h=>by simp only[cE]; rw[VR] at h ⊢; exact h
 | .ptr ..,_,_=>X0
 | .ep ..,_,_=>X0
 | .ip _,_,_=>X0
 | .imm els clip,c,h=>by
  simp only[cE]
  rw[VR] at h ⊢
  obtain ⟨a,cap,ds,es,h1,h2,h3,h4,h5,h6⟩:=h
  have hv:=iW hS hG els ds h6
  have hl:(dm G els).length=els.length:=by rw[<-hv.length,h6.length]
  exact⟨a,cap,ds,es,by rw[hl]; exact h1,by rw[hl]; exact h2,fun h=>(by cases h),h4,fun hp=>let ⟨k,off,e1,e2⟩:=h5 (by rw[hl] at hp; exact hp); ⟨k,off,e1,fun j v hj=>⟨(e2 j v hj).1,hS _ _ (e2 j v hj).2,fun b hb=>by cases hb⟩⟩,hv⟩
 | .sl b o m cl,c,h=>by simp only[cE]; exact hG b o m cl c h
 | .agg cs,c,h=>by
  simp only[cE]
  rw[VR] at h ⊢
  obtain ⟨ds,h1,h2⟩:=h
  exact⟨ds,h1,jR hS hG cs _ h2⟩
 | .tup cs,c,h=>by
  simp only[cE]
  rw[VR] at h ⊢
  obtain ⟨ds,h1,h2⟩:=h
  exact⟨ds,h1,jR hS hG cs _ h2⟩
 | .fn f [] [],c,h=>by
  simp only[cE]
  rw[VR] at h ⊢
  obtain ⟨ds,es,h1,h2,h3⟩:=h
  rw[bE] at h2 h3
  exact⟨ds,es,h1,by rw[bE]; exact h2,by rw[bE]; exact h3⟩
 | .fn _ (_ :: _) _,_,_=>X0
 | .fn _ [] (_ :: _),_,_=>X0
 | .yld _,c,h=>X0
 | .nq _,c,h=>X0
 | .mr _,c,h=>X0
 | .mv k ks vs,c,h=>by
  simp only[cE]
  rw[VR] at h ⊢
  obtain ⟨r,arr,cl,h1,h2,h3,h4,h5⟩:=h
  exact⟨r,arr,cl,h1,⟨hS _ _ h2,fun b hb=>by cases hb⟩,h3,h4,jR hS hG vs _ h5⟩
 | .ifc t x,c,h=>by
  simp only[cE]
  rw[VR] at h ⊢
  obtain ⟨d,h1,h2⟩:=h
  exact⟨d,h1,nN hS hG x d h2⟩
theorem jR {G:Nat->Nat->Nat->A} {S:Nat->Nat->Prop} (hS:∀ k o,fi H g k o->S k o) (hG:∀ b o m cl c,VR H g w (.sl b o m cl) c->VR [] (G0 S) w (G b o m) c):∀ (cs:List A) (ds:List Value),bE H g w cs ds->bE [] (G0 S) w (bq G cs) ds
 | [],_,h=>by simp only[bq]; rw[bE] at h ⊢; exact h
 | a :: as,_,h=>by
  simp only[bq]
  rw[bE] at h ⊢
  obtain ⟨d,ds',h1,h2,h3⟩:=h
  exact⟨d,ds',h1,nN hS hG a d h2,jR hS hG as ds' h3⟩
theorem iW {G:Nat->Nat->Nat->A} {S:Nat->Nat->Prop} (hS:∀ k o,fi H g k o->S k o) (hG:∀ b o m cl c,VR H g w (.sl b o m cl) c->VR [] (G0 S) w (G b o m) c):∀ (cs:List (List A)) (ds:List (List Value)),bC H g w cs ds->bC [] (G0 S) w (dm G cs) ds
 | [],_,h=>by simp only[dm]; rw[bC] at h ⊢; exact h
 | a :: as,_,h=>by
  simp only[dm]
  rw[bC] at h ⊢
  obtain ⟨d,ds',h1,h2,h3⟩:=h
  exact⟨d,ds',h1,jR hS hG a d h2,iW hS hG as ds' h3⟩
end
theorem uT {ds:List (List Value)} {es k o m:Nat} {arr:Array Value} {ty:TypeId} (hd:∀ d∈ds,d.length=es) (ha:w.heap[k]? = some (.cells arr ty (0,0))) (h:∀ (j:Nat) (v:Value),ds.flatten[j]? = some v->arr[j]? = some v) {j:Nat} {v:Value} (hj:((ds.drop o).take m).flatten[j]? = some v):w.cell? ⟨k,o*es+j,none⟩=some v:=by
 rw[ZN w k _ arr ty (0,0) ha]
 refine h _ v ?_
 have e1:ds=ds.take o++((ds.drop o).take m++(ds.drop o).drop m):=by rw[ZH,ZH]
 by_cases ho:o<=ds.length
 ·have hl:(ds.take o).flatten.length=o*es:=by
   have:∀ l:List (List Value),(∀ d∈l,d.length=es)->l.flatten.length=l.length*es:=fun l hl=>by
    induction l with
    | nil=>simp
    | cons x l ih=>rw[ZB,YF,hl x r9,ih (fun d hd=>hl d (by simp[hd])),YD,Zi]; omega
   rw[this _ (fun d hd'=>hd d (YT hd')),Zq,ZQ ho]
  rw[e1,qaa,YY r7,hl,show o*es+j - o*es=j by omega,qaa]
  rw[YE (Ym.1 hj).1]
  exact hj
 ·rw[List.drop_eq_nil_of_le r7] at hj
  simp at hj
theorem p5 (hr:Rel H g w0 w):∀ (q b o m:Nat) (cl:Bool) (c:Value),VR H g w (.sl b o m cl) c->VR [] (G0 (fi H g)) w (iI q H b o m) c
 | 0,_,_,_,_,_,_=>by simp only[iI]; rw[VR]; trivial
 | q+1,b,o,m,cl,c,h=>by
  simp only[iI]
  split
  ·rename_i es els hb
   rw[VR,hb] at h
   obtain ⟨h0,a,cap,rfl,h1,h2,h3,_⟩:=h
   obtain ⟨hga,hgl⟩:=hr.blk b _ hb
   have hv:=iW (fun _ _ h=>h) (fun b o m cl c h=>p5 hr q b o m cl c h) _ _ ((hga.drop o).take m)
   have hl:(dm (iI q H) ((els.drop o).take m)).length=m:=by rw[<-hv.length]; simp[hga.length]; omega
   rw[VR]
   exact⟨a,cap,_,es,by rw[hl],by rw[hl]; exact h1,fun h=>(by cases h),fun d hd=>hgl d (Y0 (YT hd)),fun hp=>let ⟨k,off,e1,e2⟩:=h3 (by rw[hl] at hp; exact hp); ⟨k,off,e1,fun j v hj=>⟨(e2 j v hj).1,(e2 j v hj).2,fun b hb=>by cases hb⟩⟩,hv⟩
  ·rw[VR]; trivial
theorem lX (hr:Rel H g w0 w):∀ (q b o m:Nat) (cl:Bool) (c:Value),VR H g w (.sl b o m cl) c->VR [] (G0 g.S) w (iz q H b o m) c
 | 0,_,_,_,_,_,_=>by simp only[iz]; rw[VR]; trivial
 | q+1,b,o,m,cl,c,h=>by
  simp only[iz]
  split
  ·rename_i wr es els hb
   rw[VR,hb] at h
   have hS:∀ k o,fi H g k o->g.S k o:=fun k o h=>h.1
   cases wr with
   | false=>
    obtain ⟨h0,a,cap,rfl,h1,h2,h3,_⟩:=h
    obtain ⟨hga,hgl⟩:=hr.blk b _ hb
    have hv:=iW hS (fun b o m cl c h=>lX hr q b o m cl c h) _ _ ((hga.drop o).take m)
    have hl:(dm (iz q H) ((els.drop o).take m)).length=m:=by rw[<-hv.length]; simp[hga.length]; omega
    rw[VR]
    exact⟨a,cap,_,es,by rw[hl],by rw[hl]; exact h1,fun h=>(by cases h),fun d hd=>hgl d (Y0 (YT hd)),fun hp=>let ⟨k,off,e1,e2⟩:=h3 (by rw[hl] at hp; exact hp); ⟨k,off,e1,fun j v hj=>⟨(e2 j v hj).1,(e2 j v hj).2.1,fun b hb=>by cases hb⟩⟩,hv⟩
   | true=>
    obtain ⟨h0,a,cap,rfl,h1,h2,h3⟩:=h
    obtain ⟨ds,d1,d2,d3⟩:=hr.blk b _ hb
    have hv:=iW hS (fun b o m cl c h=>lX hr q b o m cl c h) _ _ ((d1.drop o).take m)
    have hl:(dm (iz q H) ((els.drop o).take m)).length=m:=by rw[<-hv.length]; simp[d1.length]; omega
    rw[VR]
    refine⟨a,cap,_,es,by rw[hl],by rw[hl]; exact h1,fun h=>(by cases h),fun d hd=>d2 d (Y0 (YT hd)),fun hp=>?_,hv⟩
    rw[hl] at hp
    obtain ⟨k,hk,ha⟩:=h3 hp
    obtain ⟨k',arr,ty,m1,m2,m3⟩:=d3 r7
    rw[hk] at m1; cases m1
    exact⟨k,o*es,ha,fun j v hj=>⟨uT d2 m2 m3 hj,hr.own b k _ hk,fun b hb=>by cases hb⟩⟩
  ·rw[VR]; trivial
theorem bE.I3 {S:aB}:∀ (o:Nat) {cs:List A} {ds:List Value},bE S g w cs ds->bE S g w (cs.drop o) (ds.drop o)
 | 0,_,_,h=>h
 | o+1,[],_,h=>by rw[bE] at h; subst h; rw[List.drop_nil,List.drop_nil,bE]
 | o+1,a :: as,_,h=>by rw[bE] at h; obtain ⟨d,ds',rfl,_,h3⟩:=h; exact bE.I3 o h3
theorem tq (hr:Rel H g w0 w):∀ (n:Nat) (a:A) (c:Value),VR H g w a c->VR [] (G0 g.S) w (jx n H a) c
 | 0,a,_,_=>by rw[show jx 0 H a=.any from rfl,VR]; trivial
 | n+1,a,c,h=>by
  have hm:∀ (cs:List A) (ds:List Value),bE H g w cs ds->bE [] (G0 g.S) w (cs.map (jx n H)) ds:=fun cs=>by
   induction cs with
   | nil=>intro ds h; rw[bE] at h; rw[qaW,bE]; exact h
   | cons a as ih=>intro ds h; rw[bE] at h; obtain ⟨d,ds',h1,h2,h3⟩:=h; rw[Zc,bE]; exact⟨d,ds',h1,tq hr n a d h2,ih ds' h3⟩
  cases a with
  | ptr b o=>
   show VR [] (G0 g.S) w (match H[b]? with | some (.box cs)=>A.ip ((cs.drop o).map (jx n H)) | _=>.any) c
   split
   ·rename_i cs hb
    rw[VR,hb] at h
    obtain ⟨k,h1,rfl⟩:=h
    obtain ⟨k',arr,ty,e1,e2,e3⟩:=hr.blk b _ hb
    rw[h1] at e1; cases e1
    rw[VR]
    refine⟨k,o,arr.toList.drop o,rfl,fun j v hj=>⟨?_,hr.own b k _ h1,fun b hb=>by cases hb⟩,hm _ _ (e3.I3 o)⟩
    rw[ZN w k _ arr ty (0,0) e2]
    rw[ZC] at hj
    simpa using hj
   ·rw[VR]; trivial
  | fn f p q=>
   rw[VR] at h
   obtain ⟨ds,es,h1,h2,h3⟩:=h
   show VR [] (G0 g.S) w (.fn f (p.map (jx n H)) (q.map (jx n H))) c
   rw[VR]
   exact⟨ds,es,h1,hm _ _ h2,hm _ _ h3⟩
  | agg cs=>
   rw[VR] at h
   obtain ⟨ds,h1,h2⟩:=h
   show VR [] (G0 g.S) w (.agg (cs.map (jx n H))) c
   rw[VR]
   exact⟨ds,h1,hm _ _ h2⟩
  | _=>exact nN (fun _ _ h=>h.1) (fun b o m cl c h=>lX hr 4 b o m cl c h) _ c h
theorem Fo (hr:Rel H g w0 w) (a:A) (c:Value) (h:VR H g w a c):VR [] (G0 g.S) w (br H a) c:=by
 unfold br
 split
 ·rename_i b
  split
  ·rename_i k ks vs hb
   rw[VR,hb] at h
   obtain ⟨r,h1,h2⟩:=h
   obtain ⟨r',arr,cl,e1,e2,e3,e4⟩:=hr.blk b _ hb
   rw[h1] at e1; cases e1
   rw[VR]
   exact⟨r,arr,cl,h2,⟨hr.own b r 0 h1,fun b hb=>by cases hb⟩,e2,e3,jR (fun _ _ h=>h.1) (fun b o m cl c h=>lX hr 4 b o m cl c h) _ _ e4⟩
  ·rw[VR]; trivial
 ·exact tq hr 6 _ c h
 ·exact nN (fun _ _ h=>h.1) (fun b o m cl c h=>lX hr 4 b o m cl c h) a c h
theorem uX (hr:Rel H g w0 w) (n:Nat):∀ (cs:List A) (ds:List Value),bE H g w cs ds->bE [] (G0 g.S) w (cs.map (jx n H)) ds
 | [],_,h=>by rw[bE] at h; rw[qaW,bE]; exact h
 | a :: as,_,h=>by rw[bE] at h; obtain ⟨d,ds',h1,h2,h3⟩:=h; rw[Zc,bE]; exact⟨d,ds',h1,tq hr n a d h2,uX hr n as ds' h3⟩
theorem p6 (hr:Rel H g w0 w) (a:A) (c:Value) (h:VR H g w a c):VR [] (G0 (fi H g)) w (snap H a) c:=nN (fun _ _ h=>h) (fun b o m cl c h=>p5 hr 4 b o m cl c h) a c h
theorem yC (hr:Rel H g w0 w) {l:List A} {cs:List Value} (h:bE H g w l cs):bE [] (G0 (fi H g)) w (l.map (snap H)) cs:=by
 obtain ⟨h1,h2⟩:=dK.1 h
 refine dK.2 ⟨by simpa using h1,fun i a d ha hd=>?_⟩
 rw[YJ] at ha
 cases hx:l[i]? with
 | none=>rw[hx] at ha; cases ha
 | some x=>rw[hx] at ha; cases ha; exact p6 hr x d (h2 i x d hx hd)
theorem VR.back {S:Nat->Nat->Prop} {x:A} {c:Value} (hS:∀ k o,S k o->fi H g k o) (h:VR [] (G0 S) w x c):VR H g w x c:=
 VR.fq (H:=[]) (g:=G0 S) ⟨fun k o _ hs hc=>⟨hc,hS k o hs.1⟩,fun b B hB=>(by simp at hB),fun k arr cl hs hm=>⟨hm,hS k 0 hs.1⟩⟩ x c h
theorem Gf (hr:Rel H g w0 w) {a:A} {c:Value} (h:VR H g w a c):VR H g w (zF H a) c:=by
 unfold zF
 split
 ·exact VR.back (fun _ _ h=>h) (p6 hr _ c h)
 ·rw[VR] at h ⊢
  obtain ⟨a,cap,ds,es,h1,h2,_,h4,h5,h6⟩:=h
  exact⟨a,cap,ds,es,h1,h2,fun h=>(by cases h),h4,h5,h6⟩
 ·exact h
theorem xF (hr:Rel H g w0 w):∀ {cs:List A} {ds:List Value},bE H g w cs ds->bE H g w (cs.map (zF H)) ds
 | [],_,h=>h
 | a :: as,_,h=>by
  rw[bE] at h
  obtain ⟨d,ds',rfl,h1,h2⟩:=h
  rw[Zc,bE]
  exact⟨d,ds',rfl,Gf hr h1,xF hr h2⟩
theorem AV (hr:Rel H g w0 w) {a:A} {c:Value} (h:VR H g w a c):VR H g w (cK H a) c:=by
 unfold cK
 split
 ·exact VR.back (fun _ _ h=>h) (p6 hr _ c h)
 ·rw[VR] at h ⊢
  obtain ⟨ds,h1,h2⟩:=h
  exact⟨ds,h1,xF hr h2⟩
 ·exact h
theorem K9 (hr:Rel H g w0 w) {b a:A} {c:Value} (h:VR H g w a c):VR H g w (b7 b H a) c:=by
 unfold b7
 split
 ·exact AV hr h
 ·exact h
theorem Ext.refl (hr:Rel H g w0 w):Ext H g w H g w:=Ext.below hr (Below.refl _ _)
theorem Ext.trans {H1 H2 H3:aB} {g1 g2 g3:Gh} {w1 w2 w3:World} (h:Ext H1 g1 w1 H2 g2 w2) (k:Ext H2 g2 w2 H3 g3 w3):Ext H1 g1 w1 H3 g3 w3:=by
 refine⟨fun a o v hs hc=>?_,fun b B hB=>?_,fun a o ho=>k.kept a o (h.kept a o ho),YG h.size k.size,fun a arr cl hs hm=>let ⟨c1,s1⟩:=h.map a arr cl hs hm; k.map a arr cl s1 c1,fun a ha hn=>(k.obj a (YA ha h.size) fun b hb=>?_).trans (h.obj a ha hn),fun b a hb=>?_⟩
 rotate_right 2
 ·rcases h.fresh b a hb with ⟨c,hc⟩ | hle
  ·exact hn c hc
  ·omega
 ·rcases k.fresh b a hb with ⟨c,hc⟩ | hle
  ·exact h.fresh c a hc
  ·exact .inr (YG h.size hle)
 ·obtain ⟨c1,s1⟩:=h.cell a o v hs hc
  exact k.cell a o v s1 c1
 ·obtain ⟨B2,hB2,t1⟩:=h.blk b B hB
  obtain ⟨B3,hB3,t2⟩:=k.blk b B2 hB2
  refine⟨B3,hB3,?_⟩
  by_cases hB0:B=.hole
  ·subst hB0; trivial
  cases B3 with
  | dead=>cases B with
   | row wr _ _=>cases wr<;>trivial
   | _=>trivial
  | hole=>cases B2 with
   | hole=>cases B with
    | row wr _ _=>cases wr<;>exact False.elim t1
    | hole=>exact absurd rfl hB0
    | _=>exact False.elim t1
   | row wr _ _=>cases wr<;>exact False.elim t2
   | _=>exact False.elim t2
  | box cs3=>cases B2 with
   | box cs2=>cases B with
    | box cs=>exact Eq.trans t2 t1
    | row wr _ _=>cases wr<;>exact False.elim t1
    | rng _=>exact False.elim t1
    | mp _ _ _=>exact False.elim t1
    | dead=>exact False.elim t1
    | hole=>exact absurd rfl hB0
   | row wr _ _=>cases wr<;>exact False.elim t2
   | rng _=>exact False.elim t2
   | mp _ _ _=>exact False.elim t2
   | dead=>exact False.elim t2
   | hole=>cases B with
    | hole=>exact absurd rfl hB0
    | row wr _ _=>cases wr<;>exact False.elim t1
    | _=>exact False.elim t1
  | rng st3=>cases B2 with
   | rng st2=>cases B with
    | rng st=>exact⟨t2.1.trans t1.1,t2.2.trans t1.2⟩
    | row wr _ _=>cases wr<;>exact False.elim t1
    | box _=>exact False.elim t1
    | mp _ _ _=>exact False.elim t1
    | dead=>exact False.elim t1
    | hole=>exact absurd rfl hB0
   | row wr _ _=>cases wr<;>exact False.elim t2
   | box _=>exact False.elim t2
   | mp _ _ _=>exact False.elim t2
   | dead=>exact False.elim t2
   | hole=>cases B with
    | hole=>exact absurd rfl hB0
    | row wr _ _=>cases wr<;>exact False.elim t1
    | _=>exact False.elim t1
  | mp k3 ks3 vs3=>cases B2 with
   | mp k2 ks2 vs2=>cases B with
    | mp _ _ _=>exact Eq.trans t2 t1
    | rng _=>exact False.elim t1
    | row wr _ _=>cases wr<;>exact False.elim t1
    | box _=>exact False.elim t1
    | dead=>exact False.elim t1
    | hole=>exact absurd rfl hB0
   | row wr _ _=>cases wr<;>exact False.elim t2
   | box _=>exact False.elim t2
   | rng _=>exact False.elim t2
   | dead=>exact False.elim t2
   | hole=>cases B with
    | hole=>exact absurd rfl hB0
    | row wr _ _=>cases wr<;>exact False.elim t1
    | _=>exact False.elim t1
  | row wr3 es3 els3=>cases wr3 with
   | true=>cases B2 with
    | box _=>exact False.elim t2
    | rng _=>exact False.elim t2
    | mp _ _ _=>exact False.elim t2
    | dead=>exact False.elim t2
    | hole=>cases B with
     | hole=>exact absurd rfl hB0
     | row wr _ _=>cases wr<;>exact False.elim t1
     | _=>exact False.elim t1
    | row wr2 es2 els2=>cases wr2 with
     | false=>exact False.elim t2
     | true=>cases B with
      | box _=>exact False.elim t1
      | rng _=>exact False.elim t1
      | mp _ _ _=>exact False.elim t1
      | dead=>exact False.elim t1
      | hole=>exact absurd rfl hB0
      | row wr es els=>cases wr with
       | false=>exact False.elim t1
       | true=>
        obtain ⟨a1,a2,a3⟩:=t1
        obtain ⟨b1,b2,b3⟩:=t2
        exact⟨b1.trans a1,b2.trans a2,b3.trans a3⟩
   | false=>cases B2 with
    | box _=>exact False.elim t2
    | rng _=>exact False.elim t2
    | mp _ _ _=>exact False.elim t2
    | dead=>exact False.elim t2
    | hole=>cases B with
     | hole=>exact absurd rfl hB0
     | row wr _ _=>cases wr<;>exact False.elim t1
     | _=>exact False.elim t1
    | row wr2 es2 els2=>cases wr2 with
     | true=>exact False.elim t2
     | false=>cases B with
      | box _=>exact False.elim t1
      | rng _=>exact False.elim t1
      | mp _ _ _=>exact False.elim t1
      | dead=>exact False.elim t1
      | hole=>exact absurd rfl hB0
      | row wr es els=>cases wr with
       | true=>exact False.elim t1
       | false=>
        obtain ⟨a1,⟨r1,a2⟩,a3,a4,a5⟩:=t1
        obtain ⟨b1,⟨r2,b2⟩,b3,b4,b5⟩:=t2
        refine⟨b1.trans a1,⟨r1++r2,by rw[b2,a2,Za]⟩,a3,r7,fun hl=>?_⟩
        obtain ⟨c1,c2⟩:=a5 r7
        obtain ⟨d1,d2⟩:=b5 r7
        refine⟨d1.trans c1,fun j arr ty hj ha=>?_⟩
        obtain ⟨arr',e1,e2⟩:=c2 j arr ty hj ha
        obtain ⟨arr'',f1,f2⟩:=d2 j arr' ty (c1.trans hj) e1
        exact⟨arr'',f1,r7⟩
structure SR (cx:Cx) (s:St) (g:Gh) (w0:World) (a:Act) (w:World):Prop where
 rel:Rel s.H g w0 w
 fr:∀ t,VR s.H g w (look s.fr t) (a.tmps.getD t undef)
 gl:∀ (G:Nat) (vs:List Value),cx.glob G=some vs->bK s.H g w G 0 vs
variable {cx:Cx} {s:St} {a:Act}
structure tF (cx:Cx) (s:St) (g:Gh) (w0:World) (o:Op) (ev:Operand->Value) (w:World):Prop where
 rel:Rel s.H g w0 w
 op:∀ x∈o.operands.toList,VR s.H g w (cd cx s x) (ev x)
 k:∀ x,ev (.const x)=x
theorem Gj {G:Nat} {vs:List Value} (h:bK H g w G 0 vs):VR H g w (.ip (vs.map .v)) (.pointer (some ⟨G,0,none⟩)):=by
 rw[VR]
 exact⟨G,0,vs,rfl,h,dK.2 ⟨r9,fun i x d hx hd=>by rw[YJ,hd] at hx; cases hx; rw[VR]⟩⟩
theorem pf {x:Operand} (hf:∀ t,x=.tmp t->VR s.H g w (look s.fr t) (a.tmps.getD t undef)) (gl:∀ (G:Nat) (vs:List Value),cx.glob G=some vs->bK s.H g w G 0 vs):VR s.H g w (cd cx s x) (a.eval x):=by
 cases x with
 | tmp t=>exact hf t rfl
 | const v=>exact pe v
 | global G=>
  show VR s.H g w (match cx.glob G with | some vs=>.ip (vs.map .v) | none=>.any) _
  cases hG:cx.glob G with
  | none=>rw[VR]; trivial
  | some vs=>exact Gj (gl G vs hG)
 | func f=>
  show VR s.H g w (.fn (.func f) [] []) (.func (.func f) #[] #[])
  rw[VR]; exact⟨#[],#[],rfl,H7,H7⟩
theorem SR.UZ (h:SR cx s g w0 a w) (o:Op):tF cx s g w0 o a.eval w:=⟨h.rel,fun _ _=>pf (fun t _=>h.fr t) h.gl,fun _=>rfl⟩
variable {o:Op} {ev:Operand->Value}
theorem tF.one (h:tF cx s g w0 o ev w) (x:Operand) (hx:x∈o.operands.toList):VR s.H g w (cd cx s x) (ev x):=h.op x hx
theorem tF.many (h:tF cx s g w0 o ev w) (l:List Operand) (hl:∀ x∈l,x∈o.operands.toList):bE s.H g w (l.map (cd cx s)) (l.map ev):=
 dK.2 ⟨r9,fun i x d hx hd=>by
  simp only[YJ,Y2] at hx hd
  obtain ⟨y,hy,rfl⟩:=hx
  obtain ⟨y',hy',rfl⟩:=hd
  rw[hy] at hy'; cases hy'
  exact h.op y (hl y (YQ hy))⟩
theorem tF.parts (h:tF cx s g w0 o ev w) (l:Array (Nat×Operand)) (hl:∀ p∈l.toList,p.2∈o.operands.toList):m0 s.H g w (l.toList.map fun p=>(p.1,cd cx s p.2)) (l.map fun (i,x)=>(i,ev x)).toList:=
 ⟨r9,fun i p hp=>by
  simp only[YJ,Y2] at hp
  obtain ⟨q,hq,rfl⟩:=hp
  refine⟨(q.1,ev q.2),?_,rfl,h.op _ (hl q (YQ hq))⟩
  simp[hq]⟩
theorem tF.E8 (h:tF cx s g w0 o ev w) (l:Array (Nat×Operand)) (hl:∀ p∈l.toList,p.2∈o.operands.toList):m0 s.H g w (l.toList.map fun p=>(p.1,cK s.H (cd cx s p.2))) (l.map fun (i,x)=>(i,ev x)).toList:=
 ⟨r9,fun i p hp=>by
  simp only[YJ,Y2] at hp
  obtain ⟨q,hq,rfl⟩:=hp
  refine⟨(q.1,ev q.2),?_,rfl,AV h.rel (h.op _ (hl q (YQ hq)))⟩
  simp[hq]⟩
theorem tF.opt (h:tF cx s g w0 o ev w) (x:Option Operand) (hx:∀ y,x=some y->y∈o.operands.toList):J7 s.H g w (x.map (cd cx s)) (x.map ev):=by
 cases x with
 | none=>trivial
 | some x=>exact h.op x (hx x rfl)
theorem ez (fr:List (Nat×A)) (d t:Nat) (x:A):look ((d,x) :: fr) t=if d=t then x else look fr t:=by
 show (bif Nat.beq d t then x else look fr t)=_
 by_cases e:d=t
 ·subst e; simp
 ·have:Nat.beq d t=false:=by cases hb:Nat.beq d t with
   | false=>rfl
   | true=>exact absurd (Yy hb) e
  rw[this,Yp e]; rfl
theorem SR.step (h:SR cx s g w0 a w) {H':aB} (hr:Rel H' g' w0 w') (he:Ext s.H g w H' g' w') {dst:Option Nat} {x:A} {c:Value} (hx:VR H' g' w' x c) (hd:∀ d,dst=some d->d<a.tmps.size):SR cx (({ s with H:=H' }:St).put dst x) g' w0 (a.put dst c) w':=by
 have hH:(({ s with H:=H' }:St).put dst x).H=H':=by cases dst<;>rfl
 refine⟨by rw[hH]; exact hr,fun t=>?_,fun G vs hG=>by rw[hH]; exact(h.gl G vs hG).ext he⟩
 rw[hH]
 cases dst with
 | none=>exact VR.ext he _ _ (h.fr t)
 | some d=>
  show VR H' g' w' (look ((d,x) :: s.fr) t) _
  rw[ez]
  by_cases e:d=t
  ·subst e
   rw[Yq rfl]
   have:=hd d rfl
   simp only[Act.put]
   rw[Zj,qaM this]
   exact hx
  ·rw[Yp e]
   simp only[Act.put]
   rw[Zj,Z4 e,<-Zj]
   exact VR.ext he _ _ (h.fr t)
def lY (s:St) (g:Gh) (w0 w:World) (lo:Nat) (res:Result Next) (K:A->aB->Prop):Prop:=
 ∃ c w' x H' g',(res=.ok (.value c) w'∨(res=.ok .skip w'/\c=undef))/\K x H'/\Rel H' g' w0 w'/\Ext s.H g w H' g' w'/\VR H' g' w' x c/\s.H.length<=H'.length/\(∀ b,b<lo->b<s.H.length->H'[b]? = s.H[b]?)/\g'.S=g.S
theorem lY.same {lo:Nat} {res:Result Next} {K:A->aB->Prop} (h:Rel s.H g w0 w) {x:A} {c:Value} (hres:res=.ok (.value c) w) (hK:K x s.H) (hx:VR s.H g w x c):lY s g w0 w lo res K:=
 ⟨c,w,x,s.H,g,.inl hres,hK,h,Ext.refl h,hx,Yk _,fun _ _ _=>rfl,rfl⟩
theorem lY.fresh {lo:Nat} {res:Result Next} {K:A->aB->Prop} (h:Rel s.H g w0 w) {x:A} {c:Value} (hres:res=.ok (.value c) w') (hb:Below w.heap.size w w') (hK:K x s.H) (hx:VR s.H g w' x c):lY s g w0 w lo res K:=
 ⟨c,w',x,s.H,g,.inl hres,hK,h.eQ hb,Ext.below h hb,hx,Yk _,fun _ _ _=>rfl,rfl⟩
theorem lY.kC {lo:Nat} {res:Result Value} {res':Result Next} {K:A->aB->Prop} {x:A} {H':aB} (h:Step s.H g w0 w lo res x H') (hres:∀ d w',res=.ok d w'->res'=.ok (.value d) w') (hK:K x H'):lY s g w0 w lo res' K:=
 let ⟨d,w',g',e1,e2,e3,e4,e5,e6,e7⟩:=h; ⟨d,w',x,H',g',.inl (hres d w' e1),hK,e2,e3,e4,e5,e6,e7⟩
theorem iY {P:Program} {sem:Sem Value} {d:Value} (h:sem.run P w=.ok d w'):(do pure (.value (<-sem)):Sem Next).run P w=.ok (.value d) w':=by simp[h]
theorem qo {P:Program} {mn:Bool}:∀ {ys:List A} {ds:List Value} {x z:A} {c:Value},Fy mn x ys=some z->VR H g w x c->bE H g w ys ds->∃ d,(ds.foldlM (if mn then Builtin.min2 else Builtin.max2) c).run P w=.ok d w/\VR H g w z d
 | [],ds,x,z,c,h,hx,hy=>by
  rw[bE] at hy
  subst hy
  simp only[Fy,Zd] at h
  subst h
  exact⟨c,r9,hx⟩
 | y :: r,ds,x,z,c,h,hx,hy=>by
  rw[bE] at hy
  obtain ⟨d,ds',rfl,hy1,hy2⟩:=hy
  simp only[Fy] at h
  obtain ⟨u,h1,h2⟩:=bD h
  unfold AE at h1
  split at h1
  ·rename_i k p l q
   obtain ⟨h3,h4⟩:=bu h1
   cases h4
   rw[VR] at hx hy1
   subst hx; subst hy1
   have hu:VR H g w (.v (.int k (if mn=true then (if q<p then q else p) else (if p<q then q else p)))) (.int k (if mn=true then (if q<p then q else p) else (if p<q then q else p))):=y7
   obtain ⟨e,e1,e2⟩:=qo (P:=P) h2 hu hy2
   refine⟨e,?_,e2⟩
   rw[List.foldlM_cons,YZ]
   cases mn
   ·simp only[YM,qap] at e1 ⊢
    simp only[Builtin.max2,gt_iff_lt,qam,YS]
    exact e1
   ·simp only[qas] at e1 ⊢
    simp only[Builtin.min2,qam,YS]
    exact e1
  ·cases h1
theorem pF {l:Array Operand} {xs:List Operand} (h:l.toList=xs):l=xs.toArray:=by rw[<-h]
theorem zx {β:Type} {f lo:Nat} {o:Oper} {c:Call} {k:A->aB->Option β} {r:β} (hs:tF cx s g w0 (.call c) ev w) (h:pP cx f lo o.dst c s k=some r):lY s g w0 w lo ((do let d <-resolve ev c o.type; invoke d.target d.args:Sem Next).run cx.P w) (fun x H'=>k x H'=some r):=by
 unfold pP at h
 obtain ⟨callee,args,argTypes⟩:=c
 simp only at h
 split at h
 ·rename_i x t e1 e2
  cases pF e1
  have ht:argTypes=#[t]:=by rw[<-qa9 (xs:=argTypes),e2]
  subst ht
  replace h:=bD h
  obtain ⟨z,h1,h⟩:=h
  obtain ⟨d,e1,e2⟩:=zg (ty:=o.type) h1 (hs.one x (by simp[Op.operands,Call.operands]))
  exact lY.same hs.rel (by simp[resolve,invoke,builtin,e1]) h e2
 ·rename_i x y t t2 e1 e2
  cases pF e1
  have ht:argTypes=#[t,t2]:=by rw[<-qa9 (xs:=argTypes),e2]
  subst ht
  replace h:=bD h
  obtain ⟨⟨z,H'⟩,h1,h⟩:=h
  exact lY.kC (tI (ty:=o.type) hs.rel h1 (hs.one x (by simp[Op.operands,Call.operands])) (hs.one y (by simp[Op.operands,Call.operands]))) (fun d w' e=>by simp[resolve,invoke,builtin,e]) h
 ·rename_i x y t t2 e1 e2
  cases pF e1
  have ht:argTypes=#[t,t2]:=by rw[<-qa9 (xs:=argTypes),e2]
  subst ht
  replace h:=bD h
  obtain ⟨⟨z,H'⟩,h1,h⟩:=h
  exact lY.kC (w6 (t2:=t2) (ty:=o.type) hs.rel h1 (hs.one x (by simp[Op.operands,Call.operands])) (hs.one y (by simp[Op.operands,Call.operands]))) (fun d w' e=>by simp[resolve,invoke,builtin,e]) h
 ·rename_i x r e1
  cases pF e1
  replace h:=bD h
  obtain ⟨z,h1,h⟩:=h
  obtain ⟨d,e1,e2⟩:=qo (P:=cx.P) h1 (hs.one x (by simp[Op.operands,Call.operands])) (hs.many r (by simp[Op.operands,Call.operands]; exact fun y hy=>.inr hy))
  simp only[qas] at e1
  exact lY.same hs.rel (by simp[resolve,invoke,builtin,Builtin.min_,e1]) h e2
 ·rename_i x r e1
  cases pF e1
  replace h:=bD h
  obtain ⟨z,h1,h⟩:=h
  obtain ⟨d,e1,e2⟩:=qo (P:=cx.P) h1 (hs.one x (by simp[Op.operands,Call.operands])) (hs.many r (by simp[Op.operands,Call.operands]; exact fun y hy=>.inr hy))
  simp only[YM,qap] at e1
  exact lY.same hs.rel (by simp[resolve,invoke,builtin,Builtin.max_,e1]) h e2
 ·cases h
theorem BE {P:Program} {H:aB} {t:TypeId} {op:BinOp} {p y:Operand} {x z:A} {c d:Value} (hn:KI op y=true) (h:Q8 P t x=some z) (hx:VR H g w x c) (hd:∀ v,y=.const v->d=v) :
  ∃ e,(do eqGuard op t p y c d; binOp op t c d:Sem Value).run P w=.ok e w/\VR H g w z e:=by
 unfold KI at hn
 split at hn
 ·have hd:=hd _ rfl
  subst hd
  unfold Q8 at h
  split at h
  ·rename_i e els cl hu
   cases h
   rw[VR] at hx
   obtain ⟨a,cap,ds,es,rfl,h1,h2,h3,h4,h5⟩:=hx
   have hem:a.isNone=true->els=[]:=fun hb=>by
    cases els with
    | nil=>rfl
    | cons x l=>
     obtain ⟨k,off,e1,_⟩:=h4 r9
     rw[e1] at hb; cases hb
   refine⟨.bool a.isNone,?_,by rw[VR]; exact⟨_,rfl,hem⟩⟩
   ·have h1:=Lib.run_eql_slice_nil (P:=P) w t e a els.length cap 0 0 hu
    have h2:(eqGuard .eql t p (.const (.slice none 0 0)) (.slice a els.length cap) (.slice none 0 0)).run P w=.ok () w:=by cases a<;>rfl
    simp only[YZ,h2,YS,h1]
  ·cases h
 ·cases hn
theorem zX {H:aB} {a:A} {c:Value} (h:qF H a=true) (hv:VR H g w a c):(∃ ad,c=.pointer (some ad))∨∃ f x y,c=.func (.func f) x y:=by
 cases a with
 | ptr b o=>
  rw[VR] at hv
  simp only[qF,gh] at h
  cases hb:H[b]? with
  | none=>rw[hb] at h; cases h
  | some B=>cases B with
   | box _=>rw[hb] at hv; obtain ⟨k,_,e⟩:=hv; exact .inl ⟨_,e⟩
   | _=>rw[hb] at h; cases h
 | ep b i o=>
  rw[VR] at hv
  simp only[qF,gh] at h
  cases hb:H[b]? with
  | none=>rw[hb] at h; cases h
  | some B=>cases B with
   | row wr _ _=>cases wr with
    | true=>rw[hb] at hv; obtain ⟨_,k,_,e⟩:=hv; exact .inl ⟨_,e⟩
    | false=>rw[hb] at h; cases h
   | _=>rw[hb] at h; cases h
 | ip cs=>rw[VR] at hv; obtain ⟨_,_,_,e,_⟩:=hv; exact .inl ⟨_,e⟩
 | fn f x y=>cases f with
  | func k=>rw[VR] at hv; obtain ⟨_,_,e,_⟩:=hv; exact .inr ⟨_,_,_,e⟩
  | _=>cases h
 | _=>cases h
theorem kA {β:Type} {f lo:Nat} {o:Oper} {k:A->aB->Option β} {r:β} (hs:tF cx s g w0 o.op ev w) (h:bO cx f lo o s k=some r):lY s g w0 w lo ((execOp ev o).run cx.P w) (fun x H'=>k x H'=some r):=by
 unfold bO at h
 unfold execOp
 split at h
 ·rename_i x ho
  rw[ho] at hs ⊢; exact lY.same hs.rel rfl h (hs.one x (by simp[Op.operands]))
 ·rename_i x ho
  rw[ho] at hs ⊢; exact lY.same hs.rel rfl h (hs.one x (by simp[Op.operands]))
 ·rename_i t ho
  rw[ho] at hs ⊢
  replace h:=bD h
  obtain ⟨⟨y,H'⟩,h1,h⟩:=h
  unfold oE at h1
  rw[bF] at h1
  split at h1
  ·exact lY.kC (tH hs.rel lo h1) (fun d w' e=>iY e) h
  exact lY.kC (vm hs.rel lo h1) (fun d w' e=>iY e) h
 ·rename_i t x ho
  rw[ho] at hs ⊢
  replace h:=bD h
  obtain ⟨⟨y,H'⟩,h1,h⟩:=h
  unfold zk at h1
  rw[bF] at h1
  split at h1
  ·exact lY.kC (w5 hs.rel lo h1 (hs.one x (by simp[Op.operands]))) (fun d w' e=>iY e) h
  exact lY.kC (za hs.rel lo h1 (hs.one x (by simp[Op.operands]))) (fun d w' e=>iY e) h
 ·rename_i t parts ho
  rw[ho] at hs ⊢
  replace h:=bD h
  obtain ⟨y,h1,h⟩:=h
  obtain ⟨d,e1,e2⟩:=vp h1 (hs.parts parts (by simp[Op.operands]; exact fun a b h=>⟨a,h⟩))
  exact lY.same hs.rel (iY e1) h e2
 ·rename_i t n parts ho
  rw[ho] at hs ⊢
  replace h:=bD h
  obtain ⟨y,h1,h⟩:=h
  obtain ⟨d,w',e1,e2,e3⟩:=pB hs.rel h1 (hs.E8 parts (by simp[Op.operands]; exact fun a b h=>⟨a,h⟩))
  exact lY.fresh hs.rel (iY e1) e2 h e3
 ·rename_i t x ho
  rw[ho] at hs ⊢
  replace h:=bD h
  obtain ⟨y,h1,h⟩:=h
  obtain ⟨d,e1,e2⟩:=qW hs.rel h1 (hs.one x (by simp[Op.operands]))
  exact lY.same hs.rel (iY e1) h e2
 ·rename_i t x y ho
  rw[ho] at hs ⊢
  replace h:=bD h
  obtain ⟨H',h1,h⟩:=h
  obtain ⟨w',e1,e2,e3,e4,e5⟩:=vw hs.rel h1 (hs.one x (by simp[Op.operands])) (K9 hs.rel (hs.one y (by simp[Op.operands])))
  exact⟨undef,w',.any,H',g,.inr ⟨by simp[e1],rfl⟩,h,e2,e3,X2,e4,e5,rfl⟩
 ·rename_i op t x y t2 ho
  rw[ho] at hs ⊢
  replace h:=bD h
  obtain ⟨z,h1,h⟩:=h
  unfold Mk at h1
  rw[bF] at h1
  split at h1
  ·rename_i hn
   obtain ⟨d,e1,e2⟩:=BE (p:=x) (d:=ev y) hn h1 (hs.one x (by simp[Op.operands])) (fun v hv=>by subst hv; exact hs.k v)
   exact lY.same hs.rel (iY e1) h e2
  obtain ⟨d,e1,e2⟩:=yY (p:=x) (q:=y) h1 (hs.one x (by simp[Op.operands])) (hs.one y (by simp[Op.operands]))
  exact lY.same hs.rel (iY e1) h e2
 ·rename_i op t x ho
  rw[ho] at hs ⊢
  replace h:=bD h
  obtain ⟨z,h1,h⟩:=h
  obtain ⟨d,e1,e2⟩:=BF h1 (hs.one x (by simp[Op.operands]))
  exact lY.same hs.rel (iY e1) h e2
 ·rename_i t u x ho
  rw[ho] at hs ⊢
  replace h:=bD h
  obtain ⟨z,h1,h⟩:=h
  obtain ⟨d,w',e1,e2,e3⟩:=rK hs.rel h1 (hs.one x (by simp[Op.operands]))
  exact lY.fresh hs.rel (iY e1) e2 h e3
 ·rename_i t x ho
  rw[ho] at hs ⊢
  replace h:=bD h
  obtain ⟨z,h1,h⟩:=h
  obtain ⟨d,e1,e2⟩:=ze h1 (hs.one x (by simp[Op.operands]))
  exact lY.same hs.rel (iY e1) h e2
 ·rename_i fn p q ho
  rw[ho] at hs ⊢
  refine lY.same hs.rel (c:=.func fn (p.map ev) (q.map ev)) (by simp[Instr.makeFunc]) h ?_
  rw[VR]
  refine⟨_,_,rfl,?_,?_⟩
  ·rw[Array.toList_map]; exact hs.many _ (by simp[Op.operands]; intro x hx; simp[hx])
  ·rw[Array.toList_map]; exact hs.many _ (by simp[Op.operands]; intro x hx; simp[hx])
 ·rename_i t n c ho
  rw[ho] at hs ⊢
  replace h:=bD h
  obtain ⟨⟨y,H'⟩,h1,h⟩:=h
  unfold sR at h1
  rw[bF] at h1
  split at h1
  ·obtain ⟨rfl,d,w',e1,e2,e3⟩:=rN hs.rel h1 (hs.one n (by simp[Op.operands])) (hs.one c (by simp[Op.operands]))
   exact lY.fresh hs.rel (iY e1) e2 h e3
  exact lY.kC (qp hs.rel lo h1 (hs.one n (by simp[Op.operands])) (hs.one c (by simp[Op.operands]))) (fun d w' e=>iY e) h
 ·rename_i t x lo' hi mx ho
  rw[ho] at hs ⊢
  replace h:=bD h
  obtain ⟨z,h1,h⟩:=h
  replace h1:=bu h1
  obtain ⟨hhm,h1⟩:=h1
  obtain ⟨d,e1,e2⟩:=vv hs.rel h1 (hs.one x (by simp[Op.operands])) (hs.opt lo' (by rintro y rfl; simp[Op.operands])) (hs.opt hi (by rintro y rfl; simp[Op.operands])) (hs.opt mx (by rintro y rfl; simp[Op.operands])) (by cases mx<;>cases hi<;>simp at hhm ⊢)
  exact lY.same hs.rel (iY e1) h e2
 ·rename_i t x i ho
  rw[ho] at hs ⊢
  replace h:=bD h
  obtain ⟨z,h1,h⟩:=h
  obtain ⟨d,e1,e2⟩:=qm h1 (hs.one x (by simp[Op.operands]))
  exact lY.same hs.rel (iY e1) h e2
 ·rename_i t x i ho
  rw[ho] at hs ⊢
  replace h:=bD h
  obtain ⟨z,h1,h⟩:=h
  obtain ⟨d,e1,e2⟩:=vq h1 (hs.one x (by simp[Op.operands]))
  exact lY.same hs.rel (iY e1) h e2
 ·rename_i t x i ho
  rw[ho] at hs ⊢
  replace h:=bD h
  obtain ⟨z,h1,h⟩:=h
  obtain ⟨d,e1,e2⟩:=qn hs.rel h1 (hs.one x (by simp[Op.operands])) (hs.one i (by simp[Op.operands]))
  exact lY.same hs.rel (iY e1) h e2
 ·rename_i t x i ho
  rw[ho] at hs ⊢
  replace h:=bD h
  obtain ⟨z,h1,h⟩:=h
  obtain ⟨d,e1,e2⟩:=vu h1 (hs.one x (by simp[Op.operands])) (hs.one i (by simp[Op.operands]))
  exact lY.same hs.rel (iY e1) h e2
 ·rename_i x i ho
  rw[ho] at hs ⊢
  replace h:=bD h
  obtain ⟨z,h1,h⟩:=h
  obtain ⟨d,e1,e2⟩:=rL h1 (hs.one x (by simp[Op.operands]))
  exact lY.same hs.rel (iY e1) h e2
 ·rename_i x ho
  rw[ho] at hs ⊢
  obtain ⟨y,h1,h⟩:=bD h
  obtain ⟨hn,e0⟩:=bu h1
  cases e0
  have hv:=hs.one x (by simp[Op.operands])
  refine lY.same hs.rel (c:=ev x) ?_ h hv
  rcases zX hn hv with ⟨ad,e⟩ | ⟨f,a,b,e⟩
  ·simp only[e]; rfl
  ·simp only[e]; rfl
 ·rename_i t ho
  rw[ho] at hs ⊢
  replace h:=bD h
  obtain ⟨⟨y,H'⟩,h1,h⟩:=h
  exact lY.kC (rO hs.rel lo h1) (fun d w' e=>iY e) h
 ·rename_i t m i x ho
  rw[ho] at hs ⊢
  replace h:=bD h
  obtain ⟨H',h1,h⟩:=h
  obtain ⟨w',e1,e2,e3,e4,e5⟩:=od hs.rel h1 (hs.one m (by simp[Op.operands])) (hs.one i (by simp[Op.operands])) (hs.one x (by simp[Op.operands]))
  exact⟨undef,w',.any,H',g,.inr ⟨by simp[e1],rfl⟩,h,e2,e3,X2,e4,e5,rfl⟩
 ·rename_i t m i x ho
  rw[ho] at hs ⊢
  replace h:=bD h
  obtain ⟨H',h1,h⟩:=h
  obtain ⟨w',e1,e2,e3,e4,e5⟩:=od hs.rel h1 (hs.one m (by simp[Op.operands])) (hs.one i (by simp[Op.operands])) (hs.one x (by simp[Op.operands]))
  exact⟨undef,w',.any,H',g,.inr ⟨by simp[e1],rfl⟩,h,e2,e3,X2,e4,e5,rfl⟩
 ·rename_i t m i c ho
  rw[ho] at hs ⊢
  replace h:=bD h
  obtain ⟨z,h1,h⟩:=h
  obtain ⟨d,e1,e2⟩:=tK hs.rel h1 (hs.one m (by simp[Op.operands])) (hs.one i (by simp[Op.operands]))
  exact lY.same hs.rel (iY e1) h e2
 ·rename_i x t u c ho
  rw[ho] at hs ⊢
  replace h:=bD h
  obtain ⟨z,h1,h⟩:=h
  obtain ⟨d,e1,e2⟩:=tJ h1 (hs.one x (by simp[Op.operands]))
  exact lY.same hs.rel (iY e1) h e2
 ·rename_i c ho
  rw[ho] at hs ⊢
  exact zx hs h
 ·cases h
end
section
open Go.RowKit
variable {H H':aB} {g g':Gh} {w0 w w':World}
theorem Rel.kill (hr:Rel H g w0 w) {b:Nat} (hb:b<H.length):Rel (H.set b .dead) (g.put b none []) w0 w/\Ext H g w (H.set b .dead) (g.put b none []) w:=by
 have hget:∀ c,c≠b->(H.set b .dead)[c]? = H[c]?:=fun c hc=>Yz (Zl hc)
 have hgetb:(H.set b aC.dead)[b]? = some .dead:=YO hb
 have hmu:∀ {c k},(g.put b none []).mu c=some k->c≠b/\g.mu c=some k:=fun {c k} h=>by
  by_cases e:c=b
  ·subst e; rw[Gh.bJ] at h; cases h
  ·exact⟨e,by rwa [Gh.aR _ _ _ e] at h⟩
 have he:Ext H g w (H.set b .dead) (g.put b none []) w:=by
  have hst:∀ {k o},fi H g k o->fi (H.set b .dead) (g.put b none []) k o:=fun {k o} hs=>by
   refine⟨hs.1,fun c hck=>?_⟩
   obtain ⟨h1,h2⟩:=hmu hck
   obtain ⟨es,els,h3,h4⟩:=hs.2 c h2
   exact⟨es,els,by rw[hget c h1]; exact h3,h4⟩
  refine⟨fun k o v hs hc=>⟨hc,hst hs⟩,fun c B' hB'=>?_,fun _ _ h=>h,Yk _,fun k arr cl hs hm=>⟨hm,hst hs⟩,fun _ _ _=>rfl,fun c k h=>.inl ⟨c,(hmu h).2⟩⟩
  ·by_cases e:c=b
   ·subst e
    refine⟨.dead,hgetb,?_⟩
    cases B' with
    | row wr _ _=>cases wr<;>trivial
    | _=>trivial
   ·refine⟨B',by rw[hget c e]; exact hB',?_⟩
    cases B' with
    | box _=>exact Gh.aR _ _ _ e
    | row wr es els=>cases wr with
     | true=>exact⟨rfl,rfl,Gh.aR _ _ _ e⟩
     | false=>exact⟨rfl,⟨[],by rw[Gh.ft _ _ _ e]; simp⟩,(hr.blk c _ hB').len,Yk _,fun _=>⟨Gh.aR _ _ _ e,fun k arr ty hk' ha=>⟨arr,ha,Yk _⟩⟩⟩
    | rng _=>exact⟨Gh.aR _ _ _ e,rfl⟩
    | mp _ _ _=>exact Gh.aR _ _ _ e
    | dead=>trivial
    | hole=>trivial
 refine⟨⟨hr.below,fun c k hck=>?_,fun c d k h1 h2=>hr.inj c d k (hmu h1).2 (hmu h2).2,hr.Aa he,hr.yk he,fun c B' hB'=>?_⟩,he⟩
 ·obtain ⟨_,h2⟩:=hmu hck
  have:=hr.dom c k h2
  exact⟨by simpa using this.1,this.2⟩
 ·by_cases e:c=b
  ·subst e
   rw[hgetb] at hB'; cases hB'
   exact Gh.bJ _ _ _ _
  ·rw[hget c e] at hB'
   have h:=hr.blk c B' hB'
   cases B' with
   | box cs=>obtain ⟨k,arr,ty,h1,h2,h3⟩:=h; exact⟨k,arr,ty,(Gh.aR _ _ _ e).trans h1,h2,bE.ext he _ _ h3⟩
   | row wr es els=>cases wr with
    | true=>
     obtain ⟨ds,h1,h2,h3⟩:=h
     exact⟨ds,bC.ext he _ _ h1,h2,fun hp=>let ⟨k,arr,ty,e1,e2,e3⟩:=h3 hp; ⟨k,arr,ty,(Gh.aR _ _ _ e).trans e1,e2,e3⟩⟩
    | false=>
     obtain ⟨h1,h2⟩:=h
     refine⟨?_,?_⟩
     ·rw[Gh.ft _ _ _ e]; exact bC.ext he _ _ h1
     ·rw[Gh.ft _ _ _ e]; exact h2
   | rng st=>obtain ⟨k,h1,h2⟩:=h; exact⟨k,(Gh.aR _ _ _ e).trans h1,h2⟩
   | mp _ _ _=>obtain ⟨k,arr,cl,h1,h2,h3,h4⟩:=h; exact⟨k,arr,cl,(Gh.aR _ _ _ e).trans h1,h2,h3,bE.ext he _ _ h4⟩
   | dead=>exact(Gh.aR _ _ _ e).trans h
   | hole=>exact(Gh.aR _ _ _ e).trans h
theorem AZ (hr:Rel H g w0 w) {lo:Nat} {x:A} {c:Value} {r:A×aB} (hk:um lo x H=some r) (h:VR H g w x c):∃ g',Rel r.2 g' w0 w/\Ext H g w r.2 g' w/\VR r.2 g' w r.1 c/\r.2.length=H.length/\(∀ b,b<lo->b<H.length->r.2[b]? = H[b]?)/\g'.S=g.S:=by
 unfold um at hk
 split at hk
 ·rename_i b o n cl
  split at hk
  ·rename_i es els hb
   obtain ⟨hlo,hk⟩:=bu hk
   cases hk
   have hlo:lo<=b:=by simpa using hlo
   have hbl:=(Ym.1 hb).1
   obtain ⟨h1,h2⟩:=hr.kill hbl
   refine⟨_,h1,h2,?_,r9,fun b' hb' _=>Yz r7,rfl⟩
   rw[VR,hb] at h
   obtain ⟨h0,a,cap,rfl,e1,e2,e3⟩:=h
   obtain ⟨ds,d1,d2,d3⟩:=hr.blk b _ hb
   have hv:=iW (S:=fi H g) (fun _ _ h=>h) (fun b o m cl c h=>p5 hr 4 b o m cl c h) _ _ ((d1.drop o).take n)
   have hl:(dm (iI 4 H) ((els.drop o).take n)).length=n:=by rw[<-hv.length]; simp[d1.length]; omega
   rw[VR]
   refine⟨a,cap,(ds.drop o).take n,es,by rw[hl],by rw[hl]; exact e1,fun h=>(by cases h),fun d hd=>d2 d (Y0 (YT hd)),fun hp=>?_,?_⟩
   ·rw[hl] at hp
    obtain ⟨k,hk,ha⟩:=e3 hp
    obtain ⟨k',arr,ty,m1,m2,m3⟩:=d3 r7
    rw[hk] at m1; cases m1
    refine⟨k,o*es,ha,fun j v hj=>⟨uT d2 m2 m3 hj,hr.own b k _ hk,fun c hc=>?_⟩⟩
    exfalso
    by_cases e:c=b
    ·subst e; rw[Gh.bJ] at hc; cases hc
    ·rw[Gh.aR _ _ _ e] at hc
     exact e (hr.inj c b k hc hk)
   ·exact bC.ext h2 _ _ (bC.fq (H:=[]) (g:=G0 (fi H g)) ⟨fun k o _ hs hc=>⟨hc,hs.1⟩,fun b B hB=>(by simp at hB),fun k arr cl hs hm=>⟨hm,hs.1⟩⟩ _ _ hv)
  ·rename_i es els hb
   cases hk
   refine⟨g,hr,Ext.refl hr,?_,rfl,fun _ _ _=>rfl,rfl⟩
   exact VR.back (fun _ _ h=>h) (by have:=p5 hr 5 b o n cl c h; unfold iI at this; rw[hb] at this; exact this)
  ·cases hk
 ·rename_i b o
  split at hk
  ·rename_i cs hb
   obtain ⟨hlo,hk⟩:=bu hk
   cases hk
   rw[Yj] at hlo
   have hlo':lo<=b:=Yr hlo.1
   have ho:o=0:=Yy hlo.2
   subst ho
   have hbl:=(Ym.1 hb).1
   obtain ⟨h1,h2⟩:=hr.kill hbl
   refine⟨_,h1,h2,?_,r9,fun b' hb' _=>Yz r7,rfl⟩
   rw[VR,hb] at h
   obtain ⟨k,hk,rfl⟩:=h
   obtain ⟨k',arr,ty,m1,m2,m3⟩:=hr.blk b _ hb
   rw[hk] at m1; cases m1
   rw[VR]
   refine⟨k,0,arr.toList,rfl,fun j v hj=>⟨?_,hr.own b k _ hk,fun c hc=>?_⟩,bE.ext h2 _ _ m3⟩
   ·rw[Y9,ZN w k j arr ty (0,0) m2]; simpa using hj
   ·exfalso
    by_cases e:c=b
    ·subst e; rw[Gh.bJ] at hc; cases hc
    ·rw[Gh.aR _ _ _ e] at hc
     exact e (hr.inj c b k hc hk)
  ·cases hk
 ·cases hk
theorem Rel.Xz (hr:Rel H g w0 w) {k:Nat} {arr:Array Value} {ty:TypeId} (hk:w0.heap.size<=k) (hw:w.heap[k]? = some (.cells arr ty (0,0))) (hn:∀ b,g.mu b≠some k) (f:Nat×Nat) :
  Rel H g w0 (w.putObj k (.cells arr ty f))/\wI H g w H g (w.putObj k (.cells arr ty f))/\∀ {H0:aB} {g0:Gh} {c0:Nat},Ext H0 g0 w H g w->g0.mu c0=some k->Ext H0 g0 w H g (w.putObj k (.cells arr ty f)):=by
 have hlt:k<w.heap.size:=(Yo.1 hw).1
 have hoth:∀ j,j≠k->(w.putObj k (.cells arr ty f)).heap[j]? = w.heap[j]?:=fun j hj=>Zu hj
 have hsz:(w.putObj k (.cells arr ty f)).heap.size=w.heap.size:=r9
 have hcell:∀ j o v,w.cell? ⟨j,o,none⟩=some v->(w.putObj k (.cells arr ty f)).cell? ⟨j,o,none⟩=some v:=fun j o v hc=>by
  by_cases e:j=k
  ·subst e
   rw[ZN w j o arr ty (0,0) hw] at hc
   rw[ZN _ j o arr ty f (qaZ hlt)]
   exact hc
  ·exact(ZU (a:=⟨j,o,none⟩) (hoth j e)).trans hc
 have hne:∀ {c j},g.mu c=some j->j≠k:=fun {c j} h e=>hn c (e ▸ h)
 have he:wI H g w H g (w.putObj k (.cells arr ty f)):=by
  refine⟨fun j o v hs hc=>⟨hcell j o v hc,hs⟩,fun c C hC=>⟨C,hC,?_⟩,fun j marr cl hs hm=>⟨(hoth j (fun e=>by subst e; rw[hw] at hm; cases hm)).trans hm,hs⟩⟩
  cases C with
  | box _=>rfl
  | row wr es els=>cases wr with
   | true=>exact⟨rfl,rfl,rfl⟩
   | false=>exact⟨rfl,⟨[],r9⟩,(hr.blk c _ hC).len,Yk _,fun _=>⟨rfl,fun j arr ty hj ha=>⟨arr,(hoth j (hne hj)).trans ha,Yk _⟩⟩⟩
  | rng _=>exact⟨rfl,rfl⟩
  | mp _ _ _=>rfl
  | dead=>trivial
  | hole=>trivial
 refine⟨⟨hr.below.trans ((Below.refl w0.heap.size w).grown (qbx w k _) (hr.below.size) (fun j e=>by cases e; exact hk)),fun c j hc=>⟨(hr.dom c j hc).1,(hr.dom c j hc).2.1,by rw[hsz]; exact(hr.dom c j hc).2.2⟩,hr.inj,(by rw[hsz]; exact hr.out),hr.own,fun c C hC=>?_⟩,he,fun {H0 g0 c0} hp hc0=>⟨fun j o v hs hc=>let ⟨q1,q2⟩:=hp.cell j o v hs hc; ⟨hcell j o v q1,q2⟩,fun c C hC=>?_,fun j x h=>(hoth j (fun e=>by subst e; rw[hw] at h; cases h)).trans h,by rw[hsz]; exact Yk _,fun j marr cl hs hm=>⟨(hoth j (fun e=>by subst e; rw[hw] at hm; cases hm)).trans hm,(hp.map j marr cl hs hm).2⟩,fun j _ hj=>hoth j (fun e=>hj c0 (e ▸ hc0)),hp.fresh⟩⟩
 rotate_left 1
 ·obtain ⟨C',hC',ht⟩:=hp.blk c C hC
  refine⟨C',hC',?_⟩
  cases C with
  | row wr es els=>cases wr with
   | true=>cases C' with
    | row wr' es' els'=>cases wr'<;>exact ht
    | _=>exact ht
   | false=>cases C' with
    | row wr' es' els'=>cases wr' with
     | true=>exact ht
     | false=>
      obtain ⟨t1,t2,t3,t4,t5⟩:=ht
      exact⟨t1,t2,t3,t4,fun hl=>⟨(t5 hl).1,fun j arr ty hj ha=>⟨arr,(hoth j (hne ((t5 hl).1.trans hj))).trans ha,Yk _⟩⟩⟩
    | _=>exact ht
  | _=>cases C'<;>exact ht
 have h:=hr.blk c C hC
 cases C with
 | box cs=>obtain ⟨j,arr',ty',h1,h2,h3⟩:=h; exact⟨j,arr',ty',h1,(hoth j (hne h1)).trans h2,bE.fq he _ _ h3⟩
 | row wr es els=>cases wr with
  | true=>
   obtain ⟨ds,h1,h2,h3⟩:=h
   exact⟨ds,bC.fq he _ _ h1,h2,fun hp=>let ⟨j,arr',ty',e1,e2,e3⟩:=h3 hp; ⟨j,arr',ty',e1,(hoth j (hne e1)).trans e2,e3⟩⟩
  | false=>
   obtain ⟨h1,h2⟩:=h
   exact⟨bC.fq he _ _ h1,h2⟩
 | rng st=>obtain ⟨j,h1,h2⟩:=h; exact⟨j,h1,(hoth j (hne h1)).trans h2⟩
 | mp _ _ _=>obtain ⟨j,marr,cl,h1,h2,h3,h4⟩:=h; exact⟨j,marr,cl,h1,(hoth j (hne h1)).trans h2,h3,bE.fq he _ _ h4⟩
 | dead=>exact h
 | hole=>exact h
theorem tM {w:World} {k n:Nat} {arr:Array Value} {ty:TypeId} (hw:w.heap[k]? = some (.cells arr ty (0,0))):w.freeze ⟨k,n,none⟩ 1=w.putObj k (.cells arr ty (n,n+1)):=by
 unfold World.freeze World.putObj
 rw[Yp (by decide)]
 congr 1
 apply Array.ext
 ·simp
 ·intro i h1 h2
  have hi:i<w.heap.size:=by simpa using h1
  rw[qbI,Array.getElem_setIfInBounds]
  by_cases h:k=i
  ·subst h
   have e:w.heap[k]=.cells arr ty (0,0):=by
    have:=(Yo.1 hw).2
    exact this
   rw[Yq rfl,Yq rfl,e]
   simp
  ·rw[Yp h,Yp h]
theorem w7 {P:Program} (hr:Rel H g w0 w) {lo:Nat} {s t:TypeId} {x:A} {c:Value} {r:A×aB} (h:DA P s t x H lo=some r) (hx:VR H g w x c) :
  Step H g w0 w lo ((convert s t c).run P w) r.1 r.2:=by
 unfold DA at h
 split at h
 ·rename_i e hs
  split at h
  ·rename_i he
   split at h
   ·rename_i b o n cl
    split at h
    ·rename_i es els hb
     obtain ⟨hc,hk⟩:=bu h
     rw[Yj] at hc
     have hst:s=t:=Yy hc.1
     have hn:0<n:=Yr hc.2
     subst hst
     have hx0:=hx
     rw[VR,hb] at hx
     obtain ⟨h0,a,cap,rfl,e1,e2,e3⟩:=hx
     obtain ⟨k,hk1,rfl⟩:=e3 hn
     obtain ⟨ds,d1,d2,d3⟩:=hr.blk b _ hb
     obtain ⟨k',arr,ty,m1,m2,m3⟩:=d3 r7
     rw[hk1] at m1; cases m1
     obtain ⟨g',r1,r2,r3,r4,r5,r6⟩:=AZ hr hk hx0
     have hkk:r.2=H.set b .dead:=by
      simp only[um,hb] at hk
      obtain ⟨_,hk⟩:=bu hk
      cases hk; rfl
     have hno:∀ c,g'.mu c≠some k:=fun c hc=>by
      have hcl:=(r1.dom c k hc).1
      rw[r4] at hcl
      obtain ⟨C,hC⟩:∃ C,H[c]? = some C:=⟨_,Yg hcl⟩
      obtain ⟨C',hC',hbt⟩:=r2.blk c C hC
      by_cases ecb:c=b
      ·subst ecb
       rw[hkk,YO hcl] at hC'
       cases hC'
       have:=r1.blk c .dead (by rw[hkk,YO hcl])
       rw[show g'.mu c=none from this] at hc; cases hc
      ·rw[hkk,Yz (Zl ecb),hC] at hC'
       cases hC'
       have hmu:g.mu c=some k∨C=.dead∨C=.hole:=by
        cases C with
        | box _=>left; exact(show g'.mu c=g.mu c from hbt).symm.trans hc
        | row wr es' els'=>cases wr with
         | true=>left; exact hbt.2.2.symm.trans hc
         | false=>left; exact(hbt.2.2.2.2 rfl).1.symm.trans hc
        | rng _=>left; exact hbt.1.symm.trans hc
        | mp _ _ _=>left; exact(show g'.mu c=g.mu c from hbt).symm.trans hc
        | dead=>right; left; rfl
        | hole=>right; right; rfl
       rcases hmu with h1 | rfl | rfl
       ·exact ecb (hr.inj c b k h1 hk1)
       ·have:=r1.blk c .dead (by rw[hkk,Yz (Zl ecb)]; exact hC)
        rw[show g'.mu c=none from this] at hc; cases hc
       ·have:=r1.blk c .hole (by rw[hkk,Yz (Zl ecb)]; exact hC)
        rw[show g'.mu c=none from this] at hc; cases hc
     obtain ⟨q1,q0,q2⟩:=r1.Xz (hr.dom b k hk1).2.1 m2 hno (arr.size,arr.size+1)
     refine⟨_,_,g',?_,q1,q2 r2 hk1,VR.fq q0 _ _ r3,qaV r4.symm,r5,r6⟩
     have hsh:w.shape? k=some (ty,arr.size):=by unfold World.shape?; rw[m2]
     rw[<-tM m2]
     simp[convert,Yu hs,Yu he,markStringish,hsh]
    ·cases h
   ·cases h
  ·cases h
 ·cases h
end
section
open Go.RowKit
variable {H H':aB} {g g':Gh} {w0 w w':World} {cx:Cx} {s:St} {a:Act} {F:Fence} {n:Nat}
def ia (H:aB) (g:Gh) (w0 w:World) (lo:Nat) (r:R) (e:Ending) (w':World):Prop:=∃ g',Rel r.2 g' w0 w'/\Ext H g w r.2 g' w'/\H.length<=r.2.length/\(∀ b,b<lo->b<H.length->r.2[b]? = H[b]?)/\g'.S=g.S ∧
  match r.1,e with
  | .ret x,.returned c=>VR r.2 g' w' x c
  | .pan x,.panicked ch=>∃ c,ch=[{ v:=c,recovered:=false }]/\VR r.2 g' w' x c
  | _,_=>False
structure pz (cx:Cx) (Bs:aB->Gh->World->Prop) (call:bn):Prop where
 up:∀ (H:aB) (g:Gh) (w:World) (H':aB) (g':Gh) (w':World),Bs H g w->Ext H g w H' g' w'->Bs H' g' w'
 yl:∀ (b:Nat) (args:List A) (H:aB) (lo:Nat) (r:R),call (cx.P.funcs.size+b) args H lo=some r->∀ (F:Fence) (n l:Nat) (g:Gh) (w0 w:World) (cargs:List Value),gV F->Bs H g w->Rel H g w0 w ->
  (∀ (G:Nat) (vs:List Value),cx.glob G=some vs->bK H g w G 0 vs)->bE H g w args cargs->g.mu b=some l->YieldAt F n cx.P l cargs.toArray w (ia H g w0 w lo r)
structure dX (cx:Cx) (Bs:aB->Gh->World->Prop) (call:bn):Prop extends pz cx Bs call where
 fn:∀ (k:Nat) (args:List A) (H:aB) (lo:Nat) (r:R),k<cx.P.funcs.size->call k args H lo=some r->∀ (F:Fence) (n:Nat) (g:Gh) (w0 w:World) (cargs:List Value),gV F->F.round=none->Bs H g w->Rel H g w0 w ->
  (∀ (G:Nat) (vs:List Value),cx.glob G=some vs->bK H g w G 0 vs)->bE H g w args cargs->CallsIn F n cx.P k cargs.toArray w (ia H g w0 w lo r)
 ct:∀ (k:Nat) (args:List A) (H:aB) (lo:Nat) (r:R),k<cx.P.funcs.size->cx.cut k≠0->cx.cut k<=H.length->call k args H lo=some r->r.2.length=H.length/\∀ b,cx.cut k<=b->r.2[b]? = H[b]?
theorem jl {P:Program} {k:Nat} (hk:cY P k=true):k<P.funcs.size:=by
 unfold cY at hk
 cases hf:P.funcs[k]? with
 | none=>rw[hf] at hk; cases hk
 | some fn=>exact(Yo.1 hf).1
def jV (cx:Cx):Prop:=∀ k args r,(cx.isOrc k=true∨cx.isOrcV k=true∨cx.deep k=true)->cx.C k args=some r->fm cx.P cx.glob k args r
theorem Ml {ev:Operand->Value} {c:Call} {gop:Operand} (hc:c.callee=.value gop) {k:Nat} {ds es:Array Value} (hv:ev gop=.func (.func k) ds es) (hk:cY cx.P k=true) (ty:TypeId) (w:World) :
  (do let d <-resolve ev c ty; invoke d.target d.args:Sem Next).run cx.P w=.ok (.enter k (ds++c.args.map ev++es)) w:=by
 unfold cY at hk
 cases hf:cx.P.funcs[k]? with
 | none=>rw[hf] at hk; cases hk
 | some fn=>
  rw[hf] at hk
  simp only[Yj,Ze] at hk
  have h1:¬ fn.body=none:=by intro hb; rw[hb] at hk; simp at hk
  have h2:¬ fn.name = "runtime.NumGoroutine" := by simpa using hk.2
  simp[resolve,hc,hv,Deferred.ofValue,invoke,callFunc,program,Sem.run,hf,h1,h2]
theorem kz {ev:Operand->Value} {o:Oper} {k:Nat} {args:List A} (hs:tF cx s g w0 o.op ev w) (h:callee? cx s o.op=some (k,args)):cY cx.P k=true ∧
  ∃ cargs:List Value,(execOp ev o).run cx.P w=.ok (.enter k cargs.toArray) w/\bE s.H g w args cargs:=by
 unfold callee? at h
 split at h
 ·rename_i c ho
  rw[ho] at hs
  split at h
  ·rename_i gop hgop
   split at h
   ·rename_i k' first cap hf
    obtain ⟨hcb,h⟩:=bu h
    cases h
    have hgv:=hs.one gop (by simp[Op.operands,Call.operands,hgop])
    rw[hf,VR] at hgv
    obtain ⟨ds,es,hev,h1,h2⟩:=hgv
    refine⟨hcb,ds.toList++(c.args.toList.map ev)++es.toList,?_,(h1.append (hs.many _ (fun x hx=>by simp[Op.operands,Call.operands,hgop]; exact .inr (by simpa using hx)))).append h2⟩
    have:=Ml (cx:=cx) hgop hev hcb o.type w
    unfold execOp
    rw[ho]
    refine this.trans ?_
    congr 2
    apply Z6
    simp
   ·cases h
  ·cases h
 ·cases h
theorem Fw {ev:Operand->Value} {o:Oper} {b:Nat} {args:List A} (hs:tF cx s g w0 o.op ev w) (h:yldOf? cx s o.op=some (b,args)) (hb:xY s.H b=true) :
  ∃ (l:Nat) (cargs:List Value),(execOp ev o).run cx.P w=(Instr.yield l cargs.toArray).run cx.P w/\bE s.H g w args cargs/\g.mu b=some l:=by
 have hblk:∃ st,s.H[b]? = some (.rng st):=by
  unfold xY at hb
  split at hb
  ·rename_i st h; exact⟨st,h⟩
  ·cases hb
 obtain ⟨st,hst⟩:=hblk
 unfold yldOf? at h
 split at h
 ·rename_i c ho
  rw[ho] at hs
  split at h
  ·rename_i gop hgop
   split at h
   ·rename_i b' hf
    cases h
    have hgv:=hs.one gop (by simp[Op.operands,Call.operands,hgop])
    rw[hf,VR,hst] at hgv
    obtain ⟨l,hl,hev⟩:=hgv
    refine⟨l,c.args.toList.map ev,?_,hs.many _ (fun x hx=>by simp[Op.operands,Call.operands,hgop]; exact .inr (by simpa using hx)),hl⟩
    unfold execOp
    rw[ho]
    have ea:(c.args.toList.map ev).toArray=c.args.map ev:=by apply Z6; simp
    rw[ea]
    simp[resolve,hgop,hev,Deferred.ofValue,invoke]
   ·cases h
  ·cases h
 ·cases h
theorem Marks.my {B:Nat} {W W':World} {ds:List Deferred} (h:Marks B W ds) (hk:∀ (k:Nat) (x:Option (List Deferred)),W.heap[k]? = some (.deferred x)->W'.heap[k]? = some (.deferred x)):Marks B W' ds:=by
 obtain ⟨rs,e,h2,h3⟩:=h
 exact⟨rs,e,h2,fun r hr=>⟨(h3 r hr).1,hk r _ (h3 r hr).2⟩⟩
structure Mb where
 B:Nat
 base:List Deferred
 free:Bool
def iJ (mb:Mb) (W:World) (ds:List Deferred):Prop:=∃ ms,ds=ms++mb.base/\Marks mb.B W ms/\(mb.free=false->ms=[])
theorem iJ.my {mb:Mb} {W W':World} {ds:List Deferred} (h:iJ mb W ds) (hk:∀ (k:Nat) (x:Option (List Deferred)),W.heap[k]? = some (.deferred x)->W'.heap[k]? = some (.deferred x)):iJ mb W' ds:=
 let ⟨ms,e,h1,h2⟩:=h; ⟨ms,e,h1.my hk,h2⟩
theorem iJ.start (B:Nat) (W:World) (ds:List Deferred) (fr:Bool):iJ ⟨B,ds,fr⟩ W ds:=⟨[],rfl,Marks.nil _ _,fun _=>rfl⟩
structure Good (cx:Cx) (N:Nat) (mb:Mb) (lo:Nat) (H0:aB) (gs:Gh) (ws w0:World) (s:St) (g:Gh) (a:Act) (w:World):Prop where
 sr:SR cx s g w0 a w
 ext:Ext H0 gs ws s.H g w
 len:H0.length<=s.H.length
 low:∀ b,b<lo->b<H0.length->s.H[b]? = H0[b]?
 siz:a.tmps.size=N
 dfr:iJ mb w a.defers
 mbw:mb.B<=w.heap.size
 st:g.S=gs.S
variable {N lo:Nat} {mb:Mb} {H0:aB} {gs:Gh} {ws:World} {Bs:aB->Gh->World->Prop}
theorem Act.p3 (a:Act) (d:Option Nat) (v:Value):(a.put d v).tmps.size=a.tmps.size:=by cases d<;>simp[Act.put]
theorem Act.yp (a:Act) (d:Option Nat) (v:Value):(a.put d v).defers=a.defers:=by cases d<;>rfl
theorem Good.step (h:Good cx N mb lo H0 gs ws w0 s g a w) {H':aB} (hr:Rel H' g' w0 w') (he:Ext s.H g w H' g' w') (hl:s.H.length<=H'.length) (hlo:∀ b,b<lo->b<s.H.length->H'[b]? = s.H[b]?) (hst:g'.S=g.S) {dst:Option Nat} {x:A} {c:Value} (hx:VR H' g' w' x c) (hd:∀ d,dst=some d->d<N) :
  Good cx N mb lo H0 gs ws w0 (({ s with H:=H' }:St).put dst x) g' (a.put dst c) w':=by
 have hH:(({ s with H:=H' }:St).put dst x).H=H':=by cases dst<;>rfl
 refine⟨h.sr.step hr he hx (by rw[h.siz]; exact hd),by rw[hH]; exact h.ext.trans he,by rw[hH]; exact YG h.len hl,fun b hb hb'=>?_,by rw[Act.p3]; exact h.siz,by rw[Act.yp]; exact h.dfr.my he.kept,YG h.mbw he.size,hst.trans h.st⟩
 rw[hH,hlo b hb (YA hb' h.len)]
 exact h.low b hb hb'
theorem Good.same (h:Good cx N mb lo H0 gs ws w0 s g a w) {dst:Option Nat} {x:A} {c:Value} (hx:VR s.H g w x c) (hd:∀ d,dst=some d->d<N):Good cx N mb lo H0 gs ws w0 (s.put dst x) g (a.put dst c) w:=
 h.step (H':=s.H) h.sr.rel (Ext.refl h.sr.rel) (Yk _) (fun _ _ _=>rfl) rfl hx hd
theorem Good.lit (h:Good cx N mb lo H0 gs ws w0 s g a w) {t:Nat} {x:A} (hx:look s.fr t=x):Good cx N mb lo H0 gs ws w0 (s.put (some t) x) g a w:=by
 have hlk:∀ u,look (s.put (some t) x).fr u=look s.fr u:=fun u=>by
  show look ((t,x) :: s.fr) u=_
  rw[ez]; split
  ·rename_i e; rw[<-e,hx]
  ·rfl
 exact⟨⟨h.sr.rel,fun u=>by rw[hlk]; exact h.sr.fr u,h.sr.gl⟩,h.ext,h.len,h.low,h.siz,h.dfr,h.mbw,h.st⟩
theorem BG {x:A} {p q:Option R} {r:R} {H:aB} {g:Gh} {w:World} {c:Value} (h:aX x p q=some r) (hv:VR H g w x c):∃ b,c=.bool b/\(if b=true then p else q)=some r:=by
 cases x with
 | nq els=>
  rw[VR] at hv
  obtain ⟨b,rfl,hb⟩:=hv
  refine⟨b,rfl,?_⟩
  simp only[aX,Mj] at h
  cases els with
  | nil=>
   obtain ⟨e,h⟩:=BH h
   cases b
   ·exact h
   ·simp only[qas]; rw[e]; exact h
  | cons a l=>
   cases b with
   | false=>exact h
   | true=>cases hb rfl
 | v y=>
  cases y with
  | bool b=>
   rw[VR] at hv
   subst hv
   refine⟨b,rfl,?_⟩
   cases b<;>exact h
  | _=>cases h
 | _=>cases h
theorem pG {β:Type} {x:A} {p q:Option β} {r:β} (h:cu x p q=some r):∃ b,x=.v (.bool b)/\(if b then p else q)=some r:=by
 unfold cu at h
 split at h
 ·rename_i b; exact⟨b,rfl,by cases b<;>exact h⟩
 ·cases h
theorem fx {Q:Exit->Act->World->Prop} {next:Act->World->Prop} {o:Oper} {res:Result Next} {c:Value} {w':World} (h:res=.ok (.value c) w'∨(res=.ok .skip w'/\c=undef)) (hn:next (a.put o.dst c) w'):o.uponIn F n cx.P a next Q res:=by
 rcases h with rfl | ⟨rfl,rfl⟩<;>exact hn
theorem dV {Q:Exit->Act->World->Prop} {next:Act->World->Prop} {o:Oper} (hF:gV F) (hnd:∀ c,o.op≠.defer c) (h:o.uponIn F n cx.P a next Q ((execOp a.eval o).run cx.P w)):o.wpIn F n cx.P a w next Q:=by
 refine⟨fun f _=>hF.2.1 f,?_⟩
 rw[qbK _ _ _ hnd]
 exact h
theorem nk {β:Type} {f lo:Nat} {o:Oper} {k:A->aB->Option β} {r:β} (h:bO cx f lo o s k=some r):∀ c,o.op≠.defer c:=fun c hc=>by
 unfold bO at h; rw[hc] at h; cases h
theorem zA {call:bn} (hcall:dX cx Bs call) (horc:jV cx) (hF:gV F) {f:Nat} {o:Oper} {k:St->Option R} {pan:A->St->Option R} {r:R} {next:Act->World->Prop} {Q:Exit->Act->World->Prop}
  (hb0:Bs H0 gs ws) (hg:Good cx N mb lo H0 gs ws w0 s g a w) (hd:∀ d,o.dst=some d->d<N) (h:sd cx call f lo o s k pan=some r)
  (hk:∀ s' g' a' w',Good cx N mb lo H0 gs ws w0 s' g' a' w'->k s'=some r->next a' w')
  (hp:∀ x s' g' w' c,Good cx N mb lo H0 gs ws w0 s' g' a w'->VR s'.H g' w' x c->pan x s'=some r->Q (.panic [{ v:=c,recovered:=false }]) a w'):o.wpIn F n cx.P a w next Q:=by
 have hs:=hg.sr.UZ o.op
 have direct:bO cx f lo o s (fun x H=>k ({ s with H:=H }.put o.dst x))=some r->o.wpIn F n cx.P a w next Q:=fun h=>by
  obtain ⟨c,w',x,H',g',e1,e2,e3,e4,e5,e6,e7,e8⟩:=kA hs h
  exact dV hF (nk h) (fx e1 (hk _ _ _ _ (hg.step e3 e4 e6 e7 e8 e5 hd) e2))
 unfold sd at h
 split at h
 ·rename_i c x y ho
  obtain ⟨z,h0,h⟩:=bD h
  obtain ⟨b,hb,h0⟩:=pG h0
  have hc:=hs.one c (by rw[ho]; simp[Op.operands])
  have hx:=hs.one x (by rw[ho]; simp[Op.operands])
  have hy:=hs.one y (by rw[ho]; simp[Op.operands])
  rw[hb,VR] at hc
  refine dV hF (by rw[ho]; simp) (fx (c:=if b then a.eval x else a.eval y) (w':=w) (.inl ?_) ?_)
  ·unfold execOp
   rw[ho]
   simp[hc,asBool]
  ·cases b
   ·cases h0; exact hk _ _ _ _ (hg.same hy hd) h
   ·cases h0; exact hk _ _ _ _ (hg.same hx hd) h
 ·rename_i x ho
  have hx:=hs.one x (by rw[ho]; simp[Op.operands])
  unfold HH at h
  split at h
  ·rename_i t y hy
   rw[hy] at hx
   have hx':=hx
   rw[VR] at hx
   obtain ⟨d,hd',_⟩:=hx
   refine dV hF (by rw[ho]; simp) ?_
   have hrun:(execOp a.eval o).run cx.P w=.halt (.panic (a.eval x)) w:=by
    unfold execOp
    rw[ho]
    show (do pure (.value (<-Instr.panic (a.eval x))):Sem Next).run cx.P w=_
    rw[hd']
    simp[Instr.panic,goPanic,Sem.run,Result.andThen]
   rw[hrun]
   exact hp _ s g w _ hg hx' h
  ·cases h
 ·rename_i t' n' parts ho
  rw[bF] at h
  split at h
  ·obtain ⟨q,h1,h2⟩:=bD h
   obtain ⟨d,w',g',e1,e2,e3,e4,e5,e6,e7⟩:=rm hg.sr.rel lo h1 (hs.E8 parts (by rw[ho]; simp[Op.operands]; exact fun a b h=>⟨a,h⟩))
   refine dV hF (by rw[ho]; simp) (fx (.inl ?_) (hk _ _ _ _ (hg.step e2 e3 e5 e6 e7 e4 hd) h2))
   unfold execOp
   rw[ho]
   exact iY e1
  ·exact direct h
 ·rename_i t' n' c' ho
  rw[bF] at h
  split at h
  ·obtain ⟨q,h1,h2⟩:=bD h
   obtain ⟨d,w',g',e1,e2,e3,e4,e5,e6,e7⟩:=kv hg.sr.rel lo h1 (hs.one n' (by rw[ho]; simp[Op.operands])) (hs.one c' (by rw[ho]; simp[Op.operands]))
   refine dV hF (by rw[ho]; simp) (fx (.inl ?_) (hk _ _ _ _ (hg.step e2 e3 e5 e6 e7 e4 hd) h2))
   unfold execOp
   rw[ho]
   exact iY e1
  ·exact direct h
 ·rename_i t' t'' x ho
  rw[bF] at h
  split at h
  ·obtain ⟨q,h1,h2⟩:=bD h
   obtain ⟨d,w',g',e1,e2,e3,e4,e5,e6,e7⟩:=w7 hg.sr.rel h1 (hs.one x (by rw[ho]; simp[Op.operands]))
   refine dV hF (by rw[ho]; simp) (fx (.inl ?_) (hk _ _ _ _ (hg.step e2 e3 e5 e6 e7 e4 hd) h2))
   unfold execOp
   rw[ho]
   exact iY e1
  ·exact direct h
 ·rename_i c ho
  rw[bF] at h
  split at h
  ·rw[rZ] at h
   unfold Jz at h
   split at h
   ·rename_i p hy
    obtain ⟨b,args⟩:=p
    obtain ⟨hrb,h⟩:=bu h
    obtain ⟨l,cargs,hrun,hv,hl⟩:=Fw hs hy hrb
    refine dV hF (by rw[ho]; simp) ?_
    replace h:=bD h
    obtain ⟨⟨out,H'⟩,hy,h⟩:=h
    obtain ⟨fn',tm',as',bo',hrun',hR⟩:=hcall.yl b args s.H lo (out,H') hy F (n - 1) l g w0 w cargs hF (hcall.up _ _ _ _ _ _ hb0 hg.ext) hg.sr.rel hg.sr.gl hv hl
    rw[hrun,hrun',Oper.uponIn_round]
    refine⟨fun hd=>(by rw[hF.1] at hd; cases hd),hR.mono ?_⟩
    rintro e w' ⟨g',e1,e2,e3,e4,e6,e5⟩
    cases out with
    | ret x=>
     cases e with
     | returned c'=>exact hk _ _ _ _ (hg.step e1 e2 e3 e4 e6 e5 hd) h
     | panicked _=>exact e5.elim
     | outgrown=>exact e5.elim
    | pan x=>cases h
   replace h:=bD h
   obtain ⟨⟨k',args⟩,hce,h⟩:=h
   obtain ⟨hcb,cargs,hrun,hv⟩:=kz hs hce
   refine dV hF (by rw[ho]; simp) ?_
   rw[hrun,Oper.uponIn_enter]
   refine⟨fun hd=>(by rw[hF.1] at hd; cases hd),?_⟩
   rw[bF] at h
   split at h
   ·rename_i hiso
    replace h:=bD h
    obtain ⟨y,hy,h⟩:=h
    have hr:=hg.sr.rel
    have hst:∀ k o,w.heap.size<=k->fi s.H g k o:=fun k o hk=>⟨hr.out k o hk,fun b hb=>absurd (hr.dom b k hb).2.2 r7⟩
    have hcallok:=horc k' _ y (.inl hiso) hy (fi s.H g) w cargs hst (fun G vs hG j v hj=>let ⟨e1,e2⟩:=hg.sr.gl G vs hG j v hj; ⟨e1,e2,fun b hb=>by cases hb⟩) (yC hr hv)
    refine(iL hF hcallok).mono ?_
    rintro e w' ⟨c',rfl,hb,hvr⟩
    exact hk _ _ _ _ (hg.step (H':=s.H) (hr.eQ hb) (Ext.below hr hb) (Yk _) (fun _ _ _=>rfl) rfl (VR.back (fun _ _ h=>h) hvr) hd) h
   ·replace h:=bD h
    obtain ⟨⟨out,H'⟩,hy,h⟩:=h
    have hci:CallsIn F.plain (n - 1) cx.P k' cargs.toArray w _:=hcall.fn k' args s.H lo (out,H') (jl hcb) hy F.plain (n - 1) g w0 w cargs hF rfl (hcall.up _ _ _ _ _ _ hb0 hg.ext) hg.sr.rel hg.sr.gl hv
    have hci':CallsIn F (n - 1) cx.P k' cargs.toArray w _:=hci
    refine hci'.mono ?_
    rintro e w' ⟨g',e1,e2,e3,e4,e6,e5⟩
    cases out with
    | ret x=>
     cases e with
     | returned c'=>exact hk _ _ _ _ (hg.step e1 e2 e3 e4 e6 e5 hd) h
     | panicked _=>exact e5.elim
     | outgrown=>exact e5.elim
    | pan x=>
     cases e with
     | returned _=>exact e5.elim
     | panicked ch=>
      obtain ⟨c',rfl,hvr⟩:=e5
      have hg':=hg.step (dst:=none) (x:=x) e1 e2 e3 e4 e6 hvr (fun d hd=>by cases hd)
      exact hp x { s with H:=H' } g' w' c' hg' hvr h
     | outgrown=>exact e5.elim
  ·exact direct h
 ·exact direct h
theorem ke {ops:Array Oper} {o:Oper} {t:Nat} {want:Bool} (h:b9 ops o=some (t,want)) {b:Bool} (hg:a.tmps.getD t undef=.bool b):Region.wanted o (yielded ops a.tmps)=(b==want):=by
 rw[jL] at h
 split at h
 ·rename_i j want' hgd
  cases hd:(ops[j]?).bind (·.dst) with
  | none=>rw[hd] at h; cases h
  | some t'=>
   rw[hd] at h
   cases h
   have ht:a.tmps[t]? = some (.bool b):=by
    rw[Zj] at hg
    cases hx:a.tmps[t]? with
    | none=>rw[hx] at hg; cases hg
    | some v=>rw[hx] at hg; simp at hg; rw[hg]
   simp only[Region.wanted,hgd,yielded,hd,Yf,ht]
   cases b<;>cases want<;>rfl
 ·cases h
theorem mq {ops:Array Oper} {o:Oper} {t:Nat} {want:Bool} (h:b9 ops o=some (t,want)) {y:Array Value} (hg:a.tmps.getD t undef=.tuple y):Region.wanted o (yielded ops a.tmps)=false:=by
 rw[jL] at h
 split at h
 ·rename_i j want' hgd
  cases hd:(ops[j]?).bind (·.dst) with
  | none=>rw[hd] at h; cases h
  | some t'=>
   rw[hd] at h
   cases h
   rw[Zj] at hg
   simp only[Region.wanted,hgd,yielded,hd,Yf]
   cases hx:a.tmps[t]? with
   | none=>cases want<;>rfl
   | some v=>rw[hx] at hg; simp at hg; subst hg; cases want<;>rfl
 ·cases h
theorem ny {β:Type} {x:A} {want:Bool} {p q:Option β} {r:β} (h:pY x want p q=some r):(∃ b,x=.v (.bool b)/\(if b==want then p else q)=some r)∨∃ y,x=.v (.tuple y)/\q=some r:=by
 unfold pY at h
 split at h
 ·rename_i b; exact .inl ⟨b,rfl,by cases b<;>cases want<;>exact h⟩
 ·exact .inr ⟨_,rfl,h⟩
 ·cases h
end
section
open Go.RowKit
variable {H H':aB} {g g':Gh} {w0 w w':World}
theorem ult {b:Nat} {H:aB} {B:aC} (h:H[b]? = some B):decide (b<H.length)=true:=Yl (Ym.1 h).1
mutual
theorem VR.under:∀ (a:A) (c:Value),VR H g w a c->A.under H.length a=true
 | .any,_,_=>rfl
 | .v _,_,_=>rfl
 | .ptr b o,c,h=>by
  rw[VR] at h
  cases hb:H[b]? with
  | none=>rw[hb] at h; exact h.elim
  | some B=>exact ult hb
 | .ep b i o,c,h=>by
  rw[VR] at h
  cases hb:H[b]? with
  | none=>rw[hb] at h; exact h.elim
  | some B=>exact ult hb
 | .ip cs,c,h=>by rw[VR] at h; obtain ⟨_,_,ds,_,_,h3⟩:=h; rw[A.under]; exact bE.under cs ds h3
 | .imm els cl,c,h=>by rw[VR] at h; obtain ⟨_,_,ds,_,_,_,_,_,_,h6⟩:=h; rw[A.under]; exact bC.under els ds h6
 | .sl b o n cl,c,h=>by
  rw[VR] at h
  cases hb:H[b]? with
  | none=>rw[hb] at h; exact h.elim
  | some B=>exact ult hb
 | .nq _,_,_=>rfl
 | .mr b,c,h=>by
  rw[VR] at h
  cases hb:H[b]? with
  | none=>rw[hb] at h; exact h.elim
  | some B=>exact ult hb
 | .mv k ks vs,c,h=>by rw[VR] at h; obtain ⟨_,_,_,_,_,_,_,h5⟩:=h; rw[A.under]; exact bE.under vs _ h5
 | .yld b,c,h=>by
  rw[VR] at h
  cases hb:H[b]? with
  | none=>rw[hb] at h; exact h.elim
  | some B=>exact ult hb
 | .agg cs,c,h=>by rw[VR] at h; obtain ⟨ds,_,h2⟩:=h; rw[A.under]; exact bE.under cs _ h2
 | .tup cs,c,h=>by rw[VR] at h; obtain ⟨ds,_,h2⟩:=h; rw[A.under]; exact bE.under cs _ h2
 | .fn f p q,c,h=>by rw[VR] at h; obtain ⟨ds,es,_,h2,h3⟩:=h; rw[A.under,bE.under p _ h2,bE.under q _ h3]; rfl
 | .ifc t x,c,h=>by rw[VR] at h; obtain ⟨d,_,h2⟩:=h; rw[A.under]; exact VR.under x d h2
theorem bE.under:∀ (cs:List A) (ds:List Value),bE H g w cs ds->bt H.length cs=true
 | [],_,_=>rfl
 | a :: as,_,h=>by rw[bE] at h; obtain ⟨d,ds',_,h2,h3⟩:=h; rw[bt,VR.under a d h2,bE.under as ds' h3]; rfl
theorem bC.under:∀ (cs:List (List A)) (ds:List (List Value)),bC H g w cs ds->aM H.length cs=true
 | [],_,_=>rfl
 | a :: as,_,h=>by rw[bC] at h; obtain ⟨d,ds',_,h2,h3⟩:=h; rw[aM,bE.under a d h2,bC.under as ds' h3]; rfl
end
theorem lZ.under {b:Nat} {B:aC} (h:lZ H g w b B):B.under H.length=true:=by
 cases B with
 | box cs=>obtain ⟨_,_,_,_,_,h3⟩:=h; exact bE.under cs _ h3
 | row wr es els=>cases wr with
  | true=>obtain ⟨ds,h1,_⟩:=h; exact bC.under els ds h1
  | false=>exact bC.under els _ h.1
 | rng _=>rfl
 | mp _ _ _=>obtain ⟨_,_,_,_,_,_,h4⟩:=h; exact bE.under _ _ h4
 | dead=>rfl
 | hole=>rfl
structure kP (L:Nat) (H:aB) (g:Gh) (H':aB) (g':Gh):Prop where
 stab:∀ k o,fi H g k o->fi H' g' k o
 blk:∀ b,b<L->H'[b]? = H[b]?
 mu:∀ (b:Nat) (B:aC),b<L->H[b]? = some B->g'.mu b=g.mu b
 ga:∀ (b es:Nat) (els:List (List A)),b<L->H[b]? = some (.row false es els)->g'.ga b=g.ga b
 lr:∀ (b:Nat) (st:jW),b<L->H[b]? = some (.rng st)->g'.lr b=g.lr b
theorem bK.to {L:Nat} (ha:kP L H g H' g') {k off:Nat} {ds:List Value} (h:bK H g w k off ds):bK H' g' w k off ds:=fun j v hj=>⟨(h j v hj).1,ha.stab _ _ (h j v hj).2⟩
mutual
theorem VR.to {L:Nat} (ha:kP L H g H' g'):∀ (a:A) (c:Value),A.under L a=true->VR H g w a c->VR H' g' w a c
 | .any,_,_,_=>X2
 | .v x,c,_,h=>by rw[VR] at h ⊢; exact h
 | .ptr b o,c,hu,h=>by
  rw[A.under] at hu
  have hu:=Yr hu
  rw[VR] at h ⊢
  rw[ha.blk b hu]
  cases hb:H[b]? with
  | none=>rw[hb] at h; exact h
  | some B=>
   rw[hb] at h
   have hm:=ha.mu b B hu hb
   cases B with
   | box _=>obtain ⟨k,h1,h2⟩:=h; exact⟨k,hm.trans h1,h2⟩
   | _=>exact h
 | .ep b i o,c,hu,h=>by
  rw[A.under] at hu
  have hu:=Yr hu
  rw[VR] at h ⊢
  rw[ha.blk b hu]
  cases hb:H[b]? with
  | none=>rw[hb] at h; exact h
  | some B=>
   rw[hb] at h
   have hm:=ha.mu b B hu hb
   cases B with
   | row wr es els=>cases wr with
    | true=>obtain ⟨h0,k,h1,h2⟩:=h; exact⟨h0,k,hm.trans h1,h2⟩
    | false=>exact h
   | _=>exact h
 | .ip cs,c,hu,h=>by
  rw[A.under] at hu
  rw[VR] at h ⊢
  obtain ⟨k,off,ds,h1,h2,h3⟩:=h
  exact⟨k,off,ds,h1,h2.to ha,bE.to ha cs ds hu h3⟩
 | .imm els cl,c,hu,h=>by
  rw[A.under] at hu
  rw[VR] at h ⊢
  obtain ⟨a,cap,ds,es,h1,h2,h3,h4,h5,h6⟩:=h
  exact⟨a,cap,ds,es,h1,h2,h3,h4,fun hp=>let ⟨k,off,e1,e2⟩:=h5 hp; ⟨k,off,e1,e2.to ha⟩,bC.to ha els ds hu h6⟩
 | .sl b o n cl,c,hu,h=>by
  rw[A.under] at hu
  have hu:=Yr hu
  rw[VR] at h ⊢
  rw[ha.blk b hu]
  cases hb:H[b]? with
  | none=>rw[hb] at h; exact h
  | some B=>
   rw[hb] at h
   have hm:=ha.mu b B hu hb
   cases B with
   | row wr es els=>cases wr with
    | true=>
     obtain ⟨h0,a,cap,h1,h2,h3,h4⟩:=h
     exact⟨h0,a,cap,h1,h2,h3,fun hp=>let ⟨k,e1,e2⟩:=h4 hp; ⟨k,hm.trans e1,e2⟩⟩
    | false=>
     obtain ⟨h0,a,cap,h1,h2,h3,h4,h5⟩:=h
     exact⟨h0,a,cap,h1,h2,h3,fun hp=>let ⟨k,off,e1,e2⟩:=h4 hp; ⟨k,off,e1,by rw[ha.ga b es els hu hb]; exact e2.to ha⟩,fun p q r t=>let ⟨k,arr,ty,e1,e2,e3,e4⟩:=h5 p q r t; ⟨k,arr,ty,hm.trans e1,e2,e3,e4⟩⟩
   | _=>exact h
 | .nq _,c,hu,h=>by rw[VR] at h ⊢; exact h
 | .mr b,c,hu,h=>by
  rw[A.under] at hu
  have hu:=Yr hu
  rw[VR] at h ⊢
  rw[ha.blk b hu]
  cases hb:H[b]? with
  | none=>rw[hb] at h; exact h
  | some B=>
   rw[hb] at h
   have hm:=ha.mu b B hu hb
   cases B with
   | mp _ _ _=>obtain ⟨k,e1,e2⟩:=h; exact⟨k,hm.trans e1,e2⟩
   | _=>exact h
 | .mv k ks vs,c,hu,h=>by
  rw[A.under] at hu
  rw[VR] at h ⊢
  obtain ⟨r,arr,cl,h1,h2,h3,h4,h5⟩:=h
  exact⟨r,arr,cl,h1,ha.stab _ _ h2,h3,h4,bE.to ha vs _ hu h5⟩
 | .yld b,c,hu,h=>by
  rw[A.under] at hu
  have hu:=Yr hu
  rw[VR] at h ⊢
  rw[ha.blk b hu]
  cases hb:H[b]? with
  | none=>rw[hb] at h; exact h
  | some B=>
   rw[hb] at h
   have hm:=ha.mu b B hu hb
   cases B with
   | rng _=>obtain ⟨k,e1,e2⟩:=h; exact⟨k,hm.trans e1,e2⟩
   | _=>exact h
 | .agg cs,c,hu,h=>by
  rw[A.under] at hu
  rw[VR] at h ⊢
  obtain ⟨ds,h1,h2⟩:=h
  exact⟨ds,h1,bE.to ha cs _ hu h2⟩
 | .tup cs,c,hu,h=>by
  rw[A.under] at hu
  rw[VR] at h ⊢
  obtain ⟨ds,h1,h2⟩:=h
  exact⟨ds,h1,bE.to ha cs _ hu h2⟩
 | .fn f p q,c,hu,h=>by
  rw[A.under,Yj] at hu
  rw[VR] at h ⊢
  obtain ⟨ds,es,h1,h2,h3⟩:=h
  exact⟨ds,es,h1,bE.to ha p _ hu.1 h2,bE.to ha q _ hu.2 h3⟩
 | .ifc t x,c,hu,h=>by
  rw[A.under] at hu
  rw[VR] at h ⊢
  obtain ⟨d,h1,h2⟩:=h
  exact⟨d,h1,VR.to ha x d hu h2⟩
theorem bE.to {L:Nat} (ha:kP L H g H' g'):∀ (cs:List A) (ds:List Value),bt L cs=true->bE H g w cs ds->bE H' g' w cs ds
 | [],_,_,h=>by rw[bE] at h ⊢; exact h
 | a :: as,_,hu,h=>by
  rw[bt,Yj] at hu
  rw[bE] at h ⊢
  obtain ⟨d,ds',h1,h2,h3⟩:=h
  exact⟨d,ds',h1,VR.to ha a d hu.1 h2,bE.to ha as ds' hu.2 h3⟩
theorem bC.to {L:Nat} (ha:kP L H g H' g'):∀ (cs:List (List A)) (ds:List (List Value)),aM L cs=true->bC H g w cs ds->bC H' g' w cs ds
 | [],_,_,h=>by rw[bC] at h ⊢; exact h
 | a :: as,_,hu,h=>by
  rw[aM,Yj] at hu
  rw[bC] at h ⊢
  obtain ⟨d,ds',h1,h2,h3⟩:=h
  exact⟨d,ds',h1,bE.to ha a d hu.1 h2,bC.to ha as ds' hu.2 h3⟩
end
theorem lZ.to {L:Nat} (ha:kP L H g H' g') {b:Nat} {B:aC} (hb:b<L) (hB:H[b]? = some B) (hu:B.under L=true) (h:lZ H g w b B):lZ H' g' w b B:=by
 have hm:=ha.mu b B hb hB
 cases B with
 | box cs=>obtain ⟨k,arr,ty,h1,h2,h3⟩:=h; exact⟨k,arr,ty,hm.trans h1,h2,bE.to ha cs _ hu h3⟩
 | row wr es els=>cases wr with
  | true=>obtain ⟨ds,h1,h2,h3⟩:=h; exact⟨ds,bC.to ha els _ hu h1,h2,fun hp=>let ⟨k,arr,ty,e1,e2⟩:=h3 hp; ⟨k,arr,ty,hm.trans e1,e2⟩⟩
  | false=>
   have hga:=ha.ga b es els hb hB
   exact⟨by rw[hga]; exact bC.to ha els _ hu h.1,by rw[hga]; exact h.2⟩
 | rng st=>obtain ⟨k,h1,h2⟩:=h; exact⟨k,hm.trans h1,by rw[ha.lr b st hb hB]; exact h2⟩
 | mp _ _ _=>obtain ⟨k,arr,cl,h1,h2,h3,h4⟩:=h; exact⟨k,arr,cl,hm.trans h1,h2,h3,bE.to ha _ _ hu h4⟩
 | dead=>exact hm.trans h
 | hole=>exact hm.trans h
theorem Rel.back (hr:Rel H g w0 w) (hr':Rel H' g' w0 w') (he:Ext H g w H' g' w') (hst:g'.S=g.S) (hlow:∀ b,b<H.length->H'[b]? = H[b]?):Rel H g w0 w'/\Ext H g w H g w'/\kP H.length H' g' H g:=by
 have hbt:∀ (b:Nat) (B:aC),H[b]? = some B->BT g w g' w' b B B:=fun b B hB=>by
  obtain ⟨B',hB',ht⟩:=he.blk b B hB
  rw[hlow b (Ym.1 hB).1,hB] at hB'
  cases hB'
  exact ht
 have hmu:∀ (b:Nat) (B:aC),H[b]? = some B->g'.mu b=g.mu b:=fun b B hB=>by
  have ht:=hbt b B hB
  cases B with
  | box _=>exact ht
  | row wr es els=>cases wr with
   | true=>exact ht.2.2
   | false=>exact(ht.2.2.2.2 rfl).1
  | rng _=>exact ht.1
  | mp _ _ _=>exact ht
  | dead=>
   have h1:g.mu b=none:=hr.blk b _ hB
   have h2:g'.mu b=none:=hr'.blk b .dead (by rw[hlow b (Ym.1 hB).1]; exact hB)
   rw[h1,h2]
  | hole=>
   have h1:g.mu b=none:=hr.blk b _ hB
   have h2:g'.mu b=none:=hr'.blk b .hole (by rw[hlow b (Ym.1 hB).1]; exact hB)
   rw[h1,h2]
 have hga:∀ (b es:Nat) (els:List (List A)),H[b]? = some (.row false es els)->g'.ga b=g.ga b:=fun b es els hB=>by
  obtain ⟨_,⟨r,e1⟩,e2,_,_⟩:=hbt b _ hB
  have h2:=(hr'.blk b _ (by rw[hlow b (Ym.1 hB).1]; exact hB)).len
  rw[e1,YF,e2] at h2
  have:r=[]:=YI r7
  rw[e1,this,Zp]
 have ag:kP H.length H' g' H g:=by
  refine⟨fun k o hs=>⟨hst ▸ hs.1,fun b hb=>?_⟩,fun b hb=>(hlow b hb).symm,fun b B hb hB=>(hmu b B (by rw[<-hlow b hb]; exact hB)).symm,fun b es els hb hB=>(hga b es els (by rw[<-hlow b hb]; exact hB)).symm,fun b st hb hB=>(show g'.mu b=g.mu b/\g'.lr b=g.lr b from hbt b (.rng st) (by rw[<-hlow b hb]; exact hB)).2.symm⟩
  have hlt:=(hr.dom b k hb).1
  have hB:=Yg hlt
  obtain ⟨es,els,h1,h2⟩:=hs.2 b ((hmu b _ hB).trans hb)
  exact⟨es,els,by rw[<-hlow b hlt]; exact h1,h2⟩
 refine⟨⟨hr'.below,fun b k hb=>?_,hr.inj,(fun k o hk=>hst ▸ hr'.out k o hk),hr.own,fun b B hB=>?_⟩,⟨fun k o v hs hc=>⟨(he.cell k o v hs hc).1,hs⟩,fun b B hB=>⟨B,hB,?_⟩,he.kept,he.size,fun k arr cl hs hm=>⟨(he.map k arr cl hs hm).1,hs⟩,he.obj,fun b k h=>.inl ⟨b,h⟩⟩,ag⟩
 ·have h1:=hr.dom b k hb
  have h2:=hr'.dom b k ((hmu b _ (Yg h1.1)).trans hb)
  exact⟨h1.1,h1.2.1,h2.2.2⟩
 ·have hlt:=(Ym.1 hB).1
  exact lZ.to ag hlt (by rw[hlow b hlt]; exact hB) (hr.blk b B hB).under (hr'.blk b B (by rw[hlow b hlt]; exact hB))
 ·have ht:=hbt b B hB
  cases B with
  | box _=>rfl
  | row wr es els=>cases wr with
   | true=>exact⟨rfl,rfl,rfl⟩
   | false=>exact⟨rfl,⟨[],r9⟩,ht.2.2.1,Yk _,fun _=>⟨rfl,(ht.2.2.2.2 rfl).2⟩⟩
  | rng _=>exact⟨rfl,rfl⟩
  | mp _ _ _=>rfl
  | dead=>trivial
  | hole=>trivial
def Gh.cut (g:Gh) (L:Nat):Gh:={ g with mu:=fun b=>if b<L then g.mu b else none }
theorem Rel.cut (hr:Rel H g w0 w) {L:Nat} (hL:L<=H.length) (hu:∀ (b:Nat) B,b<L->H[b]? = some B->B.under L=true):Rel (H.take L) (g.cut L) w0 w/\kP L H g (H.take L) (g.cut L):=by
 have hmu:∀ {b k},(g.cut L).mu b=some k->b<L/\g.mu b=some k:=fun {b k} h=>by
  simp only[Gh.cut] at h
  split at h
  ·rename_i hb; exact⟨hb,h⟩
  ·cases h
 have hget:∀ b,b<L->(H.take L)[b]? = H[b]?:=fun b hb=>by rw[YN,Yq hb]
 have ag:kP L H g (H.take L) (g.cut L):=by
  refine⟨fun k o hs=>⟨hs.1,fun b hb=>?_⟩,fun b hb=>hget b hb,fun b B hb _=>by simp[Gh.cut,hb],fun b es els _ _=>rfl,fun b st _ _=>rfl⟩
  obtain ⟨h1,h2⟩:=hmu hb
  obtain ⟨es,els,h3,h4⟩:=hs.2 b h2
  exact⟨es,els,by rw[hget b h1]; exact h3,h4⟩
 refine⟨⟨hr.below,fun b k hb=>?_,fun b c k h1 h2=>hr.inj b c k (hmu h1).2 (hmu h2).2,hr.out,(fun b k o h=>hr.own b k o (hmu h).2),fun b B hB=>?_⟩,ag⟩
 ·obtain ⟨h1,h2⟩:=hmu hb
  have:=hr.dom b k h2
  exact⟨XX,this.2⟩
 ·have hb:b<L:=by have:=(Ym.1 hB).1; rw[Zq] at this; omega
  rw[hget b hb] at hB
  exact lZ.to ag hb hB (hu b B hb hB) (hr.blk b B hB)
theorem Ext.cut {H0:aB} {gs:Gh} {ws:World} (he:Ext H0 gs ws H g w) {L:Nat} (hL:H0.length<=L):Ext H0 gs ws (H.take L) (g.cut L) w:=by
 have hst:∀ {k o},fi H g k o->fi (H.take L) (g.cut L) k o:=fun {k o} h2=>by
  refine⟨h2.1,fun b hb=>?_⟩
  simp only[Gh.cut] at hb
  split at hb
  ·rename_i hlt
   obtain ⟨es,els,h3,h4⟩:=h2.2 b hb
   exact⟨es,els,by rw[YN,Yq hlt]; exact h3,h4⟩
  ·cases hb
 refine⟨fun k o v hs hc=>?_,fun b B hB=>?_,he.kept,he.size,fun k arr cl hs hm=>⟨(he.map k arr cl hs hm).1,hst (he.map k arr cl hs hm).2⟩,he.obj,fun b k h=>he.fresh b k (by
  simp only[Gh.cut] at h
  split at h
  ·exact h
  ·cases h)⟩
 ·obtain ⟨h1,h2⟩:=he.cell k o v hs hc
  refine⟨h1,h2.1,fun b hb=>?_⟩
  simp only[Gh.cut] at hb
  split at hb
  ·rename_i hlt
   obtain ⟨es,els,h3,h4⟩:=h2.2 b hb
   exact⟨es,els,by rw[YN,Yq hlt]; exact h3,h4⟩
  ·cases hb
 ·obtain ⟨B',hB',ht⟩:=he.blk b B hB
  have hb:b<L:=YA (Ym.1 hB).1 hL
  refine⟨B',by rw[YN,Yq hb]; exact hB',?_⟩
  have e:(g.cut L).mu b=g.mu b:=by simp[Gh.cut,hb]
  cases B with
  | box _=>cases B' with
   | box _=>exact e.trans ht
   | row wr _ _=>exact ht
   | rng _=>exact ht
   | mp _ _ _=>exact ht
   | dead=>trivial
   | hole=>exact ht
  | row wr es els=>cases wr with
   | true=>cases B' with
    | box _=>exact ht
    | rng _=>exact ht
    | mp _ _ _=>exact ht
    | row wr' es' els'=>cases wr' with
     | true=>exact⟨ht.1,ht.2.1,e.trans ht.2.2⟩
     | false=>exact ht
    | dead=>trivial
    | hole=>exact ht
   | false=>cases B' with
    | box _=>exact ht
    | rng _=>exact ht
    | mp _ _ _=>exact ht
    | row wr' es' els'=>cases wr' with
     | true=>exact ht
     | false=>
      obtain ⟨h1,h2,h3,h4,h5⟩:=ht
      exact⟨h1,h2,h3,h4,fun hl=>⟨e.trans (h5 hl).1,(h5 hl).2⟩⟩
    | dead=>trivial
    | hole=>exact ht
  | rng st=>cases B' with
   | rng st'=>exact⟨e.trans ht.1,ht.2⟩
   | dead=>trivial
   | hole=>exact ht
   | box _=>exact ht
   | mp _ _ _=>exact ht
   | row wr _ _=>cases wr<;>exact ht
  | mp _ _ _=>cases B' with
   | mp _ _ _=>exact e.trans ht
   | rng _=>exact ht
   | dead=>trivial
   | hole=>exact ht
   | box _=>exact ht
   | row wr _ _=>cases wr<;>exact ht
  | dead=>cases B'<;>exact ht
  | hole=>trivial
end
section
open Go.RowKit
variable {H H1:aB} {g g1:Gh} {w0 w w1:World}
def Gh.rp (g:Gh) (H:aB) (m:Nat):Gh:={ g.cut m with S:=fun k o=>g.S k o/\∀ c,m<=c->g.mu c=some k->∃ es els,H[c]? = some (.row false es els)/\o<es*els.length }
theorem kG {g:Gh} {m b k:Nat} (h:(g.cut m).mu b=some k):b<m/\g.mu b=some k:=by
 simp only[Gh.cut] at h
 split at h
 ·rename_i hb; exact⟨hb,h⟩
 ·cases h
theorem Rel.rp (hr:Rel H g w0 w) {m:Nat} (hm:m<=H.length) (hu:∀ (b:Nat) B,b<m->H[b]? = some B->B.under m=true):Rel (H.take m) (g.rp H m) w0 w/\kP m H g (H.take m) (g.rp H m):=by
 have hget:∀ b,b<m->(H.take m)[b]? = H[b]?:=fun b hb=>by rw[YN,Yq hb]
 have ag:kP m H g (H.take m) (g.rp H m):=by
  refine⟨fun k o hs=>⟨⟨hs.1,fun c _ hc=>hs.2 c hc⟩,fun b hb=>?_⟩,fun b hb=>hget b hb,fun b B hb _=>by simp[Gh.rp,Gh.cut,hb],fun b es els _ _=>rfl,fun b st _ _=>rfl⟩
  obtain ⟨h1,h2⟩:=kG hb
  obtain ⟨es,els,h3,h4⟩:=hs.2 b h2
  exact⟨es,els,by rw[hget b h1]; exact h3,h4⟩
 refine⟨⟨hr.below,fun b k hb=>?_,fun b c k h1 h2=>hr.inj b c k (kG h1).2 (kG h2).2,fun k o hk=>⟨hr.out k o hk,fun c _ hc=>absurd (hr.dom c k hc).2.2 r7⟩,fun b k o hb=>⟨hr.own b k o (kG hb).2,fun c hc hck=>?_⟩,fun b B hB=>?_⟩,ag⟩
 ·obtain ⟨h1,h2⟩:=kG hb
  have:=hr.dom b k h2
  exact⟨XX,this.2⟩
 ·obtain ⟨h1,h2⟩:=kG hb
  have:=hr.inj b c k h2 hck
  omega
 ·have hb:b<m:=by have:=(Ym.1 hB).1; rw[Zq] at this; omega
  rw[hget b hb] at hB
  exact lZ.to ag hb hB (hu b B hb hB) (hr.blk b B hB)
theorem Rel.join (hr:Rel H g w0 w) {m:Nat} (hm:m<=H.length) (hr1:Rel H1 g1 w0 w1) (he:Ext (H.take m) (g.rp H m) w H1 g1 w1) (hm1:m<=H1.length) (hS:g1.S=(g.rp H m).S) (hu:∀ (b:Nat) B,b<m->H1[b]? = some B->B.under m=true) :
  ∃ g2,Rel (H1.take m++H.drop m) g2 w0 w1/\Ext H g w (H1.take m++H.drop m) g2 w1/\g2.S=g.S/\kP m H1 g1 (H1.take m++H.drop m) g2:=by
 have lo:∀ b,b<m->(H1.take m++H.drop m)[b]? = H1[b]?:=fun b hb=>by
  rw[YE XX,YN,Yq hb]
 have hi:∀ b,m<=b->(H1.take m++H.drop m)[b]? = H[b]?:=fun b hb=>by
  rw[YY XX,Zq,ZC,ZQ hm1]
  congr 1; omega
 have tk:∀ b,b<m->(H.take m)[b]? = H[b]?:=fun b hb=>by rw[YN,Yq hb]
 let g2:Gh:={ mu:=fun b=>if b<m then g1.mu b else g.mu b,ga:=fun b=>if b<m then g1.ga b else g.ga b,S:=g.S,lr:=fun b=>if b<m then g1.lr b else g.lr b }
 have mlo:∀ b,b<m->g2.mu b=g1.mu b:=fun b hb=>Yq hb
 have mhi:∀ b,m<=b->g2.mu b=g.mu b:=fun b hb=>Yp r7
 have glo:∀ b,b<m->g2.ga b=g1.ga b:=fun b hb=>Yq hb
 have ghi:∀ b,m<=b->g2.ga b=g.ga b:=fun b hb=>Yp r7
 have llo:∀ b,b<m->g2.lr b=g1.lr b:=fun b hb=>Yq hb
 have lhi:∀ b,m<=b->g2.lr b=g.lr b:=fun b hb=>Yp r7
 have nof:∀ {c k},m<=c->g.mu c=some k->∀ b,(g.rp H m).mu b≠some k:=fun {c k} hc hk b hb=>by
  obtain ⟨h1,h2⟩:=kG hb
  have:=hr.inj b c k h2 hk
  omega
 have same:∀ {c k},m<=c->g.mu c=some k->w1.heap[k]? = w.heap[k]?:=fun {c k} hc hk=>he.obj k (hr.dom c k hk).2.2 (nof hc hk)
 have hne:∀ {b c k},b<m->m<=c->g1.mu b=some k->g.mu c=some k->False:=fun {b c k} _ hc hb hk=>by
  rcases he.fresh b k hb with ⟨c',hc'⟩ | hl
  ·exact nof hc hk c' hc'
  ·have:=(hr.dom c k hk).2.2
   omega
 have toB:∀ {k o},fi H g k o->fi (H.take m) (g.rp H m) k o:=fun {k o} hs=>⟨⟨hs.1,fun c _ hc=>hs.2 c hc⟩,fun b hb=>by
  obtain ⟨h1,h2⟩:=kG hb
  obtain ⟨es,els,h3,h4⟩:=hs.2 b h2
  exact⟨es,els,by rw[tk b h1]; exact h3,h4⟩⟩
 have stab:∀ k o,fi H1 g1 k o->fi (H1.take m++H.drop m) g2 k o:=fun k o hs=>by
  have h1:(g.rp H m).S k o:=by rw[<-hS]; exact hs.1
  refine⟨h1.1,fun b hb=>?_⟩
  by_cases e:b<m
  ·rw[mlo b e] at hb
   obtain ⟨es,els,h3,h4⟩:=hs.2 b hb
   exact⟨es,els,by rw[lo b e]; exact h3,h4⟩
  ·rw[mhi b r7] at hb
   obtain ⟨es,els,h3,h4⟩:=h1.2 b r7 hb
   exact⟨es,els,by rw[hi b r7]; exact h3,h4⟩
 have ag:kP m H1 g1 (H1.take m++H.drop m) g2:=⟨stab,lo,fun b B hb _=>mlo b hb,fun b es els hb _=>glo b hb,fun b st hb _=>llo b hb⟩
 have hx:Ext H g w (H1.take m++H.drop m) g2 w1:=by
  refine⟨fun k o v hs hc=>?_,fun b B hB=>?_,he.kept,he.size,fun k arr cl hs hmm=>?_,fun k hk hn=>he.obj k hk fun b hb=>hn b (kG hb).2,fun b k hb=>?_⟩
  ·obtain ⟨h1,h2⟩:=he.cell k o v (toB hs) hc
   exact⟨h1,stab k o h2⟩
  ·by_cases e:b<m
   ·obtain ⟨B',hB',ht⟩:=he.blk b B (by rw[tk b e]; exact hB)
    refine⟨B',by rw[lo b e]; exact hB',?_⟩
    have hm0:(g.rp H m).mu b=g.mu b:=Yq e
    have hm2:=mlo b e
    have hg2:=glo b e
    have hl2:=llo b e
    unfold BT at ht ⊢
    rw[hm2,hg2,hl2,<-hm0]
    exact ht
   ·refine⟨B,by rw[hi b r7]; exact hB,?_⟩
    have hm2:=mhi b r7
    have hg2:=ghi b r7
    cases B with
    | box _=>exact hm2
    | row wr es els=>cases wr with
     | true=>exact⟨rfl,rfl,hm2⟩
     | false=>exact⟨rfl,⟨[],by rw[hg2]; simp⟩,(hr.blk b _ hB).len,Yk _,fun _=>⟨hm2,fun k arr ty hk ha=>⟨arr,(same r7 hk).trans ha,Yk _⟩⟩⟩
    | rng _=>exact⟨hm2,lhi b r7⟩
    | mp _ _ _=>exact hm2
    | dead=>trivial
    | hole=>trivial
  ·obtain ⟨h1,h2⟩:=he.map k arr cl (toB hs) hmm
   exact⟨h1,stab k 0 h2⟩
  ·by_cases e:b<m
   ·rw[mlo b e] at hb
    rcases he.fresh b k hb with ⟨c,hc⟩ | hl
    ·exact .inl ⟨c,(kG hc).2⟩
    ·exact .inr hl
   ·rw[mhi b r7] at hb
    exact .inl ⟨b,hb⟩
 refine⟨g2,⟨hr1.below,fun b k hb=>?_,fun b c k h1 h2=>?_,fun k o hk=>hr.out k o (YG he.size hk),hr.yk hx,fun b B hB=>?_⟩,hx,rfl,ag⟩
 ·by_cases e:b<m
  ·rw[mlo b e] at hb
   have:=hr1.dom b k hb
   exact⟨X9,this.2⟩
  ·rw[mhi b r7] at hb
   have:=hr.dom b k hb
   exact⟨X9,this.2.1,YA this.2.2 he.size⟩
 ·by_cases e1:b<m
  ·by_cases e2:c<m
   ·rw[mlo b e1] at h1; rw[mlo c e2] at h2; exact hr1.inj b c k h1 h2
   ·rw[mlo b e1] at h1; rw[mhi c r7] at h2; exact(hne e1 r7 h1 h2).elim
  ·by_cases e2:c<m
   ·rw[mhi b r7] at h1; rw[mlo c e2] at h2; exact(hne e2 r7 h2 h1).elim
   ·rw[mhi b r7] at h1; rw[mhi c r7] at h2; exact hr.inj b c k h1 h2
 ·by_cases e:b<m
  ·rw[lo b e] at hB
   exact lZ.to ag e hB (hu b B e hB) (hr1.blk b B hB)
  ·rw[hi b r7] at hB
   have h:=hr.blk b B hB
   have hm2:=mhi b r7
   have hg2:=ghi b r7
   cases B with
   | box cs=>obtain ⟨k,arr,ty,h1,h2,h3⟩:=h; exact⟨k,arr,ty,hm2.trans h1,(same r7 h1).trans h2,bE.ext hx _ _ h3⟩
   | row wr es els=>cases wr with
    | true=>
     obtain ⟨ds,h1,h2,h3⟩:=h
     exact⟨ds,bC.ext hx _ _ h1,h2,fun hp=>let ⟨k,arr,ty,e1,e2,e3⟩:=h3 hp; ⟨k,arr,ty,hm2.trans e1,(same r7 e1).trans e2,e3⟩⟩
    | false=>
     obtain ⟨h1,h2⟩:=h
     exact⟨by rw[hg2]; exact bC.ext hx _ _ h1,by rw[hg2]; exact h2⟩
   | rng st=>obtain ⟨k,h1,h2⟩:=h; exact⟨k,hm2.trans h1,by rw[lhi b r7]; exact(same r7 h1).trans h2⟩
   | mp _ _ _=>obtain ⟨k,arr,cl,h1,h2,h3,h4⟩:=h; exact⟨k,arr,cl,hm2.trans h1,(same r7 h1).trans h2,h3,bE.ext hx _ _ h4⟩
   | dead=>exact hm2.trans h
   | hole=>exact hm2.trans h
end
section
open Go.RowKit
variable {H H':aB} {g g':Gh} {w0 w w':World} {cx:Cx} {s:St} {a:Act} {F:Fence} {n:Nat} {N lo:Nat} {mb:Mb} {H0:aB} {gs:Gh} {ws:World} {Bs:aB->Gh->World->Prop}
def qj (cx:Cx) (Bs:aB->Gh->World->Prop) (s:St) (o:Oper) (x:A):Prop:=∀ (F:Fence) (n:Nat) (g:Gh) (w0 W:World) (ev:Operand->Value),gV F->tF cx s g w0 o.op ev W->(∀ (G:Nat) (vs:List Value),cx.glob G=some vs->bK s.H g W G 0 vs)->Bs s.H g W ->
 yI F n cx.P o ev W fun v W'=>VR s.H g W' x v/\Rel s.H g w0 W'/\Ext s.H g W s.H g W'
theorem DU {β:Type} {f lo:Nat} {dst:Option Nat} {c:Call} (k:A->aB->Option β):pP cx f lo dst c s k=(pP cx f lo dst c s (fun x H=>some (x,H))).bind fun r=>k r.1 r.2:=by
 unfold pP
 split<;>simp[YU]
theorem iM {β:Type} {f lo:Nat} {o:Oper} (k:A->aB->Option β):bO cx f lo o s k=(bO cx f lo o s (fun x H=>some (x,H))).bind fun r=>k r.1 r.2:=by
 unfold bO
 split
 case h_27=>exact DU k
 all_goals simp[YU]
theorem sf {f lo:Nat} {o:Oper} {r:A×aB} (h:bO cx f lo o s (fun x H=>some (x,H))=some r) (hh:vX o.op=false):∃ x,r=(x,s.H):=by
 unfold bO at h
 split at h
 all_goals first
  | cases h; done
  | (rename_i ho; rw[ho] at hh; cases hh; done)
  | (cases h; exact⟨_,rfl⟩)
  | (obtain ⟨y,_,h⟩:=bD h; cases h; exact⟨_,rfl⟩)
theorem ki {P:Program} {o:Oper} {ev:Operand->Value} {c:Value} {Rr:Value->World->Prop} (h:(execOp ev o).run P w=.ok (.value c) w'∨((execOp ev o).run P w=.ok .skip w'/\c=undef)) (hr:Rr c w'):yI F n P o ev w Rr:=by
 unfold yI
 rcases h with h | ⟨h,rfl⟩<;>rw[h]<;>exact hr
theorem rj {f lo:Nat} {o:Oper} {x:A} (h:bO cx f lo o s (fun x H=>some (x,H))=some (x,s.H)):qj cx Bs s o x:=by
 intro F n g w0 W ev hF hs hgl hbs
 obtain ⟨c,w',x',H',g',e1,e2,e3,e4,e5,e6,e7,e8⟩:=kA hs h
 cases e2
 obtain ⟨r1,r2,r3⟩:=Rel.back hs.rel e3 e4 e8 (fun _ _=>rfl)
 exact ki e1 ⟨VR.to r3 x c (VR.under x c e5) e5,r1,r2⟩
theorem nm {call:bn} (hcall:dX cx Bs call) (horc:jV cx) {f:Nat} {o:Oper} {x:A} (h:hX cx call f o s=some x):qj cx Bs s o x:=by
 have direct:∀ {lo:Nat},vX o.op=false->bO cx f lo o s (fun x _=>some x)=some x->qj cx Bs s o x:=fun {lo} hh h=>by
  rw[iM] at h
  obtain ⟨q,h1,h2⟩:=bD h
  obtain ⟨x',rfl⟩:=sf h1 hh
  cases h2
  exact rj h1
 unfold hX at h
 split at h
 ·rename_i c x y ho
  obtain ⟨b,hb,h⟩:=pG h
  intro F n g w0 W ev hF hs hgl hbs
  have hc:=hs.one c (by rw[ho]; simp[Op.operands])
  have hx:=hs.one x (by rw[ho]; simp[Op.operands])
  have hy:=hs.one y (by rw[ho]; simp[Op.operands])
  rw[hb,VR] at hc
  refine ki (c:=if b then ev x else ev y) (w':=W) (.inl ?_) ⟨by cases b<;>cases h<;>assumption,hs.rel,Ext.refl hs.rel⟩
  unfold execOp
  rw[ho]
  simp[hc,asBool]
 ·cases h
 ·cases h
 ·cases h
 ·cases h
 ·cases h
 ·cases h
 ·cases h
 ·cases h
 ·rename_i c ho
  rw[bF] at h
  split at h
  ·rw[vH] at h
   replace h:=bD h
   obtain ⟨x0,h,hx0⟩:=h
   cases hx0
   replace h:=bD h
   obtain ⟨⟨k',args⟩,hce,h⟩:=h
   rw[bF] at h
   split at h
   ·rename_i hiso
    have hy:=h
    intro F n g w0 W ev hF hs hgl hbs
    obtain ⟨hcb,cargs,hrun,hv⟩:=kz hs hce
    unfold yI
    rw[hrun]
    have hr:=hs.rel
    have hst:∀ k o,W.heap.size<=k->fi s.H g k o:=fun k o hk=>⟨hr.out k o hk,fun b hb=>absurd (hr.dom b k hb).2.2 r7⟩
    have hcallok:=horc k' _ x (.inr (.inl hiso)) hy (fi s.H g) W cargs hst (fun G vs hG j v hj=>let ⟨e1,e2⟩:=hgl G vs hG j v hj; ⟨e1,e2,fun b hb=>by cases hb⟩) (yC hr hv)
    refine(iL hF hcallok).mono ?_
    rintro e w' ⟨c',rfl,hb,hvr⟩
    exact⟨VR.back (fun _ _ h=>h) hvr,hr.eQ hb,Ext.below hr hb⟩
   ·replace h:=bD h
    obtain ⟨⟨out,H'⟩,hy,h⟩:=h
    cases out with
    | pan x=>cases h
    | ret y=>
     obtain ⟨hu,h⟩:=bu (show (bif A.under s.H.length y then some y else none)=some x from h)
     cases h
     intro F n g w0 W ev hF hs hgl hbs
     obtain ⟨hcb,cargs,hrun,hv⟩:=kz hs hce
     unfold yI
     rw[hrun]
     have hci:CallsIn F.plain (n - 1) cx.P k' cargs.toArray W _:=hcall.fn k' args s.H s.H.length (.ret x,H') (jl hcb) hy F.plain (n - 1) g w0 W cargs hF rfl hbs hs.rel hgl hv
     have hci':CallsIn F (n - 1) cx.P k' cargs.toArray W _:=hci
     refine hci'.mono ?_
     rintro e w' ⟨g',e1,e2,e3,e4,e6,e5⟩
     cases e with
     | returned c'=>
      obtain ⟨r1,r2,r3⟩:=Rel.back hs.rel e1 e2 e6 (fun b hb=>e4 b hb hb)
      exact⟨VR.to r3 x c' hu e5,r1,r2⟩
     | panicked _=>exact e5.elim
     | outgrown=>exact e5.elim
  ·split at h
   ·rename_i hcl
    rw[iM] at h
    obtain ⟨q,h1,h2⟩:=bD h
    have hq:∃ x,q=(x,s.H):=by
     unfold bO at h1
     rw[ho] at h1
     simp only at h1
     unfold pP at h1
     split at h1
     ·obtain ⟨y,_,h1⟩:=bD h1; cases h1; exact⟨_,rfl⟩
     ·rename_i he _ _; rw[hcl] at he; cases he
     ·rename_i he _ _; rw[hcl] at he; cases he
     ·rename_i he _; rw[hcl] at he; cases he
     ·rename_i he _; rw[hcl] at he; cases he
     ·cases h1
    obtain ⟨x',rfl⟩:=hq
    cases h2
    exact rj h1
   ·cases h
 ·rename_i h1 h2 h3 h4 h5 h6 h8 h9 h10 h7
  refine direct ?_ h
  cases ho:o.op<;>first
   | rfl
   | exact absurd ho (by intro hh; first | exact h2 _ hh | exact h3 _ _ hh | exact h4 _ _ _ hh | exact h5 _ _ _ hh | exact h6 _ hh | exact h7 _ hh | exact h8 _ _ hh | exact h9 _ _ _ _ hh | exact h10 _ _ _ _ hh)
def Fact (cx:Cx) (Bs:aB->Gh->World->Prop) (ops:Array Oper) (s:St) (o:Oper) (x:A):Prop:=
 (o.guard=none/\qj cx Bs s o x)∨∃ t want,b9 ops o=some (t,want)/\((∃ b,look s.fr t=.v (.bool b)/\if b==want then qj cx Bs s o x else x=.v undef)∨((∃ y,look s.fr t=.v (.tuple y))/\x=.v undef))
theorem yF {o:Oper} {next:Act->World->Prop} {Q:Exit->Act->World->Prop} {Rr:Value->World->Prop} (hF:gV F) (hnd:∀ c,o.op≠.defer c) (h:yI F n cx.P o a.eval w Rr) (hn:∀ v w',Rr v w'->next (a.put o.dst v) w'):o.wpIn F n cx.P a w next Q:=by
 refine dV hF hnd ?_
 unfold yI at h
 split at h
 ·rename_i hr; rw[hr]; exact hn _ _ h
 ·rename_i hr; rw[hr]; exact hn _ _ h
 ·rename_i hr
  rw[hr,Oper.uponIn_enter]
  refine⟨fun hd=>(by rw[hF.1] at hd; cases hd),?_⟩
  refine h.mono ?_
  intro e w' he
  cases e with
  | returned c=>exact hn _ _ he
  | panicked _=>exact he.elim
  | outgrown=>exact he.elim
 ·rename_i hr
  rw[hr]
  exact⟨fun hd=>(by rw[hF.1] at hd; cases hd),h.mono hn⟩
 ·rename_i hr
  rw[hr]
  refine⟨fun hd=>(by rw[hF.1] at hd; cases hd),?_⟩
  refine h.mono ?_
  intro e w' he
  cases e with
  | returned c=>exact hn _ _ he
  | panicked _=>exact he.elim
  | outgrown=>exact he.elim
 ·exact h.elim
theorem vS {call:bn} {f:Nat} {o:Oper} {x:A} (h:hX cx call f o s=some x):∀ c,o.op≠.defer c:=fun c hc=>by
 unfold hX at h; rw[hc] at h; exact nk (show bO cx f 0 o s (fun a _=>some a)=some x from h) c hc
theorem fM {call:bn} (hcall:dX cx Bs call) (hb0:Bs H0 gs ws) (horc:jV cx) (hF:gV F) {f:Nat} {ops:Array Oper} {k:E->St->Option R} {r:R} {Q:Exit->Act->World->Prop}
  (hk:∀ s' g' a' w',Good cx N mb lo H0 gs ws w0 s' g' a' w'->k .normal s'=some r->Q .normal a' w')
  (hp:∀ x s' g' a' w' c,Good cx N mb lo H0 gs ws w0 s' g' a' w'->VR s'.H g' w' x c->k (.pan x) s'=some r->Q (.panic [{ v:=c,recovered:=false }]) a' w') :
  ∀ (os:List Oper) (s:St) (g:Gh) (a:Act) (w:World),(∀ o∈os,∀ d,o.dst=some d->d<N)->Good cx N mb lo H0 gs ws w0 s g a w->fL cx call f lo ops os s k=some r->wpListIn F n cx.P ops Q os a w
 | [],s,g,a,w,_,hg,h=>hk s g a w hg h
 | o :: os,s,g,a,w,hd,hg,h=>by
  have hd0:=hd o r9
  have ih:=fun s g a w hg h=>fM (f:=f) (ops:=ops) hcall hb0 horc hF hk hp os s g a w (fun o ho=>hd o (by simp[ho])) hg h
  have one:sd cx call f lo o s (fun s=>fL cx call f lo ops os s k) (fun a s=>k (.pan a) s)=some r->o.wpIn F n cx.P a w (wpListIn F n cx.P ops Q os) Q:=fun h=>
   zA hcall horc hF hb0 hg hd0 h (fun s' g' a' w' hg' h'=>ih s' g' a' w' hg' h') (fun x s' g' w' c hg' hv h'=>hp x s' g' a w' c hg' hv h')
  have val:∀ {x:A},hX cx call f o s=some x->fL cx call f lo ops os (s.put o.dst x) k=some r->o.wpIn F n cx.P a w (wpListIn F n cx.P ops Q os) Q:=fun {x} hx h=>
   yF hF (vS hx) (nm hcall horc hx F n g w0 w a.eval hF (hg.sr.UZ o.op) hg.sr.gl (hcall.up _ _ _ _ _ _ hb0 hg.ext)) fun v w' hv=>
    ih _ _ _ _ (hg.step (H':=s.H) hv.2.1 hv.2.2 (Yk _) (fun _ _ _=>rfl) rfl hv.1 hd0) h
  have skip:fL cx call f lo ops os (s.put o.dst (.v undef)) k=some r->(∀ f,o.about cx.P w a.eval=some f->F.fn f)/\wpListIn F n cx.P ops Q os (a.put o.dst undef) w:=fun h=>
   ⟨fun f _=>hF.2.1 f,ih _ _ _ _ (hg.same y7 hd0) h⟩
  unfold fL at h
  unfold wpListIn
  split at h
  ·rename_i hgd
   rw[Yq (by simp[Region.wanted,hgd])]
   exact one h
  ·rename_i x hgd
   split at h
   ·cases h
   ·rename_i t want hgs
    have hv:=hg.sr.fr t
    rw[bF] at h
    split at h
    ·obtain ⟨x,h0,h⟩:=bD h
     rcases ny h0 with ⟨b,hb,h0⟩ | ⟨y,hb,h0⟩
     ·rw[hb,VR] at hv
      rw[ke hgs hv]
      split at h0
      ·rename_i hbw
       rw[Yq hbw]
       exact val h0 h
      ·rename_i hbw
       rw[Yp hbw]
       cases h0
       exact skip h
     ·rw[hb,VR] at hv
      rw[mq hgs hv]
      cases h0
      rw[Yp r9]
      exact skip h
    ·rcases ny h with ⟨b,hb,h⟩ | ⟨y,hb,h⟩
     ·rw[hb,VR] at hv
      rw[ke hgs hv]
      split at h
      ·rename_i hbw
       rw[Yq hbw]
       exact one h
      ·rename_i hbw
       rw[Yp hbw]
       exact skip h
     ·rw[hb,VR] at hv
      rw[mq hgs hv,Yp r9]
      exact skip h
theorem yb (s:St) (dst:Option Nat) (x:A) (u:Nat) (h:dst≠some u):look (s.put dst x).fr u=look s.fr u:=by
 cases dst with
 | none=>rfl
 | some d=>
  show look ((d,x) :: s.fr) u=_
  rw[ez,Yp (fun e=>h (by rw[e]))]
theorem B7 (s:St) (d:Nat) (x:A):look (s.put (some d) x).fr d=x:=by
 show look ((d,x) :: s.fr) d=_
 rw[ez,Yq rfl]
theorem sm {call:bn} (hcall:dX cx Bs call) (horc:jV cx) {f:Nat} {ops:Array Oper} {k:St->Option R} {r:R}:∀ (os:List Oper) (s:St),jH cx call f ops os s k=some r ->
  ∃ z,k z=some r/\z.H=s.H/\(∀ t,(∀ o∈os,o.dst≠some t)->look z.fr t=look s.fr t) ∧
   ∀ (i:Nat) o,os[i]? = some o->∃ si x,si.H=s.H/\(∀ t,(∀ (j:Nat) o',j<i->os[j]? = some o'->o'.dst≠some t)->look si.fr t=look s.fr t)/\(∀ t,(∀ (j:Nat) o',i<=j->os[j]? = some o'->o'.dst≠some t)->look si.fr t=look z.fr t) ∧
    (∀ t,o.dst=some t->(∀ (j:Nat) o',i<j->os[j]? = some o'->o'.dst≠some t)->look z.fr t=x)/\Fact cx Bs ops si o x
 | [],s,h=>⟨s,h,rfl,fun _ _=>rfl,fun i o h=>by simp at h⟩
 | o :: os,s,h=>by
  have fin:∀ (s':St) (x:A),s'.H=s.H->(∀ u,look s'.fr u=look s.fr u)->Fact cx Bs ops s' o x->jH cx call f ops os (s'.put o.dst x) k=some r ->
    ∃ z,k z=some r/\z.H=s.H/\(∀ t,(∀ o'∈o :: os,o'.dst≠some t)->look z.fr t=look s.fr t) ∧
     ∀ (i:Nat) o1,(o :: os)[i]? = some o1->∃ si x,si.H=s.H/\(∀ t,(∀ (j:Nat) o',j<i->(o :: os)[j]? = some o'->o'.dst≠some t)->look si.fr t=look s.fr t)/\(∀ t,(∀ (j:Nat) o',i<=j->(o :: os)[j]? = some o'->o'.dst≠some t)->look si.fr t=look z.fr t) ∧
      (∀ t,o1.dst=some t->(∀ (j:Nat) o',i<j->(o :: os)[j]? = some o'->o'.dst≠some t)->look z.fr t=x)/\Fact cx Bs ops si o1 x:=by
   intro s' x hH hl hf h
   obtain ⟨z,h1,h2,h3,h4⟩:=sm hcall horc os (s'.put o.dst x) h
   have hpH:(s'.put o.dst x).H=s.H:=by rw[<-hH]; cases o.dst<;>rfl
   have hz:∀ t,(∀ o'∈o :: os,o'.dst≠some t)->look z.fr t=look s.fr t:=fun t ht=>by
    rw[h3 t (fun o' ho'=>ht o' (by simp[ho'])),yb _ _ _ _ (ht o r9),hl]
   refine⟨z,h1,h2.trans hpH,hz,fun i o1 ho1=>?_⟩
   cases i with
   | zero=>
    simp at ho1
    subst ho1
    refine⟨s',x,hH,fun t _=>hl t,fun t ht=>?_,fun t hd ht=>?_,hf⟩
    ·have hall:∀ o'∈o :: os,o'.dst≠some t:=fun o' ho'=>by
      obtain ⟨j,hj,rfl⟩:=Zf ho'
      exact ht j _ (Yx _) (Yg hj)
     rw[hz t hall,hl]
    ·rw[h3 t (fun o' ho'=>by
      obtain ⟨j,hj,rfl⟩:=Zf ho'
      exact ht (j+1) _ r7 r9),hd,B7]
   | succ i=>
    obtain ⟨si,x1,g1,g2,g3,g4,g5⟩:=h4 i o1 (by simpa using ho1)
    refine⟨si,x1,g1.trans hpH,fun t ht=>?_,fun t ht=>?_,fun t hd ht=>?_,g5⟩
    ·rw[g2 t (fun j o' hj ho'=>ht (j+1) o' r7 (by simpa using ho')),yb _ _ _ _ (ht 0 o r7 rfl),hl]
    ·exact g3 t (fun j o' hj ho'=>ht (j+1) o' r7 (by simpa using ho'))
    ·exact g4 t hd (fun j o' hj ho'=>ht (j+1) o' r7 (by simpa using ho'))
  unfold jH at h
  split at h
  ·rename_i hgd
   obtain ⟨x,h1,h2⟩:=bD h
   exact fin s x rfl (fun _=>rfl) (.inl ⟨hgd,nm hcall horc h1⟩) h2
  ·rename_i q hgd
   split at h
   ·cases h
   ·rename_i t want hgs
    obtain ⟨x,h1,h2⟩:=bD h
    refine fin s x rfl (fun _=>rfl) (.inr ⟨t,want,hgs,?_⟩) h2
    rcases ny h1 with ⟨b,hb,h1⟩ | ⟨y,hb,h1⟩
    ·refine .inl ⟨b,hb,?_⟩
     split at h1
     ·rename_i hbw; rw[Yq hbw]; exact nm hcall horc h1
     ·rename_i hbw; rw[Yp hbw]; cases h1; rfl
    ·cases h1; exact .inr ⟨⟨y,hb⟩,rfl⟩
theorem nR {ops:Array Oper} {N:Nat} (jm:tU ops N=true) {i j:Nat} (h:n8 ops i j):j<i:=by
 have lt:∀ {i o e},ops[i]? = some o->e∈o.after->Region.binds .any e=true->e.on<i:=fun {i o e} ho he hb=>by
  have hi:i<ops.size:=(Yo.1 ho).1
  have h:=Yw.1 jm i (YR.2 hi)
  simp only[ho,Yj] at h
  have:=qal.1 h.1.1.1.2 e he
  rw[hb] at this; simpa using this
 induction h with
 | edge ho he hb=>exact lt ho he hb
 | thru ho he hb _ ih=>exact Nat.lt_trans ih (lt ho he hb)
theorem mC {ops:Array Oper} {N:Nat} (jm:tU ops N=true) {i:Nat} {o:Oper} (ho:ops[i]? = some o):(∀ j d,i≠j->o.dst=some d->cA ops j≠some d)/\(∀ j t,cA ops j=some t->t∈o.looksAt ops->i=j∨fG ops i j=true∨fG ops j i=true):=by
 have hi:i<ops.size:=(Yo.1 ho).1
 have h:=Yw.1 jm i (YR.2 hi)
 simp only[ho,Yj] at h
 obtain ⟨⟨⟨⟨⟨_,_⟩,_⟩,h4⟩,h5⟩,_⟩:=h
 have lt:∀ {j t},cA ops j=some t->j<ops.size:=fun {j t} hj=>by
  unfold cA at hj
  cases hx:ops[j]? with
  | none=>rw[hx] at hj; cases hj
  | some _=>exact(Yo.1 hx).1
 refine⟨fun j d hij hd hj=>?_,fun j t hj ht=>?_⟩
 ·have:=Yw.1 h4 j (YR.2 (lt hj))
  rw[hd,hj] at this
  simp at this
  exact hij this
 ·have:=Yw.1 h5 j (YR.2 (lt hj))
  rw[hj] at this
  simp[ht] at this
  rcases this with (h | h) | h
  ·exact .inl h
  ·exact .inr (.inl h)
  ·exact .inr (.inr h)
theorem vO {call:bn} (hcall:dX cx Bs call) (hb0:Bs H0 gs ws) (horc:jV cx) (hF:gV F) (hmx:cx.P.follows .mixedOrders=true) {f m:Nat} {ops:Array Oper} {k:E->St->Option R} {r:R} {Q:Exit->Act->World->Prop} (jm:tU ops N=true) (chkt:fA ops m=true)
  (hg:Good cx N mb lo H0 gs ws w0 s g a w) (hd:∀ o∈ops.toList,∀ d,o.dst=some d->d<N)
  (h:jH cx call f ops (ops.toList.take m) s (fun s=>fL cx call f lo ops (ops.toList.drop m) s k)=some r)
  (hk:∀ s' g' a' w',Good cx N mb lo H0 gs ws w0 s' g' a' w'->k .normal s'=some r->Q .normal a' w')
  (hp:∀ x s' g' a' w' c,Good cx N mb lo H0 gs ws w0 s' g' a' w'->VR s'.H g' w' x c->k (.pan x) s'=some r->Q (.panic [{ v:=c,recovered:=false }]) a' w'):LW F n cx.P ops Q a w:=by
 obtain ⟨z,hz,hzH,hzk,hfacts⟩:=sm hcall horc _ s h
 have hr:=hg.sr.rel
 have hget:∀ {i o},i<m->ops[i]? = some o->(ops.toList.take m)[i]? = some o:=fun {i o} him ho=>by
  rw[YN,Yq him,YV]; exact ho
 have hget':∀ {i o},(ops.toList.take m)[i]? = some o->i<m/\ops[i]? = some o:=fun {i o} ho=>by
  rw[YN] at ho
  split at ho
  ·rename_i him; exact⟨him,by rwa [YV] at ho⟩
  ·cases ho
 have hdst:∀ {i o},ops[i]? = some o->cA ops i=o.dst:=fun {i o} ho=>by unfold cA; rw[ho]; rfl
 refine Ca (F:=F) ⟨hF.1,hF.2.1⟩ hmx N m hg.siz jm chkt (fun W=>Rel s.H g w0 W/\Ext s.H g w s.H g W) (fun W W'=>Ext s.H g W s.H g W') (fun i v W=>∀ t,cA ops i=some t->VR s.H g W (look z.fr t) v)
  (fun i v W W' hv he t ht=>VR.ext he _ _ (hv t ht)) ⟨hr.eQ (Below.refl _ _).drew,Ext.below hr (Below.refl _ _).drew⟩ ?_ ?_
 ·rintro i o him ho a' W ⟨hrW,heW⟩ h1 h2 hsz
  obtain ⟨si,x,g1,g2,g3,g4,g5⟩:=hfacts i o (hget him ho)
  obtain ⟨c4,c5⟩:=mC jm ho
  have hlook:∀ t∈o.looksAt ops,VR s.H g W (look si.fr t) (a'.tmps.getD t undef):=fun t ht=>by
   by_cases hj:∃ j,cA ops j=some t/\fG ops i j=true
   ·obtain ⟨j,hjt,hjb⟩:=hj
    have hji:=nR jm (fW i j hjb)
    have hv:=h1 t ht j hjt hjb t hjt
    rw[g3 t (fun j' o' hij' ho' hd'=>by
     obtain ⟨_,ho''⟩:=hget' ho'
     obtain ⟨c4',_⟩:=mC jm ho''
     exact c4' j t r7 hd' hjt)]
    exact hv
   ·have hno:∀ j,cA ops j=some t->fG ops i j=false:=fun j hjt=>by
     cases hb:fG ops i j with
     | false=>rfl
     | true=>exact absurd ⟨j,hjt,hb⟩ hj
    have hs:=h2 t ht hno
    unfold slot at hs
    rw[hs,g2 t (fun j o' hji ho' hd'=>by
     obtain ⟨hjm,ho''⟩:=hget' ho'
     have hjt:cA ops j=some t:=(hdst ho'').trans hd'
     rcases c5 j t hjt ht with h | h | h
     ·omega
     ·rw[hno j hjt] at h; cases h
     ·have:=nR jm (fW j i h); omega)]
    exact VR.ext heW _ _ (hg.sr.fr t)
  have hopr:tF cx si g w0 o.op a'.eval W:=⟨by rw[g1]; exact hrW,fun y hy=>pf (fun t ht=>by
    rw[g1]
    refine hlook t ?_
    subst ht
    unfold Oper.looksAt
    exact Zz.2 (.inl (qbg.2 ⟨.tmp t,hy,rfl⟩))) (fun G vs hG=>by rw[g1]; exact(hg.sr.gl G vs hG).ext heW),fun _=>rfl⟩
  have hx:∀ t,cA ops i=some t->look z.fr t=x:=fun t ht=>g4 t ((hdst ho).symm.trans ht) (fun j o' hij ho' hd'=>by
   obtain ⟨_,ho''⟩:=hget' ho'
   exact c4 j t r7 ((hdst ho).symm.trans ht) ((hdst ho'').trans hd'))
  have run:qj cx Bs si o x->yI F n cx.P o a'.eval W (fun v w'=>(∀ t,cA ops i=some t->VR s.H g w' (look z.fr t) v)/\(Rel s.H g w0 w'/\Ext s.H g w s.H g w')/\Ext s.H g W s.H g w'):=fun hpo=>by
   refine(hpo F n g w0 W a'.eval hF hopr (fun G vs hG=>by rw[g1]; exact(hg.sr.gl G vs hG).ext heW) (by rw[g1]; exact hcall.up _ _ _ _ _ _ hb0 (hg.ext.trans heW))).mono ?_
   rintro v w' ⟨k1,k2,k3⟩
   rw[g1] at k1 k2 k3
   exact⟨fun t ht=>by rw[hx t ht]; exact k1,⟨k2,heW.trans k3⟩,k3⟩
  rcases g5 with ⟨hgd,hpo⟩ | ⟨t,want,hgs,hor⟩
  ·rw[Yq (by simp[Region.wanted,hgd])]
   exact run hpo
  ·have htl:t∈o.looksAt ops:=by
    rw[jL] at hgs
    unfold Oper.looksAt
    split at hgs
    ·rename_i j want' hgd
     cases hdj:(ops[j]?).bind (·.dst) with
     | none=>rw[hdj] at hgs; cases hgs
     | some t'=>
      rw[hdj] at hgs
      cases hgs
      refine Zz.2 (.inr ?_)
      rw[hgd]
      simp[hdj]
    ·cases hgs
   have hv:=hlook t htl
   have sk:x=.v undef->(∀ t',cA ops i=some t'->VR s.H g W (look z.fr t') undef)/\(Rel s.H g w0 W/\Ext s.H g w s.H g W)/\Ext s.H g W s.H g W:=fun hcond=>
    ⟨fun t' ht'=>by rw[hx t' ht',hcond,VR],⟨hrW,heW⟩,Ext.refl hrW⟩
   rcases hor with ⟨b,hlb,hcond⟩ | ⟨⟨y,hlb⟩,hcond⟩
   ·rw[hlb,VR] at hv
    rw[ke hgs hv]
    split at hcond
    ·rename_i hbw
     rw[Yq hbw]
     exact run hcond
    ·rename_i hbw
     rw[Yp hbw]
     exact sk hcond
   ·rw[hlb,VR] at hv
    rw[mq hgs hv,Yp r9]
    exact sk hcond
 ·rintro a' W ⟨hrW,heW⟩ hdf hsz hv hno _
  refine fM (f:=f) (ops:=ops) hcall hb0 horc hF hk hp _ z g a' W (fun o ho=>hd o (Y0 ho)) ⟨⟨by rw[hzH]; exact hrW,fun t=>?_,fun G vs hG=>by rw[hzH]; exact(hg.sr.gl G vs hG).ext heW⟩,by rw[hzH]; exact hg.ext.trans heW,by rw[hzH]; exact hg.len,by rw[hzH]; exact hg.low,hsz,(by rw[hdf]; exact hg.dfr.my heW.kept),YG hg.mbw heW.size,hg.st⟩ hz
  rw[hzH]
  by_cases ht:∃ i,i<m/\cA ops i=some t
  ·obtain ⟨i,him,hit⟩:=ht
   exact hv i t him hit t hit
  ·have hs:=hno t (fun i him hit=>ht ⟨i,him,hit⟩)
   unfold slot at hs
   rw[hs,hzk t (fun o ho hd'=>by
    obtain ⟨i,hi,rfl⟩:=Zf ho
    obtain ⟨him,ho'⟩:=hget' (Yg hi)
    exact ht ⟨i,him,(hdst ho').trans hd'⟩)]
   exact VR.ext heW _ _ (hg.sr.fr t)
end
section
variable {cx:Cx} {call:bn} {f:Nat} {ops:Array Oper}
def mU (cx:Cx) (call:bn) (f:Nat) (ops:Array Oper) (o:Oper) (s:St):Option A:=match o.guard with
 | none=>hX cx call f o s
 | some _=>match b9 ops o with
  | none=>none
  | some (g,w)=>pY (look s.fr g) w (hX cx call f o s) (some (.v undef))
theorem rz {β:Type} {o:Oper} {s:St} (k:A->Option β):sv cx call f o s k=(hX cx call f o s).bind k:=by
 have one:(bO cx f 0 o s fun a _=>k a)=(bO cx f 0 o s fun a _=>some a).bind k:=by
  rw[iM,iM (k:=fun a _=>some a),YU]; rfl
 unfold sv hX
 split
 ·rfl
 ·rfl
 ·rfl
 ·rfl
 ·rfl
 ·rfl
 ·rfl
 ·rfl
 ·rfl
 ·rw[bF,bF]
  split
  ·rw[vH,vH]; simp only[YU,Yf]
  ·split
   ·exact one
   ·rfl
 ·exact one
theorem tA {β:Type} {r:β}:∀ (ds:List Nat) (l:List A) (k:List (Nat×A)->Option β),HS ds l k=some r->∃ fr l',fr.map (·.1)=ds/\l=fr.map (·.2)++l'/\k fr=some r
 | [],l,k,h=>⟨[],l,rfl,rfl,h⟩
 | d :: ds,[],k,h=>by cases h
 | d :: ds,a :: l,k,h=>by
  obtain ⟨fr,l',h1,h2,h3⟩:=tA ds l _ h
  exact⟨(d,a) :: fr,l',by simp[h1],by simp[h2],h3⟩
theorem zE:∀ {a b:List (Nat×A)} {l':List A},a.map (·.1)=b.map (·.1)->a.map (·.2)=b.map (·.2)++l'->a=b
 | [],[],_,_,_=>rfl
 | [],_ :: _,_,h,_=>by simp at h
 | _ :: _,[],_,h,_=>by simp at h
 | (x,y) :: a,(z,t) :: b,l',h,k=>by
  simp only[Zc,Y8,Y5] at h k
  obtain ⟨rfl,h⟩:=h
  obtain ⟨rfl,k⟩:=k
  rw[zE h k]
theorem sY (dl:List (Nat×A)) (s:St) (o:Oper) (x:A):(eF dl s).put o.dst x=eF (zu o.dst x dl) s:=by
 cases o.dst<;>rfl
theorem E7 (s:St):eF [] s=s:=rfl
theorem uQ (a b:List (Nat×A)) (s:St):eF a (eF b s)=eF (a++b) s:=by simp[eF]
theorem nX {t:Nat}:∀ {dl:List (Nat×A)} {s:St},jE t (dl.map (·.1))=false->look (eF dl s).fr t=look s.fr t
 | [],s,_=>rfl
 | (d,x) :: dl,s,h=>by
  simp only[Zc,jE,bF] at h
  split at h
  ·cases h
  ·rename_i hd
   show look ((d,x) :: (dl++s.fr)) t=_
   rw[ez,Yp (fun e=>hd (by simp[e]))]
   exact nX (dl:=dl) (s:=s) h
theorem jt (t:Nat):∀ (a b:List Nat),jE t (a++b)=(jE t a || jE t b)
 | [],b=>rfl
 | x :: a,b=>by
  simp only[Y5,jE,bF]
  split
  ·rfl
  ·exact jt t a b
def uh (ops:Array Oper) (g:Nat) (w:Bool):List Nat->List Oper->Prop
 | _,[]=>True
 | ds,o :: os=>sJ ops g w ds o=true/\uh ops g w (kH o++ds) os
theorem eT (g:Nat) (w:Bool):∀ (os:List Oper) (ds:List Nat),os=(b6 ops g w ds os).1++(b6 ops g w ds os).2/\uh ops g w ds (b6 ops g w ds os).1
 | [],ds=>⟨rfl,trivial⟩
 | o :: os,ds=>by
  unfold b6
  rw[bF]
  split
  ·rename_i h
   obtain ⟨h1,h2⟩:=eT g w os (kH o++ds)
   exact⟨by rw[Y5,<-h1],h,h2⟩
  ·exact⟨rfl,trivial⟩
theorem sK {g:Nat} {w:Bool} {ds:List Nat} {o:Oper} (h:sJ ops g w ds o=true):o.guard≠none/\jE g (kH o)=false/\∃ t w',b9 ops o=some (t,w')/\((t=g/\w'=w)∨jE t ds=true):=by
 unfold sJ at h
 split at h
 ·cases h
 ·rename_i q hq
  split at h
  ·cases h
  ·rename_i t w' hgs
   rw[bF] at h
   split at h
   ·cases h
   ·rename_i hm
    refine⟨by rw[hq]; simp,by simpa using hm,t,w',hgs,?_⟩
    rw[bF] at h
    split at h
    ·rename_i hb
     refine .inl ⟨Yy hb,?_⟩
     cases w<;>cases w'<;>simp at h<;>rfl
    ·exact .inr h
theorem uh.out {g:Nat} {w:Bool}:∀ {ds:List Nat} {os:List Oper},uh ops g w ds os->(∀ o∈os,jE g (kH o)=false/\o.guard≠none)/\jE g (iD os)=false
 | _,[],_=>⟨fun o ho=>(by cases ho),rfl⟩
 | ds,o :: os,h=>by
  obtain ⟨h1,h2⟩:=sK h.1
  obtain ⟨h3,h4⟩:=uh.out h.2
  refine⟨fun o' ho'=>?_,?_⟩
  ·rcases Y1.1 ho' with rfl | ho'
   ·exact⟨h2.1,h1⟩
   ·exact h3 o' ho'
  ·rw[iD,jt,h4,h2.1]; rfl
variable {X:Type} {E:List Oper->St->Option X} {Q:Oper->Prop}
theorem Bl (hE:∀ o os s,Q o->E (o :: os) s=(mU cx call f ops o s).bind fun x=>E os (s.put o.dst x)) {g:Nat} {w:Bool} (rest:List Oper):∀ (os:List Oper) (ds:List Nat) (dl:List (Nat×A)) (s:St),uh ops g w ds os->(∀ o∈os,Q o)->(look (eF dl s).fr g=.v (.bool (!w))∨∃ y,look (eF dl s).fr g=.v (.tuple y)) ->
  (∀ t,jE t ds=true->look (eF dl s).fr t=.v undef)->E (os++rest) (eF dl s)=E rest (eF (qP (iD os)++dl) s)
 | [],ds,dl,s,_,_,_,_=>rfl
 | o :: os,ds,dl,s,hr,hq,hg,hd=>by
  obtain ⟨hgd,hm,t,w',hgs,hor⟩:=sK hr.1
  have hv:mU cx call f ops o (eF dl s)=some (.v undef):=by
   unfold mU
   cases hgu:o.guard with
   | none=>exact absurd hgu hgd
   | some q=>
    rw[hgs]
    rcases hor with ⟨rfl,rfl⟩ | hmem
    ·rcases hg with hg | ⟨y,hg⟩
     ·simp only[hg,pY]; cases w'<;>rfl
     ·simp only[hg,pY]
    ·simp only[hd t hmem,undef,pY]
  rw[Y5,hE o _ _ (hq o r9),hv,Yf,sY]
  have hlk:∀ t,look (eF (zu o.dst (.v undef) dl) s).fr t=if jE t (kH o)=true then .v undef else look (eF dl s).fr t:=fun t=>by
   cases hdo:o.dst with
   | none=>simp[kH,hdo,jE,zu]
   | some d=>
    show look ((d,.v undef) :: (dl++s.fr)) t=_
    rw[ez]
    simp only[kH,hdo,jE,bF]
    by_cases e:d=t
    ·subst e; simp
    ·rw[Yp e]
     rw[Yp (by simp[e])]
     rfl
  rw[Bl hE rest os (kH o++ds) _ s hr.2 (fun o' ho'=>hq o' (by simp[ho'])) (by rw[hlk,Yp (by simp[hm])]; exact hg) (fun t ht=>?_)]
  ·congr 2
   cases hdo:o.dst with
   | none=>simp[iD,kH,hdo,zu]
   | some d=>simp[iD,kH,hdo,qP,zu]
  ·rw[hlk]
   split
   ·rfl
   ·rename_i hn
    rw[jt] at ht
    exact hd t (by simpa [hn] using ht)
theorem nh:∀ (a b:List Oper),iD (a++b)=iD b++iD a
 | [],b=>by simp[iD]
 | o :: a,b=>by simp[iD,nh a b]
theorem vM {asm:Option (Nat×Bool)} {g d:Nat} {a b:Operand} {os:List Oper} (h:vK ops asm g os=some (d,a,b)):∃ o os',os=o :: os'/\sZ ops asm o=true/\o.op=.pick (.tmp g) a b/\o.dst=some d:=by
 unfold vK at h
 split at h
 ·rename_i o os'
  rw[bF] at h
  split at h
  ·rename_i hp
   split at h
   ·rename_i t x y d' ho hd
    rw[bF] at h
    split at h
    ·rename_i ht
     cases h
     exact⟨o,os',rfl,hp,by rw[ho,Yy ht],hd⟩
    ·cases h
   ·cases h
  ·cases h
 ·cases h
theorem ta {asm:Option (Nat×Bool)} {o:Oper} {s:St} (h:sZ ops asm o=true) (ha:∀ g w,asm=some (g,w)->look s.fr g=.v (.bool w)):mU cx call f ops o s=hX cx call f o s:=by
 unfold sZ at h
 unfold mU
 split at h
 ·rename_i hg; rw[hg]
 ·rename_i q hq
  split at h
  ·rename_i g w t w' hgs
   rw[bF] at h
   split at h
   ·rename_i ht
    have:=Yy ht
    subst this
    rw[hq,hgs]
    simp only[ha t w rfl,pY]
    cases w<;>cases w'<;>first | rfl | (simp at h)
   ·cases h
  ·cases h
theorem sH (hE:∀ o os s,Q o->E (o :: os) s=(mU cx call f ops o s).bind fun x=>E os (s.put o.dst x)) (hpick:∀ o c a b,o.op=.pick c a b->Q o) {β:Type} {r:β} {asm:Option (Nat×Bool)} {g:Nat} {w:Bool} {os:List Oper} {s:St} {vals:Option (Nat×Operand)->List Oper->Option (List A)} {k:List Oper->List (Nat×A)->Option β}
  (hq:∀ o∈(b6 ops g w [] os).1,Q o) (ha:∀ g w,asm=some (g,w)->look s.fr g=.v (.bool w)/\∀ o∈os,jE g (kH o)=false)
  (hv:look s.fr g=.v (.bool w)->∀ fin l,vals fin (b6 ops g w [] os).1=some l->∃ dl,l=(xB cx fin dl s).map (·.2)/\dl.map (·.1)=iD (b6 ops g w [] os).1/\∀ rest,E ((b6 ops g w [] os).1++rest) s=E rest (eF dl s))
  (h:M4 ops asm g w os s vals (PM cx s) k=some r):∃ pre rest fr,os=pre++rest/\k rest fr=some r/\fr.map (·.1)=iD pre/\∀ rest',E (pre++rest') s=E rest' (eF fr s):=by
 obtain ⟨hsp,hrun⟩:=eT (ops:=ops) g w os []
 obtain ⟨hro,hgn⟩:=hrun.out
 have hskip:(look s.fr g=.v (.bool (!w))∨∃ y,look s.fr g=.v (.tuple y))->∀ rest,E ((b6 ops g w [] os).1++rest) s=E rest (eF (qP (iD (b6 ops g w [] os).1)) s):=fun hg rest=>by
  have:=Bl hE rest _ [] [] s hrun hq hg (fun t ht=>by cases ht)
  simpa [E7] using this
 have hmu:∀ ds:List Nat,(qP ds).map (·.1)=ds:=fun ds=>by simp[qP,Function.comp_def]
 unfold M4 at h
 split at h
 ·rename_i d a b hep
  obtain ⟨o,os',hrest,hpl,hop,hdst⟩:=vM hep
  obtain ⟨l,hl,h⟩:=bD h
  obtain ⟨fr,l',e1,e2,e3⟩:=tA _ _ _ h
  obtain ⟨bb,hb,hl⟩:=pG hl
  rw[hrest,List.tail_cons] at e3
  have fin:∀ (dl:List (Nat×A)) (x:Operand),l=(xB cx (some (d,x)) dl s).map (·.2)->dl.map (·.1)=iD (b6 ops g w [] os).1->(∀ rest,E ((b6 ops g w [] os).1++rest) s=E rest (eF dl s))->x=(if bb then a else b) ->
    ∃ pre rest fr,os=pre++rest/\k rest fr=some r/\fr.map (·.1)=iD pre/\∀ rest',E (pre++rest') s=E rest' (eF fr s):=by
   intro dl x h1 h2 h3 h4
   have hfr:xB cx (some (d,x)) dl s=fr:=zE (l':=l') (by rw[e1]; simp[xB,h2]) (by rw[<-h1,e2])
   refine⟨(b6 ops g w [] os).1++[o],os',fr,?_,e3,?_,?_⟩
   ·rw[Za,ZS,<-hrest]; exact hsp
   ·rw[e1,nh]; simp[iD,kH,hdst]
   ·intro rest'
    rw[Za,ZS,h3,hE o _ _ (hpick o _ _ _ hop)]
    have hgl:look (eF dl s).fr g=.v (.bool bb):=by rw[nX (by rw[h2]; exact hgn),hb]
    have hval:mU cx call f ops o (eF dl s)=hX cx call f o (eF dl s):=ta hpl fun g' w' hga=>by
     obtain ⟨ha1,ha2⟩:=ha g' w' hga
     rw[nX ?_,ha1]
     rw[h2]
     have:∀ (l:List Oper),(∀ o∈l,jE g' (kH o)=false)->jE g' (iD l)=false:=by
      intro l
      induction l with
      | nil=>intro _; rfl
      | cons o' l ih=>intro hh; rw[iD,jt,ih (fun o'' ho''=>hh o'' (by simp[ho''])),hh o' r9]; rfl
     exact this _ fun o' ho'=>ha2 o' (by rw[hsp]; simp[ho'])
    rw[hval]
    have:hX cx call f o (eF dl s)=some (cd cx (eF dl s) x):=by
     unfold hX
     rw[hop]
     show cu (cd cx (eF dl s) (.tmp g)) _ _=_
     rw[show cd cx (eF dl s) (.tmp g)=.v (.bool bb) from hgl]
     subst h4
     cases bb<;>rfl
    rw[this,Yf,sY,hdst]
    show E rest' (eF ((d,cd cx (eF dl s) x) :: dl) s)=_
    rw[<-hfr]; rfl
  cases bb with
  | true=>
   rw[Yq rfl] at hl
   cases w with
   | true=>
    obtain ⟨dl,h1,h2,h3⟩:=hv hb _ _ hl
    exact fin dl a h1 h2 h3 rfl
   | false=>
    cases hl
    exact fin _ a rfl (hmu _) (hskip (.inl hb)) rfl
  | false=>
   rw[Yp r9] at hl
   cases w with
   | true=>
    cases hl
    exact fin _ b rfl (hmu _) (hskip (.inl hb)) rfl
   | false=>
    obtain ⟨dl,h1,h2,h3⟩:=hv hb _ _ hl
    exact fin dl b h1 h2 h3 rfl
 ·obtain ⟨l,hl,h⟩:=bD h
  obtain ⟨fr,l',e1,e2,e3⟩:=tA _ _ _ h
  have fin:∀ (dl:List (Nat×A)),l=(xB cx none dl s).map (·.2)->dl.map (·.1)=iD (b6 ops g w [] os).1->(∀ rest,E ((b6 ops g w [] os).1++rest) s=E rest (eF dl s)) ->
    ∃ pre rest fr,os=pre++rest/\k rest fr=some r/\fr.map (·.1)=iD pre/\∀ rest',E (pre++rest') s=E rest' (eF fr s):=by
   intro dl h1 h2 h3
   have hfr:dl=fr:=zE (l':=l') (by rw[e1,h2]) (by rw[<-e2,h1]; rfl)
   subst hfr
   exact⟨_,_,dl,hsp,e3,h2,h3⟩
  rcases ny hl with ⟨bb,hb,hl⟩ | ⟨y,hb,hl⟩
  ·split at hl
   ·rename_i hbw
    have hbw:bb=w:=by simpa using hbw
    subst hbw
    obtain ⟨dl,h1,h2,h3⟩:=hv hb _ _ hl
    exact fin dl h1 h2 h3
   ·rename_i hbw
    have hbw:bb = !w:=by cases bb<;>cases w<;>simp at hbw ⊢
    subst hbw
    cases hl
    exact fin _ rfl (hmu _) (hskip (.inl hb))
  ·cases hl
   exact fin _ rfl (hmu _) (hskip (.inr ⟨y,hb⟩))
theorem jo (hE:∀ o os s,Q o->E (o :: os) s=(mU cx call f ops o s).bind fun x=>E os (s.put o.dst x)) (hpick:∀ o c a b,o.op=.pick c a b->Q o):∀ (q:Nat) (asm:Option (Nat×Bool)) (fin:Option (Nat×Operand)) (os:List Oper) (dl:List (Nat×A)) (s:St) (l:List A),oN cx call f ops q asm fin os dl s=some l->(∀ o∈os,Q o) ->
  (∀ g w,asm=some (g,w)->look (eF dl s).fr g=.v (.bool w)/\∀ o∈os,jE g (kH o)=false) ->
  ∃ dl',l=(xB cx fin dl' s).map (·.2)/\dl'.map (·.1)=iD os++dl.map (·.1)/\∀ rest,E (os++rest) (eF dl s)=E rest (eF dl' s)
 | 0,_,_,_,_,_,_,h,_,_=>by cases h
 | q+1,asm,fin,[],dl,s,l,h,_,_=>by cases h; exact⟨dl,rfl,rfl,fun _=>rfl⟩
 | q+1,asm,fin,o :: os,dl,s,l,h,hq,ha=>by
  unfold oN at h
  rw[bF] at h
  split at h
  ·rename_i hpl
   rw[rz] at h
   obtain ⟨x,hx,h⟩:=bD h
   obtain ⟨dl',h1,h2,h3⟩:=jo hE hpick q asm fin os _ s l h (fun o' ho'=>hq o' (by simp[ho'])) (fun g w hg=>by
    obtain ⟨k1,k2⟩:=ha g w hg
    refine⟨?_,fun o' ho'=>k2 o' (by simp[ho'])⟩
    have hm:=k2 o r9
    cases hd:o.dst with
    | none=>exact k1
    | some d=>
     simp only[kH,hd] at hm
     show look ((d,x) :: (dl++s.fr)) g=_
     rw[ez,Yp (fun e=>by simp[jE,e] at hm)]
     exact k1)
   refine⟨dl',h1,?_,fun rest=>?_⟩
   ·rw[h2]
    cases hd:o.dst<;>simp[iD,kH,hd,zu]
   ·rw[Y5,hE o _ _ (hq o r9),ta hpl (fun g w hg=>(ha g w hg).1),hx,Yf,sY,h3]
  ·split at h
   ·cases h
   ·rename_i t w hgs
    obtain ⟨_,h⟩:=bu h
    obtain ⟨pre,rest,fr,h1,h2,h3,h4⟩:=sH (E:=fun os' s'=>E os' s') hE hpick (fun o' ho'=>hq o' (by
     rw[(eT (ops:=ops) t w (o :: os) []).1]; simp[ho'])) ha (fun hlk fin' l' hl'=>by
     obtain ⟨dl2,k1,k2,k3⟩:=jo hE hpick q (some (t,w)) fin' _ [] (eF dl s) l' hl' (fun o' ho'=>hq o' (by
      rw[(eT (ops:=ops) t w (o :: os) []).1]; simp[ho'])) (fun g' w' hg'=>by
      cases hg'
      exact⟨hlk,fun o' ho'=>((eT (ops:=ops) t w (o :: os) []).2.out.1 o' ho').1⟩)
     exact⟨dl2,k1,by simpa using k2,k3⟩) h
    rw[h1] at hq ha ⊢
    have hnm:∀ g,(∀ o∈pre,jE g (kH o)=false)->jE g (iD pre)=false:=by
     intro g
     clear h1 h2 h3 h4 hq ha
     induction pre with
     | nil=>intro _; rfl
     | cons o' l ih=>intro hh; rw[iD,jt,ih (fun o'' ho''=>hh o'' (by simp[ho''])),hh o' r9]; rfl
    obtain ⟨dl',k1,k2,k3⟩:=jo hE hpick q asm fin rest (fr++dl) s l h2 (fun o' ho'=>hq o' (by simp[ho'])) (fun g' w' hg'=>by
     obtain ⟨m1,m2⟩:=ha g' w' hg'
     refine⟨?_,fun o' ho'=>m2 o' (by simp[ho'])⟩
     rw[<-uQ,nX (by rw[h3]; exact hnm g' fun o' ho'=>m2 o' (by simp[ho']))]
     exact m1)
    refine⟨dl',k1,by rw[k2,nh]; simp[h3],fun rest'=>?_⟩
    rw[Za,h4,uQ,k3]
end
section
open Go.RowKit
variable {P:Program} {H H':aB} {g g':Gh} {w0 w w':World} {cx:Cx} {s:St} {z:Nat->Bool} {f lo:Nat}
def b8 (z:Nat->Bool) (H:aB):aB:=H.mapIdx fun b B=>bif z b then .hole else B
theorem fy (z:Nat->Bool) (H:aB) (b:Nat):(b8 z H)[b]? = (H[b]?).map fun B=>bif z b then .hole else B:=by simp[b8,List.getElem?_mapIdx]
theorem dj (z:Nat->Bool) (H:aB):(b8 z H).length=H.length:=by simp[b8]
theorem fh {b:Nat} (h:z b=false):(b8 z H)[b]? = H[b]?:=by rw[fy,h]; cases H[b]?<;>rfl
theorem sU {b:Nat} {B:aC} (h:z b=true) (hB:H[b]? = some B):(b8 z H)[b]? = some .hole:=by rw[fy,h,hB]; rfl
theorem fP {B:aC} (h:z H.length=false):b8 z (H++[B])=b8 z H++[B]:=by
 refine Zv fun b=>?_
 rw[fy]
 by_cases hb:b<H.length
 ·rw[YE hb,YE (by rw[dj]; exact hb),fy]
 ·by_cases e:b=H.length
  ·subst e
   rw[YY (Yk _),YY (by rw[dj]; exact Yk _),dj,h]
   simp
  ·rw[Y7 so,Y7 (by simp[dj]; omega)]
   rfl
theorem lN {b:Nat} {B:aC} (h:z b=false):b8 z (H.set b B)=(b8 z H).set b B:=by
 refine Zv fun c=>?_
 rw[fy,ZW,ZW,dj]
 by_cases e:b=c
 ·subst e
  rw[Yq rfl,Yq rfl,h]
  split<;>rfl
 ·rw[Yp e,Yp e,fy]
theorem zU {z':Nat->Bool} {b:Nat} {B:aC} (hB:H[b]? = some B) (h1:z' b=false) (h2:∀ c,c≠b->z' c=z c):b8 z' H=(b8 z H).set b B:=by
 refine Zv fun c=>?_
 rw[fy,ZW,dj]
 by_cases e:b=c
 ·subst e
  rw[Yq rfl,Yq (Ym.1 hB).1,h1,hB]
  rfl
 ·rw[Yp e,fy,h2 c (Zl e)]
theorem sS (h:∀ b,z b=false):b8 z H=H:=by
 refine Zv fun c=>?_
 rw[fy,h]
 cases H[c]?<;>rfl
theorem uj {a:A} {c:Value} {b:Nat} (h:VR H g w a c) (hb:blk? a=some b):∃ B,H[b]? = some B/\B≠.hole:=by
 cases a with
 | ptr b' o=>
  cases hb
  rw[VR] at h
  cases hq:H[b]? with
  | none=>rw[hq] at h; exact h.elim
  | some B=>rw[hq] at h; exact⟨B,rfl,fun e=>by subst e; exact h.elim⟩
 | ep b' i o=>
  cases hb
  rw[VR] at h
  cases hq:H[b]? with
  | none=>rw[hq] at h; exact h.elim
  | some B=>rw[hq] at h; exact⟨B,rfl,fun e=>by subst e; exact h.elim⟩
 | sl b' o n cl=>
  cases hb
  rw[VR] at h
  cases hq:H[b]? with
  | none=>rw[hq] at h; exact h.elim
  | some B=>rw[hq] at h; exact⟨B,rfl,fun e=>by subst e; exact h.elim⟩
 | mr b'=>
  cases hb
  rw[VR] at h
  cases hq:H[b]? with
  | none=>rw[hq] at h; exact h.elim
  | some B=>rw[hq] at h; exact⟨B,rfl,fun e=>by subst e; exact h.elim⟩
 | _=>cases hb
theorem AB {a:A} {c:Value} {b:Nat} (h:VR (b8 z H) g w a c) (hb:blk? a=some b):z b=false:=by
 obtain ⟨B,h1,h2⟩:=uj h hb
 cases hz:z b with
 | false=>rfl
 | true=>
  rw[fy,hz] at h1
  cases hq:H[b]? with
  | none=>rw[hq] at h1; cases h1
  | some B'=>rw[hq] at h1; cases h1; exact absurd rfl h2
theorem Rel.D8:∀ (q:Nat) {H:aB} {g:Gh},Rel H g w0 w->∃ g',Rel (H++List.replicate q .hole) g' w0 w/\Ext H g w (H++List.replicate q .hole) g' w/\g'.S=g.S
 | 0,H,g,hr=>⟨g,by simpa using hr,by simpa using Ext.refl hr,rfl⟩
 | q+1,H,g,hr=>by
  obtain ⟨h1,h2⟩:=hr.push (Below.refl _ w) .hole none [] (fun k hk=>by cases hk) (fun _=>Gh.bJ _ _ _ _)
  obtain ⟨g',e1,e2,e3⟩:=Rel.D8 q h1
  have e:H++List.replicate (q+1) aC.hole=H++[.hole]++List.replicate q .hole:=by rw[List.replicate_succ,Za]; rfl
  rw[e]
  exact⟨g',e1,h2.trans e2,e3⟩
theorem Rel.fill (hr:Rel H g w0 w) {w':World} (hb:Below w.heap.size w w') {b:Nat} (hB0:H[b]? = some .hole) {cs:List A} {arr:Array Value} {ty:TypeId} (hw:w'.heap[w.heap.size]? = some (.cells arr ty (0,0)))
  (hv:Ext H g w (H.set b (.box cs)) (g.put b (some w.heap.size) []) w'->bE (H.set b (.box cs)) (g.put b (some w.heap.size) []) w' cs arr.toList) :
  Rel (H.set b (.box cs)) (g.put b (some w.heap.size) []) w0 w'/\Ext H g w (H.set b (.box cs)) (g.put b (some w.heap.size) []) w':=by
 have hsz:w.heap.size<w'.heap.size:=(Yo.1 hw).1
 have hbl:b<H.length:=(Ym.1 hB0).1
 have hget:∀ c,c≠b->(H.set b (.box cs))[c]? = H[c]?:=fun c hc=>Yz (Zl hc)
 have hgetb:(H.set b (aC.box cs))[b]? = some (.box cs):=by rw[YO (by simpa using hbl)]
 have hmub:g.mu b=none:=hr.blk b _ hB0
 have he:Ext H g w (H.set b (.box cs)) (g.put b (some w.heap.size) []) w':=by
  refine⟨fun k o v hs hc=>?_,fun c B' hB'=>?_,fun k o ho=>(hb.block k (Yo.1 ho).1).trans ho,hb.size,fun k marr cl hs hm=>?_,fun k hk _=>hb.block k hk,fun c k h=>?_⟩
  rotate_right 1
  ·by_cases e:c=b
   ·subst e; rw[Gh.bJ] at h; cases h; exact .inr (Yk _)
   ·exact .inl ⟨c,by rwa [Gh.aR _ _ _ e] at h⟩
  ·have hlt:=Z9 w ⟨k,o,none⟩ hc
   refine⟨(hb.cell (p:=⟨k,o,none⟩) hlt).trans hc,hs.1,fun c hck=>?_⟩
   have hne:c≠b:=fun e=>by subst e; rw[Gh.bJ] at hck; cases hck; exact absurd hlt (ZZ _)
   rw[Gh.aR _ _ _ hne] at hck
   obtain ⟨es,els,h3,h4⟩:=hs.2 c hck
   exact⟨es,els,by rw[hget c hne]; exact h3,h4⟩
  ·by_cases e:c=b
   ·subst e
    rw[hB0] at hB'; cases hB'
    exact⟨_,hgetb,trivial⟩
   ·refine⟨B',by rw[hget c e]; exact hB',?_⟩
    cases B' with
    | box _=>exact Gh.aR _ _ _ e
    | row wr es els=>cases wr with
     | true=>exact⟨rfl,rfl,Gh.aR _ _ _ e⟩
     | false=>exact⟨rfl,⟨[],by rw[Gh.ft _ _ _ e]; simp⟩,(hr.blk c _ hB').len,Yk _,fun _=>⟨Gh.aR _ _ _ e,fun k arr ty hk' ha=>⟨arr,eS hb ha,Yk _⟩⟩⟩
    | rng _=>exact⟨Gh.aR _ _ _ e,rfl⟩
    | mp _ _ _=>exact Gh.aR _ _ _ e
    | dead=>trivial
    | hole=>trivial
  ·have hlt:=(Yo.1 hm).1
   refine⟨(hb.block k hlt).trans hm,hs.1,fun c hck=>?_⟩
   have hne:c≠b:=fun e=>by subst e; rw[Gh.bJ] at hck; cases hck; exact absurd hlt (ZZ _)
   rw[Gh.aR _ _ _ hne] at hck
   obtain ⟨es,els,h3,h4⟩:=hs.2 c hck
   exact⟨es,els,by rw[hget c hne]; exact h3,h4⟩
 refine⟨⟨hr.below.trans (hb.mono hr.below.size),fun c k hck=>?_,fun c d k h1 h2=>?_,hr.Aa he,hr.yk he,fun c B' hB'=>?_⟩,he⟩
 ·by_cases e:c=b
  ·subst e; rw[Gh.bJ] at hck; cases hck
   exact⟨by simpa using hbl,hr.below.size,hsz⟩
  ·rw[Gh.aR _ _ _ e] at hck
   obtain ⟨h1,h2,h3⟩:=hr.dom c k hck
   exact⟨by simpa using h1,h2,YA h3 hb.size⟩
 ·by_cases e:c=b
  ·by_cases e':d=b
   ·rw[e,e']
   ·subst e
    rw[Gh.bJ] at h1; cases h1
    rw[Gh.aR _ _ _ e'] at h2
    exact absurd (hr.dom d _ h2).2.2 (ZZ _)
  ·by_cases e':d=b
   ·subst e'
    rw[Gh.bJ] at h2; cases h2
    rw[Gh.aR _ _ _ e] at h1
    exact absurd (hr.dom c _ h1).2.2 (ZZ _)
   ·rw[Gh.aR _ _ _ e] at h1
    rw[Gh.aR _ _ _ e'] at h2
    exact hr.inj c d k h1 h2
 ·by_cases e:c=b
  ·subst e
   rw[hgetb] at hB'; cases hB'
   exact⟨w.heap.size,arr,ty,Gh.bJ _ _ _ _,hw,hv he⟩
  ·rw[hget c e] at hB'
   have h:=hr.blk c B' hB'
   cases B' with
   | box cs=>obtain ⟨k,arr,ty,h1,h2,h3⟩:=h; exact⟨k,arr,ty,(Gh.aR _ _ _ e).trans h1,eS hb h2,bE.ext he _ _ h3⟩
   | row wr es els=>cases wr with
    | true=>
     obtain ⟨ds,h1,h2,h3⟩:=h
     exact⟨ds,bC.ext he _ _ h1,h2,fun hp=>let ⟨k,arr,ty,e1,e2,e3⟩:=h3 hp; ⟨k,arr,ty,(Gh.aR _ _ _ e).trans e1,eS hb e2,e3⟩⟩
    | false=>
     obtain ⟨h1,h2⟩:=h
     refine⟨?_,?_⟩
     ·rw[Gh.ft _ _ _ e]; exact bC.ext he _ _ h1
     ·rw[Gh.ft _ _ _ e]; exact h2
   | rng st=>obtain ⟨k,h1,h2⟩:=h; exact⟨k,(Gh.aR _ _ _ e).trans h1,eS hb h2⟩
   | mp _ _ _=>obtain ⟨k,arr,cl,h1,h2,h3,h4⟩:=h; exact⟨k,arr,cl,(Gh.aR _ _ _ e).trans h1,eS hb h2,h3,bE.ext he _ _ h4⟩
   | dead=>exact(Gh.aR _ _ _ e).trans h
   | hole=>exact(Gh.aR _ _ _ e).trans h
theorem zi (hr:Rel H g w0 w) {t:TypeId} {b:Nat} {cs:List A} (hB0:H[b]? = some .hole) (hz:hU P t=some cs) :
  ∃ d w' g',(Instr.alloc t true (.tuple #[])).run P w=.ok d w'/\Rel (H.set b (.box cs)) g' w0 w'/\Ext H g w (H.set b (.box cs)) g' w'/\VR (H.set b (.box cs)) g' w' (.ptr b 0) d/\g'.S=g.S:=by
 obtain ⟨i,z,hi,hzz,rfl⟩:=fS hz
 have hb:Below w.heap.size w (w.alloc (.cells z.cells t)):=(Below.refl _ w).alloc (Yk _) _
 obtain ⟨h1,h2⟩:=hr.fill hb hB0 (cs:=z.cells.toList.map zY) (ZO w _) (fun he=>jO _)
 refine⟨.pointer (some ⟨w.heap.size,0,none⟩),_,_,by simp[Instr.alloc,zeroValue,typeInfo,hi,hzz,newVar,newRow,newObj]; rfl,h1,h2,?_,rfl⟩
 rw[VR,YO (by simpa using (Ym.1 hB0).1)]
 exact⟨w.heap.size,Gh.bJ _ _ _ _,rfl⟩
def fZ (H:aB) (b:Nat):Option (List (List A)):=match H[b]? with | some (.row false _ els)=>some els | _=>none
theorem uS {H:aB} {b:Nat} {C:aC} (h:H[b]? = some C) (hC:∀ es els,C≠aC.row false es els):fZ H b=none:=by
 unfold fZ
 rw[h]
 cases C with
 | row wr es els=>cases wr with
  | true=>rfl
  | false=>exact absurd rfl (hC es els)
 | _=>rfl
theorem tt {H H':aB} (h:∀ b,fZ H b=fZ H' b):∀ q,iI q H=iI q H'
 | 0=>rfl
 | q+1=>by
  funext b o m
  have hb:=h b
  have gen:∀ K:aB,iI (q+1) K b o m=match fZ K b with | some els=>.imm (dm (iI q K) ((els.drop o).take m)) false | none=>.any:=fun K=>by
   unfold iI fZ
   cases K[b]? with
   | none=>rfl
   | some B=>cases B with
    | row wr es els=>cases wr<;>rfl
    | _=>rfl
  rw[gen H,gen H',hb,tt h q]
theorem qM {H H':aB} (h:∀ b,fZ H b=fZ H' b):snap H=snap H':=by
 funext a
 unfold snap
 rw[tt h 4]
theorem uF {H H':aB} (h:∀ b,fZ H b=fZ H' b):cK H=cK H':=by
 funext a
 unfold cK zF
 rw[qM h]
def uN (z:Nat->Bool) (r:A×aB):A×aB:=(r.1,b8 z r.2)
theorem cN {α β γ:Type} {q:Option α} {F:α->Option β} {G:α->Option γ} {h:γ->β} (hh:∀ a,F a=(G a).map h):q.bind F=(q.bind G).map h:=by
 cases q with
 | none=>rfl
 | some a=>exact hh a
theorem w8 {t:TypeId} {a x:A} (hb:∀ b,blk? a=some b->z b=false):jz P t a x (b8 z H) lo=(jz P t a x H lo).map (b8 z):=by
 unfold jz
 cases cM P t with
 | none=>rfl
 | some n=>
  cases x.cells? with
  | none=>rfl
  | some xs=>
   simp only[Yf]
   cases (n==0 || !(xs.length==n)) with
   | true=>rfl
   | false=>
    simp only[Yh]
    cases a with
    | ptr b o=>
     have hz:=hb b rfl
     simp only[fh hz]
     split
     ·rename_i cs _
      cases (decide (lo<=b)&&decide (o+n<=cs.length)) with
      | false=>rfl
      | true=>simp only[Yi,Y6,lN hz]
     ·rfl
    | ep b i o=>
     have hz:=hb b rfl
     simp only[fh hz]
     split
     ·rename_i es els _
      split
      ·rename_i cs _
       cases (decide (lo<=b)&&decide (o+n<=cs.length)) with
       | true=>simp only[Yi,Y6,lN hz]
       | false=>
        simp only[Yh]
        cases (decide (lo<=b)&&Nat.beq o 0&&Nat.beq (n / es*es) n&&decide (i+n / es<=els.length)) with
        | true=>simp only[Yi,Y6,lN hz]
        | false=>rfl
      ·rfl
     ·rfl
    | _=>rfl
theorem tg {t:TypeId} {cs:List A} (hz:z H.length=false):rowOf P t cs (b8 z H)=(rowOf P t cs H).map (uN z):=by
 unfold rowOf
 split
 ·cases cM P _ with
  | none=>rfl
  | some es=>
   simp only[Yf]
   rename_i n e _
   cases (Nat.beq es 0 || Nat.beq n 0 || !Nat.beq cs.length (n*es)) with
   | true=>rfl
   | false=>simp only[Yh,Y6,uN,fP hz,dj]
 ·rfl
theorem xc {t:TypeId} {c:Bool} (hz:z H.length=false):oE c P t (b8 z H)=(oE c P t H).map (uN z):=by
 unfold oE
 cases c with
 | true=>
  simp only[Yi]
  unfold ku
  cases hU P t with
  | none=>rfl
  | some cs=>exact tg hz
 | false=>
  simp only[Yh]
  unfold mf
  cases hU P t with
  | none=>rfl
  | some cs=>simp only[Y6,uN,fP hz,dj]
theorem BI {t:TypeId} {x:A} {c:Bool} (hz:z H.length=false):zk c P t x (b8 z H)=(zk c P t x H).map (uN z):=by
 unfold zk
 cases c with
 | true=>
  simp only[Yi]
  unfold uk
  cases x.cells? with
  | none=>rfl
  | some cs=>exact tg hz
 | false=>
  simp only[Yh]
  unfold yZ
  cases x.cells? with
  | none=>rfl
  | some cs=>simp only[Y6,uN,fP hz,dj]
theorem rn {t:TypeId} {n c:A} (hz:z H.length=false):ek P t n c (b8 z H)=(ek P t n c H).map (uN z):=by
 unfold ek fj
 refine cN fun e=>cN fun es=>cN fun by_=>cN fun zz=>cN fun n=>cN fun c=>?_
 cases (es==0 || !(zz.length==es) || !decide (c*by_<=di) || !decide (c<=di) || !decide (n<=c)) with
 | true=>rfl
 | false=>
  simp only[Yh]
  cases n==c with
  | true=>simp only[Yi,Y6,uN,fP hz,dj]
  | false=>cases n==0 with
   | true=>simp only[Yi,Yh,Y6,uN,fP hz,dj]
   | false=>rfl
theorem zT {t:TypeId} {n c:A} {b:Bool} (hz:z H.length=false):sR b P t n c (b8 z H)=(sR b P t n c H).map (uN z):=by
 unfold sR
 cases b with
 | false=>exact rn hz
 | true=>
  simp only[Yi]
  unfold ig
  refine cN fun e=>cN fun es=>cN fun by_=>cN fun zz=>cN fun n=>cN fun c=>?_
  cases (es==0 || !(zz.length==es) || !decide (c*by_<=di) || !decide (c<=di) || !(n==c))<;>rfl
theorem xn {a:A} (hb:∀ b,blk? a=some b->z b=false):els? (b8 z H) a=els? H a:=by
 cases a with
 | sl b o n c=>simp only[els?,fh (hb b rfl)]
 | v x=>cases x<;>rfl
 | _=>rfl
theorem zb {t:TypeId} {x y:A} (hx:∀ b,blk? x=some b->z b=false) (hy:∀ b,blk? y=some b->z b=false):m8 P t x y (b8 z H) lo=(m8 P t x y H lo).map (uN z):=by
 unfold m8
 rw[xn hy]
 refine cN fun e=>cN fun es=>cN fun ys=>?_
 cases (es==0 || !(ys.all fun cs=>cs.length==es&&cs.all A.cell)) with
 | true=>rfl
 | false=>
  simp only[Yh]
  cases x with
  | sl b o n c=>
   have hz:=hx b rfl
   simp only[fh hz]
   split
   ·rename_i es' els _
    cases (decide (lo<=b)&&es'==es) with
    | true=>simp only[Yi,Y6,uN,lN hz]
    | false=>rfl
   ·rfl
  | _=>rfl
theorem BM {t2:TypeId} {by_:Nat} {zz:List A} {a:A} (hb:∀ b,blk? a=some b->z b=false):zv P (b8 z H) t2 by_ zz a=zv P H t2 by_ zz a:=by
 unfold zv
 rw[xn hb]
theorem vn {t t2:TypeId} {wr:Bool} {x y:A} (hz:z H.length=false) (hx:∀ b,blk? x=some b->z b=false) (hy:∀ b,blk? y=some b->z b=false):bN P t t2 wr x y (b8 z H) lo=(bN P t t2 wr x y H lo).map (uN z):=by
 unfold bN
 simp only[BM hy]
 refine cN fun e=>cN fun es=>cN fun by_=>cN fun zz=>cN fun ys=>?_
 cases (es==0 || by_==0 || !(zz.length==es) || !(ys.all fun cs=>cs.length==es&&cs.all A.cell)) with
 | true=>rfl
 | false=>
  simp only[Yh]
  cases x with
  | imm xs cl=>cases cl with
   | false=>rfl
   | true=>
    simp only[]
    cases !decide ((xs.length+ys.length)*by_<=di) with
    | true=>rfl
    | false=>
     simp only[Yh]
     cases wr&&xs.isEmpty with
     | true=>simp only[Yi,Y6,uN,fP hz,dj]
     | false=>
      simp only[Yh]
      cases (xs.all fun cs=>cs.length==es&&cs.all A.cell) with
      | true=>simp only[Yi,Y6,uN,fP hz,dj]
      | false=>rfl
  | sl b o n c=>
   have hzb:=hx b rfl
   simp only[fh hzb]
   split
   ·rename_i es' els _
    cases (!decide ((n+ys.length)*by_<=di) || !(es'==es) || !decide (o+n<=els.length)) with
    | true=>rfl
    | false=>
     simp only[Yh]
     cases c with
     | true=>simp only[Yi,Y6,uN,fP hz,dj]
     | false=>
      simp only[Yh]
      cases (decide (lo<=b)&&o==0&&n==els.length) with
      | true=>simp only[Yi,Y6,uN,lN hzb]
      | false=>rfl
   ·rfl
  | _=>rfl
theorem Fp {a x:A} (hrow:∀ b,fZ (b8 z H) b=fZ H b):b7 a (b8 z H) x=b7 a H x:=by
 unfold b7
 rw[uF hrow]
theorem DS {o:Oper} {fr:List (Nat×A)} (he:dR o=true) (hz:z H.length=false) (hrow:∀ b,fZ (b8 z H) b=fZ H b) (hop:∀ y∈o.op.operands.toList,∀ b,blk? (cd cx ⟨fr,H⟩ y)=some b->z b=false) :
  bO cx f lo o ⟨fr,b8 z H⟩ (fun a H=>some (a,H))=(bO cx f lo o ⟨fr,H⟩ (fun a H=>some (a,H))).map (uN z):=by
 have ho:∀ x,cd cx ⟨fr,b8 z H⟩ x=cd cx ⟨fr,H⟩ x:=fun x=>by cases x<;>rfl
 have bm:∀ (q:Option (A×aB)),(q.map (uN z)).bind (fun r=>some (r.1,r.2))=(q.bind fun r=>some (r.1,r.2)).map (uN z):=fun q=>by cases q<;>rfl
 unfold dR at he
 split at he
 ·rename_i t ad v h
  unfold bO
  simp only[h,ho]
  rw[Fp hrow,w8 (hop ad (by rw[h]; simp[Op.operands]))]
  cases jz cx.P t (cd cx ⟨fr,H⟩ ad) (b7 (cd cx ⟨fr,H⟩ ad) H (cd cx ⟨fr,H⟩ v)) H lo<;>rfl
 ·rename_i t h
  unfold bO
  simp only[h,ho]
  rw[xc hz,bm]
 ·rename_i t v h
  unfold bO
  simp only[h,ho]
  rw[BI hz,bm]
 ·rename_i t l c h
  unfold bO
  simp only[h,ho]
  rw[zT hz,bm]
 ·rename_i c h
  unfold bO
  simp only[h]
  have hopc:∀ y∈c.args.toList,∀ b,blk? (cd cx ⟨fr,H⟩ y)=some b->z b=false:=fun y hy=>hop y (by rw[h]; simp[Op.operands,Call.operands]; exact .inr (by simpa using hy))
  split at he
  ·rename_i hca
   unfold pP
   simp only[hca]
   split
   all_goals first | (rename_i hh _ _; cases hh; done) | (rename_i hh _ _; injection hh with hh; cases hh; done) | skip
   ·rename_i x y t t2 _ hargs _
    simp only[ho]
    rw[vn hz (hopc x (by rw[hargs]; simp)) (hopc y (by rw[hargs]; simp)),bm]
   all_goals first | rfl | (rename_i hh _; injection hh with hh; cases hh; done)
  ·rename_i hca
   unfold pP
   simp only[hca]
   split
   all_goals first | (rename_i hh _ _; cases hh; done) | (rename_i hh _ _; injection hh with hh; cases hh; done) | skip
   ·rename_i x y t t2 _ hargs _
    simp only[ho]
    rw[zb (hopc x (by rw[hargs]; simp)) (hopc y (by rw[hargs]; simp)),bm]
   all_goals first | rfl | (rename_i hh _; injection hh with hh; cases hh; done)
  ·cases he
 ·cases he
end
end Go.Proofs.YtebkhfhcipnfgaaGreat
