/-
 slices.Insert of one element, four cells long: the library's own text walked, after the shelf's walks of it at other types.
-/
import Derived.Test.YtebkhfhcipnfgaaEvLaw
import Derived.Test.YtebkhfhcipnfgaaRows
import Derived.Shelf.Spec.SlicesInsertGrow
import Derived.WalkKit
import Derived.Lib.AppendZerosOnto
import Derived.Laws.NewBlocks
import Derived.Laws.CopyRow
namespace Go.Proofs.Ytebkhfhcipnfgaa
open Go.RowKit Go.Lib
set_option linter.unusedVariables false
set_option linter.unusedSimpArgs false
set_option linter.defProp false
theorem r7 {α:Sort _} {a b:α} (h:a=b:=by kernel_rfl):a=b:=h
def qcA:=@Addr.add_lit
def qcN:=@Lib.wpList_append_run
def qcT:=@World.cell?_alloc_at
def qc5:=@World.cell?_setCells_out
def qdU:=@Nat.min_def
def qdV:=@World.frozen?_setCells
def qdW:=@World.cell?_alloc_past
def qd8:=@run_storeCells_cells
def qeh:=@Nat.ne_of_lt
theorem mJ {P:Program} {es:Nat} (w:World) (dT sT ty elem:TypeId) (b o dLen dCap:Nat) (a:Addr) (sLen sCap m:Nat) (cs:List Value)
  (hu:P.underlying dT=some (.slice elem)) (hs:(P.info? elem).map (·.size)=some es) (hm:m=Nat.min sLen dLen) (hn:cs.length=m*es)
  (hsrc:∀ j v,cs[j]? = some v->w.cell? (a.add j)=some v) (hc:∀ j,j<cs.length->(w.cell? ⟨b,o+j,none⟩).isSome=true) (hf:∀ j,j<cs.length->w.frozen? ⟨b,o+j,none⟩=false) (h1:∀ v∈cs,v.oneCell'=true) :
  (Builtin.copy_ #[dT,sT] ty #[.slice (some ⟨b,o,none⟩) dLen dCap,.slice (some a) sLen sCap]).run P w=.ok (goInt m) (w.setCells b o cs):=by
 have hl:=qdu (P:=P) w a cs hsrc;have hst:=qd8 (P:=P) b o cs 0 w (by simpa using hc) (by simpa using hf) h1;cases hq:P.info? elem with
 | none=>simp[hq] at hs
 | some i=>
  have hi:i.size=es:=by simpa [hq] using hs
  rw[hn] at hl;simp[Builtin.copy_,qap hu,Builtin.lenOf,Builtin.firstCells,sizeOf,typeInfo,hq,hi,<-hm,hl,hst]
theorem wP {P:Program} (w:World) (tS tR e:TypeId) (ht:P.underlying tS=some (.slice e)) (size:Nat) (hz:∀ w,(Go.sizeOf e).run P w=.ok size w)
  (a b:Addr) (la ca lb cb:Nat) (hne:a.block≠b.block) (tA tB:TypeId) (kA kB:Nat)
  (hsa:w.shape? a.block=some (tA,kA)) (hsb:w.shape? b.block=some (tB,kB)) (hkB:kB≠0) (hkA:kA≠0)
  (hfa:w.frozen? b=false) (hfe:w.frozen? { block:=b.block,off:=kB }=false) :
  (Extern.SlicesOverlaps.overlaps #[tS,tS] #[tR] #[.slice (some a) la ca,.slice (some b) lb cb]).run P w=.ok (.bool false) w:=by
 have hnb:(a.block != b.block)=true:=by simpa using hne
 have hnb':(a.block==b.block)=false:=by simpa using hne
 change Sem.run P (α:=Value) (do
  let some t:=(#[tS,tS]:Array TypeId)[0]? | stuck "slices.overlaps: no parameter types"
  let .slice elem <-underlying t | stuck "slices.overlaps: slice type expected"
  let size <-sizeOf elem
  match (some a:Option Addr),(some b:Option Addr) with
  | some a,some b=>
   if la=0∨lb=0∨size=0 then pure (Value.bool false)
   else if a.block != b.block&&(<-frozen a)&&(<-frozen b) then unsupported .addressObserved
   else do
    if a.block != b.block then do
     noView a; noView b
     if <-mayBeOne a b then return Value.bool ((<-choose (.extern "sameAddr.stringBytes" 2))==1)
    pure (Value.bool (a.block==b.block&&a.off<b.off+lb*size&&b.off<a.off+la*size))
  | _,_=>pure (Value.bool false)) w=_
 by_cases h0:la=0∨lb=0∨size=0
 ·simp[qap ht,hz,h0]
 ·cases kB with
  | zero=>exact absurd rfl hkB
  | succ kB=>cases kA with
    | zero=>exact absurd rfl hkA
    | succ kA=>
   cases hx:w.frozen? a<;>cases hy:w.frozen? { block:=a.block,off:=kA+1 }<;>simp[qap ht,hz,h0,hnb,hnb',frozen,noView,viewAt,mayBeOne,stringish,shape,Sem.run,hsa,hsb,hfa,hfe,hx,hy]
theorem Bn {w:World} {b:Nat} {arr:Array Value} {ty:TypeId} {fr:Nat×Nat} (h:w.heap[b]? = some (.cells arr ty fr)):∃ t,w.shape? b=some (t,arr.size):=by
 unfold World.shape?;rw[h];exact⟨_,rfl⟩
theorem wQ {w:World} {b o:Nat} {v:Value} (h:w.cell? ⟨b,o,none⟩=some v):∃ t k,w.shape? b=some (t,k)/\k≠0:=by
 unfold World.cell? at h;unfold World.shape?;simp only at h ⊢;split at h
 ·rename_i c e f hh;refine⟨_,_,rfl,λh0=>?_⟩;simp[Array.getElem?_eq_none (show c.size<=o by omega)] at h
 all_goals simp at h
theorem pD:Option.map (λx=>x.size) (Try.prog.info? 30)=some 4:=r7
theorem lj:Try.prog.underlying 53=some (.slice 30):=r7
theorem Hz (w:World):(Go.sizeOf 30).run Try.prog w=.ok 4 w:=by
 obtain ⟨i,hi,hz⟩:=qa0.1 pD;unfold Go.sizeOf typeInfo;simp only[qa1]
 simp[hi,hz]
theorem p9:Try.prog.follows .mixedOrders=true:=r7
set_option maxHeartbeats 4000000 in
set_option maxRecDepth 100000 in
theorem E5 (b n c i vb voff vc:Nat) (cs vs:List Value) (w:World) (hi:i<n) (hroom:n+1<=c) (hn:n+1<=9223372036854775807) (hvb:vb≠b)
  (arr:Array Value) (ty:TypeId) (hb:w.heap[b]? = some (.cells arr ty (0,0))) (hsz:c*4<=arr.size)
  (hcl:cs.length=n*4) (hvl:vs.length=4) (hcs:∀ (j:Nat) (v:Value),cs[j]? = some v->arr[j]? = some v)
  (hvs:∀ j v,vs[j]? = some v->w.cell? ⟨vb,voff+j,none⟩=some v) (h1c:∀ v∈cs,v.oneCell'=true) (h1v:∀ v∈vs,v.oneCell'=true) :
  Calls Try.prog 44 #[.slice (some ⟨b,0,none⟩) n c,.int .i64 i,.slice (some ⟨vb,voff,none⟩) 1 vc] w λe w'=>
   e=.returned (.slice (some ⟨b,0,none⟩) (n+1) c)/\w'=(w.drew.setCells b ((i+1)*4) (cs.drop (i*4))).setCells b (i*4) vs:=by
 have mixed:=p9;have hz2:¬ ((i:Int)=(n:Int)):=o3;have hcell:∀ j,j<arr.size->(w.cell? ⟨b,j,none⟩).isSome=true:=λj hj=>by simp[World.cell?,hb,hj]
 have hfz:∀ j,w.frozen? ⟨b,j,none⟩=false:=λj=>by simp[World.frozen?,hb]
 obtain ⟨tA,kA,hsa,hkA⟩:=wQ (hvs 0 vs[0] (Z7 o3));obtain ⟨tB,hsb⟩:=Bn hb;have hov:∀ lb cb,(callFunc 74 #[.slice (some ⟨vb,voff,none⟩) 1 vc,.slice (some ⟨b,(i+1)*4,none⟩) lb cb]).run Try.prog w=.ok (.value (.bool false)) w:=λlb cb=>by
  rw[run_callFunc_extern Try.func74 r7 r7 r7 (e:=Extern.SlicesOverlaps.overlaps #[53,53] #[4]) r7,
   wP w 53 4 30 lj 4 Hz ⟨vb,voff,none⟩ ⟨b,(i+1)*4,none⟩ 1 vc lb cb hvb tA tB kA arr.size hsa hsb o3 hkA (hfz _) (hfz _)]
  rfl
 have hdl:(cs.drop (i*4)).length=(n - i)*4:=by rw[qbT,hcl]; omega
 have hw1:IntKind.i64.wrap ((i:Int)+1)=(i:Int)+1:=by rw[IntKind.wrap_i64]; omega
 have hb1:(0:Int)<=(i:Int)+1:=o3;have hin:i<=n:=o3;have htn:((i:Int)+1).toNat=i+1:=o3;have hb2:¬ (c=i+1):=o3;have hb3:(i:Int)<=(n:Int)+1:=o3;have hb4:¬ (c=i):=o3;have hcp1:∀ ty dc sc,(Builtin.copy_ #[53,53] ty #[.slice (some ⟨b,(i+1)*4,none⟩) (n - i) dc,.slice (some ⟨b,i*4,none⟩) (n+1 - i) sc]).run Try.prog w.drew=.ok (goInt (n - i:Nat)) (w.drew.setCells b ((i+1)*4) (cs.drop (i*4))):=λty dc sc=>
  mJ w.drew _ _ ty 30 b ((i+1)*4) (n - i) dc ⟨b,i*4,none⟩ (n+1 - i) sc (n - i) (cs.drop (i*4)) lj pD (by simp only[qdU]; split<;>omega) hdl
   (λj v hj=>by rw[qcA]; show w.cell? _=_; rw[qbw] at hj; have:=hcs _ v hj; simp[World.cell?,hb,this])
   (λj hj=>hcell _ o3) (λj hj=>hfz _) (λv hv=>h1c v (qaL hv))
 obtain ⟨W1,hW1⟩:∃ W1,W1=w.drew.setCells b ((i+1)*4) (cs.drop (i*4)):=⟨_,rfl⟩
 have hsp1:∀ k,k<arr.size->(W1.cell? ⟨b,k,none⟩).isSome=true:=λk hk=>by
  rw[hW1];exact isSome_setCells b (cs.drop (i*4)) ((i+1)*4) w.drew (λj hj=>hcell _ (by rw[hdl] at hj; omega)) _ (hcell k hk)
 have hcp2:∀ (W:World),(∀ x,W.cell? x=W1.cell? x)->(∀ x,W.frozen? x=W1.frozen? x)->∀ ty dc,(Builtin.copy_ #[53,53] ty #[.slice (some ⟨b,i*4,none⟩) (n+1 - i) dc,.slice (some ⟨vb,voff,none⟩) 1 vc]).run Try.prog W=.ok (goInt (1:Nat)) (W.setCells b (i*4) vs):=λW hWc hWf ty dc=>
  mJ W _ _ ty 30 b (i*4) (n+1 - i) dc ⟨vb,voff,none⟩ 1 vc 1 vs lj pD (by simp only[qdU]; split<;>omega) hvl
   (λj v hj=>by
    rw[qcA,hWc,hW1,qc5 b _ _ _ _ (λh _=>absurd h hvb)];exact hvs j v hj)
   (λj hj=>by rw[hWc]; exact hsp1 _ o3) (λj hj=>by rw[hWf,hW1,qdV]; exact hfz _) h1v
 rw[<-hW1] at hcp1
 go_enter Try.func44,Try.ntmps44
 go_wp2_with (simp only[hov])
 go_region_law_o (refine step_copy_runI rfl _ _ 53 53 rfl _ _ (by simp[Act.eval,Act.put]) (by simp[Act.eval,Act.put]) (hcp1 _ _ _) ?_)
 go_wp2_with (at_builtin; refine wpList_copy_runI _ rfl _ _ 53 53 rfl _ _ rfl rfl (hcp2 _ (λ_=>rfl) (λ_=>rfl) _ _) ?_)
 go_ret
 first | exact⟨rfl,rfl⟩ | exact⟨rfl,by rw[hW1]⟩
theorem yU:∃ i z,Try.prog.info? 30=some i/\i.size=4/\i.bytes=32/\i.zero=some z/\z.cells.size=4:=by
 have h:((Try.prog.info? 30).bind λi=>i.zero.map λz=>(i.size,i.bytes,z.cells.size))=some (4,32,4):=r7;obtain ⟨i,h1,h2⟩:=Option.bind_eq_some_iff.1 h;obtain ⟨z,h3,h4⟩:=qa0.1 h2;simp only[qcU] at h4;exact⟨i,z,h1,h4.1,h4.2.1,h3,h4.2.2⟩
theorem DL {i:TypeInfo} (hz:i.size=4) {w w2:World} {vb voff vc:Nat} {vs:List Value} (hvl:vs.length=4) (hvs:∀ j v,vs[j]? = some v->w2.cell? ⟨vb,voff+j,none⟩=some v):Src Try.prog 53 i (.slice (some ⟨vb,voff,none⟩) 1 vc) 1 vs w w2:=by
 refine .inl ⟨by unfold mS; rw[lj],by simp[Builtin.lenOf],?_⟩;rw[hz];exact qbO (P:=Try.prog) w2 4 1 ⟨vb,voff,none⟩ 1 vc vs o3 λj v hj=>by rw[qcA]; exact hvs j v hj
set_option maxHeartbeats 4000000 in
set_option maxRecDepth 100000 in
theorem yT (b n c vb voff vc:Nat) (vs:List Value) (w:World) (hroom:n+1<=c) (hn:n+1<=9223372036854775807)
  (arr:Array Value) (ty:TypeId) (hb:w.heap[b]? = some (.cells arr ty (0,0))) (hsz:c*4<=arr.size) (hvl:vs.length=4)
  (hvs:∀ j v,vs[j]? = some v->w.cell? ⟨vb,voff+j,none⟩=some v) (h1v:∀ v∈vs,v.oneCell'=true) :
  Calls Try.prog 44 #[.slice (some ⟨b,0,none⟩) n c,.int .i64 n,.slice (some ⟨vb,voff,none⟩) 1 vc] w λe w'=>
   e=.returned (.slice (some ⟨b,0,none⟩) (n+1) c)/\w'=w.setCells b (n*4) vs:=by
 have mixed:=p9;obtain ⟨i0,z,hi0,hzs,hzb,hz,hzl⟩:=yU;have hcell:∀ j,j<arr.size->(w.cell? ⟨b,j,none⟩).isSome=true:=λj hj=>by simp[World.cell?,hb,hj]
 have hfz:∀ j,w.frozen? ⟨b,j,none⟩=false:=λj=>by simp[World.frozen?,hb]
 have hrun:∀ ty,(Builtin.append_ #[53,53] ty #[.slice (some ⟨b,0,none⟩) n c,.slice (some ⟨vb,voff,none⟩) 1 vc]).run Try.prog w=.ok (.slice (some ⟨b,0,none⟩) (n+1) c) (w.setCells b (n*4) vs):=λty=>by
  rw[nG lj hi0 (DL hzs hvl hvs) hroom,hzs,qcA,qaU];have hst:=qd8 (P:=Try.prog) b (n*4) vs 0 w (λj hj=>hcell _ o3) (λj hj=>hfz _) h1v;rw[hst];rfl
 go_enter Try.func44,Try.ntmps44
 go_wp2_with (at_builtin; refine qcN _ rfl _ _ _ _ rfl _ _ rfl rfl _ _ (hrun _) ?_)
 go_ret
 exact⟨rfl,rfl⟩
set_option maxHeartbeats 4000000 in
set_option maxRecDepth 100000 in
theorem yR (base:Option Addr) (n vb voff vc:Nat) (cs vs:List Value) (w:World) (hbig:(n+1)*32<=140737488355328)
  (hcl:cs.length=n*4) (hvl:vs.length=4) (hcs:0<n->∃ b,base=some ⟨b,0,none⟩/\∀ j v,cs[j]? = some v->w.cell? ⟨b,j,none⟩=some v)
  (hvs:∀ j v,vs[j]? = some v->w.cell? ⟨vb,voff+j,none⟩=some v) (h1v:∀ v∈vs,v.oneCell'=true) :
  ∃ tl,Calls Try.prog 44 #[.slice base n n,.int .i64 n,.slice (some ⟨vb,voff,none⟩) 1 vc] w λe w'=>
   e=.returned (.slice (some ⟨w.heap.size,0,none⟩) (n+1) (grownCap w (n+1) n 30))/\w'=w.drew.alloc (.cells (cs.toArray++vs.toArray++tl) 30):=by
 have mixed:=p9;obtain ⟨i0,z,hi0,hzs,hzb,hz,hzl⟩:=yU;have hold:(Builtin.firstCells i0.size n (.slice base n n)).run Try.prog w.drew=.ok cs.toArray w.drew:=by
  rw[hzs];by_cases h0:n=0
  ·subst h0;have:cs=[]:=qdN.1 o3;subst this;cases base with
   | none=>exact run_firstCells_none w.drew 4 0 0 0
   | some a=>exact qbO (P:=Try.prog) w.drew 4 0 a 0 0 [] r8 (λj v hj=>by simp at hj)
  ·obtain ⟨b,rfl,hc⟩:=hcs o3;exact qbO (P:=Try.prog) w.drew 4 n ⟨b,0,none⟩ n n cs hcl λj v hj=>by rw[qcA,qaU]; exact hc j v hj
 have hrun:∀ ty,(Builtin.append_ #[53,53] ty #[.slice base n n,.slice (some ⟨vb,voff,none⟩) 1 vc]).run Try.prog w=_:=λty=>
  nF lj hi0 hz (DL hzs hvl hvs) hold o3 o3 (by rw[hzb]; exact qd0 o3 hbig)
 refine⟨Builtin.zeroCells z.cells (grownCap w (n+1) n 30 - (n+1)),?_⟩;obtain ⟨ROW,hROW⟩:∃ ROW,ROW=cs.toArray++vs.toArray++Builtin.zeroCells z.cells (grownCap w (n+1) n 30 - (n+1)):=⟨_,rfl⟩
 rw[<-hROW] at hrun ⊢;clear hROW;cases base with
 | none=>
  have h0:n=0:=by
   refine Nat.eq_zero_of_not_pos λh=>?_;obtain ⟨b,h1,_⟩:=hcs h;cases h1
  subst h0
  go_enter Try.func44,Try.ntmps44
  go_wp2_with (at_builtin; refine qcN _ rfl _ _ _ _ rfl _ _ rfl rfl _ _ (hrun _) ?_)
  go_ret
  exact⟨rfl,rfl⟩
 | some a=>
  obtain ⟨ab,ao,asp⟩:=a
  go_enter Try.func44,Try.ntmps44
  go_wp2_with (at_builtin; refine qcN _ rfl _ _ _ _ rfl _ _ rfl rfl _ _ (hrun _) ?_)
  all_goals (go_ret; exact⟨rfl,rfl⟩)
set_option maxHeartbeats 4000000 in
set_option maxRecDepth 100000 in
theorem Hy (b n i vb voff vc:Nat) (cs vs:List Value) (w:World) (hi:i<n) (hbig:(n+1)*32<=140737488355328)
  (hcl:cs.length=n*4) (hvl:vs.length=4)
  (hcs:∀ j v,cs[j]? = some v->w.cell? ⟨b,j,none⟩=some v)
  (hvs:∀ j v,vs[j]? = some v->w.cell? ⟨vb,voff+j,none⟩=some v) (h1c:∀ v∈cs,v.oneCell'=true) (h1v:∀ v∈vs,v.oneCell'=true) :
  ∃ ROW:Array Value,(n+1)*4<=ROW.size/\(∀ (j:Nat) (v:Value),(cs.take (i*4))[j]? = some v->ROW[j]? = some v)/\Calls Try.prog 44 #[.slice (some ⟨b,0,none⟩) n n,.int .i64 i,.slice (some ⟨vb,voff,none⟩) 1 vc] w λe w'=>
   e=.returned (.slice (some ⟨w.heap.size,0,none⟩) (n+1) (grownCap w (n+1) n 30)) ∧
   w'=(((w.alloc (.cells ROW 30)).drew.setCells w.heap.size (i*4) vs).drew).setCells w.heap.size ((i+1)*4) (cs.drop (i*4)):=by
 have mixed:=p9;obtain ⟨i0,z,hi0,hzs,hzb,hz,hzl⟩:=yU;have hi3:Try.prog.underlying 3=some (.int .i64):=r7;have hz2:¬ ((i:Int)=(n:Int)):=o3;have hz3:(n:Int)<(n:Int)+1:=o3;have hbw:b<w.heap.size:=block_lt_of_cell (hcs 0 _ (Z7 o3));have hvw:vb<w.heap.size:=block_lt_of_cell (hvs 0 _ (Z7 o3));have hkk:(n:Int)+1 - (i:Int)=((n+1 - i:Nat):Int):=o3;have hik:i+(n+1 - i)=n+1:=o3;have htl:(cs.take (i*4)).length=i*4:=H4;have hold:(Builtin.firstCells i0.size i (.slice (some ⟨b,0,none⟩) i n)).run Try.prog w.drew=.ok (cs.take (i*4)).toArray w.drew:=by
  rw[hzs];exact qbO (P:=Try.prog) w.drew 4 i ⟨b,0,none⟩ i n (cs.take (i*4)) htl (λj v hj=>by
   rw[qcA,qaU];rw[qaA] at hj;split at hj
   ·exact hcs j v hj
   ·cases hj)
 have hrz:∀ ty,(Builtin.append_ #[53,3] ty #[.slice (some ⟨b,0,none⟩) i n,.int .i64 ((n:Int)+1 - (i:Int))]).run Try.prog w =
   .ok (.slice (some ⟨w.heap.size,0,none⟩) (n+1) (grownCap w (n+1) n 30)) (w.drew.alloc (.cells ((cs.take (i*4)).toArray++Builtin.zeroCells z.cells (n+1 - i)++Builtin.zeroCells z.cells (grownCap w (n+1) n 30 - (n+1))) 30)):=λty=>by
  have h:=Lib.run_append_grow_zeros w 53 3 ty 30 i0 z .i64 .i64 lj hi3 hi0 hz (some ⟨b,0,none⟩) i n (cs.take (i*4)) hold (n+1 - i) o3 o3 o3 o3 (by rw[hzb]; omega) (by rw[hzb,hik]; exact qd0 o3 hbig);rw[hik] at h;rw[hkk];exact h
 obtain ⟨G,hG⟩:∃ G,G=grownCap w (n+1) n 30:=⟨_,rfl⟩
 obtain ⟨ROW,hROW⟩:∃ ROW:Array Value,ROW=(cs.take (i*4)).toArray++Builtin.zeroCells z.cells (n+1 - i)++Builtin.zeroCells z.cells (G - (n+1)):=⟨_,rfl⟩
 rw[<-hG] at hrz ⊢;rw[<-hROW] at hrz;have hRl:(n+1)*4<=ROW.size:=by
  have e:∀ m,(Builtin.zeroCells z.cells m).size=m*4:=λm=>by
   simp[Builtin.zeroCells,hzl]
  rw[hROW,qdA,qdA,e,e,List.size_toArray,htl];omega
 refine⟨ROW,hRl,λj v hj=>?_,?_⟩
 ·have hj1:=(qad.1 hj).1;rw[hROW,qbK r9,qbK (by simpa using hj1)];simpa using hj
 obtain ⟨W1,hW1⟩:∃ W1,W1=w.drew.alloc (.cells ROW 30):=⟨_,rfl⟩
 rw[<-hW1] at hrz;have hN:∀ j,j<(n+1)*4->(W1.cell? ⟨w.heap.size,j,none⟩).isSome=true:=λj hj=>by
  rw[hW1,qcT (w:=w.drew) ROW _ w.heap.size j rfl,qbb o3]; rfl
 have hNf:∀ j,W1.frozen? ⟨w.heap.size,j,none⟩=false:=λj=>by rw[hW1]; exact World.frozen?_alloc_at (w:=w.drew) ROW _ w.heap.size j rfl
 have hOb:∀ j v,w.cell? ⟨b,j,none⟩=some v->W1.cell? ⟨b,j,none⟩=some v:=λj v h=>by rw[hW1,qdW (w:=w.drew) _ b j hbw]; exact h
 have hOv:∀ j v,w.cell? ⟨vb,j,none⟩=some v->W1.cell? ⟨vb,j,none⟩=some v:=λj v h=>by rw[hW1,qdW (w:=w.drew) _ vb j hvw]; exact h
 have hdl:(cs.drop (i*4)).length=(n - i)*4:=by rw[qbT,hcl]; omega
 have hcpA:∀ (W:World),(∀ x,W.cell? x=W1.cell? x)->(∀ x,W.frozen? x=W1.frozen? x)->∀ ty dc,(Builtin.copy_ #[53,53] ty #[.slice (some ⟨w.heap.size,i*4,none⟩) (n+1 - i) dc,.slice (some ⟨vb,voff,none⟩) 1 vc]).run Try.prog W=.ok (goInt (1:Nat)) (W.setCells w.heap.size (i*4) vs):=λW hWc hWf ty dc=>
  mJ W _ _ ty 30 w.heap.size (i*4) (n+1 - i) dc ⟨vb,voff,none⟩ 1 vc 1 vs lj pD (by simp only[qdU]; split<;>omega) hvl
   (λj v hj=>by rw[qcA,hWc]; exact hOv _ v (hvs j v hj))
   (λj hj=>by rw[hWc]; exact hN _ o3) (λj hj=>by rw[hWf]; exact hNf _) h1v
 have hGn:n+1<=G:=by rw[hG]; exact qdt w _ _ _
 have hG63:G<=9223372036854775807:=by
  have:=grownCap_le_maxLen w (n+1) n 30 (by unfold maxLen; omega);rw[<-hG] at this;unfold maxLen at this;omega
 have hGi:¬ (G=i):=o3;have hGim:¬ (G=i+1):=o3;have hci:¬ (n=i):=o3;have hbN:b≠w.heap.size:=o3;have hcpB:∀ (W:World),(∀ x,W.cell? x=(W1.setCells w.heap.size (i*4) vs).cell? x)->(∀ x,W.frozen? x=(W1.setCells w.heap.size (i*4) vs).frozen? x)->∀ ty dc sc,(Builtin.copy_ #[53,53] ty #[.slice (some ⟨w.heap.size,(i+1)*4,none⟩) (n - i) dc,.slice (some ⟨b,i*4,none⟩) (n - i) sc]).run Try.prog W=.ok (goInt (n - i:Nat)) (W.setCells w.heap.size ((i+1)*4) (cs.drop (i*4))):=λW hWc hWf ty dc sc=>
  mJ W _ _ ty 30 w.heap.size ((i+1)*4) (n - i) dc ⟨b,i*4,none⟩ (n - i) sc (n - i) (cs.drop (i*4)) lj pD (by simp only[qdU]; split<;>omega) hdl
   (λj v hj=>by
    rw[qcA,hWc,qc5 _ _ _ _ _ (λh _=>absurd h hbN)];exact hOb _ v (hcs (i*4+j) v (by rwa [qbw] at hj)))
   (λj hj=>by rw[hWc]; exact isSome_setCells w.heap.size vs (i*4) W1 (λt ht=>hN _ o3) _ (hN _ (by rw[hdl] at hj; omega)))
   (λj hj=>by rw[hWf,qdV]; exact hNf _) (λv hv=>h1c v (qaL hv))
 subst hW1;have hE1:∀ x,((w.alloc (.cells ROW 30)).drew).cell? x=(w.drew.alloc (.cells ROW 30)).cell? x:=λx=>rfl;have hE2:∀ x,((w.alloc (.cells ROW 30)).drew).frozen? x=(w.drew.alloc (.cells ROW 30)).frozen? x:=λx=>rfl;have hF1:∀ x,(((w.alloc (.cells ROW 30)).drew.setCells w.heap.size (i*4) vs).drew).cell? x=((w.drew.alloc (.cells ROW 30)).setCells w.heap.size (i*4) vs).cell? x:=λx=>rfl;have hF2:∀ x,(((w.alloc (.cells ROW 30)).drew.setCells w.heap.size (i*4) vs).drew).frozen? x=((w.drew.alloc (.cells ROW 30)).setCells w.heap.size (i*4) vs).frozen? x:=λx=>rfl;have hw1:IntKind.i64.wrap ((i:Int)+1)=(i:Int)+1:=by rw[IntKind.wrap_i64]; omega
 have hb1:(0:Int)<=(i:Int)+1:=o3;have hin:i<=n:=o3;have htn:((i:Int)+1).toNat=i+1:=o3;have hb3:(i:Int)<=(n:Int):=o3;clear hkk hik hold hROW hG hRl
 go_enter Try.func44,Try.ntmps44
 go_wp2_with (first
  | (at_builtin; refine qcN _ rfl _ _ _ _ rfl _ _ rfl rfl _ _ (hrz _) ?_)
  | (at_builtin; refine wpList_copy_runI _ rfl _ _ 53 53 rfl _ _ rfl rfl (hcpA _ hE1 hE2 _ _) ?_)
  | (at_builtin; refine wpList_copy_runI _ rfl _ _ 53 53 rfl _ _ rfl rfl (hcpB _ (λ_=>rfl) (λ_=>rfl) _ _ _) ?_))
 go_region_law_o (refine step_copy_runI rfl _ _ 53 53 rfl (.slice (some ⟨w.heap.size,(i+1)*4,none⟩) (n - i) (G - (i+1))) (.slice (some ⟨b,i*4,none⟩) (n - i) (n - i)) (by simp[Act.eval,Act.put]) (by simp[Act.eval,Act.put]) (hcpB _ hF1 hF2 3 (G - (i+1)) (n - i)) ?_)
 go_wp2
 go_ret
 exact⟨rfl,rfl⟩
theorem gz (b:Nat):∀ (vs:List Value) (o:Nat) (w:World),RowKit.Below 0 w (w.setCells b o vs)/\(w.setCells b o vs).heap.size=w.heap.size/\∀ j,j≠b->(w.setCells b o vs).heap[j]? = w.heap[j]?
 | [],_,w=>⟨RowKit.Below.refl 0 w,rfl,λ_ _=>rfl⟩
 | v :: r,o,w=>by
  obtain ⟨h1,h2,h3⟩:=gz b r (o+1) (w.setCell ⟨b,o,none⟩ v);have e:(w.setCell ⟨b,o,none⟩ v).heap.size=w.heap.size:=by simp[World.setCell]
  rw[World.setCells];refine⟨⟨h1.os,h1.tape,h1.output,by rw[h2,e]; exact qab _,λk hk=>o3⟩,h2.trans e,λj hj=>(h3 j hj).trans ?_⟩;simp only[World.setCell,qd1,qah (qbi hj)]
theorem Dl (w:World) (o:Obj):(w.alloc o).heap.size=w.heap.size+1:=by show (w.heap.push o).size=_; rw[Array.size_push]
theorem GI (w:World) (o:Obj) {j:Nat} (h:j<w.heap.size):(w.alloc o).heap[j]? = w.heap[j]?:=by show (w.heap.push o)[j]? = _; rw[qeb,qah (qeh h)]
theorem kP {b o k:Nat} {vs:List Value} {w:World} {v:Value} (h:∀ j,j<vs.length->(w.cell? ⟨b,o+j,none⟩).isSome=true) (hk:vs[k]? = some v):(w.setCells b o vs).cell? ⟨b,o+k,none⟩=some v:=by
 obtain ⟨hl,rfl⟩:=qad.1 hk;exact World.cell?_setCells_in b vs o w h k hl
theorem gk {b o k:Nat} {vs:List Value} {w:World} (h:k<o∨o+vs.length<=k):(w.setCells b o vs).cell? ⟨b,k,none⟩=w.cell? ⟨b,k,none⟩:=
 qc5 b vs o w ⟨b,k,none⟩ λ_ _=>h
theorem uH {α:Type} {a v z:List α} {j:Nat} {x:α} (h:(a++v++z)[j]? = some x):(j<a.length/\a[j]? = some x)∨(a.length<=j/\j<a.length+v.length/\v[j - a.length]? = some x)∨(a.length+v.length<=j/\z[j - (a.length+v.length)]? = some x):=by
 by_cases h1:j<a.length
 ·rw[qaV,qat h1] at h;exact .inl ⟨h1,h⟩
 ·by_cases h2:j<a.length+v.length
  ·rw[qat (by rw[qar]; exact h2),qay o3] at h;exact .inr (.inl ⟨o3,h2,h⟩)
  ·rw[qay ZO,qar] at h;exact .inr (.inr ⟨o3,h⟩)
theorem M3:uo Try.prog 44 4:=by
 intro w base n cap i vb vo vc cs vs hin hnc hbig hcl hvl h1c h1v hvs hmem;by_cases hroom:n<cap
 ·obtain ⟨b,arr,ty,rfl,hvb,hb,hsz,hcs⟩:=hmem o3;have hcell:∀ j,j<arr.size->(w.cell? ⟨b,j,none⟩).isSome=true:=λj hj=>by simp[World.cell?,hb,hj]
  have hget:∀ (j:Nat) (v:Value),cs[j]? = some v->w.cell? ⟨b,j,none⟩=some v:=λj v hj=>by simp[World.cell?,hb,hcs j v hj]
  by_cases hi:i=n
  ·subst hi;refine(yT b i cap vb vo vc vs w o3 o3 arr ty hb hsz hvl hvs h1v).mono ?_
   rintro e w' ⟨rfl,rfl⟩
   obtain ⟨g1,g2,g3⟩:=gz b vs (i*4) w;refine⟨b,cap,rfl,o3,g1,λj hj=>?_,.inl ⟨o3,rfl⟩,λj v hj=>?_⟩
   ·by_cases e:j=b
    ·exact .inr ⟨o3,by rw[e]⟩
    ·exact .inl (g3 j e)
   ·have e1:(cs.take (i*4)).length=i*4:=by rw[qba]; omega
    rcases uH hj with ⟨h1,h2⟩ | ⟨h1,h2,h3⟩ | ⟨h1,h2⟩
    ·rw[qaA] at h2;split at h2
     ·rw[gk (.inl o3)]; exact hget j v h2
     ·cases h2
    ·rw[e1] at h1 h3;have:=kP (b:=b) (o:=i*4) (w:=w) (λj hj=>hcell _ o3) h3;rwa [show i*4+(j - i*4)=j by omega] at this
    ·rw[qcJ o3] at h2;simp at h2
  ·refine(E5 b n cap i vb vo vc cs vs w o3 o3 o3 hvb arr ty hb hsz hcl hvl hcs hvs h1c h1v).mono ?_
   rintro e w' ⟨rfl,rfl⟩
   obtain ⟨g1,g2,g3⟩:=gz b (cs.drop (i*4)) ((i+1)*4) w.drew;obtain ⟨f1,f2,f3⟩:=gz b vs (i*4) (w.drew.setCells b ((i+1)*4) (cs.drop (i*4)));have hdl:(cs.drop (i*4)).length=(n - i)*4:=by rw[qbT,hcl]; omega
   have hc1:∀ k,k<arr.size->((w.drew.setCells b ((i+1)*4) (cs.drop (i*4))).cell? ⟨b,k,none⟩).isSome=true:=λk hk=>
    isSome_setCells b (cs.drop (i*4)) ((i+1)*4) w.drew (λj hj=>hcell _ (by rw[hdl] at hj; omega)) _ (hcell k hk)
   refine⟨b,cap,rfl,o3,⟨f1.os.trans g1.os,f1.tape.trans g1.tape,f1.output.trans g1.output,by rw[f2,g2]; exact qab _,λk hk=>o3⟩,λj hj=>?_,.inl ⟨o3,rfl⟩,λj v hj=>?_⟩
   ·by_cases e:j=b
    ·exact .inr ⟨o3,by rw[e]⟩
    ·exact .inl ((f3 j e).trans (g3 j e))
   ·have e1:(cs.take (i*4)).length=i*4:=by rw[qba]; omega
    rcases uH hj with ⟨h1,h2⟩ | ⟨h1,h2,h3⟩ | ⟨h1,h2⟩
    ·rw[qaA] at h2;split at h2
     ·rw[gk (.inl o3),gk (.inl o3)]; exact hget j v h2
     ·cases h2
    ·rw[e1] at h1 h3;have:=kP (b:=b) (o:=i*4) (w:=w.drew.setCells b ((i+1)*4) (cs.drop (i*4))) (λj hj=>hc1 _ o3) h3;rwa [show i*4+(j - i*4)=j by omega] at this
    ·rw[e1,hvl] at h1 h2;rw[gk (.inr o3)];have:=kP (b:=b) (o:=(i+1)*4) (w:=w.drew) (λj hj=>hcell _ (by rw[hdl] at hj; omega)) h2;rwa [show (i+1)*4+(j - (i*4+4))=j by omega] at this
 ·have hcn:cap=n:=by omega
  subst hcn;have hbase:0<cap->∃ b,base=some ⟨b,0,none⟩/\∀ (j:Nat) (v:Value),cs[j]? = some v->w.cell? ⟨b,j,none⟩=some v:=λhp=>by
   obtain ⟨b,arr,ty,h1,hvb,hb,hsz,hcs⟩:=hmem hp;exact⟨b,h1,λj v hj=>by simp[World.cell?,hb,hcs j v hj]⟩
  have hgc:cap+1<=grownCap w (cap+1) cap 30:=qdt w _ _ _;by_cases hi:i=cap
  ·subst hi;obtain ⟨tl,hC⟩:=yR base i vb vo vc cs vs w o3 hcl hvl hbase hvs h1v;refine hC.mono ?_
   rintro e w' ⟨rfl,rfl⟩
   refine⟨w.heap.size,_,rfl,hgc,⟨rfl,rfl,rfl,by rw[Dl]; exact Nat.le_succ _,λk hk=>o3⟩,λj hj=>.inl ?_,.inr (qab _),λj v hj=>?_⟩
   ·exact GI w.drew _ hj
   ·rw[qaK o3,qcJ o3,qaW] at hj;have hjl:=(qad.1 hj).1;rw[qcT (w:=w.drew) _ _ w.heap.size j rfl];rw[qbK (by simpa using hjl)];simpa using hj
  ·have hic:i<cap:=by omega
   have hbg:(cap+1)*32<=140737488355328:=o3;obtain ⟨b,rfl,hget⟩:=hbase (Nat.zero_lt_of_lt hic);obtain ⟨ROW,hR1,hR2,hC⟩:=Hy b cap i vb vo vc cs vs w hic hbg hcl hvl hget hvs h1c h1v;refine hC.mono ?_
   rintro e w' ⟨rfl,rfl⟩
   obtain ⟨g1,g2,g3⟩:=gz w.heap.size vs (i*4) (w.alloc (.cells ROW 30)).drew;obtain ⟨f1,f2,f3⟩:=gz w.heap.size (cs.drop (i*4)) ((i+1)*4) ((w.alloc (.cells ROW 30)).drew.setCells w.heap.size (i*4) vs).drew;have hdl:(cs.drop (i*4)).length=(cap - i)*4:=by rw[qbT,hcl]; omega
   have hN:∀ j,j<ROW.size->((w.alloc (.cells ROW 30)).drew.cell? ⟨w.heap.size,j,none⟩).isSome=true:=λj hj=>by
    show ((w.alloc (.cells ROW 30)).cell? _).isSome=true;rw[qcT (w:=w) ROW _ w.heap.size j rfl,qbb hj]; rfl
   have hc1:∀ k,k<ROW.size->((((w.alloc (.cells ROW 30)).drew.setCells w.heap.size (i*4) vs).drew).cell? ⟨w.heap.size,k,none⟩).isSome=true:=λk hk=>
    isSome_setCells w.heap.size vs (i*4) (w.alloc (.cells ROW 30)).drew (λj hj=>hN _ o3) _ (hN k hk)
   have hal:(w.alloc (.cells ROW 30)).drew.heap.size=w.heap.size+1:=Dl w _;refine⟨w.heap.size,_,rfl,hgc,⟨f1.os.trans g1.os,f1.tape.trans g1.tape,f1.output.trans g1.output,?_,λk hk=>o3⟩,λj hj=>.inl ?_,.inr (qab _),λj v hj=>?_⟩
   ·rw[f2];show _<=((w.alloc (.cells ROW 30)).drew.setCells w.heap.size (i*4) vs).heap.size;rw[g2,hal]; omega
   ·rw[f3 j (qeh hj)];show ((w.alloc (.cells ROW 30)).drew.setCells w.heap.size (i*4) vs).heap[j]? = _;rw[g3 j (qeh hj)];exact GI w _ hj
   ·have e1:(cs.take (i*4)).length=i*4:=by rw[qba]; omega
    rcases uH hj with ⟨h1,h2⟩ | ⟨h1,h2,h3⟩ | ⟨h1,h2⟩
    ·rw[gk (.inl o3)];show ((w.alloc (.cells ROW 30)).drew.setCells w.heap.size (i*4) vs).cell? _=_;rw[gk (.inl o3)];show (w.alloc (.cells ROW 30)).cell? _=_;rw[qcT (w:=w) ROW _ w.heap.size j rfl];exact hR2 j v h2
    ·rw[e1] at h1 h3;rw[gk (.inl o3)];have:=kP (b:=w.heap.size) (o:=i*4) (w:=(w.alloc (.cells ROW 30)).drew) (λj hj=>hN _ o3) h3;rwa [show i*4+(j - i*4)=j by omega] at this
    ·rw[e1,hvl] at h1 h2;have:=kP (b:=w.heap.size) (o:=(i+1)*4) (w:=((w.alloc (.cells ROW 30)).drew.setCells w.heap.size (i*4) vs).drew) (λj hj=>hc1 _ (by rw[hdl] at hj; omega)) h2;rwa [show (i+1)*4+(j - (i*4+4))=j by omega] at this
end Go.Proofs.Ytebkhfhcipnfgaa
