/-
 Slices of slices, conversions, structs built: as the model's.
-/
import Derived.Test.YtdmgdjnadbakfaaEvRead2
import Derived.Laws.Tables
import Derived.Laws.IdiomStrings
import Derived.Laws.BytesString
import Derived.Laws.Slices
namespace Go.Proofs.Ytdmgdjnadbakfaa
open Go.RowKit
variable {P:Program} {H:Heap} {g:Gh} {w0 w:World}
theorem bound_run {a:A} {c:Value} {j y:Nat} (h:idx a=some j) (hv:VR H g w a c) (hy:j<=y) (code:BoundsCode):(Instr.sliceBound c y code).run P w=.ok j w:=by
 obtain ⟨k,n,rfl,h0,rfl⟩:=idx_VR h hv
 have:0<=n/\n<=(y:Int):=⟨h0,by omega⟩
 simp[Instr.sliceBound,asIntOf,this]
def VRo (H:Heap) (g:Gh) (w:World):Option A->Option Value->Prop
 | none,none=>True
 | some a,some c=>VR H g w a c
 | _,_=>False
def mxOK (cap h:Nat):Option A->Prop
 | none=>h<=cap
 | some m=>idx m=some h/\h<=cap
def mxCap (cap h:Nat):Option A->Nat
 | none=>cap
 | some _=>h
theorem bounds_run {lo hi:Option A} {clo chi cmx:Option Value} {mx:Option A} {len cap h l:Nat} (isS:Bool) (hlo:VRo H g w lo clo) (hhi:VRo H g w hi chi) (hmx:VRo H g w mx cmx)
  (e1:oIdx len hi=some h) (e2:oIdx 0 lo=some l) (hl:l<=h) (hm:mxOK cap h mx) (hhm:mx=none∨hi.isSome=true) :
  (Instr.sliceBounds isS len cap clo chi cmx).run P w=.ok (l,h,mxCap cap h mx) w:=by
 have hlo':(clo=none/\l=0)∨∃ v,clo=some v/\∀ code,(Instr.sliceBound v h code).run P w=.ok l w:=by
  cases lo with
  | none=>cases clo with
   | none=>simp only[oIdx,Option.some.injEq] at e2; exact .inl ⟨rfl,e2.symm⟩
   | some _=>exact hlo.elim
  | some a=>cases clo with
   | none=>exact hlo.elim
   | some v=>exact .inr ⟨v,rfl,fun code=>bound_run e2 hlo hl code⟩
 clear hlo e2
 unfold Instr.sliceBounds
 cases mx with
 | none=>cases cmx with
  | some _=>exact hmx.elim
  | none =>
   cases hi with
   | none=>cases chi with
    | some _=>exact hhi.elim
    | none =>
     simp only[oIdx,Option.some.injEq] at e1
     subst e1
     rcases hlo' with ⟨rfl,rfl⟩ | ⟨v,rfl,hv⟩
     ·simp[mxCap]
     ·simp[Result.andThen,hv,mxCap]
   | some a=>cases chi with
    | none=>exact hhi.elim
    | some v =>
     have hb:=fun code=>bound_run (P:=P) e1 hhi (show h<=cap from hm) code
     rcases hlo' with ⟨rfl,rfl⟩ | ⟨v,rfl,hv⟩
     ·simp[Result.andThen,hb,mxCap]
     ·simp[Result.andThen,hb,hv,mxCap]
 | some m=>cases cmx with
  | none=>exact hmx.elim
  | some mv =>
   have hb1:=fun code=>bound_run (P:=P) hm.1 hmx hm.2 code
   cases hi with
   | none=>simp at hhm
   | some a=>cases chi with
    | none=>exact hhi.elim
    | some v =>
     have hb:=fun code=>bound_run (P:=P) e1 hhi (Nat.le_refl h) code
     rcases hlo' with ⟨rfl,rfl⟩ | ⟨v,rfl,hv⟩
     ·simp[Result.andThen,hb,hb1,mxCap]
     ·simp[Result.andThen,hb,hb1,hv,mxCap]
theorem sliceAt_slice {t e:TypeId} (hu:P.underlying t=some (.slice e)) {a:Option Addr} {len cap l h m z:Nat} {clo chi cmx:Option Value} (hb:(Instr.sliceBounds true len cap clo chi cmx).run P w=.ok (l,h,m) w) (hz:sizeT P e=some z) :
  (Instr.sliceAt t (.slice a len cap) clo chi cmx).run P w=.ok (.slice (if m=l then a else a.map (·.add (l*z))) (h - l) (m - l)) w:=by
 unfold Instr.sliceAt
 rw[Sem.run_bind,run_underlying hu w]
 unfold Instr.slice
 simp[run_underlying hu,hb,sizeOf_run hz,Result.andThen]
theorem sliceAt_arr {t e:TypeId} {n:Nat} (hu:P.underlying t=some (.array n e)) {a:Addr} {l h m z:Nat} {clo chi cmx:Option Value} (hb:(Instr.sliceBounds false n n clo chi cmx).run P w=.ok (l,h,m) w) (hz:sizeT P e=some z) :
  (Instr.sliceAt t (.pointer (some a)) clo chi cmx).run P w=.ok (.slice (some (if m=l then a else a.add (l*z))) (h - l) (m - l)) w:=by
 unfold Instr.sliceAt
 rw[Sem.run_bind,run_underlying hu w]
 simp[Instr.sureAddr,hb,sizeOf_run hz,Result.andThen]
theorem aSlice_sound (hr:Rel H g w0 w) {t:TypeId} {x y:A} {lo hi mx:Option A} {c:Value} {clo chi cmx:Option Value} (h:aSlice P t x lo hi mx H=some y) (hx:VR H g w x c) (hlo:VRo H g w lo clo) (hhi:VRo H g w hi chi) (hmx:VRo H g w mx cmx) (hhm:mx=none∨hi.isSome=true) :
  ∃ d,(Instr.sliceAt t c clo chi cmx).run P w=.ok d w/\VR H g w y d:=by
 unfold aSlice at h
 split at h
 ·rename_i s hu
  replace h:=cnone h
  obtain ⟨hm,h⟩:=h
  obtain rfl:mx=none:=by cases mx<;>simp at hm ⊢
  replace h:=bnd h
  obtain ⟨hh,e1,h⟩:=h
  replace h:=bnd h
  obtain ⟨l,e2,h⟩:=h
  replace h:=csome h
  obtain ⟨h1,h⟩:=h
  simp only[Bool.and_eq_true,decide_eq_true_eq] at h1
  cases h
  rw[VR] at hx
  subst hx
  have hb:=bounds_run (P:=P) (cap:=s.size) false hlo hhi hmx e1 e2 h1.1 h1.2 (.inl rfl)
  cases cmx with
  | some _=>exact hmx.elim
  | none =>
   refine⟨.string (s.extract l hh),?_,by rw[VR]⟩
   unfold Instr.sliceAt
   rw[Sem.run_bind,run_underlying hu w]
   unfold Instr.slice
   simp[run_underlying hu,hb,Result.andThen]
 ·rename_i e els cl hu
  replace h:=bnd h
  obtain ⟨z,hz,h⟩:=h
  replace h:=bnd h
  obtain ⟨hh,e1,h⟩:=h
  replace h:=bnd h
  obtain ⟨l,e2,h⟩:=h
  replace h:=csome h
  obtain ⟨h1,h⟩:=h
  simp only[Bool.and_eq_true,decide_eq_true_eq,Bool.or_eq_true,beq_iff_eq] at h1
  obtain ⟨⟨h1,h2⟩,h3⟩:=h1
  rw[VR] at hx
  obtain ⟨a,cap,ds,es,rfl,g1,g2,g3,g4,g5⟩:=hx
  have hlenn:((els.drop l).take (hh - l)).length=hh - l:=by simp; omega
  have fin:∀ (m:Nat) (b:Bool),hh<=m->m<=cap->(b=true->m=hh)->VR H g w (.imm ((els.drop l).take (hh - l)) b) (.slice (if m=l then a else a.map (·.add (l*z))) (hh - l) (m - l)):=fun m b hm1 hm2 hb=>by
   rw[VR]
   refine⟨_,m - l,(ds.drop l).take (hh - l),es,by rw[hlenn],by omega,fun hb'=>by rw[hlenn,hb hb'],fun d hd=>g3 d (List.mem_of_mem_drop (List.mem_of_mem_take hd)),fun hp=>?_,(g5.drop l).take _⟩
   have hll:l<hh:=by omega
   obtain ⟨k,off,rfl,hc⟩:=g4 (by omega)
   rw[if_neg (by omega)]
   refine⟨k,off+l*es,?_,hc.sub g3 l (hh - l)⟩
   rcases h3 with rfl | h3
   ·simp[Addr.add_mid]
   ·have hlt:l<els.length:=by omega
    rw[List.getElem?_eq_getElem hlt] at h3
    simp only[beq_iff_eq] at h3
    obtain rfl:=g5.lens g3 (List.getElem?_eq_getElem hlt) h3
    simp[Addr.add_mid]
  split at h
  ·cases h
   have hb:=bounds_run (P:=P) (cap:=cap) true hlo hhi hmx e1 e2 h1 (show hh<=cap by omega) (.inl rfl)
   refine⟨_,sliceAt_slice hu hb hz,fin cap _ (by omega) (Nat.le_refl _) (fun hc=>?_)⟩
   simp only[Bool.and_eq_true,beq_iff_eq] at hc
   have:=g2 hc.1; omega
  ·rename_i m
   replace h:=bnd h
   obtain ⟨m',hm',h⟩:=h
   replace h:=csome h
   obtain ⟨hmh,h⟩:=h
   obtain rfl:m'=hh:=by simpa using hmh
   cases h
   have hb:=bounds_run (P:=P) (cap:=cap) true hlo hhi hmx e1 e2 h1 ⟨hm',by omega⟩ hhm
   exact⟨_,sliceAt_slice hu hb hz,fin m' _ (Nat.le_refl _) (by omega) (fun _=>rfl)⟩
 ·rename_i e b o n cl hu
  replace h:=bnd h
  obtain ⟨z,hz,h⟩:=h
  replace h:=bnd h
  obtain ⟨hh,e1,h⟩:=h
  replace h:=bnd h
  obtain ⟨l,e2,h⟩:=h
  replace h:=csome h
  obtain ⟨h1,h⟩:=h
  simp only[Bool.and_eq_true,decide_eq_true_eq] at h1
  obtain ⟨⟨h1,h2⟩,h3⟩:=h1
  obtain ⟨wr,els,hb⟩:∃ wr els,H[b]? = some (.row wr z els):=by
   cases hb:H[b]? with
   | none=>simp[hb] at h3
   | some B=>cases B with
    | row wr es els=>simp[hb] at h3; subst h3; exact⟨wr,els,rfl⟩
    | _=>simp[hb] at h3
  rw[VR,hb] at hx
  have main:∀ (a:Option Addr) (cap:Nat),c=.slice a n cap->n<=cap->(cl=true->cap=n)->(∀ (m:Nat) (q:Bool),hh<=m->m<=cap->(q=true->m=hh)->(q=false->m=cap)->VR H g w (.sl b (o+l) (hh - l) q) (.slice (if m=l then a else a.map (·.add (l*z))) (hh - l) (m - l)))->∃ d,(Instr.sliceAt t c clo chi cmx).run P w=.ok d w/\VR H g w y d:=by
   intro a cap hc hn hcl fin
   subst hc
   split at h
   ·cases h
    have hb:=bounds_run (P:=P) (cap:=cap) true hlo hhi hmx e1 e2 h1 (show hh<=cap by omega) (.inl rfl)
    refine⟨_,sliceAt_slice hu hb hz,fin cap _ (by omega) (Nat.le_refl _) (fun hc=>?_) (fun _=>rfl)⟩
    simp only[Bool.and_eq_true,beq_iff_eq] at hc
    have:=hcl hc.1; omega
   ·rename_i m
    replace h:=bnd h
    obtain ⟨m',hm',h⟩:=h
    replace h:=csome h
    obtain ⟨hmh,h⟩:=h
    obtain rfl:m'=hh:=by simpa using hmh
    cases h
    have hb:=bounds_run (P:=P) (cap:=cap) true hlo hhi hmx e1 e2 h1 ⟨hm',by omega⟩ hhm
    exact⟨_,sliceAt_slice hu hb hz,fin m' _ (Nat.le_refl _) (by omega) (fun _=>rfl) (fun h=>by cases h)⟩
  cases wr
  ·obtain ⟨g0,a,cap,rfl,g1,g2,g3,g4⟩:=hx
   refine main a cap rfl g1 g2 fun m q hm1 hm2 hq hq2=>?_
   rw[VR,hb]
   refine⟨by omega,_,m - l,rfl,by omega,fun hc=>by rw[hq hc],fun hp=>?_,fun hc ho hn hlt=>?_⟩
   ·obtain ⟨k,off,rfl,hcell⟩:=g3 (by omega)
    rw[if_neg (by omega)]
    refine⟨k,off+l*z,by simp[Addr.add_mid],?_⟩
    have hga:=(hr.blk b _ hb).2
    have:=hcell.sub (fun d hd=>hga d (List.mem_of_mem_drop (List.mem_of_mem_take hd))) l (hh - l)
    have e3:((((g.ga b).drop o).take n).drop l).take (hh - l)=((g.ga b).drop (o+l)).take (hh - l):=by
     rw[List.drop_take,List.drop_drop,List.take_take]; congr 1; omega
    rwa [e3] at this
   ·obtain rfl:l=0:=by omega
    obtain rfl:o=0:=by omega
    have hmc:=hq2 hc
    subst hmc
    by_cases hcl:cl=true
    ·have:=g2 hcl; omega
    ·obtain ⟨k,arr,ty,k1,k2,k3,k4⟩:=g4 (by simpa using hcl) rfl (by omega) (by omega)
     refine⟨k,arr,ty,k1,?_,k3,by simpa using k4⟩
     rw[k2]; split<;>simp[Addr.add_mid]
  ·obtain ⟨g0,a,cap,rfl,g1,g2,g3⟩:=hx
   refine main a cap rfl g1 g2 fun m q hm1 hm2 hq hq2=>?_
   rw[VR,hb]
   refine⟨by omega,_,m - l,rfl,by omega,fun hc=>by rw[hq hc],fun hp=>?_⟩
   obtain ⟨k,hk,rfl⟩:=g3 (by omega)
   rw[if_neg (by omega)]
   exact⟨k,hk,by simp[Addr.add_mid,Nat.add_mul]⟩
 ·rename_i n e cs hu
  replace h:=bnd h
  obtain ⟨z,hz,h⟩:=h
  replace h:=bnd h
  obtain ⟨hh,e1,h⟩:=h
  replace h:=bnd h
  obtain ⟨l,e2,h⟩:=h
  replace h:=csome h
  obtain ⟨h1,h⟩:=h
  simp only[Bool.and_eq_true,decide_eq_true_eq,Bool.not_eq_true'] at h1
  obtain ⟨⟨⟨⟨h1,h2⟩,h3⟩,h4⟩,h5⟩:=h1
  obtain rfl:mx=none:=by cases mx<;>simp at h4 ⊢
  cases h
  rw[VR] at hx
  obtain ⟨k,off,ds,rfl,hc,hv⟩:=hx
  have hb:(Instr.sliceBounds false n n clo chi cmx).run P w=.ok (l,hh,n) w:=bounds_run (P:=P) (cap:=n) false hlo hhi hmx e1 e2 h1 h2 (.inl rfl)
  cases cmx with
  | some _=>exact hmx.elim
  | none =>
   refine⟨_,sliceAt_arr hu hb hz,?_⟩
   have hdl:=hv.length
   have htl:(ds.take (n*z)).length=n*z:=by rw[List.length_take]; omega
   have htc:(cs.take (n*z)).length=n*z:=by rw[List.length_take]; omega
   have hck:∀ {α:Type} (q:Nat) (xs:List α),q*z<=xs.length->chunk z q xs=chunk z q (xs.take (q*z)):=by
    intro α q
    induction q with
    | zero=>intro xs _; rfl
    | succ q ih =>
     intro xs hq
     rw[Nat.add_mul,Nat.one_mul] at hq
     rw[chunk,chunk,ih (xs.drop z) (by simp; omega),List.take_take,List.drop_take,Nat.min_eq_left (by rw[Nat.add_mul]; omega)]
     congr 3
     rw[Nat.add_mul]; omega
   have hlenn:(((chunk z n cs).drop l).take (hh - l)).length=hh - l:=by simp[chunk_length]; omega
   rw[VR]
   refine⟨_,n - l,((chunk z n (ds.take (n*z))).drop l).take (hh - l),z,by rw[hlenn],by omega,fun hb'=>by rw[hlenn]; have:=(Nat.beq_eq ▸ hb':hh=n); omega,fun d hd=>chunk_lens htl d (List.mem_of_mem_drop (List.mem_of_mem_take hd)),fun hp=>?_,?_⟩
   ·rw[hlenn] at hp
    rw[if_neg (by omega)]
    refine⟨k,off+l*z,by simp[Addr.add_mid],?_⟩
    refine CellsAt.sub (es:=z) ?_ (chunk_lens htl) l (hh - l)
    rw[chunk_flat htl]
    exact hc.take _
   ·rw[hck n cs h3]
    exact(((hv.take (n*z)).chunk n).drop l).take _
 ·rename_i n e b q o hu
  replace h:=bnd h
  obtain ⟨z,hz,h⟩:=h
  replace h:=bnd h
  obtain ⟨hh,e1,h⟩:=h
  replace h:=bnd h
  obtain ⟨l,e2,h⟩:=h
  replace h:=csome h
  obtain ⟨h1,h⟩:=h
  simp only[Bool.and_eq_true,decide_eq_true_eq,Bool.not_eq_true'] at h1
  obtain ⟨⟨⟨⟨h1,h2⟩,h4⟩,h5⟩,h6⟩:=h1
  obtain rfl:o=0:=by simpa [Nat.beq_eq] using h5
  obtain rfl:mx=none:=by cases mx<;>simp at h4 ⊢
  cases h
  obtain ⟨els,hbk,hq⟩:∃ els,H[b]? = some (.row true z els)/\q+n<=els.length:=by
   split at h6
   ·rename_i es els hbk
    simp only[Bool.and_eq_true,decide_eq_true_eq,Nat.beq_eq] at h6
    obtain ⟨rfl,h6⟩:=h6
    exact⟨els,hbk,h6⟩
   ·cases h6
  rw[VR,hbk] at hx
  obtain ⟨hqe,k,hk,rfl⟩:=hx
  have hb:(Instr.sliceBounds false n n clo chi cmx).run P w=.ok (l,hh,n) w:=bounds_run (P:=P) (cap:=n) false hlo hhi hmx e1 e2 h1 h2 (.inl rfl)
  cases cmx with
  | some _=>exact hmx.elim
  | none =>
   refine⟨_,sliceAt_arr hu hb hz,?_⟩
   rw[VR,hbk]
   refine⟨by omega,_,n - l,rfl,by omega,fun hb'=>by have:=(Nat.beq_eq ▸ hb':hh=n); omega,fun hp=>⟨k,hk,?_⟩⟩
   rw[if_neg (by omega)]
   simp[Addr.add_mid,Nat.add_mul]
 ·cases h
theorem fresh_cells (hr:Rel H g w0 w) {w':World} {arr:Array Value} {ty:TypeId} {fr:Nat×Nat} (ha:w'.heap[w.heap.size]? = some (.cells arr ty fr)) {ds:List Value} (hd:∀ (j:Nat) v,ds[j]? = some v->arr[j]? = some v):CellsAt H g w' w.heap.size 0 ds:=fun j v hj=>by
 refine⟨?_,hr.out _ _ (Nat.le_refl _),fun b hb=>absurd (hr.dom b _ hb).2.2 (Nat.lt_irrefl _)⟩
 rw[Nat.zero_add,cell_of_row w' _ j arr ty fr ha]
 exact hd j v hj
theorem elsB_spec {x:A} {els:List (List A)} (h:elsB H x=some els):els? H x=some els/\∀ s,x≠.v (.string s):=by
 cases x<;>simp only[elsB] at h<;>first | exact⟨h,by simp⟩ | cases h
theorem flat_single {α β:Type} (f:α->β) (l:List α):(l.map fun n=>[f n]).flatten=l.map f:=by
 induction l with
 | nil=>rfl
 | cons n l ih=>simp[ih]
theorem aConvert_sound (hr:Rel H g w0 w) {s t:TypeId} {x y:A} {c:Value} (h:aConvert P s t x H=some y) (hx:VR H g w x c):∃ d w',(convert s t c).run P w=.ok d w'/\Below w.heap.size w w'/\VR H g w' y d:=by
 unfold aConvert at h
 split at h
 ·rename_i e hs hd
  split at h
  ·rename_i he hz
   replace h:=bnd h
   obtain ⟨els,h1,h⟩:=h
   cases hb:bytesOf els with
   | none=>rw[hb] at h; cases h
   | some l =>
    rw[hb] at h
    cases h
    refine⟨.string ⟨l.toArray⟩,w,?_,Below.refl _ _,by rw[VR]⟩
    have h1':=elsB_spec h1
    rcases els_slice hr h1'.1 hx with ⟨s',rfl,rfl⟩ | ⟨a,cap,ds,es,rfl,h2,h3,h4,h5⟩
    ·exact absurd rfl (h1'.2 s')
    ·obtain ⟨ns,rfl,rfl⟩:=bytes_VR hb h4
     have hl:els.length=ns.length:=by have:=h4.length; simpa using this.symm
     simp only[convert,Sem.run_bind,run_underlying hs,run_underlying hd,run_underlying he,Result.andThen_ok]
     cases a with
     | none =>
      have hn:ns=[]:=by
       by_cases hp:0<els.length
       ·obtain ⟨k,off,e1,_⟩:=h5 hp; cases e1
       ·exact List.eq_nil_of_length_eq_zero (by omega)
      subst hn
      simp[Conv.bytesToString]
      rfl
     | some a =>
      have hl2:(loadCells a els.length).run P w=.ok (ns.map (Value.int .u8)).toArray w:=by
       by_cases hp:0<els.length
       ·obtain ⟨k,off,e1,hc⟩:=h5 hp
        cases e1
        rw[flat_single] at hc
        have:=run_loadCells_list (P:=P) w ⟨k,off,none⟩ (ns.map (Value.int .u8)) (fun j v hv=>by rw[Addr.add_mid]; exact hc j v hv)
        rwa [List.length_map,<-hl] at this
       ·have hn:ns=[]:=List.eq_nil_of_length_eq_zero (by omega)
        subst hn
        rw[hl]
        rfl
      rw[run_bytesToString w a _ cap ns hl2,foldl_push]
      simp
  ·cases h
 ·rename_i e s' hs hd
  split at h
  ·rename_i he
   cases h
   rw[VR] at hx
   subst hx
   have hr':=run_bytes_of_string (P:=P) w s t e s' hs hd he
   have hb:Below w.heap.size w (w.drew.alloc (.cells (bytesRow s' (grownCap w s'.size 0 e)) e ((bytesRow s' (grownCap w s'.size 0 e)).size,(bytesRow s' (grownCap w s'.size 0 e)).size+1))):=((Below.refl _ w).drew).alloc (Nat.le_refl _) _
   refine⟨_,_,hr',hb,?_⟩
   rw[VR]
   have hlen:(s'.data.toList.map fun c=>[A.v (.int .u8 c.toNat)]).length=s'.size:=by rw[List.length_map,Array.length_toList]; rfl
   refine⟨_,_,s'.data.toList.map fun c=>[.int .u8 c.toNat],1,by rw[hlen],by rw[hlen]; exact grownCap_ge w _ _ _,fun h=>(by cases h),by simp,fun _=>⟨w.heap.size,0,rfl,?_⟩,?_⟩
   ·refine fresh_cells hr (heap_alloc_new w.drew _) fun j v hj=>?_
    rw[flat_single] at hj
    unfold bytesRow
    rw[Array.getElem?_append_left]
    ·simpa using hj
    ·have:=(List.getElem?_eq_some_iff.1 hj).1
     simpa using this
   ·refine VRss_iff.2 ⟨by simp,fun i a d ha hd=>?_⟩
    simp only[List.getElem?_map,Option.map_eq_some_iff] at ha hd
    obtain ⟨b,hb,rfl⟩:=ha
    obtain ⟨b',hb',rfl⟩:=hd
    rw[hb] at hb'; cases hb'
    rw[VRs]; exact⟨_,[],rfl,by rw[VR],by rw[VRs]⟩
  ·cases h
 ·replace h:=bnd h
  obtain ⟨v,hv,h⟩:=h
  obtain rfl:=toV_VR _ hv hx
  cases he:pureV P (convert s t c) with
  | none=>rw[he] at h; cases h
  | some e=>rw[he] at h; cases h; exact⟨e,w,pureV_run he w,Below.refl _ _,ofV_VR e⟩
theorem set_splice (vs:List Value):∀ (off:Nat) (cs:Array Value),off+vs.length<=cs.size->((vs.zipIdx 0).foldl (fun cs p=>cs.setIfInBounds (off+p.2) p.1) cs).toList=splice cs.toList off vs:=by
 have gen:∀ (vs:List Value) (n off:Nat) (cs:Array Value),off+n+vs.length<=cs.size->((vs.zipIdx n).foldl (fun cs p=>cs.setIfInBounds (off+p.2) p.1) cs).toList=splice cs.toList (off+n) vs:=by
  intro vs
  induction vs with
  | nil=>intro n off cs _; simp[splice]
  | cons v vs ih =>
   intro n off cs h
   rw[List.zipIdx_cons,List.foldl_cons,ih (n+1) off _ (by simp at h ⊢; omega)]
   simp only[splice,Array.toList_setIfInBounds,List.length_cons]
   have hlt:off+n<cs.toList.length:=by simp at h ⊢; omega
   rw[show off+(n+1)=off+n+1 by omega,List.take_succ_eq_append_getElem (by simp; simp at hlt; omega)]
   simp only[List.getElem_set_self]
   rw[List.take_set_of_le (Nat.le_refl _),List.append_assoc,List.append_assoc]
   rw[List.drop_set_of_lt (by omega)]
   have e:off+n+1+vs.length=off+n+(vs.length+1):=by omega
   rw[e]
   simp
 intro off cs h
 exact gen vs 0 off cs (by simpa using h)
theorem fill_VR {place:Nat->Option (Nat×Nat)}:∀ {parts:List (Nat×A)} {vparts:List (Nat×Value)} {cs ds:List A} {arr:Array Value},fillA place cs parts=some ds->VRs H g w cs arr.toList ->
  (∀ i:Nat,(∀ p,parts[i]? = some p->∃ q,vparts[i]? = some q/\q.1=p.1/\VR H g w p.2 q.2))->vparts.length=parts.length->∃ arr',Instr.fill place arr vparts=some arr'/\VRs H g w ds arr'.toList
 | [],vparts,cs,ds,arr,h,hv,hp,hl=>by
  simp only[fillA,Option.some.injEq] at h
  subst h
  have:vparts=[]:=List.eq_nil_of_length_eq_zero (by simpa using hl)
  subst this
  exact⟨arr,rfl,hv⟩
 | (i,x) :: r,vparts,cs,ds,arr,h,hv,hp,hl=>by
  cases vparts with
  | nil=>simp at hl
  | cons q vr =>
   obtain ⟨q',hq,e1,hx⟩:=hp 0 (i,x) rfl
   simp at hq
   subst hq
   simp only[fillA] at h
   replace h:=bnd h
   obtain ⟨p,hpl,h⟩:=h
   replace h:=bnd h
   obtain ⟨xs,hxs,h⟩:=h
   replace h:=csome h
   obtain ⟨hc,h⟩:=h
   simp only[Bool.and_eq_true,beq_iff_eq,decide_eq_true_eq] at hc
   obtain ⟨hvs,_,_⟩:=cells_VR hxs hx
   have hvl:=hvs.length
   have hal:=hv.length
   obtain ⟨qi,qv⟩:=q
   simp only at e1
   subst e1
   have hsz:qv.cells.size=p.2:=by simpa [hc.1] using hvl
   have hfit:p.1+qv.cells.size<=arr.size:=by simp at hal; omega
   have hset:(qv.cells.zipIdx.foldl (fun cs (c,j)=>cs.setIfInBounds (p.1+j) c) arr).toList=splice arr.toList p.1 qv.cells.toList:=by
    have:=set_splice qv.cells.toList p.1 arr (by simpa using hfit)
    rw[<-this,<-Array.foldl_toList]
    simp
   obtain ⟨arr',h1,h2⟩:=fill_VR (place:=place) (arr:=qv.cells.zipIdx.foldl (fun cs (c,j)=>cs.setIfInBounds (p.1+j) c) arr) (vparts:=vr) h (by rw[hset]; exact hv.splice hvs p.1) (fun j p' hj=>by have:=hp (j+1) p' (by simpa using hj); simpa using this) (by simpa using hl)
   refine⟨arr',?_,h2⟩
   unfold Instr.fill
   rw[hpl]
   obtain ⟨p1,p2⟩:=p
   simp only at hsz hfit ⊢
   rw[if_neg (by simp[hsz]; omega)]
   exact h1
theorem zeroT_spec {t:TypeId} {z:List A} (h:zeroT P t=some z):∃ i v,P.info? t=some i/\i.zero=some v/\z=v.cells.toList.map ofC:=by
 unfold zeroT at h
 cases hi:P.info? t with
 | none=>rw[hi] at h; cases h
 | some i =>
  rw[hi] at h
  simp only[Option.bind_some] at h
  cases hz:i.zero with
  | none=>rw[hz] at h; cases h
  | some v=>rw[hz] at h; cases h; exact⟨i,v,rfl,hz,rfl⟩
def PartsR (H:Heap) (g:Gh) (w:World) (parts:List (Nat×A)) (vparts:List (Nat×Value)):Prop:=vparts.length=parts.length/\∀ (i:Nat) p,parts[i]? = some p->∃ q,vparts[i]? = some q/\q.1=p.1/\VR H g w p.2 q.2
theorem aBuild_sound {t:TypeId} {parts:List (Nat×A)} {vparts:Array (Nat×Value)} {y:A} (h:aBuild P t parts=some y) (hp:PartsR H g w parts vparts.toList):∃ d,(Instr.build t vparts).run P w=.ok d w/\VR H g w y d:=by
 unfold aBuild at h
 replace h:=bnd h
 obtain ⟨z,hz,h⟩:=h
 replace h:=bnd h
 obtain ⟨place,hpl,h⟩:=h
 obtain ⟨it,v,hi,hv,rfl⟩:=zeroT_spec hz
 cases hf:fillA place (v.cells.toList.map ofC) parts with
 | none=>rw[hf] at h; cases h
 | some ds =>
  rw[hf] at h
  cases h
  obtain ⟨arr,h1,h2⟩:=fill_VR (arr:=v.cells) hf (ofC_VRs _) (fun i p hi=>hp.2 i p hi) hp.1
  refine⟨.agg arr,run_build w t vparts arr ?_,by rw[VR]; exact⟨arr,rfl,h2⟩⟩
  unfold placesT at hpl
  unfold Program.built
  rw[hi]
  split at hpl
  ·rename_i fs hu
   rw[hu]
   cases hm:(fs.toList.mapM fun f=>(P.info? f.type).map fun i=>(f.offset,i.size)) with
   | none=>rw[hm] at hpl; cases hpl
   | some places =>
    rw[hm] at hpl
    cases hpl
    simp only[hv,hm]
    exact h1
  ·rename_i n e hu
   rw[hu]
   cases hie:P.info? e with
   | none=>rw[hie] at hpl; cases hpl
   | some ie =>
    rw[hie] at hpl
    cases hpl
    simp only[hv,hie]
    exact h1
  ·cases hpl
end Go.Proofs.Ytdmgdjnadbakfaa
