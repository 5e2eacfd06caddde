/-
 One operation of the interpreter, and regions in the text's order: as the model's.
-/
import Derived.Test.YtdmgdjnadbakfaaEvMap
import Derived.TacticsIn
import Derived.Lib.SliceRun
namespace Go.Proofs.Ytdmgdjnadbakfaa
open Go.RowKit
def WideA (F:Fence):Prop:=F.depth=none/\(∀ f,F.fn f)/\F.alive=false
theorem wideA_wide:WideA Fence.wide:=⟨rfl,fun _=>trivial,rfl⟩
theorem fenced_wideA {F:Fence} (h:WideA F) (P:Program) (m:Machine):m.fenced P F:=fun g _ =>
 ⟨fun ha=>(by rw[h.2.2] at ha; cases ha),.inl (h.2.1 _),fun f _=>h.2.1 f,fun d hd=>(by rw[h.1] at hd; cases hd)⟩
theorem callsIn_of_calls {F:Fence} {n:Nat} {P:Program} {f:FuncId} {args:Array Value} {w:World} {R:Ending->World->Prop} (hF:WideA F) (h:Calls P f args w R):CallsIn F n P f args w R :=
 ⟨hF.2.1 f,fun cs _=>let ⟨e,w',fr,r,s,x⟩:=h cs; ⟨e,w',fr,r,(by cases e with
  | returned v=>exact(StepsIn.of_steps s).mono fun m _=>fenced_wideA hF P m
  | panicked v=>exact(StepsIn.of_steps s).mono fun m _=>fenced_wideA hF P m
  | outgrown=>exact s),x⟩⟩
def G0 (S:Nat->Nat->Prop):Gh:=⟨fun _=>none,fun _=>[],S,fun _=>loop0⟩
def CallOK (P:Program) (glob:Nat->Option (List Value)) (k:Nat) (args:List A) (r:A):Prop :=
 ∀ (S:Nat->Nat->Prop) (w:World) (cargs:List Value),(∀ k o,w.heap.size<=k->S k o)->(∀ (G:Nat) (vs:List Value),glob G=some vs->CellsAt [] (G0 S) w G 0 vs)->VRs [] (G0 S) w args cargs ->
  Calls P k cargs.toArray w fun e w'=>∃ c,e=.returned c/\Below w.heap.size w w'/\VR [] (G0 S) w' r c
variable {H H':Heap} {g g':Gh} {w0 w w':World}
mutual
theorem snapW_VR {G:Nat->Nat->Nat->A} {S:Nat->Nat->Prop} (hS:∀ k o,Stab H g k o->S k o) (hG:∀ b o m cl c,VR H g w (.sl b o m cl) c->VR [] (G0 S) w (G b o m) c):∀ (a:A) (c:Value),VR H g w a c->VR [] (G0 S) w (snapW G a) c
 | .any,_,_=>by simp only[snapW]; rw[VR]; trivial
 | .v x,c,h=>by simp only[snapW]; rw[VR] at h ⊢; exact h
 | .ptr ..,_,_=>by simp only[snapW]; rw[VR]; trivial
 | .ep ..,_,_=>by simp only[snapW]; rw[VR]; trivial
 | .ip _,_,_=>by simp only[snapW]; rw[VR]; trivial
 | .imm els clip,c,h=>by
  simp only[snapW]
  rw[VR] at h ⊢
  obtain ⟨a,cap,ds,es,h1,h2,h3,h4,h5,h6⟩:=h
  have hv:=snapWss_VR hS hG els ds h6
  have hl:(snapWss G els).length=els.length:=by rw[<-hv.length,h6.length]
  exact⟨a,cap,ds,es,by rw[hl]; exact h1,by rw[hl]; exact h2,fun h=>(by cases h),h4,fun hp=>let ⟨k,off,e1,e2⟩:=h5 (by rw[hl] at hp; exact hp); ⟨k,off,e1,fun j v hj=>⟨(e2 j v hj).1,hS _ _ (e2 j v hj).2,fun b hb=>by cases hb⟩⟩,hv⟩
 | .sl b o m cl,c,h=>by simp only[snapW]; exact hG b o m cl c h
 | .agg cs,c,h=>by
  simp only[snapW]
  rw[VR] at h ⊢
  obtain ⟨ds,h1,h2⟩:=h
  exact⟨ds,h1,snapWs_VR hS hG cs _ h2⟩
 | .tup cs,c,h=>by
  simp only[snapW]
  rw[VR] at h ⊢
  obtain ⟨ds,h1,h2⟩:=h
  exact⟨ds,h1,snapWs_VR hS hG cs _ h2⟩
 | .fn f [] [],c,h=>by
  simp only[snapW]
  rw[VR] at h ⊢
  obtain ⟨ds,es,h1,h2,h3⟩:=h
  rw[VRs] at h2 h3
  exact⟨ds,es,h1,by rw[VRs]; exact h2,by rw[VRs]; exact h3⟩
 | .fn _ (_ :: _) _,_,_=>by simp only[snapW]; rw[VR]; trivial
 | .fn _ [] (_ :: _),_,_=>by simp only[snapW]; rw[VR]; trivial
 | .yld _,c,h=>by simp only[snapW]; rw[VR]; trivial
 | .nq _,c,h=>by simp only[snapW]; rw[VR]; trivial
 | .mr _,c,h=>by simp only[snapW]; rw[VR]; trivial
 | .mv k ks vs,c,h=>by
  simp only[snapW]
  rw[VR] at h ⊢
  obtain ⟨r,arr,cl,h1,h2,h3,h4,h5⟩:=h
  exact⟨r,arr,cl,h1,⟨hS _ _ h2,fun b hb=>by cases hb⟩,h3,h4,snapWs_VR hS hG vs _ h5⟩
 | .ifc t x,c,h=>by
  simp only[snapW]
  rw[VR] at h ⊢
  obtain ⟨d,h1,h2⟩:=h
  exact⟨d,h1,snapW_VR hS hG x d h2⟩
theorem snapWs_VR {G:Nat->Nat->Nat->A} {S:Nat->Nat->Prop} (hS:∀ k o,Stab H g k o->S k o) (hG:∀ b o m cl c,VR H g w (.sl b o m cl) c->VR [] (G0 S) w (G b o m) c):∀ (cs:List A) (ds:List Value),VRs H g w cs ds->VRs [] (G0 S) w (snapWs G cs) ds
 | [],_,h=>by simp only[snapWs]; rw[VRs] at h ⊢; exact h
 | a :: as,_,h=>by
  simp only[snapWs]
  rw[VRs] at h ⊢
  obtain ⟨d,ds',h1,h2,h3⟩:=h
  exact⟨d,ds',h1,snapW_VR hS hG a d h2,snapWs_VR hS hG as ds' h3⟩
theorem snapWss_VR {G:Nat->Nat->Nat->A} {S:Nat->Nat->Prop} (hS:∀ k o,Stab H g k o->S k o) (hG:∀ b o m cl c,VR H g w (.sl b o m cl) c->VR [] (G0 S) w (G b o m) c):∀ (cs:List (List A)) (ds:List (List Value)),VRss H g w cs ds->VRss [] (G0 S) w (snapWss G cs) ds
 | [],_,h=>by simp only[snapWss]; rw[VRss] at h ⊢; exact h
 | a :: as,_,h=>by
  simp only[snapWss]
  rw[VRss] at h ⊢
  obtain ⟨d,ds',h1,h2,h3⟩:=h
  exact⟨d,ds',h1,snapWs_VR hS hG a d h2,snapWss_VR hS hG as ds' h3⟩
end
theorem row_cells {ds:List (List Value)} {es k o m:Nat} {arr:Array Value} {ty:TypeId} (hd:∀ d∈ds,d.length=es) (ha:w.heap[k]? = some (.cells arr ty (0,0))) (h:∀ (j:Nat) (v:Value),ds.flatten[j]? = some v->arr[j]? = some v) {j:Nat} {v:Value} (hj:((ds.drop o).take m).flatten[j]? = some v):w.cell? ⟨k,o*es+j,none⟩=some v:=by
 rw[cell_of_row w k _ arr ty (0,0) ha]
 refine h _ v ?_
 have e1:ds=ds.take o++((ds.drop o).take m++(ds.drop o).drop m):=by rw[List.take_append_drop,List.take_append_drop]
 by_cases ho:o<=ds.length
 ·have hl:(ds.take o).flatten.length=o*es:=by
   have:∀ l:List (List Value),(∀ d∈l,d.length=es)->l.flatten.length=l.length*es:=fun l hl=>by
    induction l with
    | nil=>simp
    | cons x l ih=>rw[List.flatten_cons,List.length_append,hl x (by simp),ih (fun d hd=>hl d (by simp[hd])),List.length_cons,Nat.add_mul]; omega
   rw[this _ (fun d hd'=>hd d (List.mem_of_mem_take hd')),List.length_take,Nat.min_eq_left ho]
  rw[e1,List.flatten_append,List.getElem?_append_right (by omega),hl,show o*es+j - o*es=j by omega,List.flatten_append]
  rw[List.getElem?_append_left (List.getElem?_eq_some_iff.1 hj).1]
  exact hj
 ·rw[List.drop_eq_nil_of_le (by omega)] at hj
  simp at hj
theorem snapG_VR (hr:Rel H g w0 w):∀ (q b o m:Nat) (cl:Bool) (c:Value),VR H g w (.sl b o m cl) c->VR [] (G0 (Stab H g)) w (snapG q H b o m) c
 | 0,_,_,_,_,_,_=>by simp only[snapG]; rw[VR]; trivial
 | q+1,b,o,m,cl,c,h=>by
  simp only[snapG]
  split
  ·rename_i es els hb
   rw[VR,hb] at h
   obtain ⟨h0,a,cap,rfl,h1,h2,h3,_⟩:=h
   obtain ⟨hga,hgl⟩:=hr.blk b _ hb
   have hv:=snapWss_VR (fun _ _ h=>h) (fun b o m cl c h=>snapG_VR hr q b o m cl c h) _ _ ((hga.drop o).take m)
   have hl:(snapWss (snapG q H) ((els.drop o).take m)).length=m:=by rw[<-hv.length]; simp[hga.length]; omega
   rw[VR]
   exact⟨a,cap,_,es,by rw[hl],by rw[hl]; exact h1,fun h=>(by cases h),fun d hd=>hgl d (List.mem_of_mem_drop (List.mem_of_mem_take hd)),fun hp=>let ⟨k,off,e1,e2⟩:=h3 (by rw[hl] at hp; exact hp); ⟨k,off,e1,fun j v hj=>⟨(e2 j v hj).1,(e2 j v hj).2,fun b hb=>by cases hb⟩⟩,hv⟩
  ·rw[VR]; trivial
theorem snapGE_VR (hr:Rel H g w0 w):∀ (q b o m:Nat) (cl:Bool) (c:Value),VR H g w (.sl b o m cl) c->VR [] (G0 g.S) w (snapGE q H b o m) c
 | 0,_,_,_,_,_,_=>by simp only[snapGE]; rw[VR]; trivial
 | q+1,b,o,m,cl,c,h=>by
  simp only[snapGE]
  split
  ·rename_i wr es els hb
   rw[VR,hb] at h
   have hS:∀ k o,Stab H g k o->g.S k o:=fun k o h=>h.1
   cases wr with
   | false =>
    obtain ⟨h0,a,cap,rfl,h1,h2,h3,_⟩:=h
    obtain ⟨hga,hgl⟩:=hr.blk b _ hb
    have hv:=snapWss_VR hS (fun b o m cl c h=>snapGE_VR hr q b o m cl c h) _ _ ((hga.drop o).take m)
    have hl:(snapWss (snapGE q H) ((els.drop o).take m)).length=m:=by rw[<-hv.length]; simp[hga.length]; omega
    rw[VR]
    exact⟨a,cap,_,es,by rw[hl],by rw[hl]; exact h1,fun h=>(by cases h),fun d hd=>hgl d (List.mem_of_mem_drop (List.mem_of_mem_take hd)),fun hp=>let ⟨k,off,e1,e2⟩:=h3 (by rw[hl] at hp; exact hp); ⟨k,off,e1,fun j v hj=>⟨(e2 j v hj).1,(e2 j v hj).2.1,fun b hb=>by cases hb⟩⟩,hv⟩
   | true =>
    obtain ⟨h0,a,cap,rfl,h1,h2,h3⟩:=h
    obtain ⟨ds,d1,d2,d3⟩:=hr.blk b _ hb
    have hv:=snapWss_VR hS (fun b o m cl c h=>snapGE_VR hr q b o m cl c h) _ _ ((d1.drop o).take m)
    have hl:(snapWss (snapGE q H) ((els.drop o).take m)).length=m:=by rw[<-hv.length]; simp[d1.length]; omega
    rw[VR]
    refine⟨a,cap,_,es,by rw[hl],by rw[hl]; exact h1,fun h=>(by cases h),fun d hd=>d2 d (List.mem_of_mem_drop (List.mem_of_mem_take hd)),fun hp=>?_,hv⟩
    rw[hl] at hp
    obtain ⟨k,hk,ha⟩:=h3 hp
    obtain ⟨k',arr,ty,m1,m2,m3⟩:=d3 (by omega)
    rw[hk] at m1; cases m1
    exact⟨k,o*es,ha,fun j v hj=>⟨row_cells d2 m2 m3 hj,hr.own b k _ hk,fun b hb=>by cases hb⟩⟩
  ·rw[VR]; trivial
theorem snapE_VR (hr:Rel H g w0 w) (a:A) (c:Value) (h:VR H g w a c):VR [] (G0 g.S) w (snapE H a) c:=by
 unfold snapE
 split
 ·rename_i b
  split
  ·rename_i k ks vs hb
   rw[VR,hb] at h
   obtain ⟨r,h1,h2⟩:=h
   obtain ⟨r',arr,cl,e1,e2,e3,e4⟩:=hr.blk b _ hb
   rw[h1] at e1; cases e1
   rw[VR]
   exact⟨r,arr,cl,h2,⟨hr.own b r 0 h1,fun b hb=>by cases hb⟩,e2,e3,snapWs_VR (fun _ _ h=>h.1) (fun b o m cl c h=>snapGE_VR hr 4 b o m cl c h) _ _ e4⟩
  ·rw[VR]; trivial
 ·exact snapW_VR (fun _ _ h=>h.1) (fun b o m cl c h=>snapGE_VR hr 4 b o m cl c h) a c h
theorem VRs.dropN {S:Heap}:∀ (o:Nat) {cs:List A} {ds:List Value},VRs S g w cs ds->VRs S g w (cs.drop o) (ds.drop o)
 | 0,_,_,h=>h
 | o+1,[],_,h=>by rw[VRs] at h; subst h; rw[List.drop_nil,List.drop_nil,VRs]
 | o+1,a :: as,_,h=>by rw[VRs] at h; obtain ⟨d,ds',rfl,_,h3⟩:=h; exact VRs.dropN o h3
theorem snapD_VR (hr:Rel H g w0 w):∀ (n:Nat) (a:A) (c:Value),VR H g w a c->VR [] (G0 g.S) w (snapD n H a) c
 | 0,a,_,_=>by rw[show snapD 0 H a=.any from rfl,VR]; trivial
 | n+1,a,c,h=>by
  have hm:∀ (cs:List A) (ds:List Value),VRs H g w cs ds->VRs [] (G0 g.S) w (cs.map (snapD n H)) ds:=fun cs=>by
   induction cs with
   | nil=>intro ds h; rw[VRs] at h; rw[List.map_nil,VRs]; exact h
   | cons a as ih=>intro ds h; rw[VRs] at h; obtain ⟨d,ds',h1,h2,h3⟩:=h; rw[List.map_cons,VRs]; exact⟨d,ds',h1,snapD_VR hr n a d h2,ih ds' h3⟩
  cases a with
  | ptr b o =>
   show VR [] (G0 g.S) w (match H[b]? with | some (.box cs)=>A.ip ((cs.drop o).map (snapD n H)) | _=>.any) c
   split
   ·rename_i cs hb
    rw[VR,hb] at h
    obtain ⟨k,h1,rfl⟩:=h
    obtain ⟨k',arr,ty,e1,e2,e3⟩:=hr.blk b _ hb
    rw[h1] at e1; cases e1
    rw[VR]
    refine⟨k,o,arr.toList.drop o,rfl,fun j v hj=>⟨?_,hr.own b k _ h1,fun b hb=>by cases hb⟩,hm _ _ (e3.dropN o)⟩
    rw[cell_of_row w k _ arr ty (0,0) e2]
    rw[List.getElem?_drop] at hj
    simpa using hj
   ·rw[VR]; trivial
  | fn f p q =>
   rw[VR] at h
   obtain ⟨ds,es,h1,h2,h3⟩:=h
   show VR [] (G0 g.S) w (.fn f (p.map (snapD n H)) (q.map (snapD n H))) c
   rw[VR]
   exact⟨ds,es,h1,hm _ _ h2,hm _ _ h3⟩
  | agg cs =>
   rw[VR] at h
   obtain ⟨ds,h1,h2⟩:=h
   show VR [] (G0 g.S) w (.agg (cs.map (snapD n H))) c
   rw[VR]
   exact⟨ds,h1,hm _ _ h2⟩
  | _=>exact snapW_VR (fun _ _ h=>h.1) (fun b o m cl c h=>snapGE_VR hr 4 b o m cl c h) _ c h
theorem snapDs_VR (hr:Rel H g w0 w) (n:Nat):∀ (cs:List A) (ds:List Value),VRs H g w cs ds->VRs [] (G0 g.S) w (cs.map (snapD n H)) ds
 | [],_,h=>by rw[VRs] at h; rw[List.map_nil,VRs]; exact h
 | a :: as,_,h=>by rw[VRs] at h; obtain ⟨d,ds',h1,h2,h3⟩:=h; rw[List.map_cons,VRs]; exact⟨d,ds',h1,snapD_VR hr n a d h2,snapDs_VR hr n as ds' h3⟩
theorem snap_VR (hr:Rel H g w0 w) (a:A) (c:Value) (h:VR H g w a c):VR [] (G0 (Stab H g)) w (snap H a) c:=snapW_VR (fun _ _ h=>h) (fun b o m cl c h=>snapG_VR hr 4 b o m cl c h) a c h
theorem snaps_VR (hr:Rel H g w0 w) {l:List A} {cs:List Value} (h:VRs H g w l cs):VRs [] (G0 (Stab H g)) w (l.map (snap H)) cs:=by
 obtain ⟨h1,h2⟩:=VRs_iff.1 h
 refine VRs_iff.2 ⟨by simpa using h1,fun i a d ha hd=>?_⟩
 rw[List.getElem?_map] at ha
 cases hx:l[i]? with
 | none=>rw[hx] at ha; cases ha
 | some x=>rw[hx] at ha; cases ha; exact snap_VR hr x d (h2 i x d hx hd)
theorem VR.back {S:Nat->Nat->Prop} {x:A} {c:Value} (hS:∀ k o,S k o->Stab H g k o) (h:VR [] (G0 S) w x c):VR H g w x c :=
 VR.ext0 (H:=[]) (g:=G0 S) ⟨fun k o _ hs hc=>⟨hc,hS k o hs.1⟩,fun b B hB=>(by simp at hB),fun k arr cl hs hm=>⟨hm,hS k 0 hs.1⟩⟩ x c h
theorem frz1_VR (hr:Rel H g w0 w) {a:A} {c:Value} (h:VR H g w a c):VR H g w (frz1 H a) c:=by
 unfold frz1
 split
 ·exact VR.back (fun _ _ h=>h) (snap_VR hr _ c h)
 ·rw[VR] at h ⊢
  obtain ⟨a,cap,ds,es,h1,h2,_,h4,h5,h6⟩:=h
  exact⟨a,cap,ds,es,h1,h2,fun h=>(by cases h),h4,h5,h6⟩
 ·exact h
theorem frz1s_VR (hr:Rel H g w0 w):∀ {cs:List A} {ds:List Value},VRs H g w cs ds->VRs H g w (cs.map (frz1 H)) ds
 | [],_,h=>h
 | a :: as,_,h=>by
  rw[VRs] at h
  obtain ⟨d,ds',rfl,h1,h2⟩:=h
  rw[List.map_cons,VRs]
  exact⟨d,ds',rfl,frz1_VR hr h1,frz1s_VR hr h2⟩
theorem frzA_VR (hr:Rel H g w0 w) {a:A} {c:Value} (h:VR H g w a c):VR H g w (frzA H a) c:=by
 unfold frzA
 split
 ·exact VR.back (fun _ _ h=>h) (snap_VR hr _ c h)
 ·rw[VR] at h ⊢
  obtain ⟨ds,h1,h2⟩:=h
  exact⟨ds,h1,frz1s_VR hr h2⟩
 ·exact h
theorem stV_VR (hr:Rel H g w0 w) {b a:A} {c:Value} (h:VR H g w a c):VR H g w (stV b H a) c:=by
 unfold stV
 split
 ·exact frzA_VR hr h
 ·exact h
theorem Ext.refl (hr:Rel H g w0 w):Ext H g w H g w:=Ext.below hr (Below.refl _ _)
theorem Ext.trans {H1 H2 H3:Heap} {g1 g2 g3:Gh} {w1 w2 w3:World} (h:Ext H1 g1 w1 H2 g2 w2) (k:Ext H2 g2 w2 H3 g3 w3):Ext H1 g1 w1 H3 g3 w3:=by
 refine⟨fun a o v hs hc=>?_,fun b B hB=>?_,fun a o ho=>k.kept a o (h.kept a o ho),Nat.le_trans h.size k.size,fun a arr cl hs hm=>let ⟨c1,s1⟩:=h.map a arr cl hs hm; k.map a arr cl s1 c1,fun a ha hn=>(k.obj a (Nat.lt_of_lt_of_le ha h.size) fun b hb=>?_).trans (h.obj a ha hn),fun b a hb=>?_⟩
 rotate_right 2
 ·rcases h.fresh b a hb with ⟨c,hc⟩ | hle
  ·exact hn c hc
  ·omega
 ·rcases k.fresh b a hb with ⟨c,hc⟩ | hle
  ·exact h.fresh c a hc
  ·exact .inr (Nat.le_trans h.size hle)
 ·obtain ⟨c1,s1⟩:=h.cell a o v hs hc
  exact k.cell a o v s1 c1
 ·obtain ⟨B2,hB2,t1⟩:=h.blk b B hB
  obtain ⟨B3,hB3,t2⟩:=k.blk b B2 hB2
  refine⟨B3,hB3,?_⟩
  by_cases hB0:B=.hole
  ·subst hB0; trivial
  cases B3 with
  | dead=>cases B with
   | row wr _ _=>cases wr<;>trivial
   | _=>trivial
  | hole=>cases B2 with
   | hole=>cases B with
    | row wr _ _=>cases wr<;>exact False.elim t1
    | hole=>exact absurd rfl hB0
    | _=>exact False.elim t1
   | row wr _ _=>cases wr<;>exact False.elim t2
   | _=>exact False.elim t2
  | box cs3=>cases B2 with
   | box cs2=>cases B with
    | box cs=>exact Eq.trans t2 t1
    | row wr _ _=>cases wr<;>exact False.elim t1
    | rng _=>exact False.elim t1
    | mp _ _ _=>exact False.elim t1
    | dead=>exact False.elim t1
    | hole=>exact absurd rfl hB0
   | row wr _ _=>cases wr<;>exact False.elim t2
   | rng _=>exact False.elim t2
   | mp _ _ _=>exact False.elim t2
   | dead=>exact False.elim t2
   | hole=>cases B with
    | hole=>exact absurd rfl hB0
    | row wr _ _=>cases wr<;>exact False.elim t1
    | _=>exact False.elim t1
  | rng st3=>cases B2 with
   | rng st2=>cases B with
    | rng st=>exact⟨t2.1.trans t1.1,t2.2.trans t1.2⟩
    | row wr _ _=>cases wr<;>exact False.elim t1
    | box _=>exact False.elim t1
    | mp _ _ _=>exact False.elim t1
    | dead=>exact False.elim t1
    | hole=>exact absurd rfl hB0
   | row wr _ _=>cases wr<;>exact False.elim t2
   | box _=>exact False.elim t2
   | mp _ _ _=>exact False.elim t2
   | dead=>exact False.elim t2
   | hole=>cases B with
    | hole=>exact absurd rfl hB0
    | row wr _ _=>cases wr<;>exact False.elim t1
    | _=>exact False.elim t1
  | mp k3 ks3 vs3=>cases B2 with
   | mp k2 ks2 vs2=>cases B with
    | mp _ _ _=>exact Eq.trans t2 t1
    | rng _=>exact False.elim t1
    | row wr _ _=>cases wr<;>exact False.elim t1
    | box _=>exact False.elim t1
    | dead=>exact False.elim t1
    | hole=>exact absurd rfl hB0
   | row wr _ _=>cases wr<;>exact False.elim t2
   | box _=>exact False.elim t2
   | rng _=>exact False.elim t2
   | dead=>exact False.elim t2
   | hole=>cases B with
    | hole=>exact absurd rfl hB0
    | row wr _ _=>cases wr<;>exact False.elim t1
    | _=>exact False.elim t1
  | row wr3 es3 els3=>cases wr3 with
   | true=>cases B2 with
    | box _=>exact False.elim t2
    | rng _=>exact False.elim t2
    | mp _ _ _=>exact False.elim t2
    | dead=>exact False.elim t2
    | hole=>cases B with
     | hole=>exact absurd rfl hB0
     | row wr _ _=>cases wr<;>exact False.elim t1
     | _=>exact False.elim t1
    | row wr2 es2 els2=>cases wr2 with
     | false=>exact False.elim t2
     | true=>cases B with
      | box _=>exact False.elim t1
      | rng _=>exact False.elim t1
      | mp _ _ _=>exact False.elim t1
      | dead=>exact False.elim t1
      | hole=>exact absurd rfl hB0
      | row wr es els=>cases wr with
       | false=>exact False.elim t1
       | true =>
        obtain ⟨a1,a2,a3⟩:=t1
        obtain ⟨b1,b2,b3⟩:=t2
        exact⟨b1.trans a1,b2.trans a2,b3.trans a3⟩
   | false=>cases B2 with
    | box _=>exact False.elim t2
    | rng _=>exact False.elim t2
    | mp _ _ _=>exact False.elim t2
    | dead=>exact False.elim t2
    | hole=>cases B with
     | hole=>exact absurd rfl hB0
     | row wr _ _=>cases wr<;>exact False.elim t1
     | _=>exact False.elim t1
    | row wr2 es2 els2=>cases wr2 with
     | true=>exact False.elim t2
     | false=>cases B with
      | box _=>exact False.elim t1
      | rng _=>exact False.elim t1
      | mp _ _ _=>exact False.elim t1
      | dead=>exact False.elim t1
      | hole=>exact absurd rfl hB0
      | row wr es els=>cases wr with
       | true=>exact False.elim t1
       | false =>
        obtain ⟨a1,⟨r1,a2⟩,a3,a4,a5⟩:=t1
        obtain ⟨b1,⟨r2,b2⟩,b3,b4,b5⟩:=t2
        refine⟨b1.trans a1,⟨r1++r2,by rw[b2,a2,List.append_assoc]⟩,a3,by omega,fun hl=>?_⟩
        obtain ⟨c1,c2⟩:=a5 (by omega)
        obtain ⟨d1,d2⟩:=b5 (by omega)
        refine⟨d1.trans c1,fun j arr ty hj ha=>?_⟩
        obtain ⟨arr',e1,e2⟩:=c2 j arr ty hj ha
        obtain ⟨arr'',f1,f2⟩:=d2 j arr' ty (c1.trans hj) e1
        exact⟨arr'',f1,by omega⟩
structure SR (cx:Cx) (s:St) (g:Gh) (w0:World) (a:Act) (w:World):Prop where
 rel:Rel s.H g w0 w
 fr:∀ t,VR s.H g w (look s.fr t) (a.tmps.getD t undef)
 gl:∀ (G:Nat) (vs:List Value),cx.glob G=some vs->CellsAt s.H g w G 0 vs
variable {cx:Cx} {s:St} {a:Act}
structure OpR (cx:Cx) (s:St) (g:Gh) (w0:World) (o:Op) (ev:Operand->Value) (w:World):Prop where
 rel:Rel s.H g w0 w
 op:∀ x∈o.operands.toList,VR s.H g w (opd cx s x) (ev x)
 k:∀ x,ev (.const x)=x
theorem glob_VR {G:Nat} {vs:List Value} (h:CellsAt H g w G 0 vs):VR H g w (.ip (vs.map .v)) (.pointer (some ⟨G,0,none⟩)):=by
 rw[VR]
 exact⟨G,0,vs,rfl,h,VRs_iff.2 ⟨by simp,fun i x d hx hd=>by rw[List.getElem?_map,hd] at hx; cases hx; rw[VR]⟩⟩
theorem opd_VR {x:Operand} (hf:∀ t,x=.tmp t->VR s.H g w (look s.fr t) (a.tmps.getD t undef)) (gl:∀ (G:Nat) (vs:List Value),cx.glob G=some vs->CellsAt s.H g w G 0 vs):VR s.H g w (opd cx s x) (a.eval x):=by
 cases x with
 | tmp t=>exact hf t rfl
 | const v=>exact ofV_VR v
 | global G =>
  show VR s.H g w (match cx.glob G with | some vs=>.ip (vs.map .v) | none=>.any) _
  cases hG:cx.glob G with
  | none=>rw[VR]; trivial
  | some vs=>exact glob_VR (gl G vs hG)
 | func f =>
  show VR s.H g w (.fn (.func f) [] []) (.func (.func f) #[] #[])
  rw[VR]; exact⟨#[],#[],rfl,by rw[VRs],by rw[VRs]⟩
theorem SR.opr (h:SR cx s g w0 a w) (o:Op):OpR cx s g w0 o a.eval w:=⟨h.rel,fun _ _=>opd_VR (fun t _=>h.fr t) h.gl,fun _=>rfl⟩
variable {o:Op} {ev:Operand->Value}
theorem OpR.one (h:OpR cx s g w0 o ev w) (x:Operand) (hx:x∈o.operands.toList):VR s.H g w (opd cx s x) (ev x):=h.op x hx
theorem OpR.many (h:OpR cx s g w0 o ev w) (l:List Operand) (hl:∀ x∈l,x∈o.operands.toList):VRs s.H g w (l.map (opd cx s)) (l.map ev) :=
 VRs_iff.2 ⟨by simp,fun i x d hx hd=>by
  simp only[List.getElem?_map,Option.map_eq_some_iff] at hx hd
  obtain ⟨y,hy,rfl⟩:=hx
  obtain ⟨y',hy',rfl⟩:=hd
  rw[hy] at hy'; cases hy'
  exact h.op y (hl y (List.mem_of_getElem? hy))⟩
theorem OpR.parts (h:OpR cx s g w0 o ev w) (l:Array (Nat×Operand)) (hl:∀ p∈l.toList,p.2∈o.operands.toList):PartsR s.H g w (l.toList.map fun p=>(p.1,opd cx s p.2)) (l.map fun (i,x)=>(i,ev x)).toList :=
 ⟨by simp,fun i p hp=>by
  simp only[List.getElem?_map,Option.map_eq_some_iff] at hp
  obtain ⟨q,hq,rfl⟩:=hp
  refine⟨(q.1,ev q.2),?_,rfl,h.op _ (hl q (List.mem_of_getElem? hq))⟩
  simp[hq]⟩
theorem OpR.partsF (h:OpR cx s g w0 o ev w) (l:Array (Nat×Operand)) (hl:∀ p∈l.toList,p.2∈o.operands.toList):PartsR s.H g w (l.toList.map fun p=>(p.1,frzA s.H (opd cx s p.2))) (l.map fun (i,x)=>(i,ev x)).toList :=
 ⟨by simp,fun i p hp=>by
  simp only[List.getElem?_map,Option.map_eq_some_iff] at hp
  obtain ⟨q,hq,rfl⟩:=hp
  refine⟨(q.1,ev q.2),?_,rfl,frzA_VR h.rel (h.op _ (hl q (List.mem_of_getElem? hq)))⟩
  simp[hq]⟩
theorem OpR.opt (h:OpR cx s g w0 o ev w) (x:Option Operand) (hx:∀ y,x=some y->y∈o.operands.toList):VRo s.H g w (x.map (opd cx s)) (x.map ev):=by
 cases x with
 | none=>trivial
 | some x=>exact h.op x (hx x rfl)
theorem look_put (fr:List (Nat×A)) (d t:Nat) (x:A):look ((d,x) :: fr) t=if d=t then x else look fr t:=by
 show (bif Nat.beq d t then x else look fr t)=_
 by_cases e:d=t
 ·subst e; simp
 ·have:Nat.beq d t=false:=by cases hb:Nat.beq d t with
   | false=>rfl
   | true=>exact absurd (Nat.eq_of_beq_eq_true hb) e
  rw[this,if_neg e]; rfl
theorem SR.step (h:SR cx s g w0 a w) {H':Heap} (hr:Rel H' g' w0 w') (he:Ext s.H g w H' g' w') {dst:Option Nat} {x:A} {c:Value} (hx:VR H' g' w' x c) (hd:∀ d,dst=some d->d<a.tmps.size):SR cx (({ s with H:=H' }:St).put dst x) g' w0 (a.put dst c) w':=by
 have hH:(({ s with H:=H' }:St).put dst x).H=H':=by cases dst<;>rfl
 refine⟨by rw[hH]; exact hr,fun t=>?_,fun G vs hG=>by rw[hH]; exact(h.gl G vs hG).ext he⟩
 rw[hH]
 cases dst with
 | none=>exact VR.ext he _ _ (h.fr t)
 | some d =>
  show VR H' g' w' (look ((d,x) :: s.fr) t) _
  rw[look_put]
  by_cases e:d=t
  ·subst e
   rw[if_pos rfl]
   have:=hd d rfl
   simp only[Act.put]
   rw[Array.getD_eq_getD_getElem?,Array.getElem?_setIfInBounds_self_of_lt this]
   exact hx
  ·rw[if_neg e]
   simp only[Act.put]
   rw[Array.getD_eq_getD_getElem?,Array.getElem?_setIfInBounds_ne e,<-Array.getD_eq_getD_getElem?]
   exact VR.ext he _ _ (h.fr t)
def Ops (s:St) (g:Gh) (w0 w:World) (lo:Nat) (res:Result Next) (K:A->Heap->Prop):Prop :=
 ∃ c w' x H' g',(res=.ok (.value c) w'∨(res=.ok .skip w'/\c=undef))/\K x H'/\Rel H' g' w0 w'/\Ext s.H g w H' g' w'/\VR H' g' w' x c/\s.H.length<=H'.length/\(∀ b,b<lo->b<s.H.length->H'[b]? = s.H[b]?)/\g'.S=g.S
theorem Ops.same {lo:Nat} {res:Result Next} {K:A->Heap->Prop} (h:Rel s.H g w0 w) {x:A} {c:Value} (hres:res=.ok (.value c) w) (hK:K x s.H) (hx:VR s.H g w x c):Ops s g w0 w lo res K :=
 ⟨c,w,x,s.H,g,.inl hres,hK,h,Ext.refl h,hx,Nat.le_refl _,fun _ _ _=>rfl,rfl⟩
theorem Ops.fresh {lo:Nat} {res:Result Next} {K:A->Heap->Prop} (h:Rel s.H g w0 w) {x:A} {c:Value} (hres:res=.ok (.value c) w') (hb:Below w.heap.size w w') (hK:K x s.H) (hx:VR s.H g w' x c):Ops s g w0 w lo res K :=
 ⟨c,w',x,s.H,g,.inl hres,hK,h.of_below hb,Ext.below h hb,hx,Nat.le_refl _,fun _ _ _=>rfl,rfl⟩
theorem Ops.of_step {lo:Nat} {res:Result Value} {res':Result Next} {K:A->Heap->Prop} {x:A} {H':Heap} (h:Step s.H g w0 w lo res x H') (hres:∀ d w',res=.ok d w'->res'=.ok (.value d) w') (hK:K x H'):Ops s g w0 w lo res' K :=
 let ⟨d,w',g',e1,e2,e3,e4,e5,e6,e7⟩:=h; ⟨d,w',x,H',g',.inl (hres d w' e1),hK,e2,e3,e4,e5,e6,e7⟩
theorem vrun {P:Program} {sem:Sem Value} {d:Value} (h:sem.run P w=.ok d w'):(do pure (.value (<-sem)):Sem Next).run P w=.ok (.value d) w':=by simp[h]
theorem aMM_sound {P:Program} {mn:Bool}:∀ {ys:List A} {ds:List Value} {x z:A} {c:Value},aMM mn x ys=some z->VR H g w x c->VRs H g w ys ds->∃ d,(ds.foldlM (if mn then Builtin.min2 else Builtin.max2) c).run P w=.ok d w/\VR H g w z d
 | [],ds,x,z,c,h,hx,hy=>by
  rw[VRs] at hy
  subst hy
  simp only[aMM,Option.some.injEq] at h
  subst h
  exact⟨c,by simp,hx⟩
 | y :: r,ds,x,z,c,h,hx,hy=>by
  rw[VRs] at hy
  obtain ⟨d,ds',rfl,hy1,hy2⟩:=hy
  simp only[aMM] at h
  obtain ⟨u,h1,h2⟩:=bnd h
  unfold aMinMax at h1
  split at h1
  ·rename_i k p l q
   obtain ⟨h3,h4⟩:=csome h1
   cases h4
   rw[VR] at hx hy1
   subst hx; subst hy1
   have hu:VR H g w (.v (.int k (if mn=true then (if q<p then q else p) else (if p<q then q else p)))) (.int k (if mn=true then (if q<p then q else p) else (if p<q then q else p))):=by rw[VR]
   obtain ⟨e,e1,e2⟩:=aMM_sound (P:=P) h2 hu hy2
   refine⟨e,?_,e2⟩
   rw[List.foldlM_cons,Sem.run_bind]
   cases mn
   ·simp only[Bool.false_eq_true,if_false] at e1 ⊢
    simp only[Builtin.max2,gt_iff_lt,Sem.run_pure,Result.andThen_ok]
    exact e1
   ·simp only[if_true] at e1 ⊢
    simp only[Builtin.min2,Sem.run_pure,Result.andThen_ok]
    exact e1
  ·cases h1
theorem args_of {l:Array Operand} {xs:List Operand} (h:l.toList=xs):l=xs.toArray:=by rw[<-h]
theorem evBI_sound {β:Type} {f lo:Nat} {o:Oper} {c:Call} {k:A->Heap->Option β} {r:β} (hs:OpR cx s g w0 (.call c) ev w) (h:evBI cx f lo o.dst c s k=some r):Ops s g w0 w lo ((do let d <-resolve ev c o.type; invoke d.target d.args:Sem Next).run cx.P w) (fun x H'=>k x H'=some r):=by
 unfold evBI at h
 obtain ⟨callee,args,argTypes⟩:=c
 simp only at h
 split at h
 ·rename_i x t e1 e2
  cases args_of e1
  have ht:argTypes=#[t]:=by rw[<-Array.toArray_toList (xs:=argTypes),e2]
  subst ht
  replace h:=bnd h
  obtain ⟨z,h1,h⟩:=h
  obtain ⟨d,e1,e2⟩:=aLen_sound (ty:=o.type) h1 (hs.one x (by simp[Op.operands,Call.operands]))
  exact Ops.same hs.rel (by simp[resolve,invoke,builtin,e1]) h e2
 ·rename_i x y t t2 e1 e2
  cases args_of e1
  have ht:argTypes=#[t,t2]:=by rw[<-Array.toArray_toList (xs:=argTypes),e2]
  subst ht
  replace h:=bnd h
  obtain ⟨⟨z,H'⟩,h1,h⟩:=h
  exact Ops.of_step (aAppend_sound (ty:=o.type) hs.rel h1 (hs.one x (by simp[Op.operands,Call.operands])) (hs.one y (by simp[Op.operands,Call.operands]))) (fun d w' e=>by simp[resolve,invoke,builtin,e]) h
 ·rename_i x y t t2 e1 e2
  cases args_of e1
  have ht:argTypes=#[t,t2]:=by rw[<-Array.toArray_toList (xs:=argTypes),e2]
  subst ht
  replace h:=bnd h
  obtain ⟨⟨z,H'⟩,h1,h⟩:=h
  exact Ops.of_step (aCopy_sound (t2:=t2) (ty:=o.type) hs.rel h1 (hs.one x (by simp[Op.operands,Call.operands])) (hs.one y (by simp[Op.operands,Call.operands]))) (fun d w' e=>by simp[resolve,invoke,builtin,e]) h
 ·rename_i x r e1
  cases args_of e1
  replace h:=bnd h
  obtain ⟨z,h1,h⟩:=h
  obtain ⟨d,e1,e2⟩:=aMM_sound (P:=cx.P) h1 (hs.one x (by simp[Op.operands,Call.operands])) (hs.many r (by simp[Op.operands,Call.operands]; exact fun y hy=>.inr hy))
  simp only[if_true] at e1
  exact Ops.same hs.rel (by simp[resolve,invoke,builtin,Builtin.min_,e1]) h e2
 ·rename_i x r e1
  cases args_of e1
  replace h:=bnd h
  obtain ⟨z,h1,h⟩:=h
  obtain ⟨d,e1,e2⟩:=aMM_sound (P:=cx.P) h1 (hs.one x (by simp[Op.operands,Call.operands])) (hs.many r (by simp[Op.operands,Call.operands]; exact fun y hy=>.inr hy))
  simp only[Bool.false_eq_true,if_false] at e1
  exact Ops.same hs.rel (by simp[resolve,invoke,builtin,Builtin.max_,e1]) h e2
 ·cases h
theorem aNq_sound {P:Program} {H:Heap} {t:TypeId} {op:BinOp} {p y:Operand} {x z:A} {c d:Value} (hn:nilT op y=true) (h:aNq P t x=some z) (hx:VR H g w x c) (hd:∀ v,y=.const v->d=v) :
  ∃ e,(do eqGuard op t p y c d; binOp op t c d:Sem Value).run P w=.ok e w/\VR H g w z e:=by
 unfold nilT at hn
 split at hn
 ·have hd:=hd _ rfl
  subst hd
  unfold aNq at h
  split at h
  ·rename_i e els cl hu
   cases h
   rw[VR] at hx
   obtain ⟨a,cap,ds,es,rfl,h1,h2,h3,h4,h5⟩:=hx
   have hem:a.isNone=true->els=[]:=fun hb=>by
    cases els with
    | nil=>rfl
    | cons x l =>
     obtain ⟨k,off,e1,_⟩:=h4 (by simp)
     rw[e1] at hb; cases hb
   refine⟨.bool a.isNone,?_,by rw[VR]; exact⟨_,rfl,hem⟩⟩
   ·have h1:=Lib.run_eql_slice_nil (P:=P) w t e a els.length cap 0 0 hu
    have h2:(eqGuard .eql t p (.const (.slice none 0 0)) (.slice a els.length cap) (.slice none 0 0)).run P w=.ok () w:=by cases a<;>rfl
    simp only[Sem.run_bind,h2,Result.andThen_ok,h1]
  ·cases h
 ·cases hn
theorem nonNil_val {H:Heap} {a:A} {c:Value} (h:nonNil H a=true) (hv:VR H g w a c):(∃ ad,c=.pointer (some ad))∨∃ f x y,c=.func (.func f) x y:=by
 cases a with
 | ptr b o =>
  rw[VR] at hv
  simp only[nonNil,refOK] at h
  cases hb:H[b]? with
  | none=>rw[hb] at h; cases h
  | some B=>cases B with
   | box _=>rw[hb] at hv; obtain ⟨k,_,e⟩:=hv; exact .inl ⟨_,e⟩
   | _=>rw[hb] at h; cases h
 | ep b i o =>
  rw[VR] at hv
  simp only[nonNil,refOK] at h
  cases hb:H[b]? with
  | none=>rw[hb] at h; cases h
  | some B=>cases B with
   | row wr _ _=>cases wr with
    | true=>rw[hb] at hv; obtain ⟨_,k,_,e⟩:=hv; exact .inl ⟨_,e⟩
    | false=>rw[hb] at h; cases h
   | _=>rw[hb] at h; cases h
 | ip cs=>rw[VR] at hv; obtain ⟨_,_,_,e,_⟩:=hv; exact .inl ⟨_,e⟩
 | fn f x y=>cases f with
  | func k=>rw[VR] at hv; obtain ⟨_,_,e,_⟩:=hv; exact .inr ⟨_,_,_,e⟩
  | _=>cases h
 | _=>cases h
theorem evOp1_sound {β:Type} {f lo:Nat} {o:Oper} {k:A->Heap->Option β} {r:β} (hs:OpR cx s g w0 o.op ev w) (h:evOp1 cx f lo o s k=some r):Ops s g w0 w lo ((execOp ev o).run cx.P w) (fun x H'=>k x H'=some r):=by
 unfold evOp1 at h
 unfold execOp
 split at h
 ·rename_i x ho
  rw[ho] at hs ⊢; exact Ops.same hs.rel rfl h (hs.one x (by simp[Op.operands]))
 ·rename_i x ho
  rw[ho] at hs ⊢; exact Ops.same hs.rel rfl h (hs.one x (by simp[Op.operands]))
 ·rename_i t ho
  rw[ho] at hs ⊢
  replace h:=bnd h
  obtain ⟨⟨y,H'⟩,h1,h⟩:=h
  unfold allocT at h1
  rw[bcond] at h1
  split at h1
  ·exact Ops.of_step (aAllocR_sound hs.rel lo h1) (fun d w' e=>vrun e) h
  exact Ops.of_step (aAlloc_sound hs.rel lo h1) (fun d w' e=>vrun e) h
 ·rename_i t x ho
  rw[ho] at hs ⊢
  replace h:=bnd h
  obtain ⟨⟨y,H'⟩,h1,h⟩:=h
  unfold boxT at h1
  rw[bcond] at h1
  split at h1
  ·exact Ops.of_step (aBoxR_sound hs.rel lo h1 (hs.one x (by simp[Op.operands]))) (fun d w' e=>vrun e) h
  exact Ops.of_step (aBox_sound hs.rel lo h1 (hs.one x (by simp[Op.operands]))) (fun d w' e=>vrun e) h
 ·rename_i t parts ho
  rw[ho] at hs ⊢
  replace h:=bnd h
  obtain ⟨y,h1,h⟩:=h
  obtain ⟨d,e1,e2⟩:=aBuild_sound h1 (hs.parts parts (by simp[Op.operands]; exact fun a b h=>⟨a,h⟩))
  exact Ops.same hs.rel (vrun e1) h e2
 ·rename_i t n parts ho
  rw[ho] at hs ⊢
  replace h:=bnd h
  obtain ⟨y,h1,h⟩:=h
  obtain ⟨d,w',e1,e2,e3⟩:=aBuildSlice_sound hs.rel h1 (hs.partsF parts (by simp[Op.operands]; exact fun a b h=>⟨a,h⟩))
  exact Ops.fresh hs.rel (vrun e1) e2 h e3
 ·rename_i t x ho
  rw[ho] at hs ⊢
  replace h:=bnd h
  obtain ⟨y,h1,h⟩:=h
  obtain ⟨d,e1,e2⟩:=aLoad_sound hs.rel h1 (hs.one x (by simp[Op.operands]))
  exact Ops.same hs.rel (vrun e1) h e2
 ·rename_i t x y ho
  rw[ho] at hs ⊢
  replace h:=bnd h
  obtain ⟨H',h1,h⟩:=h
  obtain ⟨w',e1,e2,e3,e4,e5⟩:=aStore_sound hs.rel h1 (hs.one x (by simp[Op.operands])) (stV_VR hs.rel (hs.one y (by simp[Op.operands])))
  exact⟨undef,w',.any,H',g,.inr ⟨by simp[e1],rfl⟩,h,e2,e3,by rw[VR]; trivial,e4,e5,rfl⟩
 ·rename_i op t x y t2 ho
  rw[ho] at hs ⊢
  replace h:=bnd h
  obtain ⟨z,h1,h⟩:=h
  unfold binT at h1
  rw[bcond] at h1
  split at h1
  ·rename_i hn
   obtain ⟨d,e1,e2⟩:=aNq_sound (p:=x) (d:=ev y) hn h1 (hs.one x (by simp[Op.operands])) (fun v hv=>by subst hv; exact hs.k v)
   exact Ops.same hs.rel (vrun e1) h e2
  obtain ⟨d,e1,e2⟩:=aBin_sound (p:=x) (q:=y) h1 (hs.one x (by simp[Op.operands])) (hs.one y (by simp[Op.operands]))
  exact Ops.same hs.rel (vrun e1) h e2
 ·rename_i op t x ho
  rw[ho] at hs ⊢
  replace h:=bnd h
  obtain ⟨z,h1,h⟩:=h
  obtain ⟨d,e1,e2⟩:=aUn_sound h1 (hs.one x (by simp[Op.operands]))
  exact Ops.same hs.rel (vrun e1) h e2
 ·rename_i t u x ho
  rw[ho] at hs ⊢
  replace h:=bnd h
  obtain ⟨z,h1,h⟩:=h
  obtain ⟨d,w',e1,e2,e3⟩:=aConvert_sound hs.rel h1 (hs.one x (by simp[Op.operands]))
  exact Ops.fresh hs.rel (vrun e1) e2 h e3
 ·rename_i t x ho
  rw[ho] at hs ⊢
  replace h:=bnd h
  obtain ⟨z,h1,h⟩:=h
  obtain ⟨d,e1,e2⟩:=aIfc_sound h1 (hs.one x (by simp[Op.operands]))
  exact Ops.same hs.rel (vrun e1) h e2
 ·rename_i fn p q ho
  rw[ho] at hs ⊢
  refine Ops.same hs.rel (c:=.func fn (p.map ev) (q.map ev)) (by simp[Instr.makeFunc]) h ?_
  rw[VR]
  refine⟨_,_,rfl,?_,?_⟩
  ·rw[Array.toList_map]; exact hs.many _ (by simp[Op.operands]; intro x hx; simp[hx])
  ·rw[Array.toList_map]; exact hs.many _ (by simp[Op.operands]; intro x hx; simp[hx])
 ·rename_i t n c ho
  rw[ho] at hs ⊢
  replace h:=bnd h
  obtain ⟨⟨y,H'⟩,h1,h⟩:=h
  unfold makeT at h1
  rw[bcond] at h1
  split at h1
  ·obtain ⟨rfl,d,w',e1,e2,e3⟩:=aMakeImm_sound hs.rel h1 (hs.one n (by simp[Op.operands])) (hs.one c (by simp[Op.operands]))
   exact Ops.fresh hs.rel (vrun e1) e2 h e3
  exact Ops.of_step (aMakeSlice_sound hs.rel lo h1 (hs.one n (by simp[Op.operands])) (hs.one c (by simp[Op.operands]))) (fun d w' e=>vrun e) h
 ·rename_i t x lo' hi mx ho
  rw[ho] at hs ⊢
  replace h:=bnd h
  obtain ⟨z,h1,h⟩:=h
  replace h1:=csome h1
  obtain ⟨hhm,h1⟩:=h1
  obtain ⟨d,e1,e2⟩:=aSlice_sound hs.rel h1 (hs.one x (by simp[Op.operands])) (hs.opt lo' (by rintro y rfl; simp[Op.operands])) (hs.opt hi (by rintro y rfl; simp[Op.operands])) (hs.opt mx (by rintro y rfl; simp[Op.operands])) (by cases mx<;>cases hi<;>simp at hhm ⊢)
  exact Ops.same hs.rel (vrun e1) h e2
 ·rename_i t x i ho
  rw[ho] at hs ⊢
  replace h:=bnd h
  obtain ⟨z,h1,h⟩:=h
  obtain ⟨d,e1,e2⟩:=aFieldAddr_sound h1 (hs.one x (by simp[Op.operands]))
  exact Ops.same hs.rel (vrun e1) h e2
 ·rename_i t x i ho
  rw[ho] at hs ⊢
  replace h:=bnd h
  obtain ⟨z,h1,h⟩:=h
  obtain ⟨d,e1,e2⟩:=aField_sound h1 (hs.one x (by simp[Op.operands]))
  exact Ops.same hs.rel (vrun e1) h e2
 ·rename_i t x i ho
  rw[ho] at hs ⊢
  replace h:=bnd h
  obtain ⟨z,h1,h⟩:=h
  obtain ⟨d,e1,e2⟩:=aIndexAddr_sound hs.rel h1 (hs.one x (by simp[Op.operands])) (hs.one i (by simp[Op.operands]))
  exact Ops.same hs.rel (vrun e1) h e2
 ·rename_i t x i ho
  rw[ho] at hs ⊢
  replace h:=bnd h
  obtain ⟨z,h1,h⟩:=h
  obtain ⟨d,e1,e2⟩:=aIndex_sound h1 (hs.one x (by simp[Op.operands])) (hs.one i (by simp[Op.operands]))
  exact Ops.same hs.rel (vrun e1) h e2
 ·rename_i x i ho
  rw[ho] at hs ⊢
  replace h:=bnd h
  obtain ⟨z,h1,h⟩:=h
  obtain ⟨d,e1,e2⟩:=aExtract_sound h1 (hs.one x (by simp[Op.operands]))
  exact Ops.same hs.rel (vrun e1) h e2
 ·rename_i x ho
  rw[ho] at hs ⊢
  obtain ⟨y,h1,h⟩:=bnd h
  obtain ⟨hn,e0⟩:=csome h1
  cases e0
  have hv:=hs.one x (by simp[Op.operands])
  refine Ops.same hs.rel (c:=ev x) ?_ h hv
  rcases nonNil_val hn hv with ⟨ad,e⟩ | ⟨f,a,b,e⟩
  ·simp only[e]; rfl
  ·simp only[e]; rfl
 ·rename_i t ho
  rw[ho] at hs ⊢
  replace h:=bnd h
  obtain ⟨⟨y,H'⟩,h1,h⟩:=h
  exact Ops.of_step (aMakeMap_sound hs.rel lo h1) (fun d w' e=>vrun e) h
 ·rename_i t m i x ho
  rw[ho] at hs ⊢
  replace h:=bnd h
  obtain ⟨H',h1,h⟩:=h
  obtain ⟨w',e1,e2,e3,e4,e5⟩:=aSetMap_sound hs.rel h1 (hs.one m (by simp[Op.operands])) (hs.one i (by simp[Op.operands])) (hs.one x (by simp[Op.operands]))
  exact⟨undef,w',.any,H',g,.inr ⟨by simp[e1],rfl⟩,h,e2,e3,by rw[VR]; trivial,e4,e5,rfl⟩
 ·rename_i t m i x ho
  rw[ho] at hs ⊢
  replace h:=bnd h
  obtain ⟨H',h1,h⟩:=h
  obtain ⟨w',e1,e2,e3,e4,e5⟩:=aSetMap_sound hs.rel h1 (hs.one m (by simp[Op.operands])) (hs.one i (by simp[Op.operands])) (hs.one x (by simp[Op.operands]))
  exact⟨undef,w',.any,H',g,.inr ⟨by simp[e1],rfl⟩,h,e2,e3,by rw[VR]; trivial,e4,e5,rfl⟩
 ·rename_i t m i c ho
  rw[ho] at hs ⊢
  replace h:=bnd h
  obtain ⟨z,h1,h⟩:=h
  obtain ⟨d,e1,e2⟩:=aLookup_sound hs.rel h1 (hs.one m (by simp[Op.operands])) (hs.one i (by simp[Op.operands]))
  exact Ops.same hs.rel (vrun e1) h e2
 ·rename_i x t u c ho
  rw[ho] at hs ⊢
  replace h:=bnd h
  obtain ⟨z,h1,h⟩:=h
  obtain ⟨d,e1,e2⟩:=aAssert_sound h1 (hs.one x (by simp[Op.operands]))
  exact Ops.same hs.rel (vrun e1) h e2
 ·rename_i c ho
  rw[ho] at hs ⊢
  exact evBI_sound hs h
 ·cases h
end Go.Proofs.Ytdmgdjnadbakfaa
