/-
 Functions that defer a closure: what the machine does when they leave.
-/
import Derived.Test.YtdmgdjnadbakfaaEvRange
import Derived.LoopNIn
import Derived.RecoverIn
namespace Go.Proofs.Ytdmgdjnadbakfaa
open Go.RowKit
variable {F:Fence} {n:Nat} {P:Program}
theorem leaves_over {fn:Func} {tmps:Array Value} {R:Ending->World->Prop} {B:Nat} {ds:List Deferred}:∀ (ms:List Deferred) (u:FrameMode) (W:World),u≠.run->Marks B W ms ->
  (∀ W',CalmFrom B W W'->(∀ (k:Nat) (o:Loop),W.heap[k]? = some (.loop o)->W'.heap[k]? = some (.loop o))->LeavesInM F n P fn tmps R ds u W')->LeavesInM F n P fn tmps R (ms++ds) u W:=by
 intro ms u
 induction ms with
 | nil=>intro W _ _ h; exact h W (CalmFrom.refl _ _) (fun _ _ h=>h)
 | cons d ms ih =>
  rintro W hu ⟨rs,e,h2,h3⟩ h
  match rs,e,h2,h3 with
  | r :: rs,e,h2,h3 =>
   cases e
   obtain ⟨hB,hr⟩:=h3 r (by simp)
   refine⟨hu,.inl ⟨r,_,rfl,run_takeDeferred hr,ih _ hu ⟨rs,rfl,(List.nodup_cons.1 h2).2,fun q hq=>⟨(h3 q (by simp[hq])).1,?_⟩⟩ fun W' hc hl=>?_⟩⟩
   ·have hne:q≠r:=fun e=>(List.nodup_cons.1 h2).1 (e ▸ hq)
    exact(World.putObj_heap_other hne).trans (h3 q (by simp[hq])).2
   ·exact h W' ((CalmFrom.putObj _ hB hr rfl).trans hc) (fun k o hk=>hl k o ((World.putObj_heap_other (fun e=>by subst e; rw[hr] at hk; cases hk)).trans hk))
theorem Oper.wpIn_mono2 {o:Oper} {a:Act} {w:World} {K K':Act->World->Prop} {Q Q':Exit->Act->World->Prop} (hK:∀ a w,K a w->K' a w) (hQ:∀ e a w,e≠.normal->Q e a w->Q' e a w) (h:o.wpIn F n P a w K Q):o.wpIn F n P a w K' Q':=by
 unfold Oper.wpIn at *
 refine⟨h.1,?_⟩
 have hh:=h.2
 have lo:LetsOut Q->LetsOut Q':=fun ⟨a,w,h⟩=>⟨a,w,hQ _ _ _ (by simp) h⟩
 generalize (o.semAt F.round a.eval).run P w=r at *
 cases r with
 | ok x w' =>
  cases x<;>simp only[Oper.uponIn] at hh ⊢<;>first
   | exact hK _ _ hh
   | exact⟨hh.1,CallsIn.mono hh.2 (fun e w'' he=>by cases e<;>first | exact hK _ _ he | exact hQ _ _ _ (by simp) he | exact lo he)⟩
   | exact⟨hh.1,RowsIn.mono hh.2 (fun _ _ he=>hK _ _ he)⟩
   | exact⟨hh.1,RoundIn.mono hh.2 (fun e w'' he=>by cases e<;>first | exact hK _ _ he | exact hQ _ _ _ (by simp) he | exact lo he)⟩
   | exact hh.elim
 | halt x w'=>cases x<;>simp only[Oper.uponIn] at hh ⊢<;>first | exact hQ _ _ _ (by simp) hh | exact hh.elim
theorem wpListIn_app {ops:Array Oper} {Q Q':Exit->Act->World->Prop} {os':List Oper} (hQ:∀ e a w,e≠.normal->Q e a w->Q' e a w) (hn:∀ a w,Q .normal a w->wpListIn F n P ops Q' os' a w):∀ (os:List Oper) (a:Act) (w:World),wpListIn F n P ops Q os a w->wpListIn F n P ops Q' (os++os') a w
 | [],a,w,h=>hn a w h
 | o :: os,a,w,h=>by
  rw[List.cons_append]
  unfold wpListIn at h ⊢
  split
  ·rename_i hw; rw[if_pos hw] at h; exact Oper.wpIn_mono2 (wpListIn_app hQ hn os) hQ h
  ·rename_i hw; rw[if_neg hw] at h; exact⟨h.1,wpListIn_app hQ hn os _ _ h.2⟩
theorem recDst_spec {o:Oper} {d:Nat} (h:recDst o=some d):o.dst=some d/\o.guard=none/\∀ (ev:Operand->Value) (w:World),(execOp ev o).run P w=.ok .recover w:=by
 unfold recDst at h
 split at h
 ·rename_i c ho
  split at h
  ·rename_i hcal hargs
   cases hg:noGd o with
   | false=>rw[hg] at h; cases h
   | true =>
    rw[hg] at h
    refine⟨h,by unfold noGd at hg; split at hg<;>simp_all,fun ev w=>?_⟩
    unfold execOp
    rw[ho]
    simp[resolve,hcal,invoke,builtin]
  ·cases h
 ·cases h
theorem wpSIn_region_rec {Q:Exit->Act->List Frame->World->Prop} {a:Act} {cs cs':List Frame} {w:World} {id d:Nat} {ops:Array Oper} {o:Oper} {os:List Oper} {v:Value} (hl:ops.toList=o :: os) (hd:recDst o=some d) (hFa:∀ f,F.fn f) (hro:F.round=none)
  (hrec:recoverD cs=some (v,cs')∨(recoverD cs=none/\cs'=cs/\v=.nilIface)) (h:wpListIn F n P ops (fun e a' w'=>Q e a' cs' w') os (a.put (some d) v) w):(Code.region id ops false).wpSIn F n P Q a cs w:=by
 obtain ⟨hdst,hgd,hrun⟩:=recDst_spec (P:=P) hd
 have ho:ops[0]? = some o:=by rw[<-Array.getElem?_toList,hl]; rfl
 have hlen:cs'.length=cs.length:=by
  rcases hrec with h1 | ⟨_,rfl,_⟩
  ·exact recoverD_length h1
  ·rfl
 intro b k hb hr hFb hroom
 have hw:Region.wanted o (yielded ops a.tmps)=true:=by simp[Region.wanted,hgd]
 have hsz:List.range ops.size=0 :: List.range' 1 os.length:=by
  rw[<-Array.length_toList,hl,List.length_cons,List.range_eq_range',List.range'_succ]
 have h':wpOpsIn F n P ops (fun e a' w'=>Q e a' cs' w') (List.range' 1 os.length) (a.put (some d) v) w:=by
  rw[wpOpsIn_eq_wpListIn os 1 (fun j=>by rw[<-Array.getElem?_toList,hl,Nat.add_comm 1 j,List.getElem?_cons_succ])]
  exact h
 obtain ⟨e,a',w',q,harr⟩:=wp_opsIn _ _ _ h' b k cs' (hr.trans hro.symm) hFb (hlen ▸ hroom)
 have i0:(lone (b.atR a (.code (.region id ops false) :: k)) cs w).fenced P F:=fenced_calm hFb hroom rfl
 have i1:(lone (b.atR a (.inRegion ops (0 :: List.range' 1 os.length) :: k)) cs w).fenced P F:=fenced_oper hFb hroom ho (fun f _=>hFa f)
 refine⟨e,a',cs',w',hlen,q,.of_steps (.head i0 (hsz ▸ stepR_region) (.one i1 (step_lone_go ?_))) harr⟩
 have hg:=stepGR_op (P:=P) (b:=b) (k:=k) (cs:=cs) (w:=w) (rest:=List.range' 1 os.length) ho hw
 rw[hr,Oper.semAt_none] at hg
 have hfin:∀ v,(b.atR a (.inRegion ops (0 :: List.range' 1 os.length) :: k)).finish v=b.atR (a.put o.dst v) (.inRegion ops (List.range' 1 os.length) :: k):=by
  intro v; rw[Frame.finish_atR,ho]; rfl
 have hk:(b.atR a (.inRegion ops (0 :: List.range' 1 os.length) :: k)).kind=.deferred:=hb
 have htr:=tryRecover_deferred hk cs
 rw[hg,<-hdst,<-hfin]
 simp only[Frame.atR,hr] at htr ⊢
 rcases hrec with h1 | ⟨h1,rfl,rfl⟩
 ·simp[stepG.apply,hrun,htr,h1]
 ·simp[stepG.apply,hrun,htr,h1]
theorem noRec_get {ops:Array Oper} {i d j:Nat} {o:Oper} (ho:ops[i]? = some o):(noRec ops i d)[j]? = if j=i then some { o with op:=.move (.tmp d) } else ops[j]?:=by
 unfold noRec
 rw[ho]
 simp only
 have hi:=(Array.getElem?_eq_some_iff.1 ho).1
 by_cases e:j=i
 ·subst e; rw[if_pos rfl]; simp[hi]
 ·rw[if_neg e,Array.getElem?_setIfInBounds_ne (Ne.symm e)]
theorem noRec_size {ops:Array Oper} {i d:Nat}:(noRec ops i d).size=ops.size:=by
 unfold noRec; split<;>simp
theorem noRec_sched {ops:Array Oper} {i d:Nat} {o:Oper} (ho:ops[i]? = some o) (t:Nat):Region.linearise .any (noRec ops i d) t=Region.linearise .any ops t:=by
 have key:∀ (fuel t:Nat) (listed:Array Bool) (acc:List Nat),Region.linearise.go .any (noRec ops i d) fuel t listed acc=Region.linearise.go .any ops fuel t listed acc:=by
  intro fuel
  induction fuel with
  | zero=>intro t listed acc; rfl
  | succ fuel ih =>
   intro t listed acc
   unfold Region.linearise.go
   simp only[noRec_size,ih]
   have e:∀ j,((noRec ops i d)[j]?).map (fun (o:Oper)=>o.after.all fun e=>!Region.binds .any e || listed.getD e.on false)=(ops[j]?).map (fun (o:Oper)=>o.after.all fun e=>!Region.binds .any e || listed.getD e.on false):=fun j=>by
    rw[noRec_get ho]
    split
    ·rename_i h; subst h; rw[ho]; rfl
    ·rfl
   simp only[e]
 unfold Region.linearise
 rw[noRec_size,key]
theorem go_dep {ops:Array Oper}:∀ (fuel t:Nat) (listed:Array Bool) (L1:List Nat) (j:Nat) (L2:List Nat),Region.linearise.go .any ops fuel t listed []=L1++j :: L2->∀ (o:Oper) (e:Edge),ops[j]? = some o->e∈o.after->Region.binds .any e=true->listed.getD e.on false=true∨e.on∈L1
 | 0,t,listed,L1,j,L2,h,o,e,ho,he,hb=>by
  simp[Region.linearise.go] at h
 | fuel+1,t,listed,L1,j,L2,h,o,e,ho,he,hb=>by
  simp only[Region.linearise.go] at h
  change (match (Region.ready .any ops listed)[t % (Region.ready .any ops listed).length]? with
   | some i=>Region.linearise.go .any ops fuel (t / (Region.ready .any ops listed).length) (listed.setIfInBounds i true) [i]
   | none=>[].reverse)=_ at h
  split at h
  ·rename_i i hi
   rw[linearise_go_acc,List.reverse_singleton,List.singleton_append] at h
   have hrd:=(mem_ready.1 (List.mem_of_getElem? hi))
   cases L1 with
   | nil =>
    simp only[List.nil_append,List.cons.injEq] at h
    obtain ⟨rfl,_⟩:=h
    obtain ⟨_,o',ho',hall⟩:=hrd
    rw[ho] at ho'; cases ho'
    exact .inl (hall e he hb)
   | cons x L1 =>
    simp only[List.cons_append,List.cons.injEq] at h
    obtain ⟨rfl,h⟩:=h
    rcases go_dep fuel _ _ L1 j L2 h o e ho he hb with h1 | h1
    ·by_cases hx:e.on=i
     ·exact .inr (by rw[hx]; exact List.mem_cons_self ..)
     ·rw[getD_set_ne false (Ne.symm hx)] at h1; exact .inl h1
    ·exact .inr (List.mem_cons_of_mem _ h1)
  ·simp at h
theorem go_mem {ops:Array Oper} {i0:Nat} {o0:Oper} (ho:ops[i0]? = some o0) (hn:∀ e∈o0.after,Region.binds .any e=true->False):∀ (fuel t:Nat) (listed:Array Bool),listed.size=ops.size->unl ops listed<=fuel->listed.getD i0 true=false->i0∈Region.linearise.go .any ops fuel t listed []
 | 0,t,listed,hs,hu,hl=>by
  exfalso
  have hi:=(Array.getElem?_eq_some_iff.1 ho).1
  have hmem:i0∈(List.range ops.size).filter (fun i=>!listed.getD i true):=List.mem_filter.2 ⟨List.mem_range.2 hi,by rw[hl]; rfl⟩
  have:=List.length_pos_of_mem hmem
  unfold unl at hu; omega
 | fuel+1,t,listed,hs,hu,hl=>by
  have hrd:i0∈Region.ready .any ops listed:=mem_ready.2 ⟨hl,o0,ho,fun e he hb=>(hn e he hb).elim⟩
  have hlen:=List.length_pos_of_mem hrd
  simp only[Region.linearise.go]
  change i0∈(match (Region.ready .any ops listed)[t % (Region.ready .any ops listed).length]? with
   | some i=>Region.linearise.go .any ops fuel (t / (Region.ready .any ops listed).length) (listed.setIfInBounds i true) [i]
   | none=>[].reverse)
  have hlt:t % (Region.ready .any ops listed).length<(Region.ready .any ops listed).length:=Nat.mod_lt _ hlen
  rw[List.getElem?_eq_getElem hlt]
  simp only
  rw[linearise_go_acc,List.reverse_singleton,List.singleton_append]
  generalize hi:(Region.ready .any ops listed)[t % (Region.ready .any ops listed).length]=i
  have him:i∈Region.ready .any ops listed:=by rw[<-hi]; exact List.getElem_mem _
  obtain ⟨hun,o,hoi,_⟩:=mem_ready.1 him
  have his:i<ops.size:=(Array.getElem?_eq_some_iff.1 hoi).1
  by_cases e:i=i0
  ·rw[e]; exact List.mem_cons_self ..
  ·refine List.mem_cons_of_mem _ (go_mem ho hn fuel _ _ (by simpa using hs) ?_ (by rw[getD_set_ne true e]; exact hl))
   have:=filter_lt (fun k=>!listed.getD k true) (fun k=>!(listed.setIfInBounds i true).getD k true) (List.range ops.size) (fun x hx hq=>by
    by_cases e:i=x
    ·subst e; rw[hun]; rfl
    ·rw[getD_set_ne true e] at hq; exact hq) ⟨i,List.mem_range.2 his,by rw[hun]; rfl,by simp[hs,his]⟩
   unfold unl at hu ⊢
   omega
theorem go_not {ops:Array Oper} {i0:Nat}:∀ (fuel t:Nat) (listed:Array Bool),listed.getD i0 true=true->i0 ∉ Region.linearise.go .any ops fuel t listed []
 | 0,t,listed,h,hm=>by simp[Region.linearise.go] at hm
 | fuel+1,t,listed,h,hm=>by
  simp only[Region.linearise.go] at hm
  change i0∈(match (Region.ready .any ops listed)[t % (Region.ready .any ops listed).length]? with
   | some i=>Region.linearise.go .any ops fuel (t / (Region.ready .any ops listed).length) (listed.setIfInBounds i true) [i]
   | none=>[].reverse) at hm
  split at hm
  ·rename_i i hi
   rw[linearise_go_acc,List.reverse_singleton,List.singleton_append] at hm
   obtain ⟨hun,_⟩:=mem_ready.1 (List.mem_of_getElem? hi)
   have hne:i≠i0:=fun e=>by rw[e,h] at hun; cases hun
   rcases List.mem_cons.1 hm with hm | hm
   ·exact hne hm.symm
   ·exact go_not fuel _ _ (by rw[getD_set_ne true hne]; exact h) hm
  ·simp at hm
theorem go_once {ops:Array Oper} {i0:Nat}:∀ (fuel t:Nat) (listed:Array Bool) (L1 L2:List Nat),listed.size=ops.size->Region.linearise.go .any ops fuel t listed []=L1++i0 :: L2->i0 ∉ L2
 | 0,t,listed,L1,L2,_,h=>by simp[Region.linearise.go] at h
 | fuel+1,t,listed,L1,L2,hs,h=>by
  simp only[Region.linearise.go] at h
  change (match (Region.ready .any ops listed)[t % (Region.ready .any ops listed).length]? with
   | some i=>Region.linearise.go .any ops fuel (t / (Region.ready .any ops listed).length) (listed.setIfInBounds i true) [i]
   | none=>[].reverse)=_ at h
  split at h
  ·rename_i i hi
   rw[linearise_go_acc,List.reverse_singleton,List.singleton_append] at h
   cases L1 with
   | nil =>
    simp only[List.nil_append,List.cons.injEq] at h
    obtain ⟨rfl,h⟩:=h
    rw[<-h]
    obtain ⟨_,o,ho,_⟩:=mem_ready.1 (List.mem_of_getElem? hi)
    have:=(Array.getElem?_eq_some_iff.1 ho).1
    exact go_not fuel _ _ (by simp[hs,this])
   | cons x L1 =>
    simp only[List.cons_append,List.cons.injEq] at h
    exact go_once fuel _ _ L1 L2 (by simpa using hs) h.2
  ·simp at h
theorem go_some {ops:Array Oper}:∀ (fuel t:Nat) (listed:Array Bool) (j:Nat),j∈Region.linearise.go .any ops fuel t listed []->∃ o,ops[j]? = some o
 | 0,t,listed,j,h=>by simp[Region.linearise.go] at h
 | fuel+1,t,listed,j,h=>by
  simp only[Region.linearise.go] at h
  change j∈(match (Region.ready .any ops listed)[t % (Region.ready .any ops listed).length]? with
   | some i=>Region.linearise.go .any ops fuel (t / (Region.ready .any ops listed).length) (listed.setIfInBounds i true) [i]
   | none=>[].reverse) at h
  split at h
  ·rename_i i hi
   rw[linearise_go_acc,List.reverse_singleton,List.singleton_append] at h
   obtain ⟨_,o,ho,_⟩:=mem_ready.1 (List.mem_of_getElem? hi)
   rcases List.mem_cons.1 h with h | h
   ·exact⟨o,by rw[h]; exact ho⟩
   ·exact go_some fuel _ _ j h
  ·simp at h
theorem yielded_noRec {ops:Array Oper} {i d:Nat} {o:Oper} (ho:ops[i]? = some o) (tm:Array Value):yielded (noRec ops i d) tm=yielded ops tm:=by
 funext j
 have e:((noRec ops i d)[j]?).bind (·.dst)=(ops[j]?).bind (·.dst):=by
  rw[noRec_get ho]
  by_cases h:j=i
  ·subst h; rw[if_pos rfl,ho]; rfl
  ·rw[if_neg h]
 unfold yielded
 rw[e]
theorem wpOpsIn_noRec {ops:Array Oper} {Q:Exit->Act->World->Prop} {i d:Nat} {o:Oper} (ho:ops[i]? = some o):∀ (L:List Nat) (a:Act) (w:World),i ∉ L->wpOpsIn F n P (noRec ops i d) Q L a w->wpOpsIn F n P ops Q L a w
 | [],a,w,_,h=>h
 | j :: L,a,w,hn,h=>by
  have hj:j≠i:=fun e=>hn (by rw[e]; exact List.mem_cons_self ..)
  have hL:i ∉ L:=fun e=>hn (List.mem_cons_of_mem _ e)
  unfold wpOpsIn at h ⊢
  rw[noRec_get ho,if_neg hj,yielded_noRec ho] at h
  cases hoj:ops[j]? with
  | none=>rw[hoj] at h; exact wpOpsIn_noRec ho L a w hL h
  | some oj =>
   rw[hoj] at h
   simp only at h ⊢
   split
   ·rename_i hw; rw[if_pos hw] at h; exact Oper.wpIn_mono (fun a w h=>wpOpsIn_noRec ho L a w hL h) h
   ·rename_i hw; rw[if_neg hw] at h; exact⟨h.1,wpOpsIn_noRec ho L _ _ hL h.2⟩
theorem load_run {o:Oper} {d:Nat} (h:isLoadO d o=true):o.guard=none/\(∃ e,o.dst=some e/\e≠d)/\∀ (a:Act) (v:Value),execOp (a.put (some d) v).eval o=execOp a.eval o:=by
 unfold isLoadO at h
 simp only[Bool.and_eq_true] at h
 obtain ⟨⟨h1,h2⟩,h3⟩:=h
 refine⟨noGd_spec h1,?_,fun a v=>?_⟩
 ·cases hd:o.dst with
  | none=>rw[hd] at h3; cases h3
  | some e=>rw[hd] at h3; exact⟨e,rfl,fun e2=>by subst e2; simp at h3⟩
 ·split at h2
  ·rename_i t x ho
   have hx:x≠d:=fun e=>by subst e; simp at h2
   unfold execOp
   rw[ho]
   simp only[Act.eval_put (a:=a) (dst:=some d) (v:=v) (x:=.tmp x) (fun e he=>by cases he; intro h; cases h; exact hx rfl)]
  ·cases h2
theorem load_res {o:Oper} {d:Nat} (h:isLoadO d o=true) (ev:Operand->Value) (w:World):(∃ y w',(execOp ev o).run P w=.ok (.value y) w')∨(∃ x w',(execOp ev o).run P w=.halt x w'):=by
 unfold isLoadO at h
 simp only[Bool.and_eq_true] at h
 obtain ⟨⟨h1,h2⟩,h3⟩:=h
 split at h2
 ·rename_i t x ho
  unfold execOp
  rw[ho]
  simp only
  cases hr:(Instr.loadAt t (ev (.tmp x))).run P w with
  | ok y w'=>exact .inl ⟨y,w',by simp[hr]⟩
  | halt y w'=>exact .inr ⟨y,w',by simp[hr]⟩
 ·cases h2
theorem recList {Q:Exit->Act->List Frame->World->Prop} {ops:Array Oper} {i0 d:Nat} {o0:Oper} {v:Value} {cs cs':List Frame} (ho:ops[i0]? = some o0) (hd:recDst o0=some d) (hFa:∀ f,F.fn f) (hro:F.round=none) (hrec:recoverD cs=some (v,cs')∨(recoverD cs=none/\cs'=cs/\v=.nilIface)) {L2:List Nat} (hL2:i0 ∉ L2):∀ (L1:List Nat) (a:Act) (w:World),(∀ j∈L1,∃ o,ops[j]? = some o/\isLoadO d o=true)->d<a.tmps.size ->
  wpOpsIn F n P (noRec ops i0 d) (fun e a' w'=>match e with | .panic _=>False | e=>Q e a' cs' w') (L1++i0 :: L2) (a.put (some d) v) w->∀ (b:Frame) (k:List Item),b.kind=.deferred->b.roundOf=none->F.fn b.fn->F.room (cs.length+1+n) ->
  ∃ e a' cs2 w',cs2.length=cs.length/\Q e a' cs2 w'/\ArrivesIn (Machine.fenced P F) P (lone (b.atR a (.inRegion ops (L1++i0 :: L2) :: k)) cs w) b k cs2 e a' w'
 | [],a,w,hld,hds,h,b,k,hb,hr,hFb,hroom=>by
  obtain ⟨hdst,hgd,hrun⟩:=recDst_spec (P:=P) hd
  have hlen:cs'.length=cs.length:=by
   rcases hrec with h1 | ⟨_,rfl,_⟩
   ·exact recoverD_length h1
   ·rfl
  rw[List.nil_append] at h ⊢
  unfold wpOpsIn at h
  rw[noRec_get ho,if_pos rfl] at h
  simp only at h
  rw[if_pos (by simp[Region.wanted,hgd])] at h
  replace h:=h.2
  rw[hro,Oper.semAt_none] at h
  have hev:(execOp (a.put (some d) v).eval { o0 with op:=.move (.tmp d) }).run P w=.ok (.value v) w:=by
   have:(a.put (some d) v).eval (.tmp d)=v:=slot_put_same hds
   simp[execOp,this]
  rw[hev,Oper.uponIn_value] at h
  have hpp:(a.put (some d) v).put o0.dst v=a.put (some d) v:=by
   rw[hdst]
   unfold Act.put
   simp
  rw[hpp] at h
  have h':=wpOpsIn_noRec ho L2 _ w hL2 h
  obtain ⟨e,a',w',q,harr⟩:=wp_opsIn _ _ _ h' b k cs' (hr.trans hro.symm) hFb (hlen ▸ hroom)
  have hw:Region.wanted o0 (yielded ops a.tmps)=true:=by simp[Region.wanted,hgd]
  have i1:(lone (b.atR a (.inRegion ops (i0 :: L2) :: k)) cs w).fenced P F:=fenced_oper hFb hroom ho (fun f _=>hFa f)
  have q':Q e a' cs' w':=by cases e<;>first | exact q | exact q.elim
  refine⟨e,a',cs',w',hlen,q',.of_steps (.one i1 (step_lone_go ?_)) harr⟩
  have hg:=stepGR_op (P:=P) (b:=b) (k:=k) (cs:=cs) (w:=w) (rest:=L2) ho hw
  rw[hr,Oper.semAt_none] at hg
  have hfin:∀ v,(b.atR a (.inRegion ops (i0 :: L2) :: k)).finish v=b.atR (a.put o0.dst v) (.inRegion ops L2 :: k):=by
   intro v; rw[Frame.finish_atR,ho]; rfl
  have hk:(b.atR a (.inRegion ops (i0 :: L2) :: k)).kind=.deferred:=hb
  have htr:=tryRecover_deferred hk cs
  rw[hg,<-hdst,<-hfin]
  simp only[Frame.atR,hr] at htr ⊢
  rcases hrec with h1 | ⟨h1,rfl,rfl⟩
  ·simp[stepG.apply,hrun,htr,h1]
  ·simp[stepG.apply,hrun,htr,h1]
 | j :: L1,a,w,hld,hds,h,b,k,hb,hr,hFb,hroom=>by
  obtain ⟨oj,hoj,hlo⟩:=hld j (List.mem_cons_self ..)
  obtain ⟨hgd,⟨e0,hde,hne⟩,hsame⟩:=load_run hlo
  have hji:j≠i0:=fun e=>by
   subst e
   rw[ho] at hoj; cases hoj
   unfold recDst at hd
   unfold isLoadO at hlo
   split at hd
   ·rename_i c hc; rw[hc] at hlo; simp at hlo
   ·cases hd
  rw[List.cons_append] at h ⊢
  unfold wpOpsIn at h
  rw[noRec_get ho,if_neg hji,hoj] at h
  simp only at h
  rw[if_pos (by simp[Region.wanted,hgd])] at h
  replace h:=h.2
  rw[hro,Oper.semAt_none,hsame] at h
  have hw:Region.wanted oj (yielded ops a.tmps)=true:=by simp[Region.wanted,hgd]
  rcases load_res (P:=P) hlo a.eval w with ⟨y,w1,hrun⟩ | ⟨x,w1,hrun⟩
  ·rw[hrun,Oper.uponIn_value,hde,Act.put_comm a v y (fun e he=>by cases he; intro h; cases h; exact hne rfl),<-hde] at h
   obtain ⟨e,a',cs2,w2,hl2,q,harr⟩:=recList ho hd hFa hro hrec hL2 L1 (a.put oj.dst y) w1 (fun j hj=>hld j (List.mem_cons_of_mem _ hj)) (by rw[Act.put_size]; exact hds) h b k hb hr hFb hroom
   have i1:(lone (b.atR a (.inRegion ops (j :: (L1++i0 :: L2)) :: k)) cs w).fenced P F:=fenced_oper hFb hroom hoj (fun f _=>hFa f)
   refine⟨e,a',cs2,w2,hl2,q,.of_steps (.one i1 (step_lone_go ?_)) harr⟩
   have hg:=stepGR_op (P:=P) (b:=b) (k:=k) (cs:=cs) (w:=w) (rest:=L1++i0 :: L2) hoj hw
   rw[hr,Oper.semAt_none] at hg
   have hfin:∀ v,(b.atR a (.inRegion ops (j :: (L1++i0 :: L2)) :: k)).finish v=b.atR (a.put oj.dst v) (.inRegion ops (L1++i0 :: L2) :: k):=by
    intro v; rw[Frame.finish_atR,hoj]; rfl
   rw[hg,<-hfin]
   simp[stepG.apply,hrun]
  ·rw[hrun] at h
   cases x<;>exact h.elim
theorem wpSIn_region_drec {Q:Exit->Act->List Frame->World->Prop} {a:Act} {cs cs':List Frame} {w:World} {id i0 d:Nat} {ops:Array Oper} {o0:Oper} {v:Value} (hm:P.follows .mixedOrders=true) (ho:ops[i0]? = some o0) (hd:recDst o0=some d) (hna:o0.after=#[]) (hok:recOk ops i0 d=true) (hFa:∀ f,F.fn f) (hro:F.round=none) (hds:d<a.tmps.size)
  (hrec:recoverD cs=some (v,cs')∨(recoverD cs=none/\cs'=cs/\v=.nilIface)) (h:LW F n P (noRec ops i0 d) (fun e a' w'=>match e with | .panic _=>False | e=>Q e a' cs' w') (a.put (some d) v) w):(Code.region id ops true).wpSIn F n P Q a cs w:=by
 intro b k hb hr hFb hroom
 have h:=h (w.tape w.drawn (.order b.fn id))
 have hs:∀ (ops:Array Oper) t,Region.schedule (P.follows .mixedOrders) ops t=Region.linearise.go .any ops ops.size t (Array.replicate ops.size false) []:=fun ops t=>by
  simp only[Region.schedule,hm,Bool.true_or,if_true]; rfl
 have hsz:(Array.replicate ops.size false).size=ops.size:=by simp
 have hrep:∀ i,(Array.replicate ops.size false).getD i false=false:=fun i=>by
  by_cases hi:i<ops.size<;>simp[hi]
 have hi0:=(Array.getElem?_eq_some_iff.1 ho).1
 have i0l:(lone (b.atR a (.code (.region id ops true) :: k)) cs w).fenced P F:=fenced_calm hFb hroom rfl
 have hL:=hs ops (w.tape w.drawn (.order b.fn id))
 have hL':Region.schedule (P.follows .mixedOrders) (noRec ops i0 d) (w.tape w.drawn (.order b.fn id))=Region.schedule (P.follows .mixedOrders) ops (w.tape w.drawn (.order b.fn id)):=by
  have:=noRec_sched (d:=d) ho (w.tape w.drawn (.order b.fn id))
  simp only[Region.schedule,hm,Bool.true_or,if_true]
  exact this
 rw[hL'] at h
 have hmem:i0∈Region.schedule (P.follows .mixedOrders) ops (w.tape w.drawn (.order b.fn id)):=by
  rw[hL]
  refine go_mem ho (fun e he _=>by rw[hna] at he; simp at he) _ _ _ hsz ?_ (by simp[hi0])
  unfold unl
  exact Nat.le_trans (List.length_filter_le _ _) (by simp)
 obtain ⟨L1,L2,hLe,hn1⟩:=List.eq_append_cons_of_mem hmem
 have hn2:i0 ∉ L2:=go_once _ _ _ L1 L2 hsz (hL ▸ hLe)
 have hgo:Region.linearise.go .any ops ops.size (w.tape w.drawn (.order b.fn id)) (Array.replicate ops.size false) []=L1++i0 :: L2:=hL ▸ hLe
 have hload:∀ (p:Nat) (j:Nat),L1[p]? = some j->∃ o,ops[j]? = some o/\isLoadO d o=true:=by
  intro p
  induction p using Nat.strongRecOn with
  | _ p ih =>
   intro j hp
   have hjm:j∈L1:=List.mem_of_getElem? hp
   obtain ⟨o,hoj⟩:=go_some _ _ _ j (hgo ▸ List.mem_append_left _ hjm)
   have hjs:=(Array.getElem?_eq_some_iff.1 hoj).1
   have hck:=List.all_eq_true.1 hok j (List.mem_range.2 hjs)
   rw[hoj] at hck
   simp only[Bool.or_eq_true] at hck
   rcases hck with h1 | h1 | h1
   ·exact absurd (Nat.eq_of_beq_eq_true h1 ▸ hjm) hn1
   ·exact⟨o,hoj,h1⟩
   ·exfalso
    obtain ⟨q,hq1,hq2⟩:=Array.any_eq_true.1 h1
    rw[Bool.and_eq_true,Bool.not_eq_true'] at hq2
    obtain ⟨hp1,hpe⟩:=List.getElem?_eq_some_iff.1 hp
    have hsplit:L1++i0 :: L2=L1.take p++j :: (L1.drop (p+1)++i0 :: L2):=by
     rw[<-List.cons_append,<-hpe,<-List.drop_eq_getElem_cons hp1,<-List.append_assoc,List.take_append_drop]
    rcases go_dep _ _ _ (L1.take p) j _ (hgo.trans hsplit) o o.after[q] hoj (Array.getElem_mem _) hq2.1 with h2 | h2
    ·rw[hrep] at h2; cases h2
    ·obtain ⟨x,hx,hxe⟩:=List.getElem_of_mem h2
     rw[List.getElem_take] at hxe
     have hxp:x<p:=by rw[List.length_take] at hx; omega
     obtain ⟨o',ho',hl'⟩:=ih x hxp o.after[q].on (by rw[<-hxe]; exact List.getElem?_eq_getElem _)
     unfold isLoadAt at hq2
     rw[ho'] at hq2
     simp only at hq2
     rw[hl'] at hq2
     exact absurd hq2.2 (by simp)
 rw[hLe] at h
 obtain ⟨e,a',cs2,w2,hl,q,harr⟩:=recList ho hd hFa hro hrec hn2 L1 a _ (fun j hj=>by
  obtain ⟨p,hp,hpe⟩:=List.getElem_of_mem hj
  exact hload p j (by rw[<-hpe]; exact List.getElem?_eq_getElem hp)) hds h b k hb hr hFb hroom
 refine⟨e,a',cs2,w2,hl,q,.of_steps (.one i0l ?_) harr⟩
 rw[<-hLe]
 exact stepR_region_draw
end Go.Proofs.Ytdmgdjnadbakfaa
