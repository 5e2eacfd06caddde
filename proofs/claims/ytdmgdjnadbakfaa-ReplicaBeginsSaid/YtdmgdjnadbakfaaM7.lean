/-
 Layer 53, in plain Lean: each beginning of the records is loaded as a right replica.
-/
import Derived.Test.YtdmgdjnadbakfaaM4
import Derived.Test.YtdmgdjnadbakfaaC9
namespace Go.Proofs.Ytdmgdjnadbakfaa
set_option linter.unusedVariables false
set_option linter.unusedSimpArgs false
set_option maxRecDepth 100000
set_option maxHeartbeats 4000000
theorem numv_frm (n:Int):frm (.mk 1 n ByteArray.empty [])=true:=by
 rw[frm_eq]
 simp only[show ((1:Int)==1)=true from rfl,cond_true,emp_eq.2]
 rfl
theorem numv_dep (n:Int):dep (.mk 1 n ByteArray.empty [])=0:=by
 rw[dep_eq]; rfl
theorem numv_ok {n:Int} (h:In64 n):ok_S_Value (.mk 1 n ByteArray.empty []):=(okq_S_Value _).2 ⟨⟨by simp,by simp⟩,h,by simp,by simp,fun _ h=>absurd h List.not_mem_nil⟩
theorem numv_nod (n:Int):nod (.mk 1 n ByteArray.empty [])=1:=by
 rw[nod_eq]
 show 1+ByteArray.empty.size / 200+nods []=1
 rw[nods_nil]; rfl
theorem lst_frm (l:List S_Value):frm (.mk 3 0 ByteArray.empty l)=frms l:=by
 rw[frm_eq]
 simp only[show ((3:Int)==1)=false from rfl,show ((3:Int)==2)=false from rfl,show ((3:Int)==3)=true from rfl,cond_true,cond_false,emp_eq.2]
 cases frms l<;>rfl
theorem lst_dep (l:List S_Value):dep (.mk 3 0 ByteArray.empty l)=deps l+1:=by rw[dep_eq]; rfl
theorem lst_nod (l:List S_Value):nod (.mk 3 0 ByteArray.empty l)=1+nods l:=by
 rw[nod_eq]
 have h:ByteArray.empty.size=0:=rfl
 show 1+ByteArray.empty.size / 200+nods l=1+nods l
 omega
theorem lst_ok {l:List S_Value} (h:l.length<=maxL) (h2:∀ e∈l,ok_S_Value e):ok_S_Value (.mk 3 0 ByteArray.empty l):=(okq_S_Value _).2 ⟨⟨by simp,by simp⟩,⟨by simp,by simp⟩,by simp,h,h2⟩
theorem frms_all:∀ {l:List S_Value},(∀ e∈l,frm e=true)->frms l=true
 | [],_=>frms_nil
 | x :: r,h=>by rw[frms_cons,h x (List.mem_cons_self ..),frms_all fun e he=>h e (List.mem_cons_of_mem _ he)]; rfl
def numsV (l:List Int):List S_Value:=l.map fun n=>.mk 1 n ByteArray.empty []
def ints (l:List Int):S_Value:=.mk 3 0 ByteArray.empty (numsV l)
theorem deps_nums:∀ l:List Int,deps (numsV l)=0
 | []=>deps_nil
 | x :: r=>by show deps (S_Value.mk 1 x ByteArray.empty [] :: numsV r)=0; rw[deps_cons,numv_dep,deps_nums r]; rfl
theorem nods_nums:∀ l:List Int,nods (numsV l)=l.length
 | []=>nods_nil
 | x :: r=>by show nods (S_Value.mk 1 x ByteArray.empty [] :: numsV r)=_; rw[nods_cons,numv_nod,nods_nums r,List.length_cons]; omega
theorem ints_chk (l:List Int):chk (ints l)=0:=by
 unfold chk ints
 rw[lst_frm,lst_dep,deps_nums,frms_all (fun e he=>by obtain ⟨n,_,rfl⟩:=List.mem_map.1 he; exact numv_frm n)]
 rfl
theorem ints_ok {l:List Int} (hl:l.length<=maxL) (h:∀ n∈l,In64 n):ok_S_Value (ints l):=lst_ok (by unfold numsV; rw[List.length_map]; exact hl) (fun e he=>by obtain ⟨n,hn,rfl⟩:=List.mem_map.1 he; exact numv_ok (h n hn))
theorem ints_nod (l:List Int):nod (ints l)=1+l.length:=by unfold ints; rw[lst_nod,nods_nums]
def encI (l:List Int):List UInt8:=encV (ints l)
theorem encI_R (l:List Int):encR (ints l)=(encI l,0):=by unfold encR; rw[ints_chk]; rfl
theorem encI_D {l:List Int} (hl:l.length<=maxL) (h:∀ n∈l,In64 n):decR (encI l)=(ints l,0):=decR_enc (ints_chk l) (ints_ok hl h)
theorem mloop29 (n:Nat) (z1:List UInt8) (L:List Int) (z2 z3:Int) (z4:ByteArray) (hL:L.length<=100):∀ (l:List Int) (i m:Nat) (acc:List S_Value),L.drop i=l->i+l.length=L.length->l.length<m->acc.length<=i ->
  F29_29_0 n z1 L (L.length:Int) z2 z3 z4 m (i:Int) acc=some (acc++numsV l)
 | l,i,0,_,_,_,h,_=>absurd h (Nat.not_lt_zero _)
 | [],i,m+1,acc,hd,hi,h,_=>by
  unfold F29_29_0
  rw[decide_eq_false (by simp at hi; omega)]
  simp[numsV]
 | x :: l,i,m+1,acc,hd,hi,h,ha=>by
  have hx:L[i]? = some x:=by rw[<-List.head?_drop,hd]; rfl
  have hd':L.drop (i+1)=l:=by rw[<-List.drop_drop,hd]; rfl
  simp only[List.length_cons] at hi h
  unfold F29_29_0
  rw[decide_eq_true (by omega),getI_nat,hx]
  simp only[cond_true,Option.bind_some]
  rw[qapp _ _ _ (by omega) (by simp; omega)]
  simp only[Option.bind_some]
  rw[qwr i (by omega),mloop29 n z1 L z2 z3 z4 hL l (i+1) m _ hd' (by omega) (by omega) (by simp; omega)]
  simp[numsV]
theorem mg29 (l:List Int) (hl:l.length<=100) (h:∀ n∈l,In64 n):G29 l=some (encI l):=by
 unfold G29 F29
 have:=mloop29 fuel0 [] l 3 0 ByteArray.empty hl l 0 (fuel0+8) [] rfl (by omega) (fbig _ (by omega) _) (by simp)
 rw[show ((0:Nat):Int)=0 from rfl] at this
 rw[this]
 simp only[Option.bind_some,List.nil_append]
 show (Option.bind (G56 (ints l)) _)=_
 rw[g12 (ints l) (ints_ok (by unfold maxL; omega) h) (by rw[ints_nod]; omega),encI_R]
 rfl
theorem mloop32 (n:Nat) (z1:Bool) (L:List Int) (z3:Bool) (z4 z5 z6 z7 z8:Int) (z9:S_Value) (hL:L.length<=1000000):∀ (l:List Int) (i m:Nat) (acc:List Int),L.drop i=l->i+l.length=L.length->l.length<m->acc.length<=i ->
  F32_32_0 n z1 (numsV L) ((numsV L).length:Int) z3 z4 z5 z6 z7 z8 z9 m (i:Int) acc=some (.inr (acc++l))
 | l,i,0,_,_,_,h,_=>absurd h (Nat.not_lt_zero _)
 | [],i,m+1,acc,hd,hi,h,_=>by
  unfold F32_32_0
  rw[decide_eq_false (by simp at hi; simp[numsV]; omega)]
  simp
 | x :: l,i,m+1,acc,hd,hi,h,ha=>by
  have hx:L[i]? = some x:=by rw[<-List.head?_drop,hd]; rfl
  have hd':L.drop (i+1)=l:=by rw[<-List.drop_drop,hd]; rfl
  simp only[List.length_cons] at hi h
  unfold F32_32_0
  rw[decide_eq_true (by simp[numsV]; omega),getI_nat,show (numsV L)[i]? = some (.mk 1 x ByteArray.empty []) from by unfold numsV; rw[List.getElem?_map,hx]; rfl]
  simp only[cond_true,Option.bind_some]
  rw[show ((1:Int) != 1)=false from rfl]
  simp only[cond_false]
  rw[qapp _ _ _ (by omega) (by simp; omega)]
  simp only[Option.bind_some]
  rw[qwr i (by omega),mloop32 n z1 L z3 z4 z5 z6 z7 z8 z9 hL l (i+1) m _ hd' (by omega) (by omega) (by simp; omega)]
  simp
def entN (l:List Int):S_replica_entry×Bool:=match l with
 | [a,b,c,d]=>if a=1 then (.mk true (.mk b c d) (.mk 0 0),true) else (.mk false (.mk 0 0 0) (.mk 0 0),false)
 | [a,b,c]=>if a=2 then (.mk false (.mk 0 0 0) (.mk b c),true) else (.mk false (.mk 0 0 0) (.mk 0 0),false)
 | _=>(.mk false (.mk 0 0 0) (.mk 0 0),false)
theorem mg32i (bs:List UInt8) (hb:bs.length<=1000000) (l:List Int) (hl:l.length<=1000000) (h:decR bs=(ints l,0)):G32 bs=some (entN l):=by
 unfold G32 F32
 rw[g18 bs hb,h]
 simp only[Option.bind_some]
 rw[show ((0:Int) != 0)=false from rfl]
 simp only[cond_false,Option.bind_some]
 rw[show ((ints l).Kind != 3)=false from rfl]
 simp only[cond_false]
 have:=mloop32 fuel0 false l false 0 0 0 0 0 (ints l) hl l 0 (fuel0+8) [] rfl (by omega) (fbig _ hl _) (by simp)
 rw[show ((0:Nat):Int)=0 from rfl] at this
 rw[show (ints l).L=numsV l from rfl,this]
 simp only[Option.bind_some,List.nil_append]
 match l with
 | []=>rfl
 | [a]=>rfl
 | [a,b]=>rfl
 | [a,b,c] =>
  rw[show ((([a,b,c]:List Int).length:Int)==4)=false from rfl]
  simp only[cond_false,Option.bind_some]
  rw[show ((([a,b,c]:List Int).length:Int)==3)=true from rfl]
  simp only[cond_true]
  rw[show getI [a,b,c] 0=some a from rfl]
  unfold entN
  by_cases ha:a=2
  ·subst ha; rfl
  ·show _=some (if a=2 then _ else _)
   rw[if_neg ha]
   simp only[Option.bind_some]
   rw[show (a==2)=false from by simpa using ha]
   rfl
 | [a,b,c,d] =>
  rw[show ((([a,b,c,d]:List Int).length:Int)==4)=true from rfl]
  simp only[cond_true]
  rw[show getI [a,b,c,d] 0=some a from rfl]
  unfold entN
  by_cases ha:a=1
  ·subst ha; rfl
  ·show _=some (if a=1 then _ else _)
   rw[if_neg ha]
   simp only[Option.bind_some]
   rw[show (a==1)=false from by simpa using ha]
   rfl
 | a :: b :: c :: d :: e :: r =>
  rw[show (((a :: b :: c :: d :: e :: r).length:Int)==4)=false from by simp; omega]
  simp only[cond_false,Option.bind_some]
  rw[show (((a :: b :: c :: d :: e :: r).length:Int)==3)=false from by simp; omega]
  rfl
def numsE (x:S_replica_entry):List Int:=if x.is then [1,x.lease.No,x.lease.Holder,x.lease.Until] else [2,x.call.Bar,x.call.Program]
def wfE (x:S_replica_entry):Prop:=if x.is then x.call=.mk 0 0/\ok_S_Lease x.lease else x.lease=.mk 0 0 0/\ok_S_Call x.call
theorem numsE_64 {x:S_replica_entry} (h:wfE x):∀ n∈numsE x,In64 n:=by
 unfold wfE at h
 unfold numsE
 intro n hn
 have h1:In64 1:=⟨by omega,by omega⟩
 have h2:In64 2:=⟨by omega,by omega⟩
 split at h
 ·rename_i hi
  rw[if_pos hi] at hn
  obtain ⟨a,b,c⟩:=h.2
  simp at hn
  rcases hn with rfl | rfl | rfl | rfl<;>assumption
 ·rename_i hi
  rw[if_neg hi] at hn
  obtain ⟨a,b⟩:=h.2
  simp at hn
  rcases hn with rfl | rfl | rfl<;>assumption
theorem entN_E {x:S_replica_entry} (h:wfE x):entN (numsE x)=(x,true):=by
 obtain ⟨is,l,c⟩:=x
 unfold wfE at h
 cases is with
 | true=>obtain ⟨h1,h2⟩:=h; simp only[] at h1; subst h1; rfl
 | false=>obtain ⟨h1,h2⟩:=h; simp only[] at h1; subst h1; rfl
theorem numsE_len (x:S_replica_entry):(numsE x).length<=4:=by unfold numsE; split<;>simp
def encE (x:S_replica_entry):List UInt8:=encI (numsE x)
theorem encE_len {x:S_replica_entry} (h:wfE x):(encE x).length<=1000000:=by
 have h1:=enc_len (ints (numsE x)) (ints_ok (by have:=numsE_len x; unfold maxL; omega) (numsE_64 h)) (by rw[ints_nod]; have:=numsE_len x; omega)
 rw[ints_nod] at h1
 have:=numsE_len x
 unfold encE encI
 omega
theorem mg32E {x:S_replica_entry} (h:wfE x):G32 (encE x)=some (x,true):=by
 have hl:=numsE_len x
 rw[mg32i (encE x) (encE_len h) (numsE x) (by omega) (encI_D (by unfold maxL; omega) (numsE_64 h)),entN_E h]
def lsE (es:List S_replica_entry):List S_Lease:=es.filterMap fun x=>if x.is then some x.lease else none
def csE (es:List S_replica_entry):List S_Call:=es.filterMap fun x=>if x.is then none else some x.call
def osE (es:List S_replica_entry):List Bool:=es.map (·.is)
def repE (self:Int) (es:List S_replica_entry):S_Replica:=.mk self (lsE es) (csE es) (osE es)
def addE (s:S_Replica) (x:S_replica_entry):S_Replica:=if x.is then addL s x.lease else addC s x.call
def okE (s:S_Replica) (x:S_replica_entry):Bool:=if x.is then folB s.Leases x.lease else mayB s.Self s.Leases s.Calls x.call
def runE:S_Replica->List S_replica_entry->Bool
 | _,[]=>true
 | s,x :: es=>okE s x&&runE (addE s x) es
theorem runE_cons (s:S_Replica) (x:S_replica_entry) (es:List S_replica_entry):runE s (x :: es)=(okE s x&&runE (addE s x) es):=rfl
theorem lsE_len (es:List S_replica_entry):(lsE es).length+(csE es).length=es.length:=by
 induction es with
 | nil=>rfl
 | cons x es ih =>
  unfold lsE csE at *
  rw[List.filterMap_cons,List.filterMap_cons]
  cases hx:x.is<;>simp<;>omega
theorem repE_snoc (self:Int) (es:List S_replica_entry) (x:S_replica_entry):repE self (es++[x])=addE (repE self es) x:=by
 unfold repE addE lsE csE osE addL addC
 rw[List.filterMap_append,List.filterMap_append,List.map_append]
 cases hx:x.is<;>simp[List.filterMap_cons,hx]
theorem goW_run:∀ (es:List S_replica_entry) (s:S_Replica),goW s (lsE es) (csE es) (osE es)=runE s es
 | [],s=>goW_nil _ _ _
 | x :: es,s=>by
  unfold lsE csE osE
  rw[List.filterMap_cons,List.filterMap_cons,List.map_cons]
  cases hx:x.is with
  | true =>
   simp only[if_true]
   rw[goW_t,show goW (addL s x.lease) (es.filterMap fun x=>if x.is=true then some x.lease else none) (es.filterMap fun x=>if x.is=true then none else some x.call) (es.map (·.is))=_ from goW_run es (addL s x.lease)]
   rw[runE_cons]
   unfold okE addE
   rw[hx]; rfl
  | false =>
   simp only[Bool.false_eq_true,if_false]
   rw[goW_f,show goW (addC s x.call) (es.filterMap fun x=>if x.is=true then some x.lease else none) (es.filterMap fun x=>if x.is=true then none else some x.call) (es.map (·.is))=_ from goW_run es (addC s x.call)]
   rw[runE_cons]
   unfold okE addE
   rw[hx]; rfl
theorem entries_of:∀ (o:List Bool) (ls:List S_Lease) (cs:List S_Call) (s:S_Replica),goW s ls cs o=true->o.length=ls.length+cs.length->(∀ l∈ls,ok_S_Lease l)->(∀ c∈cs,ok_S_Call c) ->
  ∃ es,(∀ x∈es,wfE x)/\ls=lsE es/\cs=csE es/\o=osE es
 | [],ls,cs,s,h,hl,_,_=>by
  have e1:ls=[]:=List.length_eq_zero_iff.1 (by simp at hl; omega)
  have e2:cs=[]:=List.length_eq_zero_iff.1 (by simp at hl; omega)
  exact⟨[],fun _ h=>absurd h List.not_mem_nil,e1,e2,rfl⟩
 | true :: o,[],cs,s,h,hl,_,_=>by rw[goW_t0] at h; cases h
 | true :: o,l :: ls,cs,s,h,hl,h1,h2=>by
  rw[goW_t,Bool.and_eq_true] at h
  obtain ⟨es,i1,i2,i3,i4⟩:=entries_of o ls cs (addL s l) h.2 (by simp at hl ⊢; omega) (fun x hx=>h1 x (List.mem_cons_of_mem _ hx)) h2
  refine⟨.mk true l (.mk 0 0) :: es,fun x hx=>?_,?_,?_,?_⟩
  ·rcases List.mem_cons.1 hx with rfl | hx
   ·exact⟨rfl,h1 l (List.mem_cons_self ..)⟩
   ·exact i1 x hx
  ·rw[i2]; rfl
  ·rw[i3]; rfl
  ·rw[i4]; rfl
 | false :: o,ls,[],s,h,hl,_,_=>by rw[goW_f0] at h; cases h
 | false :: o,ls,c :: cs,s,h,hl,h1,h2=>by
  rw[goW_f,Bool.and_eq_true] at h
  obtain ⟨es,i1,i2,i3,i4⟩:=entries_of o ls cs (addC s c) h.2 (by simp at hl ⊢; omega) h1 (fun x hx=>h2 x (List.mem_cons_of_mem _ hx))
  refine⟨.mk false (.mk 0 0 0) c :: es,fun x hx=>?_,?_,?_,?_⟩
  ·rcases List.mem_cons.1 hx with rfl | hx
   ·exact⟨rfl,h2 c (List.mem_cons_self ..)⟩
   ·exact i1 x hx
  ·rw[i2]; rfl
  ·rw[i3]; rfl
  ·rw[i4]; rfl
theorem chk_entries {r:S_Replica} (h:chkB r=true) (hr:ok_S_Replica r):∃ es,(∀ x∈es,wfE x)/\r=repE r.Self es/\runE (.mk r.Self [] [] []) es=true/\es≠[]/\es.head?.map (·.is)=some true/\(lsE es).length<=256/\es.length=r.Order.length:=by
 obtain ⟨h1,h2,h3,h4,h5,h6⟩:=chkB_inv h
 have hw:goW (.mk r.Self [] [] []) r.Leases r.Calls r.Order=true:=by
  unfold chkB at h
  simp only[Bool.and_eq_true] at h
  exact h.1.2
 obtain ⟨es,i1,i2,i3,i4⟩:=entries_of r.Order r.Leases r.Calls _ hw h4 hr.2.1.2 hr.2.2.1.2
 refine⟨es,i1,?_,?_,?_,?_,?_,?_⟩
 ·unfold repE; rw[<-i2,<-i3,<-i4]
 ·rw[i2,i3,i4,goW_run] at hw; exact hw
 ·rintro rfl; rw[i4] at h6; cases h6
 ·rw[i4] at h6; unfold osE at h6; rw[List.head?_map] at h6; exact h6
 ·rw[<-i2]; exact h5
 ·rw[i4]; unfold osE; rw[List.length_map]
theorem chk_rep {self:Int} {es:List S_replica_entry} (hs:inn self 0 1=true) (hr:runE (.mk self [] [] []) es=true) (hn:es≠[]) (hh:es.head?.map (·.is)=some true) (hl:(lsE es).length<=256):chkB (repE self es)=true:=by
 unfold chkB repE
 simp only[Bool.and_eq_true]
 refine⟨⟨⟨⟨⟨hs,?_⟩,?_⟩,decide_eq_true hl⟩,?_⟩,?_⟩
 ·unfold osE; rw[List.length_map]
  have:es.length≠0:=fun h=>hn (List.length_eq_zero_iff.1 h)
  simpa using this
 ·rw[beq_iff_eq,lsE_len]; unfold osE; rw[List.length_map]
 ·rw[goW_run]; exact hr
 ·unfold osE; rw[List.head?_map,hh]; rfl
theorem runE_take:∀ (es:List S_replica_entry) (s:S_Replica) (n:Nat),runE s es=true->runE s (es.take n)=true
 | es,s,0,_=>by rw[List.take_zero]; rfl
 | [],s,n+1,h=>h
 | x :: es,s,n+1,h=>by
  unfold runE at h
  rw[Bool.and_eq_true] at h
  rw[List.take_succ_cons]
  unfold runE
  rw[h.1,runE_take es _ n h.2]; rfl
theorem head_take {es:List S_replica_entry} {n:Nat} (h:es.head?.map (·.is)=some true) (hn:0<n):(es.take n).head?.map (·.is)=some true:=by
 cases es with
 | nil=>cases h
 | cons x es=>cases n with
  | zero=>omega
  | succ n=>rw[List.take_succ_cons]; exact h
theorem lsE_take (es:List S_replica_entry) (n:Nat):lsE (es.take n) <+: lsE es:=by
 unfold lsE
 conv=>rhs; rw[<-List.take_append_drop n es,List.filterMap_append]
 exact List.prefix_append _ _
theorem csE_take (es:List S_replica_entry) (n:Nat):csE (es.take n) <+: csE es:=by
 unfold csE
 conv=>rhs; rw[<-List.take_append_drop n es,List.filterMap_append]
 exact List.prefix_append _ _
theorem mloop9 (n:Nat) (O:List Bool) (r1 r2:S_Replica) (hO:O.length<=100000):∀ (es:List S_replica_entry) (i m:Nat) (acc:List (List UInt8)),(∀ x∈es,wfE x)->O.drop i=osE es->i+es.length=O.length->es.length<m->acc.length<=i ->
  F9_55_0 n O (O.length:Int) r1 r2 m (lsE es) (csE es) (i:Int) acc=some (.inr (acc++es.map encE))
 | es,i,0,_,_,_,_,h,_=>absurd h (Nat.not_lt_zero _)
 | [],i,m+1,acc,_,hd,hi,h,_=>by
  unfold F9_55_0
  rw[decide_eq_false (by simp at hi; omega)]
  simp
 | x :: es,i,m+1,acc,hw,hd,hi,h,ha=>by
  have hx:O[i]? = some x.is:=by rw[<-List.head?_drop,hd]; rfl
  have hd':O.drop (i+1)=osE es:=by rw[<-List.drop_drop,hd]; rfl
  simp only[List.length_cons] at hi h
  have hwx:=hw x (List.mem_cons_self ..)
  have hwe:∀ y∈es,wfE y:=fun y hy=>hw y (List.mem_cons_of_mem _ hy)
  unfold F9_55_0
  rw[decide_eq_true (by omega),getI_nat,hx]
  simp only[cond_true,Option.bind_some]
  have e29:=mg29 (numsE x) (by have:=numsE_len x; omega) (numsE_64 hwx)
  have el:∀ y ys,lsE (y :: ys)=if y.is then y.lease :: lsE ys else lsE ys:=fun y ys=>by unfold lsE; rw[List.filterMap_cons]; cases y.is<;>rfl
  have ec:∀ y ys,csE (y :: ys)=if y.is then csE ys else y.call :: csE ys:=fun y ys=>by unfold csE; rw[List.filterMap_cons]; cases y.is<;>rfl
  rw[el,ec]
  cases hxi:x.is with
  | true =>
   simp only[if_true,cond_true]
   rw[show decide ((0:Int)<((x.lease :: lsE es).length:Int))=true from decide_eq_true (by simp)]
   simp only[cond_true,Option.bind_some]
   rw[show getI (x.lease :: lsE es) 0=some x.lease from rfl,qtail]
   simp only[Option.bind_some]
   rw[show ([1,x.lease.No,x.lease.Holder,x.lease.Until]:List Int)=numsE x from by unfold numsE; rw[if_pos hxi],e29]
   simp only[Option.bind_some]
   rw[qapp _ _ _ (by omega) (by simp; omega)]
   simp only[Option.bind_some]
   rw[qwr i (by omega),mloop9 n O r1 r2 hO es (i+1) m _ hwe hd' (by omega) (by omega) (by simp; omega)]
   simp[encE]
  | false =>
   simp only[Bool.false_eq_true,if_false,cond_false,Option.bind_some,Bool.not_false,cond_true]
   rw[show decide ((0:Int)<((x.call :: csE es).length:Int))=true from decide_eq_true (by simp)]
   simp only[cond_true,Option.bind_some]
   rw[show getI (x.call :: csE es) 0=some x.call from rfl,qtail]
   simp only[Option.bind_some]
   rw[show ([2,x.call.Bar,x.call.Program]:List Int)=numsE x from by unfold numsE; rw[if_neg (by rw[hxi]; decide)],e29]
   simp only[Option.bind_some]
   rw[qapp _ _ _ (by omega) (by simp; omega)]
   simp only[Option.bind_some]
   rw[qwr i (by omega),mloop9 n O r1 r2 hO es (i+1) m _ hwe hd' (by omega) (by omega) (by simp; omega)]
   simp[encE]
theorem osE_len (es:List S_replica_entry):(osE es).length=es.length:=List.length_map ..
theorem small_rep {self:Int} {es:List S_replica_entry} (h:es.length<=100000):smallR (repE self es):=by
 have:=lsE_len es
 unfold smallR repE
 rw[osE_len]
 exact⟨by simp only[]; omega,by simp only[]; omega,by omega⟩
theorem mg9E {self:Int} {es:List S_replica_entry} (hc:chkB (repE self es)=true) (hw:∀ x∈es,wfE x) (h:es.length<=100000):G9 (repE self es)=some (es.map encE,0):=by
 obtain ⟨s1,s2,s3⟩:=small_rep (self:=self) h
 unfold G9 F9
 rw[mg20 _ s1 s2 s3,hc]
 simp only[if_true,Option.bind_some]
 rw[show ((0:Int) != 0)=false from rfl]
 simp only[cond_false]
 have:=mloop9 fuel0 (osE es) (repE self es) (repE self es) (by rw[osE_len]; exact h) es 0 (fuel0+7) [] hw rfl (by rw[osE_len]; omega) (fbig _ (by omega) _) (by simp)
 rw[show ((0:Nat):Int)=0 from rfl] at this
 show (Option.bind (F9_55_0 fuel0 (osE es) ((osE es).length:Int) (repE self es) (repE self es) (fuel0+7) (lsE es) (csE es) 0 []) _)=_
 rw[this]
 rfl
theorem mg9bad {r:S_Replica} (hs:smallR r) (hc:chkB r=false):G9 r=some ([],530):=by
 obtain ⟨s1,s2,s3⟩:=hs
 unfold G9 F9
 rw[mg20 _ s1 s2 s3,hc]
 rfl
theorem mg33E (s:S_Replica) (x:S_replica_entry) (h1:s.Leases.length<10000000) (h2:s.Calls.length<10000000) (h3:s.Order.length<10000000):G33 s x=some (addE s x):=by
 obtain ⟨is,l,c⟩:=x
 cases is with
 | true=>exact mg33L s l c h1 h3
 | false=>exact mg33C s l c h2 h3
theorem mloop11 (n:Nat) (z self:Int) (es0:List S_replica_entry) (h0:es0.length<=100000) (hw:∀ x∈es0,wfE x):∀ (es:List S_replica_entry) (i m:Nat),es0.drop i=es->i+es.length=es0.length->es.length<m ->
  F11_11_0 n z (es0.map encE) ((es0.map encE).length:Int) m (i:Int) self (lsE (es0.take i)) (csE (es0.take i)) (osE (es0.take i))=some (.inr (self,lsE es0,csE es0,osE es0))
 | es,i,0,_,_,h=>absurd h (Nat.not_lt_zero _)
 | [],i,m+1,hd,hi,h=>by
  unfold F11_11_0
  rw[decide_eq_false (by simp at hi; simp; omega)]
  simp at hi
  rw[show es0.take i=es0 from List.take_of_length_le (by omega)]
  rfl
 | x :: es,i,m+1,hd,hi,h=>by
  have hx:es0[i]? = some x:=by rw[<-List.head?_drop,hd]; rfl
  have hd':es0.drop (i+1)=es:=by rw[<-List.drop_drop,hd]; rfl
  simp only[List.length_cons] at hi h
  have hwx:=hw x (List.mem_of_getElem? hx)
  have hlen:(es0.take i).length<=100000:=by rw[List.length_take]; omega
  obtain ⟨s1,s2,s3⟩:=small_rep (self:=self) hlen
  unfold F11_11_0
  rw[decide_eq_true (by simp; omega),getI_nat,List.getElem?_map,hx]
  simp only[cond_true,Option.map_some,Option.bind_some]
  rw[mg32E hwx]
  simp only[Option.bind_some,Bool.not_true,cond_false]
  rw[show S_Replica.mk self (lsE (es0.take i)) (csE (es0.take i)) (osE (es0.take i))=repE self (es0.take i) from rfl,mg33E _ _ (by omega) (by omega) (by omega)]
  simp only[Option.bind_some]
  rw[<-repE_snoc,show es0.take i++[x]=es0.take (i+1) from by rw[List.take_add_one,hx]; rfl,qwr i (by omega)]
  exact mloop11 n z self es0 h0 hw es (i+1) m hd' (by omega) (by omega)
theorem mg11E (self:Int) {es:List S_replica_entry} (h0:es.length<=100000) (hw:∀ x∈es,wfE x):G11 self (es.map encE)=some (if chkB (repE self es)=true then (repE self es,0) else (zeroR,530)):=by
 obtain ⟨s1,s2,s3⟩:=small_rep (self:=self) h0
 unfold G11 F11
 have:=mloop11 fuel0 0 self es h0 hw es 0 (fuel0+8) rfl (by omega) (fbig _ (by omega) _)
 rw[show ((0:Nat):Int)=0 from rfl] at this
 rw[show lsE (es.take 0)=[] from rfl,show csE (es.take 0)=[] from rfl,show osE (es.take 0)=[] from rfl] at this
 rw[this]
 simp only[Option.bind_some]
 rw[show S_Replica.mk self (lsE es) (csE es) (osE es)=repE self es from rfl,mg20 _ s1 s2 s3]
 cases chkB (repE self es)<;>rfl
theorem pure5:Pure5:=by
 intro r at_ hr hat
 unfold G5 F5
 rw[sane7]
 simp only[Bool.not_true,cond_false,Option.bind_some]
 rw[mg8]
 cases hfw:fewR r with
 | false=>rfl
 | true =>
 obtain ⟨b1,b2,b3⟩:=fewR_le hfw
 simp only[Bool.not_true,cond_false,Option.bind_some]
 cases hc:chkB r with
 | false=>rw[mg9bad ⟨by omega,by omega,by omega⟩ hc]; rfl
 | true =>
 obtain ⟨es,hw,hre,hrun,hne,hhd,h256,hlen⟩:=chk_entries hc hr
 have hs:=(chkB_inv hc).1
 have hes:es.length<=100000:=by omega
 have hpos:0<es.length:=List.length_pos_iff.2 hne
 have hc':chkB (repE r.Self es)=true:=by rw[<-hre]; exact hc
 have e9:G9 r=some (es.map encE,0):=by rw[hre]; exact mg9E hc' hw hes
 rw[e9]
 simp only[Option.bind_some]
 rw[show ((0:Int) != 0)=false from rfl]
 simp only[cond_false,List.length_map]
 rw[show ((es.length:Int)==0)=false from by simp; exact hne]
 simp only[cond_false,Option.bind_some]
 rw[hlen,bne_self_eq_false]
 simp only[cond_false]
 rw[mg11E r.Self hes hw,hc']
 simp only[if_true,Option.bind_some]
 rw[<-hlen]
 rw[show decide ((es.length:Int)≠0)=true from decide_eq_true (by omega)]
 simp only[cond_true]
 have hat':0<=at_/\at_<=65535:=⟨hat.1,hat.2⟩
 obtain ⟨k,rfl⟩:∃ k:Nat,at_=(k:Int):=⟨at_.toNat,by omega⟩
 have hmod:Int.tmod (wr .i64 (k:Int)) (es.length:Int)=((k % es.length:Nat):Int):=by
  rw[wr64 (by omega) (by omega)]; rfl
 have hlt:k % es.length<es.length:=Nat.mod_lt _ hpos
 have hn:wr .i64 (1+Int.tmod (wr .i64 (k:Int)) (es.length:Int))=((k % es.length+1:Nat):Int):=by
  rw[hmod,wr64 (by omega) (by omega)]; omega
 rw[hn]
 generalize hnn:k % es.length+1=n
 have hn1:0<n:=by omega
 have hn2:n<=es.length:=by omega
 rw[qtake (es.map encE) n (by rw[List.length_map]; exact hn2)]
 simp only[Option.bind_some]
 rw[<-List.map_take]
 have hwt:∀ x∈es.take n,wfE x:=fun x hx=>hw x (List.mem_of_mem_take hx)
 have htl:(es.take n).length=n:=by rw[List.length_take]; omega
 have hlt2:=(lsE_take es n).length_le
 have hcp:chkB (repE r.Self (es.take n))=true:=chk_rep hs (runE_take _ _ _ hrun) (fun h=>by rw[h] at htl; simp at htl; omega) (head_take hhd hn1) (by omega)
 rw[mg11E r.Self (by rw[htl]; omega) hwt,hcp]
 simp only[if_true,Option.bind_some]
 rw[show ((0:Int) != 0)=false from rfl]
 simp only[cond_false,Option.bind_some]
 obtain ⟨s1,s2,s3⟩:=small_rep (self:=r.Self) hes
 obtain ⟨t1,t2,t3⟩:=small_rep (self:=r.Self) (es:=es.take n) (by rw[htl]; omega)
 rw[mg14 _ _ ⟨s1,s2,s3⟩ ⟨by omega,by omega,by omega⟩,decide_eq_true hre.symm]
 simp only[Option.bind_some,Bool.not_true,cond_false]
 rw[mg20 _ t1 t2 t3,hcp]
 simp only[if_true,Option.bind_some]
 rw[show ((0:Int) != 0)=false from rfl]
 simp only[cond_false,Option.bind_some]
 rw[show (((repE r.Self (es.take n)).Order.length:Int) != (n:Int))=false from by
  rw[show (repE r.Self (es.take n)).Order.length=n from by unfold repE; rw[osE_len,htl]]; exact bne_self_eq_false _]
 simp only[cond_false]
 have hL:r.Leases=lsE es:=by rw[hre]; rfl
 have hC:r.Calls=csE es:=by rw[hre]; rfl
 rw[mg22 _ _ t1 (by omega),decide_eq_true (show (repE r.Self (es.take n)).Leases <+: r.Leases by rw[hL]; exact lsE_take es n)]
 have hcl:=(csE_take es n).length_le
 simp only[Option.bind_some,cond_true]
 rw[show decide (((repE r.Self (es.take n)).Calls.length:Int)<=(r.Calls.length:Int))=true from decide_eq_true (by rw[hC]; show ((csE (es.take n)).length:Int)<=_; omega)]
 simp only[cond_true]
 rw[qtake r.Calls (repE r.Self (es.take n)).Calls.length (by rw[hC]; exact hcl)]
 simp only[Option.bind_some]
 rw[mg21 _ _ t2 (by rw[List.length_take]; omega),decide_eq_true (show (repE r.Self (es.take n)).Calls=r.Calls.take (repE r.Self (es.take n)).Calls.length by
  rw[hC]; exact(List.prefix_iff_eq_take.1 (csE_take es n)))]
 rfl
end Go.Proofs.Ytdmgdjnadbakfaa
