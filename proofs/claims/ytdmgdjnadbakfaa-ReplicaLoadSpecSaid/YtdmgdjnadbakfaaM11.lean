/-
 Layer 53, in plain Lean: Records and Load are the reference's.
-/
import Derived.Test.YtdmgdjnadbakfaaM4
import Derived.Test.YtdmgdjnadbakfaaC10
namespace Go.Proofs.Ytdmgdjnadbakfaa
set_option linter.unusedVariables false
set_option linter.unusedSimpArgs false
set_option maxRecDepth 100000
set_option maxHeartbeats 4000000
theorem DM (n:Int):qU (.mk 1 n ByteArray.empty [])=true:=by
 rw[m6]
 simp only[show ((1:Int)==1)=true from rfl,cond_true,uY.2]
 rfl
theorem DL (n:Int):dep (.mk 1 n ByteArray.empty [])=0:=by
 rw[ow]; rfl
theorem E2 {n:Int} (h:iR n):bJ (.mk 1 n ByteArray.empty []):=(dD _).2 ⟨⟨by simp,by simp⟩,h,by simp,by simp,fun _ h=>absurd h List.not_mem_nil⟩
theorem DN (n:Int):mf (.mk 1 n ByteArray.empty [])=1:=by
 rw[ek]
 show 1+ByteArray.empty.size / 200+jJ []=1
 rw[lq]; rfl
theorem EY (l:List ai):qU (.mk 3 0 ByteArray.empty l)=jP l:=by
 rw[m6]
 simp only[show ((3:Int)==1)=false from rfl,show ((3:Int)==2)=false from rfl,show ((3:Int)==3)=true from rfl,cond_true,cond_false,uY.2]
 cases jP l<;>rfl
theorem EX (l:List ai):dep (.mk 3 0 ByteArray.empty l)=mJ l+1:=by rw[ow]; rfl
theorem EZ (l:List ai):mf (.mk 3 0 ByteArray.empty l)=1+jJ l:=by
 rw[ek]
 have h:ByteArray.empty.size=0:=rfl
 show 1+ByteArray.empty.size / 200+jJ l=1+jJ l
 omega
theorem Hx {l:List ai} (h:l.length<=lj) (h2:∀ e∈l,bJ e):bJ (.mk 3 0 ByteArray.empty l):=(dD _).2 ⟨⟨by simp,by simp⟩,⟨by simp,by simp⟩,by simp,h,h2⟩
theorem wP:∀ {l:List ai},(∀ e∈l,qU e=true)->jP l=true
 | [],_=>pI
 | x :: r,h=>by rw[kI,h x (List.mem_cons_self ..),wP fun e he=>h e (List.mem_cons_of_mem _ he)]; rfl
def mH (l:List Int):List ai:=l.map fun n=>.mk 1 n ByteArray.empty []
def ints (l:List Int):ai:=.mk 3 0 ByteArray.empty (mH l)
theorem tM:∀ l:List Int,mJ (mH l)=0
 | []=>mT
 | x :: r=>by show mJ (ai.mk 1 x ByteArray.empty [] :: mH r)=0; rw[kF,DL,tM r]; rfl
theorem uq:∀ l:List Int,jJ (mH l)=l.length
 | []=>lq
 | x :: r=>by show jJ (ai.mk 1 x ByteArray.empty [] :: mH r)=_; rw[jf,DN,uq r,List.length_cons]; omega
theorem Dq (l:List Int):iq (ints l)=0:=by
 unfold iq ints
 rw[EY,EX,tM,wP (fun e he=>by obtain ⟨n,_,rfl⟩:=List.mem_map.1 he; exact DM n)]
 rfl
theorem As {l:List Int} (hl:l.length<=lj) (h:∀ n∈l,iR n):bJ (ints l):=Hx (by unfold mH; rw[List.length_map]; exact hl) (fun e he=>by obtain ⟨n,hn,rfl⟩:=List.mem_map.1 he; exact E2 (h n hn))
theorem w7 (l:List Int):mf (ints l)=1+l.length:=by unfold ints; rw[EZ,uq]
def Ho (l:List Int):List UInt8:=jE (ints l)
theorem CZ (l:List Int):Bl (ints l)=(Ho l,0):=by unfold Bl; rw[Dq]; rfl
theorem Ax (n:Nat) (z1:List UInt8) (L:List Int) (z2 z3:Int) (z4:ByteArray) (hL:L.length<=100):∀ (l:List Int) (i m:Nat) (acc:List ai),L.drop i=l->i+l.length=L.length->l.length<m->acc.length<=i ->
  ji n z1 L (L.length:Int) z2 z3 z4 m (i:Int) acc=some (acc++mH l)
 | l,i,0,_,_,_,h,_=>absurd h (Nat.not_lt_zero _)
 | [],i,m+1,acc,hd,hi,h,_=>by
  unfold ji
  rw[decide_eq_false (by simp at hi; omega)]
  simp[mH]
 | x :: l,i,m+1,acc,hd,hi,h,ha=>by
  have hx:L[i]? = some x:=by rw[<-List.head?_drop,hd]; rfl
  have hd':L.drop (i+1)=l:=by rw[<-List.drop_drop,hd]; rfl
  simp only[List.length_cons] at hi h
  unfold ji
  rw[decide_eq_true (by omega),bL,hx]
  simp only[cond_true,Option.bind_some]
  rw[nY _ _ _ (by omega) (by simp; omega)]
  simp only[Option.bind_some]
  rw[qj i (by omega),Ax n z1 L z2 z3 z4 hL l (i+1) m _ hd' (by omega) (by omega) (by simp; omega)]
  simp[mH]
theorem N1 (l:List Int) (hl:l.length<=100) (h:∀ n∈l,iR n):FU l=some (Ho l):=by
 unfold FU Lh
 have:=Ax aC [] l 3 0 ByteArray.empty hl l 0 (aC+8) [] rfl (by omega) (lX _ (by omega) _) (by simp)
 rw[show ((0:Nat):Int)=0 from rfl] at this
 rw[this]
 simp only[Option.bind_some,List.nil_append]
 show (Option.bind (Im (ints l)) _)=_
 rw[RR (ints l) (As (by unfold lj; omega) h) (by rw[w7]; omega),CZ]
 rfl
def pz (l:List Int):al×Bool:=match l with
 | [a,b,c,d]=>if a=1 then (.mk true (.mk b c d) (.mk 0 0),true) else (.mk false (.mk 0 0 0) (.mk 0 0),false)
 | [a,b,c]=>if a=2 then (.mk false (.mk 0 0 0) (.mk b c),true) else (.mk false (.mk 0 0 0) (.mk 0 0),false)
 | _=>(.mk false (.mk 0 0 0) (.mk 0 0),false)
def iP (x:al):List Int:=if x.is then [1,x.lease.No,x.lease.Holder,x.lease.Until] else [2,x.call.Bar,x.call.Program]
def Ej (x:al):Prop:=if x.is then x.call=.mk 0 0/\mg x.lease else x.lease=.mk 0 0 0/\nS x.call
theorem xj {x:al} (h:Ej x):∀ n∈iP x,iR n:=by
 unfold Ej at h
 unfold iP
 intro n hn
 have h1:iR 1:=⟨by omega,by omega⟩
 have h2:iR 2:=⟨by omega,by omega⟩
 split at h
 ·rename_i hi
  rw[if_pos hi] at hn
  obtain ⟨a,b,c⟩:=h.2
  simp at hn
  rcases hn with rfl | rfl | rfl | rfl<;>assumption
 ·rename_i hi
  rw[if_neg hi] at hn
  obtain ⟨a,b⟩:=h.2
  simp at hn
  rcases hn with rfl | rfl | rfl<;>assumption
theorem qg (x:al):(iP x).length<=4:=by unfold iP; split<;>simp
def uZ (x:al):List UInt8:=Ho (iP x)
def ja (es:List al):List ak:=es.filterMap fun x=>if x.is then some x.lease else none
def je (es:List al):List ar:=es.filterMap fun x=>if x.is then none else some x.call
def mK (es:List al):List Bool:=es.map (·.is)
def gE (self:Int) (es:List al):aj:=.mk self (ja es) (je es) (mK es)
def yv (s:aj) (x:al):aj:=if x.is then om s x.lease else oh s x.call
def LR (s:aj) (x:al):Bool:=if x.is then qb s.Leases x.lease else oS s.Self s.Leases s.Calls x.call
def D1:aj->List al->Bool
 | _,[]=>true
 | s,x :: es=>LR s x&&D1 (yv s x) es
theorem uD (s:aj) (x:al) (es:List al):D1 s (x :: es)=(LR s x&&D1 (yv s x) es):=rfl
theorem vA (es:List al):(ja es).length+(je es).length=es.length:=by
 induction es with
 | nil=>rfl
 | cons x es ih =>
  unfold ja je at *
  rw[List.filterMap_cons,List.filterMap_cons]
  cases hx:x.is<;>simp<;>omega
theorem uz (self:Int) (es:List al) (x:al):gE self (es++[x])=yv (gE self es) x:=by
 unfold gE yv ja je mK om oh
 rw[List.filterMap_append,List.filterMap_append,List.map_append]
 cases hx:x.is<;>simp[List.filterMap_cons,hx]
theorem vn:∀ (es:List al) (s:aj),qL s (ja es) (je es) (mK es)=D1 s es
 | [],s=>vm _ _ _
 | x :: es,s=>by
  unfold ja je mK
  rw[List.filterMap_cons,List.filterMap_cons,List.map_cons]
  cases hx:x.is with
  | true =>
   simp only[if_true]
   rw[uf,show qL (om s x.lease) (es.filterMap fun x=>if x.is=true then some x.lease else none) (es.filterMap fun x=>if x.is=true then none else some x.call) (es.map (·.is))=_ from vn es (om s x.lease)]
   rw[uD]
   unfold LR yv
   rw[hx]; rfl
  | false =>
   simp only[Bool.false_eq_true,if_false]
   rw[ue,show qL (oh s x.call) (es.filterMap fun x=>if x.is=true then some x.lease else none) (es.filterMap fun x=>if x.is=true then none else some x.call) (es.map (·.is))=_ from vn es (oh s x.call)]
   rw[uD]
   unfold LR yv
   rw[hx]; rfl
theorem ox:∀ (o:List Bool) (ls:List ak) (cs:List ar) (s:aj),qL s ls cs o=true->o.length=ls.length+cs.length->(∀ l∈ls,mg l)->(∀ c∈cs,nS c) ->
  ∃ es,(∀ x∈es,Ej x)/\ls=ja es/\cs=je es/\o=mK es
 | [],ls,cs,s,h,hl,_,_=>by
  have e1:ls=[]:=List.length_eq_zero_iff.1 (by simp at hl; omega)
  have e2:cs=[]:=List.length_eq_zero_iff.1 (by simp at hl; omega)
  exact⟨[],fun _ h=>absurd h List.not_mem_nil,e1,e2,rfl⟩
 | true :: o,[],cs,s,h,hl,_,_=>by rw[rV] at h; cases h
 | true :: o,l :: ls,cs,s,h,hl,h1,h2=>by
  rw[uf,Bool.and_eq_true] at h
  obtain ⟨es,i1,i2,i3,i4⟩:=ox o ls cs (om s l) h.2 (by simp at hl ⊢; omega) (fun x hx=>h1 x (List.mem_cons_of_mem _ hx)) h2
  refine⟨.mk true l (.mk 0 0) :: es,fun x hx=>?_,?_,?_,?_⟩
  ·rcases List.mem_cons.1 hx with rfl | hx
   ·exact⟨rfl,h1 l (List.mem_cons_self ..)⟩
   ·exact i1 x hx
  ·rw[i2]; rfl
  ·rw[i3]; rfl
  ·rw[i4]; rfl
 | false :: o,ls,[],s,h,hl,_,_=>by rw[vk] at h; cases h
 | false :: o,ls,c :: cs,s,h,hl,h1,h2=>by
  rw[ue,Bool.and_eq_true] at h
  obtain ⟨es,i1,i2,i3,i4⟩:=ox o ls cs (oh s c) h.2 (by simp at hl ⊢; omega) h1 (fun x hx=>h2 x (List.mem_cons_of_mem _ hx))
  refine⟨.mk false (.mk 0 0 0) c :: es,fun x hx=>?_,?_,?_,?_⟩
  ·rcases List.mem_cons.1 hx with rfl | hx
   ·exact⟨rfl,h2 c (List.mem_cons_self ..)⟩
   ·exact i1 x hx
  ·rw[i2]; rfl
  ·rw[i3]; rfl
  ·rw[i4]; rfl
theorem wz {r:aj} (h:ir r=true) (hr:mh r):∃ es,(∀ x∈es,Ej x)/\r=gE r.Self es/\D1 (.mk r.Self [] [] []) es=true/\es≠[]/\es.head?.map (·.is)=some true/\(ja es).length<=256/\es.length=r.Order.length:=by
 obtain ⟨h1,h2,h3,h4,h5,h6⟩:=pr h
 have hw:qL (.mk r.Self [] [] []) r.Leases r.Calls r.Order=true:=by
  unfold ir at h
  simp only[Bool.and_eq_true] at h
  exact h.1.2
 obtain ⟨es,i1,i2,i3,i4⟩:=ox r.Order r.Leases r.Calls _ hw h4 hr.2.1.2 hr.2.2.1.2
 refine⟨es,i1,?_,?_,?_,?_,?_,?_⟩
 ·unfold gE; rw[<-i2,<-i3,<-i4]
 ·rw[i2,i3,i4,vn] at hw; exact hw
 ·rintro rfl; rw[i4] at h6; cases h6
 ·rw[i4] at h6; unfold mK at h6; rw[List.head?_map] at h6; exact h6
 ·rw[<-i2]; exact h5
 ·rw[i4]; unfold mK; rw[List.length_map]
theorem zk (n:Nat) (O:List Bool) (r1 r2:aj) (hO:O.length<=100000):∀ (es:List al) (i m:Nat) (acc:List (List UInt8)),(∀ x∈es,Ej x)->O.drop i=mK es->i+es.length=O.length->es.length<m->acc.length<=i ->
  gm n O (O.length:Int) r1 r2 m (ja es) (je es) (i:Int) acc=some (.inr (acc++es.map uZ))
 | es,i,0,_,_,_,_,h,_=>absurd h (Nat.not_lt_zero _)
 | [],i,m+1,acc,_,hd,hi,h,_=>by
  unfold gm
  rw[decide_eq_false (by simp at hi; omega)]
  simp
 | x :: es,i,m+1,acc,hw,hd,hi,h,ha=>by
  have hx:O[i]? = some x.is:=by rw[<-List.head?_drop,hd]; rfl
  have hd':O.drop (i+1)=mK es:=by rw[<-List.drop_drop,hd]; rfl
  simp only[List.length_cons] at hi h
  have hwx:=hw x (List.mem_cons_self ..)
  have hwe:∀ y∈es,Ej y:=fun y hy=>hw y (List.mem_cons_of_mem _ hy)
  unfold gm
  rw[decide_eq_true (by omega),bL,hx]
  simp only[cond_true,Option.bind_some]
  have LM:=N1 (iP x) (by have:=qg x; omega) (xj hwx)
  have el:∀ y ys,ja (y :: ys)=if y.is then y.lease :: ja ys else ja ys:=fun y ys=>by unfold ja; rw[List.filterMap_cons]; cases y.is<;>rfl
  have ec:∀ y ys,je (y :: ys)=if y.is then je ys else y.call :: je ys:=fun y ys=>by unfold je; rw[List.filterMap_cons]; cases y.is<;>rfl
  rw[el,ec]
  cases hxi:x.is with
  | true =>
   simp only[if_true,cond_true]
   rw[show decide ((0:Int)<((x.lease :: ja es).length:Int))=true from decide_eq_true (by simp)]
   simp only[cond_true,Option.bind_some]
   rw[show bw (x.lease :: ja es) 0=some x.lease from rfl,AM]
   simp only[Option.bind_some]
   rw[show ([1,x.lease.No,x.lease.Holder,x.lease.Until]:List Int)=iP x from by unfold iP; rw[if_pos hxi],LM]
   simp only[Option.bind_some]
   rw[nY _ _ _ (by omega) (by simp; omega)]
   simp only[Option.bind_some]
   rw[qj i (by omega),zk n O r1 r2 hO es (i+1) m _ hwe hd' (by omega) (by omega) (by simp; omega)]
   simp[uZ]
  | false =>
   simp only[Bool.false_eq_true,if_false,cond_false,Option.bind_some,Bool.not_false,cond_true]
   rw[show decide ((0:Int)<((x.call :: je es).length:Int))=true from decide_eq_true (by simp)]
   simp only[cond_true,Option.bind_some]
   rw[show bw (x.call :: je es) 0=some x.call from rfl,AM]
   simp only[Option.bind_some]
   rw[show ([2,x.call.Bar,x.call.Program]:List Int)=iP x from by unfold iP; rw[if_neg (by rw[hxi]; decide)],LM]
   simp only[Option.bind_some]
   rw[nY _ _ _ (by omega) (by simp; omega)]
   simp only[Option.bind_some]
   rw[qj i (by omega),zk n O r1 r2 hO es (i+1) m _ hwe hd' (by omega) (by omega) (by simp; omega)]
   simp[uZ]
theorem nT (es:List al):(mK es).length=es.length:=List.length_map ..
theorem lB {self:Int} {es:List al} (h:es.length<=100000):ke (gE self es):=by
 have:=vA es
 unfold ke gE
 rw[nT]
 exact⟨by simp only[]; omega,by simp only[]; omega,by omega⟩
theorem Ob {self:Int} {es:List al} (hc:ir (gE self es)=true) (hw:∀ x∈es,Ej x) (h:es.length<=100000):G9 (gE self es)=some (es.map uZ,0):=by
 obtain ⟨s1,s2,s3⟩:=lB (self:=self) h
 unfold G9 F9
 rw[Hz _ s1 s2 s3,hc]
 simp only[if_true,Option.bind_some]
 rw[show ((0:Int) != 0)=false from rfl]
 simp only[cond_false]
 have:=zk aC (mK es) (gE self es) (gE self es) (by rw[nT]; exact h) es 0 (aC+7) [] hw rfl (by rw[nT]; omega) (lX _ (by omega) _) (by simp)
 rw[show ((0:Nat):Int)=0 from rfl] at this
 show (Option.bind (gm aC (mK es) ((mK es).length:Int) (gE self es) (gE self es) (aC+7) (ja es) (je es) 0 []) _)=_
 rw[this]
 rfl
theorem HB {r:aj} (hs:ke r) (hc:ir r=false):G9 r=some ([],530):=by
 obtain ⟨s1,s2,s3⟩:=hs
 unfold G9 F9
 rw[Hz _ s1 s2 s3,hc]
 rfl
theorem Kk (s:aj) (x:al) (h1:s.Leases.length<10000000) (h2:s.Calls.length<10000000) (h3:s.Order.length<10000000):BX s x=some (yv s x):=by
 obtain ⟨is,l,c⟩:=x
 cases is with
 | true=>exact GI s l c h1 h3
 | false=>exact GH s l c h2 h3
theorem E1 (a b c:Int):Ev a b c=some (tc a b c):=by
 unfold Ev Lu tc
 cases decide (b<=a)<;>rfl
theorem N7 (l:ak) (i e:Int):Iq l i e=some ((l.No==i)&&tc l.Holder 0 1&&decide (e<l.Until)&&decide (l.Until<=4096)):=by
 unfold Iq Lw
 rw[E1]
 cases (l.No==i)<;>cases tc l.Holder 0 1<;>cases decide (e<l.Until)<;>rfl
def cn (b:Bool):List Bool->Nat
 | []=>0
 | x :: o=>(if x=b then 1 else 0)+cn b o
theorem lS (b:Bool):∀ (o o':List Bool),cn b (o++o')=cn b o+cn b o'
 | [],o'=>by simp[cn]
 | x :: o,o'=>by rw[List.cons_append,cn,cn,lS b o o']; omega
theorem Ac:∀ (o:List Bool),cn true o+cn false o=o.length
 | []=>rfl
 | x :: o=>by have:=Ac o; cases x<;>simp[cn]<;>omega
theorem lT (b:Bool) (O:List Bool) {p q:Nat} (h:p<=q):cn b (O.take p)<=cn b (O.take q):=by
 have:O.take q=O.take p++(O.drop p).take (q - p):=by
  rw[<-List.take_add,Nat.add_sub_cancel' h]
 rw[this,lS]; omega
theorem lU (b:Bool) {O:List Bool} {p:Nat} (h:O[p]? = some b):cn b (O.take (p+1))=cn b (O.take p)+1:=by
 rw[List.take_add_one,h,lS]; simp[cn]
theorem EF {b:Bool} {O:List Bool} {p q:Nat} (hp:O[p]? = some b) (hq:O[q]? = some b) (h:cn b (O.take p)=cn b (O.take q)):p=q:=by
 rcases Nat.lt_trichotomy p q with h1 | h1 | h1
 ·have:=lT b O (show p+1<=q from h1); rw[lU b hp] at this; omega
 ·exact h1
 ·have:=lT b O (show q+1<=p from h1); rw[lU b hq] at this; omega
def pb (b:Bool):List Bool->Nat->Nat
 | [],_=>0
 | x :: o,k=>if x=b then (if k=0 then 0 else pb b o (k - 1)+1) else pb b o k+1
theorem nm (b:Bool):∀ (O:List Bool) (k:Nat),k<cn b O->O[pb b O k]? = some b/\cn b (O.take (pb b O k))=k
 | [],k,h=>absurd h (Nat.not_lt_zero _)
 | x :: o,k,h=>by
  unfold pb
  unfold cn at h
  by_cases hx:x=b
  ·rw[if_pos hx] at h ⊢
   by_cases hk:k=0
   ·rw[if_pos hk]; subst hk; exact⟨by simp[hx],rfl⟩
   ·rw[if_neg hk]
    obtain ⟨h1,h2⟩:=nm b o (k - 1) (by omega)
    refine⟨by simpa using h1,?_⟩
    rw[List.take_succ_cons,cn,if_pos hx,h2]; omega
  ·rw[if_neg hx] at h ⊢
   obtain ⟨h1,h2⟩:=nm b o k (by omega)
   refine⟨by simpa using h1,?_⟩
   rw[List.take_succ_cons,cn,if_neg hx,h2]; omega
theorem vF (n:Nat) (O:List Bool) (b:Bool) (at_:Nat) (z:Int) (hO:O.length<=1000000):∀ (o:List Bool) (i m k:Nat),O.drop i=o->i+o.length=O.length->o.length<m->k<=i->k<=at_->at_ - k<cn b o ->
  jm n O b (at_:Int) z m (k:Int) (i:Int)=some (.inl ((i+pb b o (at_ - k):Nat):Int))
 | o,i,0,k,_,_,h,_,_,_=>absurd h (Nat.not_lt_zero _)
 | [],i,m+1,k,hd,hi,h,_,_,hc=>absurd hc (Nat.not_lt_zero _)
 | x :: o,i,m+1,k,hd,hi,h,hki,hk,hc=>by
  have hx:O[i]? = some x:=by rw[<-List.head?_drop,hd]; rfl
  have hd':O.drop (i+1)=o:=by rw[<-List.drop_drop,hd]; rfl
  simp only[List.length_cons] at hi h
  unfold jm pb
  unfold cn at hc
  rw[decide_eq_true (by omega),bL,hx]
  simp only[cond_true,Option.bind_some]
  by_cases hxb:x=b
  ·rw[if_pos hxb] at hc ⊢
   rw[show (x==b)=true from by simp[hxb]]
   simp only[cond_true]
   by_cases hka:k=at_
   ·rw[show ((k:Int)==(at_:Int))=true from by simp[hka],if_pos (by omega)]
    rfl
   ·rw[show ((k:Int)==(at_:Int))=false from by simp; omega,if_neg (by omega)]
    simp only[cond_false]
    rw[qj k (by omega),qj i (by omega),vF n O b at_ z hO o (i+1) m (k+1) hd' (by omega) (by omega) (by omega) (by omega) (by omega)]
    rw[show at_ - (k+1)=at_ - k - 1 from by omega]
    congr 3; omega
  ·rw[if_neg hxb] at hc ⊢
   rw[show (x==b)=false from by simpa using hxb]
   simp only[cond_false]
   rw[qj i (by omega),vF n O b at_ z hO o (i+1) m k hd' (by omega) (by omega) (by omega) hk (by omega)]
   congr 3; omega
theorem Ko (O:List Bool) (b:Bool) (k:Nat) (hO:O.length<=1000000) (h:k<cn b O):Ee O b (k:Int)=some ((pb b O k:Nat):Int):=by
 unfold Ee Ly
 have:=vF aC O b k 0 hO O 0 (aC+8) 0 rfl (by omega) (lX _ hO _) (by omega) (by omega) (by omega)
 rw[show ((0:Nat):Int)=0 from rfl] at this
 rw[this]
 simp
theorem vE (n:Nat) (O:List Bool) (z:Int) (hO:O.length<=1000000):∀ (o:List Bool) (i m k:Nat),O.drop i=o->i+o.length=O.length->o.length<m->k<=i ->
  hX n O z m (k:Int) (i:Int)=some ((k+cn true o:Nat):Int)
 | o,i,0,k,_,_,h,_=>absurd h (Nat.not_lt_zero _)
 | [],i,m+1,k,hd,hi,h,_=>by
  unfold hX
  rw[decide_eq_false (by simp at hi; omega)]
  rfl
 | x :: o,i,m+1,k,hd,hi,h,hk=>by
  have hx:O[i]? = some x:=by rw[<-List.head?_drop,hd]; rfl
  have hd':O.drop (i+1)=o:=by rw[<-List.drop_drop,hd]; rfl
  simp only[List.length_cons] at hi h
  unfold hX cn
  rw[decide_eq_true (by omega),bL,hx]
  simp only[cond_true,Option.bind_some]
  cases x with
  | true =>
   simp only[cond_true,if_true]
   rw[qj k (by omega),qj i (by omega),vE n O z hO o (i+1) m (k+1) hd' (by omega) (by omega) (by omega)]
   congr 2; omega
  | false =>
   simp only[cond_false,Bool.false_eq_true,if_false]
   rw[qj i (by omega),vE n O z hO o (i+1) m k hd' (by omega) (by omega) (by omega)]
   congr 2; omega
theorem N6 (O:List Bool) (hO:O.length<=1000000):IY O=some ((cn true O:Nat):Int):=by
 unfold IY Lv
 have:=vE aC O 0 hO O 0 (aC+8) 0 rfl (by omega) (lX _ hO _) (by omega)
 rw[show ((0:Nat):Int)=0 from rfl] at this
 rw[this]
 simp
def oH (bar:Int):List ak->Option Nat
 | []=>none
 | x :: l=>if bar<x.Until then some 0 else (oH bar l).map (·+1)
theorem qc (bar:Int) (x:ak) (l:List ak):oH bar (x :: l)=if bar<x.Until then some 0 else (oH bar l).map (·+1):=rfl
theorem AA (n:Nat) (L:List ak) (bar z:Int) (hb:0<=bar) (hL:L.length<=1000000):∀ (l:List ak) (i m:Nat),L.drop i=l->i+l.length=L.length->l.length<m ->
  hY n L bar z m (i:Int)=some (match oH bar l with | some k=>.inl ((i+k:Nat):Int) | none=>.inr ())
 | l,i,0,_,_,h=>absurd h (Nat.not_lt_zero _)
 | [],i,m+1,hd,hi,h=>by
  unfold hY
  rw[decide_eq_false (by simp at hi; omega)]
  rfl
 | x :: l,i,m+1,hd,hi,h=>by
  have hx:L[i]? = some x:=by rw[<-List.head?_drop,hd]; rfl
  have hd':L.drop (i+1)=l:=by rw[<-List.drop_drop,hd]; rfl
  simp only[List.length_cons] at hi h
  rw[qc]
  unfold hY
  rw[decide_eq_true (show (i:Int)<(L.length:Int) by omega),decide_eq_true hb]
  simp only[cond_true,Option.bind_some]
  rw[bL,hx]
  simp only[Option.bind_some]
  by_cases h1:bar<x.Until
  ·rw[decide_eq_true h1,if_pos h1]; rfl
  ·rw[decide_eq_false h1,if_neg h1]
   simp only[cond_false]
   rw[qj i (by omega),AA n L bar z hb hL l (i+1) m hd' (by omega) (by omega)]
   cases oH bar l with
   | none=>rfl
   | some k=>simp only[Option.map_some]; congr 3; omega
theorem N8 (L:List ak) (bar:Int) (hL:L.length<=1000000):G5 L bar=some (match (if 0<=bar then oH bar L else none) with | some k=>(k:Int) | none=>-1):=by
 unfold G5 Lx
 by_cases hb:0<=bar
 ·have:=AA aC L bar 0 hb hL L 0 (aC+8) rfl (by omega) (lX _ hL _)
  rw[show ((0:Nat):Int)=0 from rfl] at this
  rw[this,if_pos hb]
  cases oH bar L with
  | none=>rfl
  | some k=>simp
 ·rw[if_neg hb,show aC+8=(aC+7)+1 from rfl]
  unfold hY
  rw[decide_eq_false hb]
  cases decide ((0:Int)<(L.length:Int))<;>rfl
theorem ua (bar:Int):∀ (L:List ak) (t:Nat),(L.take t).find? (fun l=>decide (bar<l.Until))=match oH bar L with | some k=>if k<t then L[k]? else none | none=>none
 | [],t=>by rw[List.take_nil]; rfl
 | x :: L,0=>by
  rw[List.take_zero]
  cases oH bar (x :: L)<;>simp
 | x :: L,t+1=>by
  rw[List.take_succ_cons,List.find?_cons,ua bar L t,qc]
  by_cases h:bar<x.Until
  ·rw[decide_eq_true h,if_pos h]; simp
  ·rw[decide_eq_false h,if_neg h]
   cases oH bar L with
   | none=>rfl
   | some k=>simp
theorem vj {bar:Int}:∀ {L:List ak} {k:Nat},oH bar L=some k->k<L.length
 | [],k,h=>by cases h
 | x :: L,k,h=>by
  rw[qc] at h
  split at h
  ·cases h; simp
  ·cases hf:oH bar L with
   | none=>rw[hf] at h; cases h
   | some j=>rw[hf] at h; cases h; have:=vj hf; simp; omega
def xl:List ak->List ak->Bool
 | _,[]=>true
 | a,x :: l=>qb a x&&xl (a++[x]) l
theorem ur (a:List ak) (x:ak) (l:List ak):xl a (x :: l)=(qb a x&&xl (a++[x]) l):=rfl
theorem GA (L:List ak) (hL:L.length<=1000000) (G:Nat->Int->Int->Option ((Bool)⊕(Unit)))
  (hG:∀ m v w,G (m+1) v w=bif (decide (w<((L.length:Int)))) then (Option.bind (bw L w) fun y41=>Option.bind (Iq y41 w v) fun y42=>bif (!y42) then (some ((Sum.inl false))) else (Option.bind (bw L w) fun y44=>G m y44.Until (wr .i64 (w+1)))) else (some ((Sum.inr (()))))) :
  ∀ (l:List ak) (i m:Nat),L.drop i=l->i+l.length=L.length->l.length<m->G m (vy (L.take i)) (i:Int)=some (if xl (L.take i) l=true then .inr () else .inl false)
 | l,i,0,_,_,h=>absurd h (Nat.not_lt_zero _)
 | [],i,m+1,hd,hi,h=>by
  rw[hG,decide_eq_false (by simp at hi; omega)]
  rfl
 | x :: l,i,m+1,hd,hi,h=>by
  have hx:L[i]? = some x:=by rw[<-List.head?_drop,hd]; rfl
  have hd':L.drop (i+1)=l:=by rw[<-List.drop_drop,hd]; rfl
  simp only[List.length_cons] at hi h
  have hlen:(L.take i).length=i:=by rw[List.length_take]; omega
  have ht:L.take (i+1)=L.take i++[x]:=by rw[List.take_add_one,hx]; rfl
  rw[hG,decide_eq_true (by omega),bL,hx]
  simp only[cond_true,Option.bind_some]
  rw[N7]
  have hf:((x.No==(i:Int))&&tc x.Holder 0 1&&decide (vy (L.take i)<x.Until)&&decide (x.Until<=4096))=qb (L.take i) x:=by unfold qb; rw[hlen]
  rw[hf,ur]
  simp only[Option.bind_some]
  cases qb (L.take i) x with
  | false=>rfl
  | true =>
   simp only[Bool.not_true,cond_false,Bool.true_and]
   rw[qj i (by omega),<-BE (L.take i) x,<-ht]
   exact GA L hL G hG l (i+1) m hd' (by omega) (by omega)
def nW (self:Int):List ak->List ak->List ar->List ar->List Bool->Bool
 | a,l :: ls,b,cs,true :: o=>nW self (a++[l]) ls b cs o
 | a,ls,b,c :: cs,false :: o=>oS self a b c&&nW self a ls (b++[c]) cs o
 | _,_,_,_,_=>true
theorem DT (self:Int) (a:List ak) (l:ak) (ls:List ak) (b cs:List ar) (o:List Bool):nW self a (l :: ls) b cs (true :: o)=nW self (a++[l]) ls b cs o:=by rw[nW]
theorem DR (self:Int) (a ls:List ak) (b:List ar) (c:ar) (cs:List ar) (o:List Bool):nW self a ls b (c :: cs) (false :: o)=(oS self a b c&&nW self a ls (b++[c]) cs o):=by cases ls<;>simp[nW]
theorem DS (self:Int) (a ls:List ak) (b cs:List ar):nW self a ls b cs []=true:=by cases ls<;>cases cs<;>simp[nW]
theorem qd:∀ (o:List Bool) (ls:List ak) (cs:List ar) (s:aj),cn true o=ls.length->cn false o=cs.length->qL s ls cs o=(xl s.Leases ls&&nW s.Self s.Leases ls s.Calls cs o)
 | [],ls,cs,s,h1,h2=>by
  have e1:ls=[]:=List.length_eq_zero_iff.1 h1.symm
  subst e1
  rw[vm,DS]; rfl
 | true :: o,[],cs,s,h1,h2=>by simp[cn] at h1
 | true :: o,l :: ls,cs,s,h1,h2=>by
  rw[uf,qd o ls cs (om s l) (by simp[cn] at h1 ⊢; omega) (by simpa [cn] using h2),DT,ur,Bool.and_assoc]
  rfl
 | false :: o,ls,[],s,h1,h2=>by simp[cn] at h2
 | false :: o,ls,c :: cs,s,h1,h2=>by
  rw[ue,qd o ls cs (oh s c) (by simpa [cn] using h1) (by simp[cn] at h2 ⊢; omega),DR]
  show (oS s.Self s.Leases s.Calls c&&(xl s.Leases ls&&nW s.Self s.Leases ls (s.Calls++[c]) cs o))=_
  rw[<-Bool.and_assoc,<-Bool.and_assoc,Bool.and_comm (oS _ _ _ _)]
theorem yZ:∀ (o:List Bool) (ls:List ak) (cs:List ar) (s:aj),qL s ls cs o=true->cn true o<=ls.length/\cn false o<=cs.length
 | [],ls,cs,s,_=>⟨Nat.zero_le _,Nat.zero_le _⟩
 | true :: o,[],cs,s,h=>by rw[rV] at h; cases h
 | true :: o,l :: ls,cs,s,h=>by
  rw[uf,Bool.and_eq_true] at h
  have:=yZ o ls cs _ h.2
  simp[cn]; omega
 | false :: o,ls,[],s,h=>by rw[vk] at h; cases h
 | false :: o,ls,c :: cs,s,h=>by
  rw[ue,Bool.and_eq_true] at h
  have:=yZ o ls cs _ h.2
  simp[cn]; omega
def rv (self:Int) (L:List ak) (C:List ar) (O:List Bool) (j:Nat) (c:ar):Bool:=oS self (L.take (cn true (O.take (pb false O j)))) (C.take j) c
theorem sB (self:Int) (L:List ak) (C:List ar) (O:List Bool) (hL:cn true O=L.length) (hC:cn false O=C.length):∀ (o o0:List Bool) (cs:List ar) (ls:List ak) (i t:Nat),O=o0++o->cn true o0=t->cn false o0=i->L.drop t=ls->C.drop i=cs ->
  (nW self (L.take t) ls (C.take i) cs o=true↔∀ j c,i<=j->C[j]? = some c->rv self L C O j c=true)
 | [],o0,cs,ls,i,t,hO,h1,h2,h3,h4=>by
  rw[DS]
  refine⟨fun _ j c hj hc=>?_,fun _=>rfl⟩
  have:=(List.getElem?_eq_some_iff.1 hc).1
  rw[hO,List.append_nil,h2] at hC
  omega
 | true :: o,o0,cs,[],i,t,hO,h1,h2,h3,h4=>by
  exfalso
  have hl:(L.drop t).length=0:=by rw[h3]; rfl
  rw[List.length_drop] at hl
  rw[hO,lS,h1] at hL
  simp[cn] at hL
  omega
 | true :: o,o0,cs,l :: ls,i,t,hO,h1,h2,h3,h4=>by
  have hx:L[t]? = some l:=by rw[<-List.head?_drop,h3]; rfl
  rw[DT,show L.take t++[l]=L.take (t+1) from by rw[List.take_add_one,hx]; rfl]
  exact sB self L C O hL hC o (o0++[true]) cs ls i (t+1) (by rw[hO]; simp) (by rw[lS,h1]; rfl) (by rw[lS,h2]; rfl) (by rw[<-List.drop_drop,h3]; rfl) h4
 | false :: o,o0,[],ls,i,t,hO,h1,h2,h3,h4=>by
  exfalso
  have hl:(C.drop i).length=0:=by rw[h4]; rfl
  rw[List.length_drop] at hl
  rw[hO,lS,h2] at hC
  simp[cn] at hC
  omega
 | false :: o,o0,c :: cs,ls,i,t,hO,h1,h2,h3,h4=>by
  have hx:C[i]? = some c:=by rw[<-List.head?_drop,h4]; rfl
  have hi:i<cn false O:=by rw[hC]; exact(List.getElem?_eq_some_iff.1 hx).1
  have hp:pb false O i=o0.length:=by
   obtain ⟨p1,p2⟩:=nm false O i hi
   refine EF p1 (by rw[hO]; simp) ?_
   rw[p2,hO,List.take_left' rfl,h2]
  have hcall:rv self L C O i c=oS self (L.take t) (C.take i) c:=by
   unfold rv
   rw[hp,hO,List.take_left' rfl,h1]
  rw[DR,Bool.and_eq_true,show C.take i++[c]=C.take (i+1) from by rw[List.take_add_one,hx]; rfl,
   sB self L C O hL hC o (o0++[false]) cs ls (i+1) t (by rw[hO]; simp) (by rw[lS,h1]; rfl) (by rw[lS,h2]; rfl) h3 (by rw[<-List.drop_drop,h4]; rfl)]
  constructor
  ·rintro ⟨q1,q2⟩ j d hj hd
   rcases Nat.lt_or_ge i j with h | h
   ·exact q2 j d h hd
   ·have:j=i:=by omega
    subst this
    rw[hx] at hd; cases hd
    rw[hcall]; exact q1
  ·intro q
   exact⟨by rw[<-hcall]; exact q i c (Nat.le_refl _) hx,fun j d hj hd=>q j d (by omega) hd⟩
def ug (self:Int) (L:List ak) (O:List Bool) (j:Nat) (bar:Int):Bool:=match (if 0<=bar then oH bar L else none) with
 | some k=>(match L[k]? with | some x=>x.Holder==self | none=>false)&&decide (pb true O k<=pb false O j)
 | none=>false
def xb (C:List ar) (j:Nat) (c:ar):Bool:=match (C.take j).getLast? with | some d=>decide (d.Bar<c.Bar) | none=>true
def DY (self:Int) (L:List ak) (C:List ar) (O:List Bool) (j:Nat) (c:ar):Bool:=xb C j c&&tc c.Program 1 8&&ug self L O j c.Bar
theorem DX {O:List Bool} {L:List ak} (hL:cn true O=L.length) {k j:Nat} (hk:k<L.length) (hj:j<cn false O):decide (pb true O k<=pb false O j)=decide (k<cn true (O.take (pb false O j))):=by
 rw[decide_eq_decide]
 obtain ⟨a1,a2⟩:=nm true O k (by omega)
 obtain ⟨b1,b2⟩:=nm false O j hj
 constructor
 ·intro h
  rcases Nat.lt_or_ge (pb true O k) (pb false O j) with h1 | h1
  ·have:=lT true O (show pb true O k+1<=pb false O j from h1)
   rw[lU true a1,a2] at this
   omega
  ·have:pb true O k=pb false O j:=by omega
   rw[this,b1] at a1; cases a1
 ·intro h
  rcases Nat.lt_or_ge (pb false O j) (pb true O k) with h1 | h1
  ·have:=lT true O (Nat.le_of_lt h1)
   rw[a2] at this; omega
  ·exact h1
theorem ux {self:Int} {L:List ak} {C:List ar} {O:List Bool} (hL:cn true O=L.length) {j:Nat} (hj:j<cn false O) (c:ar):DY self L C O j c=rv self L C O j c:=by
 unfold DY rv oS ug pK xb
 rw[ua]
 have e:∀ a b d:Bool,(a&&b&&d)=(d&&a&&b):=by decide
 rw[e]
 congr 2
 by_cases hb:0<=c.Bar
 ·rw[if_pos hb,decide_eq_true hb]
  cases hf:oH c.Bar L with
  | none=>rfl
  | some k =>
   have hk:=vj hf
   simp only[]
   rw[DX hL hk hj]
   by_cases h:k<cn true (O.take (pb false O j))
   ·rw[decide_eq_true h,if_pos h]; cases L[k]?<;>simp
   ·rw[decide_eq_false h,if_neg h]; cases L[k]?<;>simp
 ·rw[if_neg hb,decide_eq_false hb]; rfl
def wh (self:Int) (L:List ak) (C:List ar) (O:List Bool):Nat->List ar->Bool
 | _,[]=>true
 | i,c :: l=>DY self L C O i c&&wh self L C O (i+1) l
theorem wi (self:Int) (L:List ak) (C:List ar) (O:List Bool):∀ (l:List ar) (i:Nat),C.drop i=l->(wh self L C O i l=true↔∀ j c,i<=j->C[j]? = some c->DY self L C O j c=true)
 | [],i,hd=>by
  refine⟨fun _ j c hj hc=>?_,fun _=>rfl⟩
  have:=(List.getElem?_eq_some_iff.1 hc).1
  have hl:(C.drop i).length=0:=by rw[hd]; rfl
  rw[List.length_drop] at hl
  omega
 | x :: l,i,hd=>by
  have hx:C[i]? = some x:=by rw[<-List.head?_drop,hd]; rfl
  unfold wh
  rw[Bool.and_eq_true,wi self L C O l (i+1) (by rw[<-List.drop_drop,hd]; rfl)]
  constructor
  ·rintro ⟨q1,q2⟩ j d hj hdd
   rcases Nat.lt_or_ge i j with h | h
   ·exact q2 j d h hdd
   ·have e:j=i:=by omega
    rw[e,hx] at hdd; cases hdd
    rw[e]; exact q1
  ·intro q
   exact⟨q i x (Nat.le_refl _) hx,fun j d hj hd=>q j d (by omega) hd⟩
theorem Gz (n:Nat) (r:aj) (hL:r.Leases.length<=1000000) (hC:r.Calls.length<=1000000) (hO:r.Order.length<=1000000) (h1:cn true r.Order=r.Leases.length) (h2:cn false r.Order=r.Calls.length):∀ (l:List ar) (i m:Nat),r.Calls.drop i=l->i+l.length=r.Calls.length->l.length<m ->
  match wh r.Self r.Leases r.Calls r.Order i l with
  | true=>dm n false r m (i:Int)=some (.inr ())
  | false=>∃ a b,dm n false r m (i:Int)=some (.inl (false,a,b))
 | l,i,0,_,_,h=>absurd h (Nat.not_lt_zero _)
 | [],i,m+1,hd,hi,h=>by
  show dm n false r (m+1) (i:Int)=some (.inr ())
  unfold dm
  rw[decide_eq_false (by simp at hi; omega)]
  rfl
 | c :: l,i,m+1,hd,hi,h=>by
  have hx:r.Calls[i]? = some c:=by rw[<-List.head?_drop,hd]; rfl
  have hd':r.Calls.drop (i+1)=l:=by rw[<-List.drop_drop,hd]; rfl
  simp only[List.length_cons] at hi h
  have ih:=Gz n r hL hC hO h1 h2 l (i+1) m hd' (by omega) (by omega)
  have hw:=qj i (by omega)
  have tail:(Option.bind (G5 r.Leases c.Bar) fun y69=>bif (decide (y69<0)) then (some ((Sum.inl ((false,c.Bar,c.Program))))) else (Option.bind (bw r.Leases y69) fun y71=>bif (y71.Holder != r.Self) then (some ((Sum.inl ((false,c.Bar,c.Program))))) else (Option.bind (Ee r.Order true y69) fun y73=>Option.bind (Option.bind (Ee r.Order false (i:Int)) fun y74=>some (decide (y74<y73))) fun y75=>bif y75 then (some ((Sum.inl ((false,c.Bar,c.Program))))) else (dm n false r m (wr .i64 ((i:Int)+1))))))
    = bif ug r.Self r.Leases r.Order i c.Bar then dm n false r m ((i+1:Nat):Int) else some (.inl (false,c.Bar,c.Program)):=by
   rw[N8 _ _ hL,hw]
   unfold ug
   cases hf:(if 0<=c.Bar then oH c.Bar r.Leases else none) with
   | none=>rfl
   | some k =>
    have hk:k<r.Leases.length:=by
     split at hf
     ·exact vj hf
     ·cases hf
    simp only[Option.bind_some]
    obtain ⟨y,hy⟩:∃ y,r.Leases[k]? = some y:=⟨_,List.getElem?_eq_getElem hk⟩
    rw[decide_eq_false (show ¬ (k:Int)<0 by omega),bL,hy]
    simp only[cond_false,Option.bind_some]
    cases hh:(y.Holder==r.Self) with
    | false=>rw[bne,hh]; rfl
    | true =>
     rw[bne,hh]
     simp only[Bool.not_true,cond_false,Bool.true_and]
     rw[Ko _ _ k hO (by omega),Ko _ _ i hO (by omega)]
     simp only[Option.bind_some]
     by_cases hp:pb true r.Order k<=pb false r.Order i
     ·rw[decide_eq_false (show ¬ ((pb false r.Order i:Nat):Int)<((pb true r.Order k:Nat):Int) by omega),decide_eq_true hp]; rfl
     ·rw[decide_eq_true (show ((pb false r.Order i:Nat):Int)<((pb true r.Order k:Nat):Int) by omega),decide_eq_false hp]; rfl
  have fin:∀ b:Bool,b=(xb r.Calls i c&&tc c.Program 1 8)->(bif !b then (some (Sum.inl (false,c.Bar,c.Program))) else (bif ug r.Self r.Leases r.Order i c.Bar then dm n false r m ((i+1:Nat):Int) else some (.inl (false,c.Bar,c.Program))):Option ((Bool×Int×Int)⊕Unit))=dm n false r (m+1) (i:Int) ->
    match wh r.Self r.Leases r.Calls r.Order i (c :: l) with
    | true=>dm n false r (m+1) (i:Int)=some (.inr ())
    | false=>∃ a b,dm n false r (m+1) (i:Int)=some (.inl (false,a,b)):=by
   intro b hb e
   unfold wh DY
   rw[<-hb]
   cases b with
   | false=>exact⟨_,_,e.symm⟩
   | true =>
    simp only[Bool.true_and]
    cases hh:ug r.Self r.Leases r.Order i c.Bar with
    | false=>rw[hh] at e; exact⟨_,_,e.symm⟩
    | true =>
     rw[hh] at e
     simp only[Bool.not_true,cond_false,cond_true] at e
     rw[<-e]
     exact ih
  refine fin _ rfl ?_
  conv=>rhs; rw[dm]
  rw[decide_eq_true (show (i:Int)<(r.Calls.length:Int) by omega),bL,hx]
  simp only[cond_true,Option.bind_some]
  rw[tail,E1]
  by_cases h0:0<i
  ·have hpr:bw r.Calls (wr .i64 ((i:Int) - 1))=r.Calls[i - 1]?:=by rw[eu (by omega) (by omega),show ((i:Int) - 1)=((i - 1:Nat):Int) from by omega,bL]
   have hlast:(r.Calls.take i).getLast? = r.Calls[i - 1]?:=by
    rw[List.getLast?_eq_getElem?,List.length_take,Nat.min_eq_left (by omega),List.getElem?_take,if_pos (by omega)]
   obtain ⟨d,hdd⟩:∃ d,r.Calls[i - 1]? = some d:=⟨_,List.getElem?_eq_getElem (by omega)⟩
   rw[decide_eq_true (show (0:Int)<(i:Int) by omega),hpr,hdd]
   unfold xb
   rw[hlast,hdd]
   simp only[cond_true,Option.bind_some]
   by_cases hb:c.Bar<=d.Bar
   ·rw[decide_eq_true hb,decide_eq_false (show ¬ d.Bar<c.Bar by omega)]; rfl
   ·rw[decide_eq_false hb,decide_eq_true (show d.Bar<c.Bar by omega)]
    cases tc c.Program 1 8<;>rfl
  ·have:i=0:=by omega
   subst this
   unfold xb
   simp only[List.take_zero,List.getLast?_nil,Bool.true_and]
   rw[decide_eq_false (show ¬ (0:Int)<((0:Nat):Int) by omega)]
   simp only[cond_false,Option.bind_some]
theorem qR {r:aj} (h:¬ ir r=true):false=ir r:=by cases hc:ir r with | false=>rfl | true=>exact absurd hc h
theorem Kl (r:aj) (hs:ke r):Ik r=some (ir r):=by
 obtain ⟨hL,hC,hO⟩:=hs
 unfold Ik Ll
 rw[E1,E1]
 cases e1:tc r.Self 0 1 with
 | false=>unfold ir; rw[e1]; rfl
 | true =>
 simp only[Bool.not_true,cond_false,Option.bind_some]
 cases e2:tc (r.Leases.length:Int) 1 256 with
 | false =>
  refine congrArg some (qR fun hc=>?_)
  obtain ⟨_,h2,h3,h4,h5,h6⟩:=pr hc
  have h0:r.Leases.length=0:=by
   unfold tc at e2
   rw[decide_eq_true (show (r.Leases.length:Int)<=256 by omega),Bool.and_true] at e2
   have:=of_decide_eq_false e2
   omega
  have h0':r.Leases=[]:=List.length_eq_zero_iff.1 h0
  unfold ir at hc
  simp only[Bool.and_eq_true] at hc
  have hw:=hc.1.2
  rw[h0'] at hw
  cases ho:r.Order with
  | nil=>rw[ho] at h6; cases h6
  | cons x o=>rw[ho] at h6 hw; simp at h6; subst h6; rw[rV] at hw; cases hw
 | true =>
 have hl1:1<=r.Leases.length/\r.Leases.length<=256:=by
  unfold tc at e2
  simp only[Bool.and_eq_true,decide_eq_true_eq] at e2
  omega
 simp only[Bool.not_true,cond_false,Option.bind_some]
 rw[eu (by omega) (by omega)]
 by_cases e3:r.Order.length=r.Leases.length+r.Calls.length
 ·rw[show ((r.Order.length:Int) != (r.Leases.length:Int)+(r.Calls.length:Int))=false from by simp; omega]
  simp only[cond_false]
  rw[N6 _ hO]
  simp only[Option.bind_some]
  have hb:=Ac r.Order
  by_cases e4:cn true r.Order=r.Leases.length
  ·rw[show (((cn true r.Order:Nat):Int) != (r.Leases.length:Int))=false from by rw[e4]; exact bne_self_eq_false _]
   simp only[cond_false]
   have hg:bw r.Order 0=r.Order.head?:=by rw[List.head?_eq_getElem?]; rfl
   rw[hg]
   cases hh:r.Order.head? with
   | none=>rw[List.head?_eq_none_iff] at hh; rw[hh] at e3; simp at e3; omega
   | some b =>
    cases b with
    | false =>
     refine congrArg some (qR fun hc=>?_)
     have:=(pr hc).2.2.2.2.2
     rw[hh] at this; cases this
    | true =>
     have key:ir r=(xl [] r.Leases&&nW r.Self [] r.Leases [] r.Calls r.Order):=by
      unfold ir
      rw[qd r.Order r.Leases r.Calls _ e4 (by omega),e1,hh,show (r.Order.length != 0)=true from by simp; intro h; rw[h] at e3; simp at e3; omega,
       show (r.Order.length==r.Leases.length+r.Calls.length)=true from by simpa using e3,decide_eq_true hl1.2]
      simp
     have hcs:=sB r.Self r.Leases r.Calls r.Order e4 (by omega) r.Order [] r.Calls r.Leases 0 0 rfl rfl rfl rfl rfl
     have hac:=wi r.Self r.Leases r.Calls r.Order r.Calls 0 rfl
     have hkey2:nW r.Self [] r.Leases [] r.Calls r.Order=wh r.Self r.Leases r.Calls r.Order 0 r.Calls:=by
      rw[Bool.eq_iff_iff]
      refine(show nW r.Self [] r.Leases [] r.Calls r.Order=true↔_ from hcs).trans (Iff.trans ?_ hac.symm)
      exact⟨fun q j c hj hc=>by rw[ux e4 (by have:=(List.getElem?_eq_some_iff.1 hc).1; omega)]; exact q j c hj hc,fun q j c hj hc=>by rw[<-ux e4 (by have:=(List.getElem?_eq_some_iff.1 hc).1; omega)]; exact q j c hj hc⟩
     rw[key,hkey2]
     have hlo:=GA r.Leases hL (jj aC false r) (fun m v w=>by rw[jj]) r.Leases 0 (aC+8) rfl (by omega) (lX _ hL _)
     rw[show ((0:Nat):Int)=0 from rfl,show vy (r.Leases.take 0)=0 from rfl,show r.Leases.take 0=[] from rfl] at hlo
     simp only[Option.bind_some,Bool.not_true,cond_false]
     rw[hlo]
     cases xl [] r.Leases with
     | false=>rfl
     | true =>
      simp only[if_true,Option.bind_some,Bool.true_and]
      have hlc:=Gz aC r hL hC hO e4 (by omega) r.Calls 0 (aC+8) rfl (by omega) (lX _ hC _)
      rw[show ((0:Nat):Int)=0 from rfl] at hlc
      cases ha:wh r.Self r.Leases r.Calls r.Order 0 r.Calls with
      | true=>rw[ha] at hlc; simp only[] at hlc; rw[hlc]; rfl
      | false=>rw[ha] at hlc; obtain ⟨a,b,q⟩:=hlc; rw[q]; rfl
  ·rw[show (((cn true r.Order:Nat):Int) != (r.Leases.length:Int))=true from by simp; omega]
   refine congrArg some (qR fun hc=>?_)
   unfold ir at hc
   simp only[Bool.and_eq_true] at hc
   have:=yZ _ _ _ _ hc.1.2
   omega
 ·rw[show ((r.Order.length:Int) != (r.Leases.length:Int)+(r.Calls.length:Int))=true from by simp; omega]
  refine congrArg some (qR fun hc=>e3 (pr hc).2.2.2.1)
theorem Az (n:Nat) (L:List Int) (z3 z4:Int) (z5:ByteArray) (z6:List ai) (z7 z8:Int) (z9:ByteArray) (hL:L.length<=100):∀ (l:List Int) (i m:Nat) (acc:List ai),L.drop i=l->i+l.length=L.length->l.length<m->acc.length<=i ->
  jl n L z3 z4 z5 z6 z7 z8 z9 m (i:Int) acc=some (acc++mH l)
 | l,i,0,_,_,_,h,_=>absurd h (Nat.not_lt_zero _)
 | [],i,m+1,acc,hd,hi,h,_=>by
  unfold jl
  rw[decide_eq_false (by simp at hi; omega)]
  simp[mH]
 | x :: l,i,m+1,acc,hd,hi,h,ha=>by
  have hx:L[i]? = some x:=by rw[<-List.head?_drop,hd]; rfl
  have hd':L.drop (i+1)=l:=by rw[<-List.drop_drop,hd]; rfl
  simp only[List.length_cons] at hi h
  unfold jl
  rw[decide_eq_true (by omega),bL,hx]
  simp only[cond_true,Option.bind_some]
  rw[show LG x=some (.mk 1 x ByteArray.empty []) from rfl]
  simp only[Option.bind_some]
  rw[nY _ _ _ (by omega) (by simp; omega)]
  simp only[Option.bind_some]
  rw[qj i (by omega),Az n L z3 z4 z5 z6 z7 z8 z9 hL l (i+1) m _ hd' (by omega) (by omega) (by simp; omega)]
  simp[mH]
theorem Km (l:List Int) (hl:l.length<=100):Ip l=some (ints l):=by
 unfold Ip Lq
 have:=Az aC l 0 0 ByteArray.empty [] 3 0 ByteArray.empty hl l 0 (aC+8) [] rfl (by omega) (lX _ (by omega) _) (by simp)
 rw[show ((0:Nat):Int)=0 from rfl] at this
 rw[this]
 rfl
theorem Kn {x:al} (h:Ej x):G4 (ints (iP x))=some (uZ x,0):=by
 have hl:=qg x
 rw[RS (ints (iP x)) (As (by unfold lj; omega) (xj h)) (by rw[w7]; omega),CZ]
 rfl
theorem pJ (a b:List al):ja (a++b)=ja a++ja b:=List.filterMap_append ..
theorem pv (a b:List al):je (a++b)=je a++je b:=List.filterMap_append ..
theorem ss (x:al) (es:List al):ja (x :: es)=if x.is then x.lease :: ja es else ja es:=by unfold ja; rw[List.filterMap_cons]; cases x.is<;>rfl
theorem rA (x:al) (es:List al):je (x :: es)=if x.is then je es else x.call :: je es:=by unfold je; rw[List.filterMap_cons]; cases x.is<;>rfl
theorem vD (n:Nat) (z:List (List UInt8)) (self:Int) (es0:List al) (h0:es0.length<=100000) (hw:∀ x∈es0,Ej x):∀ (es:List al) (i m:Nat) (acc:List (List UInt8)),es0.drop i=es->i+es.length=es0.length->es.length<m->acc.length<=i ->
  hU n z (gE self es0) m ((ja (es0.take i)).length:Int) ((je (es0.take i)).length:Int) (i:Int) acc=some (acc++es.map uZ)
 | es,i,0,_,_,_,h,_=>absurd h (Nat.not_lt_zero _)
 | [],i,m+1,acc,hd,hi,h,_=>by
  unfold hU
  rw[decide_eq_false (by show ¬ (i:Int)<((mK es0).length:Int); rw[nT]; simp at hi; omega)]
  simp
 | x :: es,i,m+1,acc,hd,hi,h,ha=>by
  have hx:es0[i]? = some x:=by rw[<-List.head?_drop,hd]; rfl
  have hd':es0.drop (i+1)=es:=by rw[<-List.drop_drop,hd]; rfl
  have hsp:es0=es0.take i++x :: es:=by rw[<-hd,List.take_append_drop]
  have ht:es0.take (i+1)=es0.take i++[x]:=by rw[List.take_add_one,hx]; rfl
  have hwx:=hw x (List.mem_of_getElem? hx)
  have hnl:=qg x
  simp only[List.length_cons] at hi h
  have htl:=vA (es0.take i)
  rw[List.length_take] at htl
  unfold hU
  rw[decide_eq_true (by show (i:Int)<((mK es0).length:Int); rw[nT]; omega),bL,show (gE self es0).Order[i]? = some x.is from by show (mK es0)[i]? = _; unfold mK; rw[List.getElem?_map,hx]; rfl]
  simp only[cond_true,Option.bind_some]
  cases hxi:x.is with
  | true =>
   simp only[cond_true]
   rw[bL,show (gE self es0).Leases[(ja (es0.take i)).length]? = some x.lease from by
    show (ja es0)[_]? = _
    conv=>lhs; rw[hsp,pJ,ss,hxi]
    simp only[if_true]
    rw[<-hsp,List.getElem?_append_right (Nat.le_refl _)]; simp]
   simp only[Option.bind_some]
   rw[show ([1,x.lease.No,x.lease.Holder,x.lease.Until]:List Int)=iP x from by unfold iP; rw[if_pos hxi],Km _ (by omega)]
   simp only[Option.bind_some]
   rw[Kn hwx]
   simp only[Option.bind_some]
   rw[nY _ _ _ (by omega) (by simp; omega)]
   simp only[Option.bind_some]
   have e1:(ja (es0.take (i+1))).length=(ja (es0.take i)).length+1:=by rw[ht,pJ,ss,hxi]; simp[ja]
   have e2:(je (es0.take (i+1))).length=(je (es0.take i)).length:=by rw[ht,pv,rA,hxi]; simp[je]
   have:=vD n z self es0 h0 hw es (i+1) m (acc++[uZ x]) hd' (by omega) (by omega) (by simp; omega)
   rw[e1,e2] at this
   rw[qj (ja (es0.take i)).length (by omega),qj i (by omega),this]
   simp
  | false =>
   simp only[cond_false]
   rw[bL,show (gE self es0).Calls[(je (es0.take i)).length]? = some x.call from by
    show (je es0)[_]? = _
    conv=>lhs; rw[hsp,pv,rA,hxi]
    simp only[Bool.false_eq_true,if_false]
    rw[<-hsp,List.getElem?_append_right (Nat.le_refl _)]; simp]
   simp only[Option.bind_some]
   rw[show ([2,x.call.Bar,x.call.Program]:List Int)=iP x from by unfold iP; rw[if_neg (by rw[hxi]; decide)],Km _ (by omega)]
   simp only[Option.bind_some]
   rw[Kn hwx]
   simp only[Option.bind_some]
   rw[nY _ _ _ (by omega) (by simp; omega)]
   simp only[Option.bind_some]
   have e1:(ja (es0.take (i+1))).length=(ja (es0.take i)).length:=by rw[ht,pJ,ss,hxi]; simp[ja]
   have e2:(je (es0.take (i+1))).length=(je (es0.take i)).length+1:=by rw[ht,pv,rA,hxi]; simp[je]
   have:=vD n z self es0 h0 hw es (i+1) m (acc++[uZ x]) hd' (by omega) (by omega) (by simp; omega)
   rw[e1,e2] at this
   rw[qj (je (es0.take i)).length (by omega),qj i (by omega),this]
   simp
theorem Ki {r:aj} (hs:ke r):IU r=some (if ir r=true then 0 else 530):=by
 unfold IU Li
 rw[Kl r hs]
 cases ir r<;>rfl
theorem Kj {self:Int} {es:List al} (hc:ir (gE self es)=true) (hw:∀ x∈es,Ej x) (h:es.length<=100000):FR (gE self es)=some (es.map uZ,0):=by
 unfold FR IE
 rw[Ki (lB h),hc]
 simp only[if_true,Option.bind_some]
 rw[show ((0:Int) != 0)=false from rfl]
 simp only[cond_false]
 unfold LF Lj
 have:=vD aC [] self es h hw es 0 (aC+8) [] rfl (by omega) (lX _ (by omega) _) (by simp)
 rw[show ((0:Nat):Int)=0 from rfl,show ((ja (es.take 0)).length:Int)=0 from rfl,show ((je (es.take 0)).length:Int)=0 from rfl] at this
 rw[this]
 rfl
theorem E0 {r:aj} (hs:ke r) (hc:ir r=false):FR r=some ([],530):=by
 unfold FR IE
 rw[Ki hs,hc]
 rfl
def rn:List ai->Bool
 | []=>true
 | v :: l=>(v.Kind==1)&&rn l
def xx (bs:List UInt8):Option (List Int):=if (fy bs).2=0/\(fy bs).1.Kind=3/\rn (fy bs).1.L=true then some ((fy bs).1.L.map (·.N)) else none
theorem Af {bs:List UInt8} (h:bs.length<=1000000):(fy bs).1.L.length<=1000000:=by
 rcases yF bs with ⟨v,hv⟩ | hv
 ·have h1:=(Ae h hv).2.2.2
  rw[ek] at h1
  have:=dW v.L
  rw[hv]; simp only[]; omega
 ·rw[hv]; simp
theorem sx (n:Nat) (z1:Bool) (L:List ai) (z3:Bool) (z4 z5 z6 z7 z8:Int) (z9:ai) (hL:L.length<=1000000):∀ (l:List ai) (i m:Nat) (acc:List Int),L.drop i=l->i+l.length=L.length->l.length<m->acc.length<=i ->
  match rn l with
  | true=>gi n z1 L (L.length:Int) z3 z4 z5 z6 z7 z8 z9 m (i:Int) acc=some (.inr (acc++l.map (·.N)))
  | false=>∃ t,gi n z1 L (L.length:Int) z3 z4 z5 z6 z7 z8 z9 m (i:Int) acc=some (.inl t)/\t.1=false
 | l,i,0,_,_,_,h,_=>absurd h (Nat.not_lt_zero _)
 | [],i,m+1,acc,hd,hi,h,_=>by
  show gi n z1 L (L.length:Int) z3 z4 z5 z6 z7 z8 z9 (m+1) (i:Int) acc=_
  unfold gi
  rw[decide_eq_false (by simp at hi; omega)]
  simp
 | x :: l,i,m+1,acc,hd,hi,h,ha=>by
  have hx:L[i]? = some x:=by rw[<-List.head?_drop,hd]; rfl
  have hd':L.drop (i+1)=l:=by rw[<-List.drop_drop,hd]; rfl
  simp only[List.length_cons] at hi h
  have ih:=sx n z1 L z3 z4 z5 z6 z7 z8 z9 hL l (i+1) m (acc++[x.N]) hd' (by omega) (by omega) (by simp; omega)
  unfold rn gi
  rw[decide_eq_true (by omega),bL,hx]
  simp only[cond_true,Option.bind_some]
  cases hk:(x.Kind==1) with
  | false=>rw[bne,hk]; exact⟨_,rfl,rfl⟩
  | true =>
   rw[bne,hk]
   simp only[Bool.not_true,cond_false,Bool.true_and]
   rw[nY _ _ _ (by omega) (by simp; omega)]
   simp only[Option.bind_some]
   rw[qj i (by omega)]
   cases hal:rn l with
   | true=>rw[hal] at ih; simp only[] at ih ⊢; rw[ih]; simp
   | false=>rw[hal] at ih; exact ih
theorem Ay (n:Nat) (z:List Int) (v:ai) (hL:v.L.length<=1000000):∀ (l:List ai) (i m:Nat) (acc:List Int),v.L.drop i=l->i+l.length=v.L.length->l.length<m->acc.length<=i ->
  match rn l with
  | true=>gj n z v m (i:Int) acc=some (.inr (acc++l.map (·.N)))
  | false=>∃ t,gj n z v m (i:Int) acc=some (.inl t)
 | l,i,0,_,_,_,h,_=>absurd h (Nat.not_lt_zero _)
 | [],i,m+1,acc,hd,hi,h,_=>by
  show gj n z v (m+1) (i:Int) acc=_
  unfold gj
  rw[decide_eq_false (by simp at hi; omega)]
  simp
 | x :: l,i,m+1,acc,hd,hi,h,ha=>by
  have hx:v.L[i]? = some x:=by rw[<-List.head?_drop,hd]; rfl
  have hd':v.L.drop (i+1)=l:=by rw[<-List.drop_drop,hd]; rfl
  simp only[List.length_cons] at hi h
  have ih:=Ay n z v hL l (i+1) m (acc++[x.N]) hd' (by omega) (by omega) (by simp; omega)
  unfold rn gj
  rw[decide_eq_true (by omega),bL,hx]
  simp only[cond_true,Option.bind_some]
  cases hk:(x.Kind==1) with
  | false=>rw[bne,hk]; exact⟨_,rfl⟩
  | true =>
   rw[bne,hk]
   simp only[Bool.not_true,cond_false,Bool.true_and]
   rw[nY _ _ _ (by omega) (by simp; omega)]
   simp only[Option.bind_some]
   rw[qj i (by omega)]
   cases hal:rn l with
   | true=>rw[hal] at ih; simp only[] at ih ⊢; rw[ih]; simp
   | false=>rw[hal] at ih; exact ih
def K9:al:=.mk false (.mk 0 0 0) (.mk 0 0)
def p7 (bs:List UInt8):al×Bool:=match xx bs with | some l=>pz l | none=>(K9,false)
theorem N3 (bs:List UInt8) (hb:bs.length<=1000000):IV bs=some ((xx bs).getD []):=by
 unfold IV Lk xx
 rw[RU bs hb]
 simp only[Option.bind_some]
 have hl:=Af hb
 generalize fy bs=d at hl
 obtain ⟨v,e⟩:=d
 simp only[] at hl ⊢
 by_cases h1:e=0
 ·rw[show (e != 0)=false from by simp[h1]]
  simp only[cond_false,Option.bind_some]
  by_cases h2:v.Kind=3
  ·rw[show (v.Kind != 3)=false from by simp[h2]]
   simp only[cond_false]
   have:=Ay aC [] v hl v.L 0 (aC+8) [] rfl (by omega) (lX _ hl _) (by simp)
   rw[show ((0:Nat):Int)=0 from rfl] at this
   cases ha:rn v.L with
   | true=>rw[ha] at this; simp only[List.nil_append] at this; rw[this,if_pos ⟨h1,h2,rfl⟩]; rfl
   | false=>rw[ha] at this; obtain ⟨t,ht⟩:=this; rw[ht,if_neg (fun h=>absurd h.2.2 (by decide))]; rfl
  ·rw[show (v.Kind != 3)=true from by simpa using h2,if_neg (fun h=>h2 h.2.1)]
   rfl
 ·rw[show (e != 0)=true from by simpa using h1,if_neg (fun h=>h1 h.1)]
  rfl
theorem Da (l:List Int):(Option.bind (bif (((l.length:Int))==4) then (Option.bind (bw l 0) fun y41=>some (y41==1)) else (some false)) fun y42=>bif y42 then (Option.bind (bw l 1) fun y48=>Option.bind (bw l 2) fun y49=>Option.bind (bw l 3) fun y50=>some (((al.mk true ((ak.mk y48 y49 y50)) ((ar.mk 0 0))),true))) else (Option.bind (bif (((l.length:Int))==3) then (Option.bind (bw l 0) fun y52=>some (y52==2)) else (some false)) fun y53=>bif y53 then (Option.bind (bw l 1) fun y59=>Option.bind (bw l 2) fun y60=>some (((al.mk false ((ak.mk 0 0 0)) ((ar.mk y59 y60))),true))) else (some (((al.mk false ((ak.mk 0 0 0)) ((ar.mk 0 0))),false)))))=some (pz l):=by
 match l with
 | []=>rfl
 | [a]=>rfl
 | [a,b]=>rfl
 | [a,b,c] =>
  rw[show ((([a,b,c]:List Int).length:Int)==4)=false from rfl]
  simp only[cond_false,Option.bind_some]
  rw[show ((([a,b,c]:List Int).length:Int)==3)=true from rfl]
  simp only[cond_true]
  rw[show bw [a,b,c] 0=some a from rfl]
  unfold pz
  by_cases ha:a=2
  ·subst ha; rfl
  ·show _=some (if a=2 then _ else _)
   rw[if_neg ha]
   simp only[Option.bind_some]
   rw[show (a==2)=false from by simpa using ha]
   rfl
 | [a,b,c,d] =>
  rw[show ((([a,b,c,d]:List Int).length:Int)==4)=true from rfl]
  simp only[cond_true]
  rw[show bw [a,b,c,d] 0=some a from rfl]
  unfold pz
  by_cases ha:a=1
  ·subst ha; rfl
  ·show _=some (if a=1 then _ else _)
   rw[if_neg ha]
   simp only[Option.bind_some]
   rw[show (a==1)=false from by simpa using ha]
   rfl
 | a :: b :: c :: d :: e :: r =>
  rw[show (((a :: b :: c :: d :: e :: r).length:Int)==4)=false from by simp; omega]
  simp only[cond_false,Option.bind_some]
  rw[show (((a :: b :: c :: d :: e :: r).length:Int)==3)=false from by simp; omega]
  rfl
theorem N2 (bs:List UInt8) (hb:bs.length<=1000000):Ij bs=some (p7 bs):=by
 have hl:=Af hb
 unfold p7 xx
 by_cases hc:(fy bs).2=0/\(fy bs).1.Kind=3/\rn (fy bs).1.L=true
 ·rw[if_pos hc]
  obtain ⟨h1,h2,h3⟩:=hc
  unfold Ij IG
  rw[PK bs hb]
  simp only[Option.bind_some]
  rw[show ((fy bs).2 != 0)=false from by simp[h1]]
  simp only[cond_false,Option.bind_some]
  rw[show ((fy bs).1.Kind != 3)=false from by simp[h2]]
  simp only[cond_false]
  have:=sx aC false (fy bs).1.L false 0 0 0 0 0 (fy bs).1 hl (fy bs).1.L 0 (aC+8) [] rfl (by omega) (lX _ hl _) (by simp)
  rw[show ((0:Nat):Int)=0 from rfl,h3] at this
  simp only[List.nil_append] at this
  rw[this]
  simp only[Option.bind_some]
  exact Da _
 ·rw[if_neg hc]
  unfold Ij IG
  rw[PK bs hb]
  simp only[Option.bind_some]
  by_cases h1:(fy bs).2=0
  ·rw[show ((fy bs).2 != 0)=false from by simp[h1]]
   simp only[cond_false,Option.bind_some]
   by_cases h2:(fy bs).1.Kind=3
   ·rw[show ((fy bs).1.Kind != 3)=false from by simp[h2]]
    simp only[cond_false]
    have:=sx aC false (fy bs).1.L false 0 0 0 0 0 (fy bs).1 hl (fy bs).1.L 0 (aC+8) [] rfl (by omega) (lX _ hl _) (by simp)
    rw[show ((0:Nat):Int)=0 from rfl] at this
    cases ha:rn (fy bs).1.L with
    | true=>exact absurd ⟨h1,h2,ha⟩ hc
    | false =>
     rw[ha] at this
     obtain ⟨⟨a,b⟩,ht,hta⟩:=this
     simp only[] at hta
     subst hta
     rw[ht]; rfl
   ·rw[show ((fy bs).1.Kind != 3)=true from by simpa using h2]; rfl
  ·rw[show ((fy bs).2 != 0)=true from by simpa using h1]; rfl
def mG:List (List UInt8)->List al->Option (List al)
 | [],es=>some es
 | b :: l,es=>if (p7 b).2=true then mG l (es++[(p7 b).1]) else none
def qC (self:Int) (l:List (List UInt8)):aj×Int:=match mG l [] with
 | some es=>if ir (gE self es)=true then (gE self es,0) else (qH,530)
 | none=>(qH,530)
theorem uj:∀ (l:List (List UInt8)) (es es':List al),mG l es=some es'->es'.length=es.length+l.length
 | [],es,es',h=>by cases h; rfl
 | b :: l,es,es',h=>by
  unfold mG at h
  split at h
  ·have:=uj l _ _ h
   simp at this ⊢; omega
  ·cases h
theorem xg (n:Nat) (z self:Int) (L:List (List UInt8)) (hL:L.length<=100000) (hb:∀ b∈L,b.length<=1000000):∀ (l:List (List UInt8)) (i m:Nat) (es:List al),L.drop i=l->i+l.length=L.length->l.length<m->es.length=i ->
  match mG l es with
  | some es'=>gg n z L (L.length:Int) m (i:Int) self (ja es) (je es) (mK es)=some (.inr (self,ja es',je es',mK es'))
  | none=>∃ t,gg n z L (L.length:Int) m (i:Int) self (ja es) (je es) (mK es)=some (.inl t)/\t.1=530/\t.2.1=0
 | l,i,0,_,_,_,h,_=>absurd h (Nat.not_lt_zero _)
 | [],i,m+1,es,hd,hi,h,_=>by
  show gg n z L (L.length:Int) (m+1) (i:Int) self (ja es) (je es) (mK es)=_
  unfold gg
  rw[decide_eq_false (by simp at hi; omega)]
  rfl
 | x :: l,i,m+1,es,hd,hi,h,he=>by
  have hx:L[i]? = some x:=by rw[<-List.head?_drop,hd]; rfl
  have hd':L.drop (i+1)=l:=by rw[<-List.drop_drop,hd]; rfl
  simp only[List.length_cons] at hi h
  obtain ⟨s1,s2,s3⟩:=lB (self:=self) (es:=es) (by omega)
  unfold mG gg
  rw[decide_eq_true (by omega),bL,hx]
  simp only[cond_true,Option.bind_some]
  rw[N2 x (hb x (List.mem_of_getElem? hx))]
  simp only[Option.bind_some]
  cases hr:(p7 x).2 with
  | false=>exact⟨_,rfl,rfl,rfl⟩
  | true =>
   simp only[Bool.not_true,cond_false,if_true]
   rw[show aj.mk self (ja es) (je es) (mK es)=gE self es from rfl,Kk _ _ (by omega) (by omega) (by omega)]
   simp only[Option.bind_some]
   rw[<-uz,qj i (by omega)]
   exact xg n z self L hL hb l (i+1) m (es++[(p7 x).1]) hd' (by omega) (by omega) (by simp; omega)
theorem nj {self:Int} {l:List (List UInt8)} {es:List al} (h:mG l []=some es) (hl:l.length<=100000):ke (gE self es):=lB (by have:=uj _ _ _ h; simp at this; omega)
theorem NV (self:Int) (L:List (List UInt8)) (hL:L.length<=100000) (hb:∀ b∈L,b.length<=1000000):FT self L=some (qC self L):=by
 unfold FT La qC
 have:=xg aC 0 self L hL hb L 0 (aC+8) [] rfl (by omega) (lX _ (by omega) _) rfl
 rw[show ((0:Nat):Int)=0 from rfl,show ja []=[] from rfl,show je []=[] from rfl,show mK []=[] from rfl] at this
 cases hg:mG L [] with
 | none =>
  rw[hg] at this
  obtain ⟨⟨a,b,c⟩,h1,h2,h3⟩:=this
  simp only[] at h2 h3
  subst h2; subst h3
  rw[h1]; rfl
 | some es =>
  rw[hg] at this
  simp only[] at this
  rw[this]
  obtain ⟨s1,s2,s3⟩:=nj (self:=self) hg hL
  simp only[Option.bind_some]
  rw[show aj.mk self (ja es) (je es) (mK es)=gE self es from rfl,Hz _ s1 s2 s3]
  cases ir (gE self es)<;>rfl
theorem Hp (l:List Int):(pz l).2=true->(∃ b c d,l=[1,b,c,d]/\(pz l).1=.mk true (.mk b c d) (.mk 0 0))∨(∃ b c,l=[2,b,c]/\(pz l).1=.mk false (.mk 0 0 0) (.mk b c)):=by
 intro h
 match l with
 | []=>cases h
 | [a]=>cases h
 | [a,b]=>cases h
 | [a,b,c] =>
  right
  unfold pz at h ⊢
  simp only[] at h ⊢
  split at h
  ·rename_i ha; subst ha; exact⟨b,c,rfl,by rw[if_pos rfl]⟩
  ·cases h
 | [a,b,c,d] =>
  left
  unfold pz at h ⊢
  simp only[] at h ⊢
  split at h
  ·rename_i ha; subst ha; exact⟨b,c,d,rfl,by rw[if_pos rfl]⟩
  ·cases h
 | a :: b :: c :: d :: e :: r=>cases h
theorem EJ (l:List Int) (h:(pz l).2=false):(((l.length:Int)==4)=false∨∃ a r,l=a :: r/\(a==1)=false)/\(((l.length:Int)==3)=false∨∃ a r,l=a :: r/\(a==2)=false):=by
 match l with
 | []=>exact⟨.inl rfl,.inl rfl⟩
 | [a]=>exact⟨.inl rfl,.inl rfl⟩
 | [a,b]=>exact⟨.inl rfl,.inl rfl⟩
 | [a,b,c] =>
  refine⟨.inl rfl,.inr ⟨a,_,rfl,?_⟩⟩
  unfold pz at h
  simp only[] at h
  split at h
  ·cases h
  ·rename_i ha; simpa using ha
 | [a,b,c,d] =>
  refine⟨.inr ⟨a,_,rfl,?_⟩,.inl rfl⟩
  unfold pz at h
  simp only[] at h
  split at h
  ·cases h
  ·rename_i ha; simpa using ha
 | a :: b :: c :: d :: e :: r=>exact⟨.inl (by simp; omega),.inl (by simp; omega)⟩
theorem Aw (n:Nat) (z2 z4:Int) (z5:List ak) (z6:List ar) (z7:List Bool) (self:Int) (L:List (List UInt8)) (hL:L.length<=100000) (hb:∀ b∈L,b.length<=1000000):∀ (l:List (List UInt8)) (i m:Nat) (es:List al),L.drop i=l->i+l.length=L.length->l.length<m->es.length=i ->
  match mG l es with
  | some es'=>fE n L z2 z4 z5 z6 z7 self m (i:Int) (ja es) (je es) (mK es)=some (.inr (ja es',je es',mK es'))
  | none=>∃ t,fE n L z2 z4 z5 z6 z7 self m (i:Int) (ja es) (je es) (mK es)=some (.inl t)/\t.1=530/\t.2.1=0
 | l,i,0,_,_,_,h,_=>absurd h (Nat.not_lt_zero _)
 | [],i,m+1,es,hd,hi,h,_=>by
  show fE n L z2 z4 z5 z6 z7 self (m+1) (i:Int) (ja es) (je es) (mK es)=_
  unfold fE
  rw[decide_eq_false (by simp at hi; omega)]
  rfl
 | x :: l,i,m+1,es,hd,hi,h,he=>by
  have hx:L[i]? = some x:=by rw[<-List.head?_drop,hd]; rfl
  have hd':L.drop (i+1)=l:=by rw[<-List.drop_drop,hd]; rfl
  simp only[List.length_cons] at hi h
  obtain ⟨s1,s2,s3⟩:=lB (self:=self) (es:=es) (by omega)
  have hlen:=vA es
  have hol:=nT es
  have ih:=Aw n z2 z4 z5 z6 z7 self L hL hb l (i+1) m (es++[(p7 x).1]) hd' (by omega) (by omega) (by simp; omega)
  have hsn:=uz self es (p7 x).1
  unfold mG fE
  rw[decide_eq_true (by omega),bL,hx]
  simp only[cond_true,Option.bind_some]
  rw[N3 x (hb x (List.mem_of_getElem? hx))]
  simp only[Option.bind_some]
  cases hr:(p7 x).2 with
  | true =>
   simp only[if_true]
   cases hq:xx x with
   | none=>unfold p7 at hr; rw[hq] at hr; cases hr
   | some ns =>
    have hent:p7 x=pz ns:=by unfold p7; rw[hq]
    rw[hent] at hr ih hsn ⊢
    simp only[Option.getD_some]
    rcases Hp ns hr with ⟨b,c,d,rfl,e⟩ | ⟨b,c,rfl,e⟩
    ·rw[e] at ih ⊢
     rw[show ((([1,b,c,d]:List Int).length:Int)==4)=true from rfl]
     simp only[cond_true]
     rw[show bw [1,b,c,d] 0=some 1 from rfl]
     simp only[Option.bind_some]
     rw[show ((1:Int)==1)=true from rfl]
     simp only[cond_true]
     rw[show bw [1,b,c,d] 1=some b from rfl,show bw [1,b,c,d] 2=some c from rfl,show bw [1,b,c,d] 3=some d from rfl]
     simp only[Option.bind_some]
     rw[nY _ _ _ (by omega) (by simp; omega)]
     simp only[Option.bind_some]
     rw[nY _ _ _ (by omega) (by simp; omega)]
     simp only[Option.bind_some]
     rw[qj i (by omega)]
     rw[pJ,pv,show mK (es++[al.mk true (.mk b c d) (.mk 0 0)])=mK es++[true] from by unfold mK; rw[List.map_append]; rfl,show ja [al.mk true (.mk b c d) (.mk 0 0)]=[.mk b c d] from rfl,show je [al.mk true (.mk b c d) (.mk 0 0)]=[] from rfl,List.append_nil] at ih
     exact ih
    ·rw[e] at ih ⊢
     rw[show ((([2,b,c]:List Int).length:Int)==4)=false from rfl]
     simp only[cond_false,Option.bind_some]
     rw[show ((([2,b,c]:List Int).length:Int)==3)=true from rfl]
     simp only[cond_true]
     rw[show bw [2,b,c] 0=some 2 from rfl]
     simp only[Option.bind_some]
     rw[show ((2:Int)==2)=true from rfl]
     simp only[cond_true]
     rw[show bw [2,b,c] 1=some b from rfl,show bw [2,b,c] 2=some c from rfl]
     simp only[Option.bind_some]
     rw[nY _ _ _ (by omega) (by simp; omega)]
     simp only[Option.bind_some]
     rw[nY _ _ _ (by omega) (by simp; omega)]
     simp only[Option.bind_some]
     rw[qj i (by omega)]
     rw[pJ,pv,show mK (es++[al.mk false (.mk 0 0 0) (.mk b c)])=mK es++[false] from by unfold mK; rw[List.map_append]; rfl,show ja [al.mk false (.mk 0 0 0) (.mk b c)]=[] from rfl,show je [al.mk false (.mk 0 0 0) (.mk b c)]=[.mk b c] from rfl,List.append_nil] at ih
     exact ih
  | false =>
   simp only[Bool.false_eq_true,if_false]
   have hno:(pz ((xx x).getD [])).2=false:=by
    unfold p7 at hr
    cases hq:xx x with
    | none=>rfl
    | some ns=>rw[hq] at hr; exact hr
   generalize (xx x).getD []=ns at hno
   obtain ⟨q1,q2⟩:=EJ ns hno
   have e1:(bif (((ns.length:Int))==4) then (Option.bind (bw ns 0) fun y16=>some (y16==1)) else (some false))=some false:=by
    rcases q1 with q | ⟨a,r,rfl,q⟩
    ·rw[q]; rfl
    ·rw[show bw (a :: r) 0=some a from rfl]
     simp only[Option.bind_some]
     rw[q]; cases (((a :: r).length:Int)==4)<;>rfl
   have e2:(bif (((ns.length:Int))==3) then (Option.bind (bw ns 0) fun y29=>some (y29==2)) else (some false))=some false:=by
    rcases q2 with q | ⟨a,r,rfl,q⟩
    ·rw[q]; rfl
    ·rw[show bw (a :: r) 0=some a from rfl]
     simp only[Option.bind_some]
     rw[q]; cases (((a :: r).length:Int)==3)<;>rfl
   rw[e1]
   simp only[Option.bind_some,cond_false]
   rw[e2]
   exact⟨_,rfl,rfl,rfl⟩
theorem NW (self:Int) (L:List (List UInt8)) (hL:L.length<=100000) (hb:∀ b∈L,b.length<=1000000):IP self L=some (qC self L):=by
 unfold IP Lb qC
 have:=Aw aC 0 0 [] [] [] self L hL hb L 0 (aC+8) [] rfl (by omega) (lX _ (by omega) _) rfl
 rw[show ((0:Nat):Int)=0 from rfl,show ja []=[] from rfl,show je []=[] from rfl,show mK []=[] from rfl] at this
 cases hg:mG L [] with
 | none =>
  rw[hg] at this
  obtain ⟨⟨a,b,c⟩,h1,h2,h3⟩:=this
  simp only[] at h2 h3
  subst h2; subst h3
  rw[h1]; rfl
 | some es =>
  rw[hg] at this
  simp only[] at this
  rw[this]
  simp only[Option.bind_some]
  rw[show aj.mk self (ja es) (je es) (mK es)=gE self es from rfl,Kl _ (nj hg hL)]
  cases ir (gE self es)<;>rfl
theorem NX (a:List (List UInt8)) (ha:a.length<=1000000):IQ a a=some true:=by
 unfold IQ Lc
 rw[bne_self_eq_false]
 simp only[cond_false]
 have:=xf a a rfl ha (fun x y=>!(!iQ (cU x) (cU y))) (fun x y=>by rw[Bool.not_not,AU]) (ki aC a a false) (fun m w=>by rw[ki]; simp only[Bool.not_not]) a a 0 (aC+8) rfl rfl (by omega) (lX _ ha _)
 rw[show ((0:Nat):Int)=0 from rfl,if_pos rfl] at this
 rw[this]
 rfl
theorem DH (n:Nat) (z0:Int) (z1:List (List UInt8)) (L:List (List UInt8)) (z2:aj) (hL:L.length<=100000):∀ (l:List (List UInt8)) (i m:Nat),L.drop i=l->i+l.length=L.length->l.length<m ->
  mM n z0 z1 false L (L.length:Int) z2 m (i:Int)=some (.inl true)∨(mM n z0 z1 false L (L.length:Int) z2 m (i:Int)=some (.inr ())/\∀ b∈l,b.length<=200)
 | l,i,0,_,_,h=>absurd h (Nat.not_lt_zero _)
 | [],i,m+1,hd,hi,h=>by
  right
  refine⟨?_,fun _ h=>absurd h List.not_mem_nil⟩
  unfold mM
  rw[decide_eq_false (by simp at hi; omega)]
  rfl
 | x :: l,i,m+1,hd,hi,h=>by
  have hx:L[i]? = some x:=by rw[<-List.head?_drop,hd]; rfl
  have hd':L.drop (i+1)=l:=by rw[<-List.drop_drop,hd]; rfl
  simp only[List.length_cons] at hi h
  unfold mM
  rw[decide_eq_true (by omega),bL,hx]
  simp only[cond_true,Option.bind_some]
  by_cases hb:x.length<=200
  ·rw[decide_eq_false (show ¬ (200:Int)<(x.length:Int) by omega),qj i (by omega)]
   simp only[cond_false]
   rcases DH n z0 z1 L z2 hL l (i+1) m hd' (by omega) (by omega) with h1 | ⟨h1,h2⟩
   ·exact .inl h1
   ·refine .inr ⟨h1,fun b hb'=>?_⟩
    rcases List.mem_cons.1 hb' with q | q
    ·rw[q]; exact hb
    ·exact h2 b q
  ·rw[decide_eq_true (show (200:Int)<(x.length:Int) by omega)]
   exact .inl rfl
theorem KF:Gc:=by
 intro r self L hr _ _
 unfold G3 F3
 rw[KX]
 simp only[Bool.not_true,cond_false,Option.bind_some]
 rw[R3]
 cases hfw:Dd r with
 | false=>rfl
 | true =>
 obtain ⟨b1,b2,b3⟩:=EK hfw
 simp only[Bool.not_true,cond_false,Option.bind_some]
 by_cases hl:L.length<=100
 ·rw[decide_eq_false (show ¬ (100:Int)<(L.length:Int) by omega)]
  simp only[cond_false]
  have h3:=DH aC self L L r (by omega) L 0 (aC+8) rfl (by omega) (lX _ (by omega) _)
  rw[show ((0:Nat):Int)=0 from rfl] at h3
  rcases h3 with h3 | ⟨h3,hb⟩
  ·rw[h3]; rfl
  ·rw[h3]
   simp only[Option.bind_some]
   have hrec:∃ x,G9 r=some x/\FR r=some x/\x.1.length<=1000000:=by
    cases hc:ir r with
    | false=>exact⟨_,HB ⟨by omega,by omega,by omega⟩ hc,E0 ⟨by omega,by omega,by omega⟩ hc,by simp⟩
    | true =>
     obtain ⟨es,hw,hre,hrun,hne,hhd,h256,hlen⟩:=wz hc hr
     have hc':ir (gE r.Self es)=true:=by rw[<-hre]; exact hc
     exact⟨_,by rw[hre]; exact Ob hc' hw (by omega),by rw[hre]; exact Kj hc' hw (by omega),by simp; omega⟩
   obtain ⟨x,h9,h10,hx⟩:=hrec
   have hb':∀ b∈L,b.length<=1000000:=fun b h=>by have:=hb b h; omega
   rw[h9,h10,NV self L (by omega) hb',NW self L (by omega) hb']
   simp only[Option.bind_some]
   rw[NX _ hx]
   simp only[Option.bind_some,cond_true]
   have hsm:ke (qC self L).1:=by
    unfold qC
    cases hg:mG L [] with
    | none=>exact⟨by simp[qH],by simp[qH],by simp[qH]⟩
    | some es =>
     simp only[]
     split
     ·exact nj hg (by omega)
     ·exact⟨by simp[qH],by simp[qH],by simp[qH]⟩
   rw[show (x.2==x.2)=true from beq_self_eq_true _]
   simp only[cond_true]
   rw[NY _ _ hsm hsm,decide_eq_true rfl]
   simp only[Option.bind_some,cond_true]
   rw[show ((qC self L).2==(qC self L).2)=true from beq_self_eq_true _]
 ·rw[decide_eq_true (show (100:Int)<(L.length:Int) by omega)]
  rfl
end Go.Proofs.Ytdmgdjnadbakfaa
