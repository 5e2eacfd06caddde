/-
 Layer 53, in plain Lean: never do two desks call one bar both.
-/
import Derived.Test.YtdmgdjnadbakfaaM4
import Derived.Test.YtdmgdjnadbakfaaC9
namespace Go.Proofs.Ytdmgdjnadbakfaa
set_option linter.unusedVariables false
set_option linter.unusedSimpArgs false
set_option maxRecDepth 100000
set_option maxHeartbeats 4000000
theorem Dd (n:Int):ta (.mk 1 n ByteArray.empty [])=true:=by
 rw[mV]
 simp only[show ((1:Int)==1)=true from rfl,cond_true,pR.2]
 rfl
theorem Dc (n:Int):dep (.mk 1 n ByteArray.empty [])=0:=by
 rw[n4]; rfl
theorem Er {n:Int} (h:fS n):bS (.mk 1 n ByteArray.empty []):=(dV _).2 ⟨⟨by simp,by simp⟩,h,by simp,by simp,fun _ h=>absurd h List.not_mem_nil⟩
theorem De (n:Int):qD (.mk 1 n ByteArray.empty [])=1:=by
 rw[iY]
 show 1+ByteArray.empty.size / 200+jN []=1
 rw[lj]; rfl
theorem Eo (l:List ar):ta (.mk 3 0 ByteArray.empty l)=kO l:=by
 rw[mV]
 simp only[show ((3:Int)==1)=false from rfl,show ((3:Int)==2)=false from rfl,show ((3:Int)==3)=true from rfl,cond_true,cond_false,pR.2]
 cases kO l<;>rfl
theorem En (l:List ar):dep (.mk 3 0 ByteArray.empty l)=mC l+1:=by rw[n4]; rfl
theorem Ep (l:List ar):qD (.mk 3 0 ByteArray.empty l)=1+jN l:=by
 rw[iY]
 have h:ByteArray.empty.size=0:=rfl
 show 1+ByteArray.empty.size / 200+jN l=1+jN l
 omega
theorem GB {l:List ar} (h:l.length<=m8) (h2:∀ e∈l,bS e):bS (.mk 3 0 ByteArray.empty l):=(dV _).2 ⟨⟨by simp,by simp⟩,⟨by simp,by simp⟩,by simp,h,h2⟩
theorem wO:∀ {l:List ar},(∀ e∈l,ta e=true)->kO l=true
 | [],_=>rH
 | x :: r,h=>by rw[nz,h x (List.mem_cons_self ..),wO fun e he=>h e (List.mem_cons_of_mem _ he)]; rfl
def jc (l:List Int):List ar:=l.map fun n=>.mk 1 n ByteArray.empty []
def ints (l:List Int):ar:=.mk 3 0 ByteArray.empty (jc l)
theorem tK:∀ l:List Int,mC (jc l)=0
 | []=>oX
 | x :: r=>by show mC (ar.mk 1 x ByteArray.empty [] :: jc r)=0; rw[kJ,Dc,tK r]; rfl
theorem uj:∀ l:List Int,jN (jc l)=l.length
 | []=>lj
 | x :: r=>by show jN (ar.mk 1 x ByteArray.empty [] :: jc r)=_; rw[jl,De,uj r,List.length_cons]; omega
theorem w6 (l:List Int):gP (ints l)=0:=by
 unfold gP ints
 rw[Eo,En,tK,wO (fun e he=>by obtain ⟨n,_,rfl⟩:=List.mem_map.1 he; exact Dd n)]
 rfl
theorem vn {l:List Int} (hl:l.length<=m8) (h:∀ n∈l,fS n):bS (ints l):=GB (by unfold jc; rw[List.length_map]; exact hl) (fun e he=>by obtain ⟨n,hn,rfl⟩:=List.mem_map.1 he; exact Er (h n hn))
theorem rS (l:List Int):qD (ints l)=1+l.length:=by unfold ints; rw[Ep,uj]
def Cp (l:List Int):List UInt8:=jI (ints l)
theorem Gr (l:List Int):D8 (ints l)=(Cp l,0):=by unfold D8; rw[w6]; rfl
theorem Gq {l:List Int} (hl:l.length<=m8) (h:∀ n∈l,fS n):AO (Cp l)=(ints l,0):=Cl (w6 l) (vn hl h)
theorem Ac (n:Nat) (z1:List UInt8) (L:List Int) (z2 z3:Int) (z4:ByteArray) (hL:L.length<=100):∀ (l:List Int) (i m:Nat) (acc:List ar),L.drop i=l->i+l.length=L.length->l.length<m->acc.length<=i ->
  ju n L (L.length:Int) z2 z3 z4 m (i:Int) acc=some (acc++jc l)
 | l,i,0,_,_,_,h,_=>absurd h (Nat.not_lt_zero _)
 | [],i,m+1,acc,hd,hi,h,_=>by
  unfold ju
  rw[decide_eq_false (by simp at hi; omega)]
  simp[jc]
 | x :: l,i,m+1,acc,hd,hi,h,ha=>by
  have hx:L[i]? = some x:=by rw[<-List.head?_drop,hd]; rfl
  have hd':L.drop (i+1)=l:=by rw[<-List.drop_drop,hd]; rfl
  simp only[List.length_cons] at hi h
  unfold ju
  rw[decide_eq_true (by omega),bV,hx]
  simp only[cond_true,Option.bind_some]
  rw[th _ _ _ (by omega) (by simp; omega)]
  simp only[Option.bind_some]
  rw[Ao i (by omega),Ac n z1 L z2 z3 z4 hL l (i+1) m _ hd' (by omega) (by omega) (by simp; omega)]
  simp[jc]
theorem LS (l:List Int) (hl:l.length<=100) (h:∀ n∈l,fS n):E9 l=some (Cp l):=by
 unfold E9 JW
 have:=Ac aH [] l 3 0 ByteArray.empty hl l 0 (aH+8) [] rfl (by omega) (qB _ (by omega) _) (by simp)
 rw[show ((0:Nat):Int)=0 from rfl] at this
 rw[this]
 simp only[Option.bind_some,List.nil_append]
 show (Option.bind (Hf (ints l)) _)=_
 rw[OY (ints l) (vn (by unfold m8; omega) h) (by rw[rS]; omega),Gr]
 rfl
theorem Ad (n:Nat) (z1:Bool) (L:List Int) (z3:Bool) (z4 z5 z6 z7 z8:Int) (z9:ar) (hL:L.length<=1000000):∀ (l:List Int) (i m:Nat) (acc:List Int),L.drop i=l->i+l.length=L.length->l.length<m->acc.length<=i ->
  jv n z1 (jc L) ((jc L).length:Int) z3 z4 z5 z6 z7 z8 z9 m (i:Int) acc=some (.inr (acc++l))
 | l,i,0,_,_,_,h,_=>absurd h (Nat.not_lt_zero _)
 | [],i,m+1,acc,hd,hi,h,_=>by
  unfold jv
  rw[decide_eq_false (by simp at hi; simp[jc]; omega)]
  simp
 | x :: l,i,m+1,acc,hd,hi,h,ha=>by
  have hx:L[i]? = some x:=by rw[<-List.head?_drop,hd]; rfl
  have hd':L.drop (i+1)=l:=by rw[<-List.drop_drop,hd]; rfl
  simp only[List.length_cons] at hi h
  unfold jv
  rw[decide_eq_true (by simp[jc]; omega),bV,show (jc L)[i]? = some (.mk 1 x ByteArray.empty []) from by unfold jc; rw[List.getElem?_map,hx]; rfl]
  simp only[cond_true,Option.bind_some]
  rw[show ((1:Int) != 1)=false from rfl]
  simp only[cond_false]
  rw[th _ _ _ (by omega) (by simp; omega)]
  simp only[Option.bind_some]
  rw[Ao i (by omega),Ad n z1 L z3 z4 z5 z6 z7 z8 z9 hL l (i+1) m _ hd' (by omega) (by omega) (by simp; omega)]
  simp
def Ea (l:List Int):aj×Bool:=match l with
 | [a,b,c,d]=>if a=1 then (.mk true (.mk b c d) (.mk 0 0),true) else (.mk false (.mk 0 0 0) (.mk 0 0),false)
 | [a,b,c]=>if a=2 then (.mk false (.mk 0 0 0) (.mk b c),true) else (.mk false (.mk 0 0 0) (.mk 0 0),false)
 | _=>(.mk false (.mk 0 0 0) (.mk 0 0),false)
theorem I9 (bs:List UInt8) (hb:bs.length<=1000000) (l:List Int) (hl:l.length<=1000000) (h:AO bs=(ints l,0)):Hd bs=some (Ea l):=by
 unfold Hd JX
 rw[O0 bs hb,h]
 simp only[Option.bind_some]
 rw[show ((0:Int) != 0)=false from rfl]
 simp only[cond_false,Option.bind_some]
 rw[show ((ints l).Kind != 3)=false from rfl]
 simp only[cond_false]
 have:=Ad aH false l false 0 0 0 0 0 (ints l) hl l 0 (aH+8) [] rfl (by omega) (qB _ hl _) (by simp)
 rw[show ((0:Nat):Int)=0 from rfl] at this
 rw[show (ints l).L=jc l from rfl,this]
 simp only[Option.bind_some,List.nil_append]
 match l with
 | []=>rfl
 | [a]=>rfl
 | [a,b]=>rfl
 | [a,b,c] =>
  rw[show ((([a,b,c]:List Int).length:Int)==4)=false from rfl]
  simp only[cond_false,Option.bind_some]
  rw[show ((([a,b,c]:List Int).length:Int)==3)=true from rfl]
  simp only[cond_true]
  rw[show bX [a,b,c] 0=some a from rfl]
  unfold Ea
  by_cases ha:a=2
  ·subst ha; rfl
  ·show _=some (if a=2 then _ else _)
   rw[if_neg ha]
   simp only[Option.bind_some]
   rw[show (a==2)=false from by simpa using ha]
   rfl
 | [a,b,c,d] =>
  rw[show ((([a,b,c,d]:List Int).length:Int)==4)=true from rfl]
  simp only[cond_true]
  rw[show bX [a,b,c,d] 0=some a from rfl]
  unfold Ea
  by_cases ha:a=1
  ·subst ha; rfl
  ·show _=some (if a=1 then _ else _)
   rw[if_neg ha]
   simp only[Option.bind_some]
   rw[show (a==1)=false from by simpa using ha]
   rfl
 | a :: b :: c :: d :: e :: r =>
  rw[show (((a :: b :: c :: d :: e :: r).length:Int)==4)=false from by simp; omega]
  simp only[cond_false,Option.bind_some]
  rw[show (((a :: b :: c :: d :: e :: r).length:Int)==3)=false from by simp; omega]
  rfl
def ll (x:aj):List Int:=if x.is then [1,x.lease.No,x.lease.Holder,x.lease.Until] else [2,x.call.Bar,x.call.Program]
def Bj (x:aj):Prop:=if x.is then x.call=.mk 0 0/\sm x.lease else x.lease=.mk 0 0 0/\um x.call
theorem sf {x:aj} (h:Bj x):∀ n∈ll x,fS n:=by
 unfold Bj at h
 unfold ll
 intro n hn
 have h1:fS 1:=⟨by omega,by omega⟩
 have h2:fS 2:=⟨by omega,by omega⟩
 split at h
 ·rename_i hi
  rw[if_pos hi] at hn
  obtain ⟨a,b,c⟩:=h.2
  simp at hn
  rcases hn with rfl | rfl | rfl | rfl<;>assumption
 ·rename_i hi
  rw[if_neg hi] at hn
  obtain ⟨a,b⟩:=h.2
  simp at hn
  rcases hn with rfl | rfl | rfl<;>assumption
theorem Gs {x:aj} (h:Bj x):Ea (ll x)=(x,true):=by
 obtain ⟨is,l,c⟩:=x
 unfold Bj at h
 cases is with
 | true=>obtain ⟨h1,h2⟩:=h; simp only[] at h1; subst h1; rfl
 | false=>obtain ⟨h1,h2⟩:=h; simp only[] at h1; subst h1; rfl
theorem ln (x:aj):(ll x).length<=4:=by unfold ll; split<;>simp
def rl (x:aj):List UInt8:=Cp (ll x)
theorem Co {x:aj} (h:Bj x):(rl x).length<=1000000:=by
 have h1:=u0 (ints (ll x)) (vn (by have:=ln x; unfold m8; omega) (sf h)) (by rw[rS]; have:=ln x; omega)
 rw[rS] at h1
 have:=ln x
 unfold rl Cp
 omega
theorem I8 {x:aj} (h:Bj x):Hd (rl x)=some (x,true):=by
 have hl:=ln x
 rw[I9 (rl x) (Co h) (ll x) (by omega) (Gq (by unfold m8; omega) (sf h)),Gs h]
def dg (es:List aj):List ak:=es.filterMap fun x=>if x.is then some x.lease else none
def gO (es:List aj):List av:=es.filterMap fun x=>if x.is then none else some x.call
def oy (es:List aj):List Bool:=es.map (·.is)
def dr (self:Int) (es:List aj):ah:=.mk self (dg es) (gO es) (oy es)
def sX (s:ah) (x:aj):ah:=if x.is then lM s x.lease else mK s x.call
def Jh (s:ah) (x:aj):Bool:=if x.is then mT s.Leases x.lease else sa s.Self s.Leases s.Calls x.call
def oA:ah->List aj->Bool
 | _,[]=>true
 | s,x :: es=>Jh s x&&oA (sX s x) es
theorem lu (s:ah) (x:aj) (es:List aj):oA s (x :: es)=(Jh s x&&oA (sX s x) es):=rfl
theorem nC (es:List aj):(dg es).length+(gO es).length=es.length:=by
 induction es with
 | nil=>rfl
 | cons x es ih =>
  unfold dg gO at *
  rw[List.filterMap_cons,List.filterMap_cons]
  cases hx:x.is<;>simp<;>omega
theorem nG (self:Int) (es:List aj) (x:aj):dr self (es++[x])=sX (dr self es) x:=by
 unfold dr sX dg gO oy lM mK
 rw[List.filterMap_append,List.filterMap_append,List.map_append]
 cases hx:x.is<;>simp[List.filterMap_cons,hx]
theorem vl:∀ (es:List aj) (s:ah),te s (dg es) (gO es) (oy es)=oA s es
 | [],s=>zQ _ _ _
 | x :: es,s=>by
  unfold dg gO oy
  rw[List.filterMap_cons,List.filterMap_cons,List.map_cons]
  cases hx:x.is with
  | true =>
   simp only[if_true]
   rw[Cy,show te (lM s x.lease) (es.filterMap fun x=>if x.is=true then some x.lease else none) (es.filterMap fun x=>if x.is=true then none else some x.call) (es.map (·.is))=_ from vl es (lM s x.lease)]
   rw[lu]
   unfold Jh sX
   rw[hx]; rfl
  | false =>
   simp only[Bool.false_eq_true,if_false]
   rw[Cv,show te (mK s x.call) (es.filterMap fun x=>if x.is=true then some x.lease else none) (es.filterMap fun x=>if x.is=true then none else some x.call) (es.map (·.is))=_ from vl es (mK s x.call)]
   rw[lu]
   unfold Jh sX
   rw[hx]; rfl
theorem D3 {self:Int} {es:List aj} (hs:mE self 0 1=true) (hr:oA (.mk self [] [] []) es=true) (hn:es≠[]) (hh:es.head?.map (·.is)=some true) (hl:(dg es).length<=256):oU (dr self es)=true:=by
 unfold oU dr
 simp only[Bool.and_eq_true]
 refine⟨⟨⟨⟨⟨hs,?_⟩,?_⟩,decide_eq_true hl⟩,?_⟩,?_⟩
 ·unfold oy; rw[List.length_map]
  have:es.length≠0:=fun h=>hn (List.length_eq_zero_iff.1 h)
  simpa using this
 ·rw[beq_iff_eq,nC]; unfold oy; rw[List.length_map]
 ·rw[vl]; exact hr
 ·unfold oy; rw[List.head?_map,hh]; rfl
theorem ux:∀ (es:List aj) (s:ah) (n:Nat),oA s es=true->oA s (es.take n)=true
 | es,s,0,_=>by rw[List.take_zero]; rfl
 | [],s,n+1,h=>h
 | x :: es,s,n+1,h=>by
  unfold oA at h
  rw[Bool.and_eq_true] at h
  rw[List.take_succ_cons]
  unfold oA
  rw[h.1,ux es _ n h.2]; rfl
theorem head_take {es:List aj} {n:Nat} (h:es.head?.map (·.is)=some true) (hn:0<n):(es.take n).head?.map (·.is)=some true:=by
 cases es with
 | nil=>cases h
 | cons x es=>cases n with
  | zero=>omega
  | succ n=>rw[List.take_succ_cons]; exact h
theorem kY (es:List aj) (n:Nat):dg (es.take n) <+: dg es:=by
 unfold dg
 conv=>rhs; rw[<-List.take_append_drop n es,List.filterMap_append]
 exact List.prefix_append _ _
theorem Cg (es:List aj) (n:Nat):gO (es.take n) <+: gO es:=by
 unfold gO
 conv=>rhs; rw[<-List.take_append_drop n es,List.filterMap_append]
 exact List.prefix_append _ _
theorem yQ (n:Nat) (O:List Bool) (r1 r2:ah) (hO:O.length<=100000):∀ (es:List aj) (i m:Nat) (acc:List (List UInt8)),(∀ x∈es,Bj x)->O.drop i=oy es->i+es.length=O.length->es.length<m->acc.length<=i ->
  gD n O (O.length:Int) r1 r2 m (dg es) (gO es) (i:Int) acc=some (.inr (acc++es.map rl))
 | es,i,0,_,_,_,_,h,_=>absurd h (Nat.not_lt_zero _)
 | [],i,m+1,acc,_,hd,hi,h,_=>by
  unfold gD
  rw[decide_eq_false (by simp at hi; omega)]
  simp
 | x :: es,i,m+1,acc,hw,hd,hi,h,ha=>by
  have hx:O[i]? = some x.is:=by rw[<-List.head?_drop,hd]; rfl
  have hd':O.drop (i+1)=oy es:=by rw[<-List.drop_drop,hd]; rfl
  simp only[List.length_cons] at hi h
  have hwx:=hw x (List.mem_cons_self ..)
  have hwe:∀ y∈es,Bj y:=fun y hy=>hw y (List.mem_cons_of_mem _ hy)
  unfold gD
  rw[decide_eq_true (by omega),bV,hx]
  simp only[cond_true,Option.bind_some]
  have Kf:=LS (ll x) (by have:=ln x; omega) (sf hwx)
  have el:∀ y ys,dg (y :: ys)=if y.is then y.lease :: dg ys else dg ys:=fun y ys=>by unfold dg; rw[List.filterMap_cons]; cases y.is<;>rfl
  have ec:∀ y ys,gO (y :: ys)=if y.is then gO ys else y.call :: gO ys:=fun y ys=>by unfold gO; rw[List.filterMap_cons]; cases y.is<;>rfl
  rw[el,ec]
  cases hxi:x.is with
  | true =>
   simp only[if_true,cond_true]
   rw[show decide ((0:Int)<((x.lease :: dg es).length:Int))=true from decide_eq_true (by simp)]
   simp only[cond_true,Option.bind_some]
   rw[show bX (x.lease :: dg es) 0=some x.lease from rfl,qt]
   simp only[Option.bind_some]
   rw[show ([1,x.lease.No,x.lease.Holder,x.lease.Until]:List Int)=ll x from by unfold ll; rw[if_pos hxi],Kf]
   simp only[Option.bind_some]
   rw[th _ _ _ (by omega) (by simp; omega)]
   simp only[Option.bind_some]
   rw[Ao i (by omega),yQ n O r1 r2 hO es (i+1) m _ hwe hd' (by omega) (by omega) (by simp; omega)]
   simp[rl]
  | false =>
   simp only[Bool.false_eq_true,if_false,cond_false,Option.bind_some,Bool.not_false,cond_true]
   rw[show decide ((0:Int)<((x.call :: gO es).length:Int))=true from decide_eq_true (by simp)]
   simp only[cond_true,Option.bind_some]
   rw[show bX (x.call :: gO es) 0=some x.call from rfl,qt]
   simp only[Option.bind_some]
   rw[show ([2,x.call.Bar,x.call.Program]:List Int)=ll x from by unfold ll; rw[if_neg (by rw[hxi]; decide)],Kf]
   simp only[Option.bind_some]
   rw[th _ _ _ (by omega) (by simp; omega)]
   simp only[Option.bind_some]
   rw[Ao i (by omega),yQ n O r1 r2 hO es (i+1) m _ hwe hd' (by omega) (by omega) (by simp; omega)]
   simp[rl]
theorem jj (es:List aj):(oy es).length=es.length:=List.length_map ..
theorem jn {self:Int} {es:List aj} (h:es.length<=100000):sE (dr self es):=by
 have:=nC es
 unfold sE dr
 rw[jj]
 exact⟨by simp only[]; omega,by simp only[]; omega,by omega⟩
theorem L3 {self:Int} {es:List aj} (hc:oU (dr self es)=true) (hw:∀ x∈es,Bj x) (h:es.length<=100000):G9 (dr self es)=some (es.map rl,0):=by
 obtain ⟨s1,s2,s3⟩:=jn (self:=self) h
 unfold G9 F9
 rw[yO _ s1 s2 s3,hc]
 simp only[if_true,Option.bind_some]
 rw[show ((0:Int) != 0)=false from rfl]
 simp only[cond_false]
 have:=yQ aH (oy es) (dr self es) (dr self es) (by rw[jj]; exact h) es 0 (aH+7) [] hw rfl (by rw[jj]; omega) (qB _ (by omega) _) (by simp)
 rw[show ((0:Nat):Int)=0 from rfl] at this
 show (Option.bind (gD aH (oy es) ((oy es).length:Int) (dr self es) (dr self es) (aH+7) (dg es) (gO es) 0 []) _)=_
 rw[this]
 rfl
theorem Ja (s:ah) (x:aj) (h1:s.Leases.length<10000000) (h2:s.Calls.length<10000000) (h3:s.Order.length<10000000):xO s x=some (sX s x):=by
 obtain ⟨is,l,c⟩:=x
 cases is with
 | true=>exact Aa s l c h1 h3
 | false=>exact CX s l c h2 h3
theorem Ab (n:Nat) (z self:Int) (es0:List aj) (h0:es0.length<=100000) (hw:∀ x∈es0,Bj x):∀ (es:List aj) (i m:Nat),es0.drop i=es->i+es.length=es0.length->es.length<m ->
  jt n z (es0.map rl) ((es0.map rl).length:Int) m (i:Int) self (dg (es0.take i)) (gO (es0.take i)) (oy (es0.take i))=some (.inr (self,dg es0,gO es0,oy es0))
 | es,i,0,_,_,h=>absurd h (Nat.not_lt_zero _)
 | [],i,m+1,hd,hi,h=>by
  unfold jt
  rw[decide_eq_false (by simp at hi; simp; omega)]
  simp at hi
  rw[show es0.take i=es0 from List.take_of_length_le (by omega)]
  rfl
 | x :: es,i,m+1,hd,hi,h=>by
  have hx:es0[i]? = some x:=by rw[<-List.head?_drop,hd]; rfl
  have hd':es0.drop (i+1)=es:=by rw[<-List.drop_drop,hd]; rfl
  simp only[List.length_cons] at hi h
  have hwx:=hw x (List.mem_of_getElem? hx)
  have hlen:(es0.take i).length<=100000:=by rw[List.length_take]; omega
  obtain ⟨s1,s2,s3⟩:=jn (self:=self) hlen
  unfold jt
  rw[decide_eq_true (by simp; omega),bV,List.getElem?_map,hx]
  simp only[cond_true,Option.map_some,Option.bind_some]
  rw[I8 hwx]
  simp only[Option.bind_some,Bool.not_true,cond_false]
  rw[show ah.mk self (dg (es0.take i)) (gO (es0.take i)) (oy (es0.take i))=dr self (es0.take i) from rfl,Ja _ _ (by omega) (by omega) (by omega)]
  simp only[Option.bind_some]
  rw[<-nG,show es0.take i++[x]=es0.take (i+1) from by rw[List.take_add_one,hx]; rfl,Ao i (by omega)]
  exact Ab n z self es0 h0 hw es (i+1) m hd' (by omega) (by omega)
theorem I4 (self:Int) {es:List aj} (h0:es.length<=100000) (hw:∀ x∈es,Bj x):E6 self (es.map rl)=some (if oU (dr self es)=true then (dr self es,0) else (FV,530)):=by
 obtain ⟨s1,s2,s3⟩:=jn (self:=self) h0
 unfold E6 JL
 have:=Ab aH 0 self es h0 hw es 0 (aH+8) rfl (by omega) (qB _ (by omega) _)
 rw[show ((0:Nat):Int)=0 from rfl] at this
 rw[show dg (es.take 0)=[] from rfl,show gO (es.take 0)=[] from rfl,show oy (es.take 0)=[] from rfl] at this
 rw[this]
 simp only[Option.bind_some]
 rw[show ah.mk self (dg es) (gO es) (oy es)=dr self es from rfl,yO _ s1 s2 s3]
 cases oU (dr self es)<;>rfl
def iw (w:Bool):Int:=if w then 1 else 0
def pk {T:Type} (w:Bool) (p:T×T):T:=if w then p.2 else p.1
def up {T:Type} (w:Bool) (f:Bool->T) (x:T):Bool->T:=fun v=>if v=w then x else f v
theorem cj {T:Type} (w:Bool) (f:Bool->T) (x:T):up w f x w=x:=if_pos rfl
theorem bI {T:Type} {w v:Bool} (f:Bool->T) (x:T) (h:v≠w):up w f x v=f v:=if_neg h
theorem xa (w:Bool):(decide (0<=iw w)&&decide (iw w<2))=true:=by cases w<;>rfl
theorem ue (w:Bool):decide (0<=iw w)=true:=by cases w<;>rfl
theorem ub (w:Bool):decide (iw w<2)=true:=by cases w<;>rfl
theorem jC {T:Type} (w:Bool) (a b:T):jQ (iw w) a b=some (pk w (a,b)):=by cases w<;>rfl
theorem Gv {n:Int} (h:mE n 0 1=true):∃ w,n=iw w:=by
 rcases Dt h with h | h
 ·exact⟨false,h⟩
 ·exact⟨true,h⟩
theorem CS {T σ:Type} (L:List T) (hL:L.length<=1000000) (G:Nat->Int->Option σ) (g:T->Option σ) (e:σ) (hE:∀ m,G (m+1) (L.length:Int)=some e)
  (hG:∀ (m i:Nat) (x:T),i<L.length->L[i]? = some x->G (m+1) (i:Int)=match g x with | some r=>some r | none=>G m (wr .i64 ((i:Int)+1))) :
  ∀ (l:List T) (i m:Nat),L.drop i=l->i+l.length=L.length->l.length<m->G m (i:Int)=some ((l.findSome? g).getD e)
 | l,i,0,_,_,h=>absurd h (Nat.not_lt_zero _)
 | [],i,m+1,hd,hi,h=>by
  simp at hi
  rw[hi,hE]; rfl
 | x :: l,i,m+1,hd,hi,h=>by
  have hx:L[i]? = some x:=by rw[<-List.head?_drop,hd]; rfl
  have hd':L.drop (i+1)=l:=by rw[<-List.drop_drop,hd]; rfl
  simp only[List.length_cons] at hi h
  rw[hG m i x (by omega) hx,List.findSome?_cons]
  cases g x with
  | some r=>rfl
  | none =>
   simp only[]
   rw[Ao i (by omega)]
   exact CS L hL G g e hE hG l (i+1) m hd' (by omega) (by omega)
theorem m7 {T σ:Type} (L:List T) (hL:L.length<=1000000) (G:Nat->Int->Option σ) (g:T->Option σ) (e:σ) (hE:∀ m,G (m+1) (L.length:Int)=some e)
  (hG:∀ (m i:Nat) (x:T),i<L.length->L[i]? = some x->G (m+1) (i:Int)=match g x with | some r=>some r | none=>G m (wr .i64 ((i:Int)+1))) (k:Nat):G (aH+k) 0=some ((L.findSome? g).getD e) :=
 CS L hL G g e hE hG L 0 (aH+k) rfl (by omega) (qB _ hL _)
def xF (p:aj->Bool) (s:Nat):List aj->Nat->Bool
 | [],_=>false
 | x :: es,i=>(decide (i<s)&&p x) || xF p s es (i+1)
theorem vO (p:aj->Bool) (s:Nat):∀ (es:List aj) (i:Nat),xF p s es i=(es.take (s - i)).any p
 | [],i=>by simp[xF]
 | x :: es,i=>by
  rw[xF,vO p s es (i+1)]
  by_cases h:i<s
  ·obtain ⟨d,hd⟩:∃ d,s - i=d+1:=⟨s - i - 1,by omega⟩
   rw[decide_eq_true h,hd,show s - (i+1)=d by omega]; rfl
  ·rw[decide_eq_false h,show s - i=0 by omega,show s - (i+1)=0 by omega]; rfl
def pL (l:ak) (x:aj):Bool:=x.is&&decide (x.lease=l)
def pC (c:av) (x:aj):Bool:=!x.is&&decide (x.call=c)
theorem Ag (n:Nat) (l:ak) (P:aE) (z:Int) (w:Bool) (r:ah) (b:Bool) (s:Nat) (hs:pk w P.Synced=(s:Int)) (es0:List aj) (h0:es0.length<=100000) :
  ∀ (es:List aj) (i m:Nat),es0.drop i=es->i+es.length=es0.length->es.length<m ->
  dJ n l (oy es0) ((oy es0).length:Int) (.mk P z) (iw w) b r m (dg es) (gO es) (i:Int)=some (if xF (pL l) s es i then .inl true else .inr (.inr ()))
 | es,i,0,_,_,h=>absurd h (Nat.not_lt_zero _)
 | [],i,m+1,hd,hi,h=>by
  unfold dJ
  rw[decide_eq_false (by rw[jj]; simp at hi; omega)]; rfl
 | x :: es,i,m+1,hd,hi,h=>by
  have hx:es0[i]? = some x:=by rw[<-List.head?_drop,hd]; rfl
  have hd':es0.drop (i+1)=es:=by rw[<-List.drop_drop,hd]; rfl
  simp only[List.length_cons] at hi h
  have hos:(oy es0)[i]? = some x.is:=by unfold oy; rw[List.getElem?_map,hx]; rfl
  have ih:=Ag n l P z w r b s hs es0 h0 es (i+1) m hd' (by omega) (by omega)
  unfold dJ
  rw[decide_eq_true (by rw[jj]; omega),bV,hos,Ao i (by omega)]
  simp only[cond_true,Option.bind_some,xa,jC,show pk w (P.Synced.1,P.Synced.2)=(s:Int) from hs]
  obtain ⟨is,xl,xc⟩:=x
  rw[xF]
  cases is with
  | true =>
   rw[show dg (aj.mk true xl xc :: es)=xl :: dg es from rfl,show gO (aj.mk true xl xc :: es)=gO es from rfl]
   rw[show bX (xl :: dg es) 0=some xl from rfl,qt,show decide ((0:Int)<((xl :: dg es).length:Int))=true from decide_eq_true (by simp)]
   simp only[cond_true,cond_false,Option.bind_some,Bool.not_true,Bool.not_false]
   rw[pj,ih]
   unfold pL
   by_cases hi2:i<s
   ·rw[decide_eq_true hi2,decide_eq_true (show (i:Int)<s by omega)]
    simp only[cond_true,Option.bind_some,Bool.true_and]
    cases decide (xl=l)<;>rfl
   ·rw[decide_eq_false hi2,decide_eq_false (show ¬ (i:Int)<s by omega)]; rfl
  | false =>
   rw[show dg (aj.mk false xl xc :: es)=dg es from rfl,show gO (aj.mk false xl xc :: es)=xc :: gO es from rfl]
   rw[show bX (xc :: gO es) 0=some xc from rfl,qt,show decide ((0:Int)<((xc :: gO es).length:Int))=true from decide_eq_true (by simp)]
   simp only[cond_true,cond_false,Option.bind_some,Bool.not_true,Bool.not_false]
   rw[ih]
   unfold pL
   by_cases hi2:i<s
   ·rw[decide_eq_true hi2,decide_eq_true (show (i:Int)<s by omega)]; rfl
   ·rw[decide_eq_false hi2,decide_eq_false (show ¬ (i:Int)<s by omega)]; rfl
theorem Af (n:Nat) (c:av) (P:aE) (z:Int) (w:Bool) (r:ah) (b:Bool) (s:Nat) (hs:pk w P.Synced=(s:Int)) (es0:List aj) (h0:es0.length<=100000) :
  ∀ (es:List aj) (i m:Nat),es0.drop i=es->i+es.length=es0.length->es.length<m ->
  dI n c (oy es0) ((oy es0).length:Int) (.mk P z) (iw w) b r m (dg es) (gO es) (i:Int)=some (if xF (pC c) s es i then .inl true else .inr (.inr ()))
 | es,i,0,_,_,h=>absurd h (Nat.not_lt_zero _)
 | [],i,m+1,hd,hi,h=>by
  unfold dI
  rw[decide_eq_false (by rw[jj]; simp at hi; omega)]; rfl
 | x :: es,i,m+1,hd,hi,h=>by
  have hx:es0[i]? = some x:=by rw[<-List.head?_drop,hd]; rfl
  have hd':es0.drop (i+1)=es:=by rw[<-List.drop_drop,hd]; rfl
  simp only[List.length_cons] at hi h
  have hos:(oy es0)[i]? = some x.is:=by unfold oy; rw[List.getElem?_map,hx]; rfl
  have ih:=Af n c P z w r b s hs es0 h0 es (i+1) m hd' (by omega) (by omega)
  unfold dI
  rw[decide_eq_true (by rw[jj]; omega),bV,hos,Ao i (by omega)]
  simp only[cond_true,Option.bind_some,xa,jC,show pk w (P.Synced.1,P.Synced.2)=(s:Int) from hs]
  obtain ⟨is,xl,xc⟩:=x
  rw[xF]
  cases is with
  | true =>
   rw[show dg (aj.mk true xl xc :: es)=xl :: dg es from rfl,show gO (aj.mk true xl xc :: es)=gO es from rfl]
   rw[show bX (xl :: dg es) 0=some xl from rfl,qt,show decide ((0:Int)<((xl :: dg es).length:Int))=true from decide_eq_true (by simp)]
   simp only[cond_true,cond_false,Option.bind_some,Bool.not_true,Bool.not_false]
   rw[ih]
   unfold pC
   by_cases hi2:i<s
   ·rw[decide_eq_true hi2,decide_eq_true (show (i:Int)<s by omega)]; rfl
   ·rw[decide_eq_false hi2,decide_eq_false (show ¬ (i:Int)<s by omega)]; rfl
  | false =>
   rw[show dg (aj.mk false xl xc :: es)=dg es from rfl,show gO (aj.mk false xl xc :: es)=xc :: gO es from rfl]
   rw[show bX (xc :: gO es) 0=some xc from rfl,qt,show decide ((0:Int)<((xc :: gO es).length:Int))=true from decide_eq_true (by simp)]
   simp only[cond_true,cond_false,Option.bind_some,Bool.not_true,Bool.not_false]
   rw[uR,ih]
   unfold pC
   by_cases hi2:i<s
   ·rw[decide_eq_true hi2,decide_eq_true (show (i:Int)<s by omega)]
    simp only[cond_true,Option.bind_some,Bool.true_and]
    cases decide (xc=c)<;>rfl
   ·rw[decide_eq_false hi2,decide_eq_false (show ¬ (i:Int)<s by omega)]; rfl
theorem GF (P:aE) (z:Int) (w:Bool) (l:ak) (es:List aj) (s:Nat) (hd:pk w P.Desks=dr (iw w) es) (hs:pk w P.Synced=(s:Int)) (h:es.length<=100000):lI (.mk P z) (iw w) l=some ((es.take s).any (pL l)):=by
 unfold lI uG
 rw[xa,jC,show pk w ((aC.mk P z).Pair.Desks.1,(aC.mk P z).Pair.Desks.2)=dr (iw w) es from hd]
 have:=Ag aH l P z w (dr (iw w) es) false s hs es h es 0 (aH+7) rfl (by omega) (qB _ (by omega) _)
 rw[vO,Nat.sub_zero] at this
 show Option.bind (dJ aH l (oy es) ((oy es).length:Int) (.mk P z) (iw w) false (dr (iw w) es) (aH+7) (dg es) (gO es) 0) _=_
 rw[show (0:Int)=((0:Nat):Int) from rfl,this]
 cases (es.take s).any (pL l)<;>rfl
theorem Jd (P:aE) (z:Int) (w:Bool) (c:av) (es:List aj) (s:Nat) (hd:pk w P.Desks=dr (iw w) es) (hs:pk w P.Synced=(s:Int)) (h:es.length<=100000):lH (.mk P z) (iw w) c=some ((es.take s).any (pC c)):=by
 unfold lH uF
 rw[xa,jC,show pk w ((aC.mk P z).Pair.Desks.1,(aC.mk P z).Pair.Desks.2)=dr (iw w) es from hd]
 have:=Af aH c P z w (dr (iw w) es) false s hs es h es 0 (aH+7) rfl (by omega) (qB _ (by omega) _)
 rw[vO,Nat.sub_zero] at this
 show Option.bind (dI aH c (oy es) ((oy es).length:Int) (.mk P z) (iw w) false (dr (iw w) es) (aH+7) (dg es) (gO es) 0) _=_
 rw[show (0:Int)=((0:Nat):Int) from rfl,this]
 cases (es.take s).any (pC c)<;>rfl
theorem K1 {es:List aj} {l:ak} (h:es.any (pL l)=true):l∈dg es:=by
 obtain ⟨x,hx,hp⟩:=List.any_eq_true.1 h
 unfold pL at hp
 rw[Bool.and_eq_true,decide_eq_true_eq] at hp
 exact List.mem_filterMap.2 ⟨x,hx,by rw[if_pos hp.1,hp.2]⟩
theorem K0 {es:List aj} {c:av} (h:es.any (pC c)=true):c∈gO es:=by
 obtain ⟨x,hx,hp⟩:=List.any_eq_true.1 h
 unfold pC at hp
 rw[Bool.and_eq_true,decide_eq_true_eq] at hp
 exact List.mem_filterMap.2 ⟨x,hx,by rw[if_neg (by simpa using hp.1),hp.2]⟩
theorem Jb (L:List ak) (l:ak) (h:L.length<=1000000):He L l=some (decide (l∈L)):=by
 unfold He JZ
 have:=m7 L h (jw aH L l) (fun x=>if x=l then some (.inl true) else none) (.inr ()) (fun m=>by unfold jw; rw[decide_eq_false (by omega)]; rfl) (fun m i x hi hx=>by
  rw[jw,decide_eq_true (by omega),bV,hx]
  simp only[cond_true,Option.bind_some,pj]
  by_cases e:x=l
  ·rw[decide_eq_true e,if_pos e]; rfl
  ·rw[decide_eq_false e,if_neg e]; rfl) 8
 rw[this]
 by_cases hm:l∈L
 ·rw[decide_eq_true hm]
  cases hf:L.findSome? (fun x=>if x=l then some (Sum.inl true:Bool⊕Unit) else none) with
  | none=>have:=List.findSome?_eq_none_iff.1 hf l hm; simp at this
  | some r =>
   obtain ⟨x,_,hx⟩:=List.exists_of_findSome?_eq_some hf
   split at hx
   ·cases hx; rfl
   ·cases hx
 ·rw[decide_eq_false hm,List.findSome?_eq_none_iff.2 (fun x hx=>by rw[if_neg (fun e:x=l=>hm (e ▸ hx))])]; rfl
theorem LV (L:List av) (c:av) (h:L.length<=1000000):Hv L c=some (decide (c∈L)):=by
 unfold Hv J0
 have:=m7 L h (jx aH false L (L.length:Int) c.Bar c.Program) (fun x=>if x=c then some (.inl true) else none) (.inr ()) (fun m=>by unfold jx; rw[decide_eq_false (by omega)]; rfl) (fun m i x hi hx=>by
  rw[jx,decide_eq_true (by omega),bV,hx]
  simp only[cond_true,Option.bind_some,uR]
  by_cases e:x=c
  ·rw[decide_eq_true e,if_pos e]; rfl
  ·rw[decide_eq_false e,if_neg e]; rfl) 8
 rw[this]
 by_cases hm:c∈L
 ·rw[decide_eq_true hm]
  cases hf:L.findSome? (fun x=>if x=c then some (Sum.inl true:Bool⊕Unit) else none) with
  | none=>have:=List.findSome?_eq_none_iff.1 hf c hm; simp at this
  | some r =>
   obtain ⟨x,_,hx⟩:=List.exists_of_findSome?_eq_some hf
   split at hx
   ·cases hx; rfl
   ·cases hx
 ·rw[decide_eq_false hm,List.findSome?_eq_none_iff.2 (fun x hx=>by rw[if_neg (fun e:x=c=>hm (e ▸ hx))])]; rfl
theorem L0 (L:List ak) (l:ak) (h:L.length<=1000000):∃ b,HB L l=some b:=by
 unfold HB J9 DS DR
 have:∀ (k:List ak) (i m:Nat),L.drop i=k->i+k.length=L.length->k.length<m->∃ x,gg aH L (L.length:Int) l m (i:Int)=some x:=by
  intro k
  induction k with
  | nil =>
   intro i m hd hi hm
   obtain ⟨m,rfl⟩:∃ q,m=q+1:=⟨m - 1,by omega⟩
   unfold gg
   rw[decide_eq_false (by simp at hi; omega)]; exact⟨_,rfl⟩
  | cons x k ih =>
   intro i m hd hi hm
   obtain ⟨m,rfl⟩:∃ q,m=q+1:=⟨m - 1,by omega⟩
   have hx:L[i]? = some x:=by rw[<-List.head?_drop,hd]; rfl
   have hd':L.drop (i+1)=k:=by rw[<-List.drop_drop,hd]; rfl
   simp only[List.length_cons] at hi hm
   unfold gg
   rw[decide_eq_true (by omega),bV,hx,Ao i (by omega)]
   simp only[cond_true,Option.bind_some,pj]
   cases decide (l=x) with
   | true=>exact⟨_,rfl⟩
   | false=>exact ih (i+1) m hd' (by omega) (by omega)
 obtain ⟨x,hx⟩:=this L 0 (aH+8) rfl (by omega) (qB _ h _)
 rw[show ((0:Nat):Int)=0 from rfl] at hx
 rw[hx]
 cases x<;>exact⟨_,rfl⟩
theorem LR (r:ah) (a b:Int) (hr:sE r) (hc:oU r=true) (hn:r.Leases≠[]):∃ x,Hc r a b=some x/\(x.2≠0∨(x=(lM r (.mk (r.Leases.length:Int) a b),0)/\mT r.Leases (.mk (r.Leases.length:Int) a b)=true/\r.Leases.length<256/\∃ h,r.Leases.getLast? = some h/\h.Holder=r.Self)):=by
 obtain ⟨h1,h2,h3⟩:=hr
 have hp:0<r.Leases.length:=List.length_pos_iff.2 hn
 obtain ⟨h,hh⟩:∃ h,r.Leases.getLast? = some h:=by
  cases hx:r.Leases.getLast? with
  | none=>rw[List.getLast?_eq_none_iff] at hx; exact absurd hx hn
  | some h=>exact⟨h,rfl⟩
 unfold Hc JV
 rw[yO r h1 h2 h3,hc,Am _ (by omega) hp,hh]
 simp only[if_true,Option.bind_some]
 rw[show (!((0:Int)==0))=false from rfl]
 simp only[cond_false]
 cases hs:(h.Holder==r.Self) with
 | false=>exact⟨_,rfl,.inl (by decide)⟩
 | true =>
  rw[GD r _ (by omega)]
  cases hf:mT r.Leases (.mk (r.Leases.length:Int) a b) with
  | false=>exact⟨_,rfl,.inl (by decide)⟩
  | true =>
   by_cases h256:r.Leases.length<256
   ·rw[decide_eq_true (show (r.Leases.length:Int)<256 by omega),Aa r _ _ (by omega) (by omega)]
    exact⟨_,rfl,.inr ⟨rfl,rfl,h256,h,rfl,by simpa using hs⟩⟩
   ·rw[decide_eq_false (show ¬ (r.Leases.length:Int)<256 by omega)]
    exact⟨_,rfl,.inl (by decide)⟩
theorem LX (r:ah) (l:ak) (hr:sE r) (hc:oU r=true) (hn:r.Leases≠[]):∃ x,Hx r l=some x/\(x.2≠0∨x=(r,0)∨(x=(lM r l,0)/\mT r.Leases l=true/\r.Leases.length<256)):=by
 obtain ⟨h1,h2,h3⟩:=hr
 have hp:0<r.Leases.length:=List.length_pos_iff.2 hn
 obtain ⟨h,hh⟩:∃ h,r.Leases.getLast? = some h:=by
  cases hx:r.Leases.getLast? with
  | none=>rw[List.getLast?_eq_none_iff] at hx; exact absurd hx hn
  | some h=>exact⟨h,rfl⟩
 obtain ⟨b,hb⟩:=L0 r.Leases l h1
 unfold Hx J5
 rw[yO r h1 h2 h3,hc,hb,Am _ (by omega) hp,hh]
 simp only[if_true,Option.bind_some]
 rw[show (!((0:Int)==0))=false from rfl]
 simp only[cond_false]
 cases b with
 | true=>exact⟨_,rfl,.inr (.inl rfl)⟩
 | false =>
  cases hs:(h.Holder != r.Self) with
  | false=>exact⟨_,rfl,.inl (by decide)⟩
  | true =>
   rw[GD r _ (by omega)]
   cases hf:mT r.Leases l with
   | false=>exact⟨_,rfl,.inl (by decide)⟩
   | true =>
    by_cases h256:r.Leases.length<256
    ·rw[decide_eq_true (show (r.Leases.length:Int)<256 by omega),Aa r _ _ (by omega) (by omega)]
     exact⟨_,rfl,.inr (.inr ⟨rfl,rfl,h256⟩)⟩
    ·rw[decide_eq_false (show ¬ (r.Leases.length:Int)<256 by omega)]
     exact⟨_,rfl,.inl (by decide)⟩
section
set_option linter.unusedVariables false
set_option linter.unusedSimpArgs false
set_option maxRecDepth 100000
set_option maxHeartbeats 4000000
theorem vz (a b:List aj):dg (a++b)=dg a++dg b:=List.filterMap_append ..
theorem zD (a b:List aj):gO (a++b)=gO a++gO b:=List.filterMap_append ..
def tF (s:ah):List aj->ah
 | []=>s
 | x :: es=>tF (sX s x) es
theorem tG:∀ (a:List aj) (s:ah) (b:List aj),tF s (a++b)=tF (tF s a) b
 | [],s,b=>rfl
 | x :: a,s,b=>tG a (sX s x) b
theorem AI (self:Int) (es:List aj):tF (.mk self [] [] []) es=dr self es:=by
 induction es using Dv with
 | h0=>rfl
 | h1 l x ih=>rw[tG,ih,nG]; rfl
theorem xy:∀ (a:List aj) (s:ah) (b:List aj),oA s (a++b)=(oA s a&&oA (tF s a) b)
 | [],s,b=>rfl
 | x :: a,s,b=>by
  rw[List.cons_append,lu,lu,xy a (sX s x) b,Bool.and_assoc]; rfl
theorem uw (self:Int) (es:List aj) (x:aj):oA (.mk self [] [] []) (es++[x])=(oA (.mk self [] [] []) es&&Jh (dr self es) x):=by
 rw[xy,AI,lu]
 show (_&&(_&&true))=_
 rw[Bool.and_true]
theorem EY {T:Type} {a b l:List T} (ha:a <+: l) (hb:b <+: l):a <+: b∨b <+: a:=List.prefix_or_prefix_of_prefix ha hb
theorem fZ {T:Type} {a b:List T} (h:a <+: b) {i:Nat} {x:T} (hx:a[i]? = some x):b[i]? = some x:=by
 obtain ⟨t,rfl⟩:=h
 rw[List.getElem?_append_left (by rw[List.getElem?_eq_some_iff] at hx; exact hx.1),hx]
structure Iv (k:Nat) (es:Bool->List aj) (s:Bool->Nat) (T:List ak) (Sp:Bool->List av):Prop where
 wf:∀ w,∀ x∈es w,Bj x
 run:∀ w,oA (.mk (iw w) [] [] []) (es w)=true
 hd:∀ w,(es w).head?.map (·.is)=some true
 sb:∀ w,1<=s w/\s w<=(es w).length
 len:∀ w,(es w).length<=k/\(Sp w).length<=k
 tl:T.length<=k
 l256:∀ w,(dg (es w)).length<=256
 pre:∀ w,dg (es w) <+: dg (es !w)∨dg (es !w) <+: dg (es w)
 far:∀ w j x h,(dg (es w))[j+1]? = some x->(dg (es w))[j]? = some h->h.Holder=iw (!w)->(dg ((es !w).take (s !w)))[j+1]? = some x
 told:∀ t∈T,∃ w j,(dg ((es w).take (s w)))[j]? = some t/\∀ i h,j=i+1->(dg (es w))[i]? = some h->h.Holder=iw w
 spk:∀ w,∀ c∈Sp w,c∈gO ((es w).take (s w))
variable {k:Nat} {es:Bool->List aj} {s:Bool->Nat} {T:List ak} {Sp:Bool->List av}
theorem Iv.ne (I:Iv k es s T Sp) (w:Bool):es w≠[]:=fun h=>by
 have:=I.hd w
 rw[h] at this; cases this
theorem Iv.gP (I:Iv k es s T Sp) (w:Bool):oU (dr (iw w) (es w))=true :=
 D3 (by cases w<;>rfl) (I.run w) (I.ne w) (I.hd w) (I.l256 w)
theorem Iv.inc (I:Iv k es s T Sp) (w:Bool):yE (dg (es w)):=(wu (I.gP w)).2.1
theorem Iv.calls (I:Iv k es s T Sp) (w:Bool):mc (iw w) (dg (es w)) (gO (es w)):=(wu (I.gP w)).2.2.1
theorem Iv.MZ (I:Iv k es s T Sp) (w:Bool):dg (es w)≠[]:=fun h=>by
 have h1:=I.hd w
 cases he:es w with
 | nil=>exact I.ne w he
 | cons x l =>
  rw[he] at h1 h
  have h1:x.is=true:=by simpa using h1
  unfold dg at h
  rw[List.filterMap_cons,if_pos h1] at h
  cases h
theorem Iv.no (I:Iv k es s T Sp) {w:Bool} {j:Nat} {x:ak} (h:(dg (es w))[j]? = some x):x.No=(j:Int):=by
 have:=(rF (I.inc w j x h)).1
 rw[List.length_take] at this
 have hj:j<(dg (es w)).length:=by rw[List.getElem?_eq_some_iff] at h; exact h.1
 rw[this]; congr 1; omega
theorem nn (w:Bool):(!!w)=w:=Bool.not_not w
theorem vB {v w:Bool} (h:v≠w):v = !w:=by cases v<;>cases w<;>simp_all
theorem xG {T:Type} {l r:List T} {n:Nat} (h:n<=l.length):(l++r).take n=l.take n:=by
 rw[List.take_append_of_le_length h]
theorem Iv.lM (I:Iv k es s T Sp) (w:Bool) (l:ak) (hl:sm l) (hf:mT (dg (es w)) l=true) (h256:(dg (es w)).length<256)
  (hp:dg (es !w) <+: dg (es w)∨dg (es w)++[l] <+: dg (es !w)) (hh:∀ j h,(dg (es w)).length=j+1->(dg (es w))[j]? = some h->h.Holder=iw (!w)->(dg ((es !w).take (s !w)))[j+1]? = some l) :
  Iv (k+1) (up w es (es w++[.mk true l (.mk 0 0)])) s T Sp:=by
 have eL:dg (es w++[.mk true l (.mk 0 0)])=dg (es w)++[l]:=by rw[vz]; rfl
 have eC:gO (es w++[.mk true l (.mk 0 0)])=gO (es w):=by rw[zD]; exact List.append_nil _
 have eT:∀ v,(up w es (es w++[.mk true l (.mk 0 0)]) v).take (s v)=(es v).take (s v):=fun v=>by
  by_cases h:v=w
  ·subst h; rw[cj,xG (I.sb v).2]
  ·rw[bI _ _ h]
 have eP:∀ v,dg (es v) <+: dg (up w es (es w++[.mk true l (.mk 0 0)]) v):=fun v=>by
  by_cases h:v=w
  ·subst h; rw[cj,eL]; exact List.prefix_append ..
  ·rw[bI _ _ h]; exact List.prefix_refl _
 have en:(!w)≠w:=by cases w<;>decide
 constructor
 ·intro v x hx
  by_cases h:v=w
  ·subst h
   rw[cj] at hx
   rcases List.mem_append.1 hx with hx | hx
   ·exact I.wf v x hx
   ·rw[List.mem_singleton.1 hx]; exact⟨rfl,hl⟩
  ·rw[bI _ _ h] at hx; exact I.wf v x hx
 ·intro v
  by_cases h:v=w
  ·subst h
   rw[cj,uw,I.run,Bool.true_and]
   exact hf
  ·rw[bI _ _ h]; exact I.run v
 ·intro v
  by_cases h:v=w
  ·subst h
   rw[cj,List.head?_append]
   have:=I.hd v
   cases hx:(es v).head? with
   | none=>rw[hx] at this; cases this
   | some x=>rw[hx] at this; exact this
  ·rw[bI _ _ h]; exact I.hd v
 ·intro v
  refine⟨(I.sb v).1,?_⟩
  have:=(I.sb v).2
  by_cases h:v=w
  ·subst h; rw[cj,List.length_append]; omega
  ·rw[bI _ _ h]; exact this
 ·intro v
  have:=I.len v
  refine⟨?_,by omega⟩
  by_cases h:v=w
  ·subst h; rw[cj,List.length_append]; simp; omega
  ·rw[bI _ _ h]; omega
 ·have:=I.tl; omega
 ·intro v
  by_cases h:v=w
  ·subst h; rw[cj,eL,List.length_append]; simp; omega
  ·rw[bI _ _ h]; exact I.l256 v
 ·have key:dg (up w es (es w++[.mk true l (.mk 0 0)]) w) <+: dg (up w es (es w++[.mk true l (.mk 0 0)]) !w)∨dg (up w es (es w++[.mk true l (.mk 0 0)]) !w) <+: dg (up w es (es w++[.mk true l (.mk 0 0)]) w):=by
   rw[cj,bI _ _ en,eL]
   rcases hp with hp | hp
   ·exact .inr (hp.trans (List.prefix_append ..))
   ·exact .inl hp
  intro v
  by_cases h:v=w
  ·subst h; exact key
  ·rw[vB h,nn]; exact key.symm
 ·intro v j x h hx hh1 hh2
  rw[eT]
  by_cases hv:v=w
  ·subst hv
   rw[cj,eL] at hx hh1
   by_cases hj:j+1<(dg (es v)).length
   ·rw[List.getElem?_append_left hj] at hx
    rw[List.getElem?_append_left (by omega)] at hh1
    exact I.far v j x h hx hh1 hh2
   ·have hjl:j+1<(dg (es v)++[l]).length:=by rw[List.getElem?_eq_some_iff] at hx; exact hx.1
    rw[List.length_append] at hjl
    simp at hjl
    have hj1:(dg (es v)).length=j+1:=by omega
    rw[List.getElem?_append_left (by omega)] at hh1
    rw[List.getElem?_append_right (by omega),show j+1 - (dg (es v)).length=0 by omega] at hx
    cases hx
    exact hh j h hj1 hh1 hh2
  ·rw[bI _ _ hv] at hx hh1
   exact I.far v j x h hx hh1 hh2
 ·intro t ht
  obtain ⟨v,j,h1,h2⟩:=I.told t ht
  refine⟨v,j,by rw[eT]; exact h1,fun i h hi hx=>?_⟩
  have hj:j<(dg ((es v).take (s v))).length:=by rw[List.getElem?_eq_some_iff] at h1; exact h1.1
  have:=(kY (es v) (s v)).length_le
  obtain ⟨y,hy⟩:∃ y,(dg (es v))[i]? = some y:=⟨_,List.getElem?_eq_getElem (show i<(dg (es v)).length by omega)⟩
  have:=fZ (eP v) hy
  rw[hx] at this
  cases this
  exact h2 i h hi hy
 ·intro v c hc
  rw[eT]
  exact I.spk v c hc
theorem Iv.mK (I:Iv k es s T Sp) (w:Bool) (c:av) (hl:um c) (hf:sa (iw w) (dg (es w)) (gO (es w)) c=true) :
  Iv (k+1) (up w es (es w++[.mk false (.mk 0 0 0) c])) s T Sp:=by
 have eL:∀ v,dg (up w es (es w++[.mk false (.mk 0 0 0) c]) v)=dg (es v):=fun v=>by
  by_cases h:v=w
  ·subst h; rw[cj,vz]; exact List.append_nil _
  ·rw[bI _ _ h]
 have eT:∀ v,(up w es (es w++[.mk false (.mk 0 0 0) c]) v).take (s v)=(es v).take (s v):=fun v=>by
  by_cases h:v=w
  ·subst h; rw[cj,xG (I.sb v).2]
  ·rw[bI _ _ h]
 constructor
 ·intro v x hx
  by_cases h:v=w
  ·subst h
   rw[cj] at hx
   rcases List.mem_append.1 hx with hx | hx
   ·exact I.wf v x hx
   ·rw[List.mem_singleton.1 hx]; exact⟨rfl,hl⟩
  ·rw[bI _ _ h] at hx; exact I.wf v x hx
 ·intro v
  by_cases h:v=w
  ·subst h
   rw[cj,uw,I.run,Bool.true_and]
   exact hf
  ·rw[bI _ _ h]; exact I.run v
 ·intro v
  by_cases h:v=w
  ·subst h
   rw[cj,List.head?_append]
   have:=I.hd v
   cases hx:(es v).head? with
   | none=>rw[hx] at this; cases this
   | some x=>rw[hx] at this; exact this
  ·rw[bI _ _ h]; exact I.hd v
 ·intro v
  refine⟨(I.sb v).1,?_⟩
  have:=(I.sb v).2
  by_cases h:v=w
  ·subst h; rw[cj,List.length_append]; omega
  ·rw[bI _ _ h]; exact this
 ·intro v
  have:=I.len v
  refine⟨?_,by omega⟩
  by_cases h:v=w
  ·subst h; rw[cj,List.length_append]; simp; omega
  ·rw[bI _ _ h]; omega
 ·have:=I.tl; omega
 ·intro v; rw[eL]; exact I.l256 v
 ·intro v; rw[eL,eL]; exact I.pre v
 ·intro v j x h; rw[eL,eT]; exact I.far v j x h
 ·intro t ht
  obtain ⟨v,j,h1,h2⟩:=I.told t ht
  exact⟨v,j,by rw[eT]; exact h1,fun i h hi=>by rw[eL]; exact h2 i h hi⟩
 ·intro v c hc
  rw[eT]
  exact I.spk v c hc
theorem Iv.sync (I:Iv k es s T Sp) (w:Bool) (n:Nat) (h1:s w<=n) (h2:n<=(es w).length):Iv (k+1) es (up w s n) T Sp:=by
 have eT:∀ v,(es v).take (s v) <+: (es v).take (up w s n v):=fun v=>by
  by_cases h:v=w
  ·subst h; rw[cj]; exact List.take_prefix_take_left h1
  ·rw[bI _ _ h]; exact List.prefix_refl _
 have eL:∀ v,dg ((es v).take (s v)) <+: dg ((es v).take (up w s n v)):=fun v=>by
  obtain ⟨t,ht⟩:=eT v
  rw[<-ht,vz]; exact List.prefix_append ..
 have eC:∀ v,gO ((es v).take (s v)) <+: gO ((es v).take (up w s n v)):=fun v=>by
  obtain ⟨t,ht⟩:=eT v
  rw[<-ht,zD]; exact List.prefix_append ..
 refine⟨I.wf,I.run,I.hd,fun v=>?_,fun v=>⟨by have:=I.len v; omega,by have:=I.len v; omega⟩,by have:=I.tl; omega,I.l256,I.pre,fun v j x h a b c=>fZ (eL _) (I.far v j x h a b c),fun t ht=>?_,fun v c hc=>(eC v).subset (I.spk v c hc)⟩
 ·have:=I.sb v
  by_cases h:v=w
  ·subst h; rw[cj]; omega
  ·rw[bI _ _ h]; exact this
 ·obtain ⟨v,j,a,b⟩:=I.told t ht
  exact⟨v,j,fZ (eL v) a,b⟩
theorem Iv.more (I:Iv k es s T Sp):Iv (k+1) es s T Sp :=
 ⟨I.wf,I.run,I.hd,I.sb,fun v=>⟨by have:=I.len v; omega,by have:=I.len v; omega⟩,by have:=I.tl; omega,I.l256,I.pre,I.far,I.told,I.spk⟩
theorem Iv.tell (I:Iv k es s T Sp) (w:Bool) (l:ak) (h:l∈dg ((es w).take (s w))):Iv (k+1) es s (T++[l]) Sp:=by
 refine⟨I.wf,I.run,I.hd,I.sb,fun v=>⟨by have:=I.len v; omega,by have:=I.len v; omega⟩,by have:=I.tl; simp; omega,I.l256,I.pre,I.far,fun t ht=>?_,I.spk⟩
 rcases List.mem_append.1 ht with ht | ht
 ·exact I.told t ht
 rw[List.mem_singleton.1 ht]
 obtain ⟨j,hj⟩:=List.mem_iff_getElem?.1 h
 have hj':=fZ (kY (es w) (s w)) hj
 cases j with
 | zero=>exact⟨w,0,hj,fun i h hi=>by omega⟩
 | succ j =>
  have hl:j+1<(dg (es w)).length:=by rw[List.getElem?_eq_some_iff] at hj'; exact hj'.1
  obtain ⟨y,hy⟩:∃ y,(dg (es w))[j]? = some y:=⟨_,List.getElem?_eq_getElem (by omega)⟩
  rcases (rF (I.inc w j y hy)).2.1 with h0 | h0
  all_goals
   by_cases hw:y.Holder=iw w
   ·exact⟨w,j+1,hj,fun i h hi hx=>by
     obtain rfl:i=j:=by omega
     rw[hy] at hx; cases hx; exact hw⟩
   ·have hn:y.Holder=iw (!w):=by
     rw[h0] at hw ⊢
     cases w<;>first | rfl | exact absurd rfl hw
    have hf:=I.far w j l y hj' hy hn
    refine⟨!w,j+1,hf,fun i h hi hx=>?_⟩
    obtain rfl:i=j:=by omega
    have e:h=y:=by
     have hn':i<(dg (es !w)).length:=by rw[List.getElem?_eq_some_iff] at hx; exact hx.1
     rcases I.pre w with hp | hp
     ·have:=fZ hp hy
      rw[hx] at this; cases this; rfl
     ·have:=fZ hp hx
      rw[hy] at this; cases this; rfl
    rw[e]; exact hn
theorem Iv.JF (I:Iv k es s T Sp) (w:Bool) (c:av) (h:c∈gO ((es w).take (s w))):Iv (k+1) es s T (up w Sp (Sp w++[c])):=by
 refine⟨I.wf,I.run,I.hd,I.sb,fun v=>⟨by have:=I.len v; omega,?_⟩,by have:=I.tl; omega,I.l256,I.pre,I.far,I.told,fun v d hd=>?_⟩
 ·have:=I.len v
  by_cases h:v=w
  ·subst h; rw[cj,List.length_append]; simp; omega
  ·rw[bI _ _ h]; omega
 ·by_cases hv:v=w
  ·subst hv
   rw[cj] at hd
   rcases List.mem_append.1 hd with hd | hd
   ·exact I.spk v d hd
   ·rw[List.mem_singleton.1 hd]; exact h
  ·rw[bI _ _ hv] at hd; exact I.spk v d hd
theorem Iv.HT (I:Iv k es s T Sp) (w:Bool) (n:Nat) (h1:s w<=n) (h2:n<=(es w).length):Iv (k+1) (up w es ((es w).take n)) s T Sp:=by
 have eT:∀ v,(up w es ((es w).take n) v).take (s v)=(es v).take (s v):=fun v=>by
  by_cases h:v=w
  ·subst h; rw[cj,List.take_take,Nat.min_eq_left h1]
  ·rw[bI _ _ h]
 have eP:∀ v,dg (up w es ((es w).take n) v) <+: dg (es v):=fun v=>by
  by_cases h:v=w
  ·subst h; rw[cj]; exact kY ..
  ·rw[bI _ _ h]; exact List.prefix_refl _
 have en:(!w)≠w:=by cases w<;>decide
 have hs:=(I.sb w).1
 constructor
 ·intro v x hx
  by_cases h:v=w
  ·subst h; rw[cj] at hx; exact I.wf v x (List.mem_of_mem_take hx)
  ·rw[bI _ _ h] at hx; exact I.wf v x hx
 ·intro v
  by_cases h:v=w
  ·subst h; rw[cj]; exact ux _ _ _ (I.run v)
  ·rw[bI _ _ h]; exact I.run v
 ·intro v
  by_cases h:v=w
  ·subst h; rw[cj]; exact head_take (I.hd v) (by omega)
  ·rw[bI _ _ h]; exact I.hd v
 ·intro v
  refine⟨(I.sb v).1,?_⟩
  by_cases h:v=w
  ·subst h; rw[cj,List.length_take]; omega
  ·rw[bI _ _ h]; exact(I.sb v).2
 ·intro v
  have:=I.len v
  refine⟨?_,by omega⟩
  by_cases h:v=w
  ·subst h; rw[cj,List.length_take]; omega
  ·rw[bI _ _ h]; omega
 ·have:=I.tl; omega
 ·intro v
  have:=(eP v).length_le
  have:=I.l256 v
  omega
 ·have key:dg (up w es ((es w).take n) w) <+: dg (up w es ((es w).take n) !w)∨dg (up w es ((es w).take n) !w) <+: dg (up w es ((es w).take n) w):=by
   rw[bI _ _ en]
   rcases I.pre w with hp | hp
   ·exact .inl ((eP w).trans hp)
   ·exact EY (eP w) hp
  intro v
  by_cases h:v=w
  ·subst h; exact key
  ·rw[vB h,nn]; exact key.symm
 ·intro v j x h a b c
  rw[eT]
  exact I.far v j x h (fZ (eP v) a) (fZ (eP v) b) c
 ·intro t ht
  obtain ⟨v,j,a,b⟩:=I.told t ht
  exact⟨v,j,by rw[eT]; exact a,fun i h hi hx=>b i h hi (fZ (eP v) hx)⟩
 ·intro v c hc
  rw[eT]
  exact I.spk v c hc
theorem Iv.GA (I:Iv k es s T Sp) (w:Bool) {h:ak} (hl:(dg (es w)).getLast? = some h) (hh:h.Holder=iw w):dg (es !w) <+: dg (es w):=by
 rcases I.pre w with hp | hp
 ·by_cases hlen:(dg (es !w)).length<=(dg (es w)).length
  ·rw[hp.eq_of_length (by have:=hp.length_le; omega)]; exact List.prefix_refl _
  ·exfalso
   obtain ⟨j,hj⟩:∃ j,(dg (es w)).length=j+1:=⟨(dg (es w)).length - 1,by have:=List.length_pos_iff.2 (I.MZ w); omega⟩
   obtain ⟨x,hx⟩:∃ x,(dg (es !w))[j+1]? = some x:=⟨_,List.getElem?_eq_getElem (by omega)⟩
   have hlast:(dg (es w))[j]? = some h:=by rw[List.getLast?_eq_getElem?,hj] at hl; exact hl
   have:=I.far (!w) j x h hx (fZ hp hlast) (by rw[nn]; exact hh)
   rw[nn] at this
   have hj2:j+1<(dg ((es w).take (s w))).length:=by rw[List.getElem?_eq_some_iff] at this; exact this.1
   have:=(kY (es w) (s w)).length_le
   omega
 ·exact hp
theorem Iv.Gz (I:Iv k es s T Sp) (w:Bool) {t:ak} (ht:t∈T) (hn:t.No=((dg (es w)).length:Int)):dg (es w)++[t] <+: dg (es !w)/\(dg ((es !w).take (s !w)))[(dg (es w)).length]? = some t:=by
 obtain ⟨v,j,h1,h2⟩:=I.told t ht
 have h1':=fZ (kY (es v) (s v)) h1
 have hj:j=(dg (es w)).length:=by
  have:=I.no h1'
  rw[hn] at this; omega
 subst hj
 have hlt:(dg (es w)).length<(dg (es v)).length:=by rw[List.getElem?_eq_some_iff] at h1'; exact h1'.1
 have hv:v≠w:=fun e=>by subst e; omega
 rw[vB hv] at h1 h1' hlt
 refine⟨?_,h1⟩
 rcases I.pre w with hp | hp
 ·obtain ⟨r,hr⟩:=hp
  rw[<-hr] at h1' ⊢
  rw[List.getElem?_append_right (Nat.le_refl _),Nat.sub_self] at h1'
  cases r with
  | nil=>cases h1'
  | cons y r=>cases h1'; exact⟨r,by simp⟩
 ·have:=hp.length_le; omega
end
section
set_option linter.unusedVariables false
set_option linter.unusedSimpArgs false
set_option maxRecDepth 100000
set_option maxHeartbeats 4000000
def cZ (es:Bool->List aj) (s:Bool->Nat) (T:List ak) (Sp:Bool->List av):aE :=
 .mk (dr 0 (es false),dr 1 (es true)) ((s false:Int),(s true:Int)) T (Sp false,Sp true)
def ZP:aE:=.mk (.mk 0 [] [] [],.mk 0 [] [] []) (0,0) [] ([],[])
variable {k:Nat} {es:Bool->List aj} {s:Bool->Nat} {T:List ak} {Sp:Bool->List av}
theorem ig (w:Bool):pk w (cZ es s T Sp).Desks=dr (iw w) (es w):=by cases w<;>rfl
theorem m9 (w:Bool):pk w (cZ es s T Sp).Synced=(s w:Int):=by cases w<;>rfl
theorem p0 (w:Bool):pk w (cZ es s T Sp).Spoken=Sp w:=by cases w<;>rfl
theorem uE (G:Nat->Int->Option (Unit⊕Unit)) (h0:∀ m,(G (m+1) 0=some (.inl ()))∨G (m+1) 0=G m 1) (h1:∀ m,(G (m+1) 1=some (.inl ()))∨G (m+1) 1=G m 2) (h2:∀ m,G (m+1) 2=some (.inr ())) (m:Nat):∃ x,G (m+3) 0=some x:=by
 rcases h0 (m+2) with h | h
 ·exact⟨_,h⟩
 rw[h]
 rcases h1 (m+1) with h | h
 ·exact⟨_,h⟩
 rw[h]
 exact⟨_,h2 m⟩
theorem v0 (I:Iv k es s T Sp) (hk:k<=1000) (d:bj) (a:Int):∃ x,fq aH (cZ es s T Sp).Desks.1 (cZ es s T Sp).Desks.2 (cZ es s T Sp) d 0 [] [] [] 0 [] [] [] 0 0 [] [] [] 0 (cZ es s T Sp) a (aH+7) 0=some x:=by
 have key:∀ (w:Bool) (m:Nat),fq aH (cZ es s T Sp).Desks.1 (cZ es s T Sp).Desks.2 (cZ es s T Sp) d 0 [] [] [] 0 [] [] [] 0 0 [] [] [] 0 (cZ es s T Sp) a (m+1) (iw w)=some (.inl ()) ∨
   fq aH (cZ es s T Sp).Desks.1 (cZ es s T Sp).Desks.2 (cZ es s T Sp) d 0 [] [] [] 0 [] [] [] 0 0 [] [] [] 0 (cZ es s T Sp) a (m+1) (iw w)=fq aH (cZ es s T Sp).Desks.1 (cZ es s T Sp).Desks.2 (cZ es s T Sp) d 0 [] [] [] 0 [] [] [] 0 0 [] [] [] 0 (cZ es s T Sp) a m (iw w+1):=by
  intro w m
  obtain ⟨s1,s2,s3⟩:=jn (self:=iw w) (es:=es w) (by have:=I.len w; omega)
  have Gp:=yO _ s1 s2 s3
  rw[I.gP w,if_pos rfl] at Gp
  rw[fq,show (bif decide (iw w=0) then some ((cZ es s T Sp).Desks.1.Self,(cZ es s T Sp).Desks.1.Leases,(cZ es s T Sp).Desks.1.Calls,(cZ es s T Sp).Desks.1.Order) else bif decide (iw w=1) then some ((cZ es s T Sp).Desks.2.Self,(cZ es s T Sp).Desks.2.Leases,(cZ es s T Sp).Desks.2.Calls,(cZ es s T Sp).Desks.2.Order) else none)
   = some ((dr (iw w) (es w)).Self,(dr (iw w) (es w)).Leases,(dr (iw w) (es w)).Calls,(dr (iw w) (es w)).Order) from by cases w<;>rfl]
  simp only[cond_true,Option.bind_some,ue,ub,Bool.and_self,jC,qC]
  rw[show ah.mk (dr (iw w) (es w)).Self (dr (iw w) (es w)).Leases (dr (iw w) (es w)).Calls (dr (iw w) (es w)).Order=dr (iw w) (es w) from rfl,Gp]
  simp only[Option.bind_some,show ((0:Int)==0)=true from rfl,cond_true,show ((dr (iw w) (es w)).Self==iw w)=true from beq_self_eq_true _]
  rw[show wr .i64 (iw w+1)=iw w+1 from by cases w<;>rfl]
  cases mE (pk w ((cZ es s T Sp).Synced.1,(cZ es s T Sp).Synced.2)) 1 ((dr (iw w) (es w)).Order.length:Int) with
  | false=>exact .inl rfl
  | true=>exact .inr rfl
 exact uE _ (key false) (key true) (fun m=>by rw[fq]; rfl) (aH+4)
theorem v2 (I:Iv k es s T Sp) (hk:k<=1000) (w:Bool) (d:bj) (a:Int) (l:List av) (hl:l.length<=1000000):∃ x,ir aH (iw w) (iw w) l (l.length:Int) (cZ es s T Sp) d 0 [] [] [] 0 [] [] [] 0 0 [] [] [] 0 (cZ es s T Sp) a (aH+7) 0=some x:=by
 have:=m7 l hl (ir aH (iw w) (iw w) l (l.length:Int) (cZ es s T Sp) d 0 [] [] [] 0 [] [] [] 0 0 [] [] [] 0 (cZ es s T Sp) a) (fun c=>if ((es w).take (s w)).any (pC c) then none else some (.inl ())) (.inr ()) (fun m=>by rw[ir,decide_eq_false (by omega)]; rfl) (fun m i x hi hx=>by
  rw[ir,decide_eq_true (by omega),bV,hx]
  simp only[cond_true,Option.bind_some]
  rw[Jd (cZ es s T Sp) a w x (es w) (s w) (ig w) (m9 w) (by have:=I.len w; omega)]
  simp only[Option.bind_some]
  cases ((es w).take (s w)).any (pC x)<;>rfl) 7
 exact⟨_,this⟩
theorem v1 (I:Iv k es s T Sp) (hk:k<=1000) (d:bj) (a:Int):∃ x,fR aH (cZ es s T Sp) d 0 [] [] [] 0 [] [] [] 0 0 [] [] [] 0 (cZ es s T Sp) a (aH+7) 0=some x:=by
 have key:∀ (w:Bool) (m:Nat),fR aH (cZ es s T Sp) d 0 [] [] [] 0 [] [] [] 0 0 [] [] [] 0 (cZ es s T Sp) a (m+1) (iw w)=some (.inl ()) ∨
   fR aH (cZ es s T Sp) d 0 [] [] [] 0 [] [] [] 0 0 [] [] [] 0 (cZ es s T Sp) a (m+1) (iw w)=fR aH (cZ es s T Sp) d 0 [] [] [] 0 [] [] [] 0 0 [] [] [] 0 (cZ es s T Sp) a m (iw w+1):=by
  intro w m
  obtain ⟨x,hx⟩:=v2 I hk w d a (Sp w) (by have:=I.len w; omega)
  rw[fR]
  simp only[cond_true,Option.bind_some,ue,ub,Bool.and_self,jC]
  rw[show pk w ((cZ es s T Sp).Spoken.1,(cZ es s T Sp).Spoken.2)=Sp w from p0 (es:=es) (s:=s) (T:=T) w,hx,show wr .i64 (iw w+1)=iw w+1 from by cases w<;>rfl]
  cases x with
  | inl _=>exact .inl rfl
  | inr _=>exact .inr rfl
 exact uE _ (key false) (key true) (fun m=>by rw[fR]; rfl) (aH+4)
theorem v3 (I:Iv k es s T Sp) (hk:k<=1000) (d:bj) (a:Int):∃ x,gx aH (cZ es s T Sp).Told ((cZ es s T Sp).Told.length:Int) (cZ es s T Sp) d 0 [] [] [] 0 [] [] [] 0 0 [] [] [] 0 (cZ es s T Sp) a (aH+7) 0=some x:=by
 have:=m7 T (by have:=I.tl; omega) (gx aH T (T.length:Int) (cZ es s T Sp) d 0 [] [] [] 0 [] [] [] 0 0 [] [] [] 0 (cZ es s T Sp) a) (fun l=>if ((es false).take (s false)).any (pL l) then none else if ((es true).take (s true)).any (pL l) then none else some (.inl ())) (.inr (.inr ())) (fun m=>by rw[gx,decide_eq_false (by omega)]; rfl) (fun m i x hi hx=>by
  rw[gx,decide_eq_true (by omega),bV,hx]
  simp only[cond_true,Option.bind_some]
  rw[show (0:Int)=iw false from rfl,GF (cZ es s T Sp) a false x (es false) (s false) (ig false) (m9 false) (by have:=I.len false; omega)]
  simp only[Option.bind_some]
  rw[show ak.mk x.No x.Holder x.Until=x from rfl,show (1:Int)=iw true from rfl,GF (cZ es s T Sp) a true x (es true) (s true) (ig true) (m9 true) (by have:=I.len true; omega)]
  cases ((es false).take (s false)).any (pL x) with
  | true=>rfl
  | false=>cases ((es true).take (s true)).any (pL x)<;>rfl) 7
 exact⟨_,this⟩
def Next (k:Nat) (es:Bool->List aj) (s:Bool->Nat) (T:List ak) (Sp:Bool->List av) (x:aE×Int):Prop :=
 x.2≠0/\x.1=ZP∨∃ es' s' T' Sp',x=(cZ es' s' T' Sp',0)/\Iv (k+1) es' s' T' Sp'/\T <+: T'/\(∀ w,Sp w <+: Sp' w)/\∀ w,s w<=s' w
theorem g9 {e:Int} (h:e≠0):Next k es s T Sp (ZP,e):=.inl ⟨h,rfl⟩
theorem nx {es':Bool->List aj} {s':Bool->Nat} {T':List ak} {Sp':Bool->List av} {x:aE×Int} (h:x=(cZ es' s' T' Sp',0)) (h1:Iv (k+1) es' s' T' Sp') (h2:T <+: T') (h3:∀ w,Sp w <+: Sp' w) (h4:∀ w,s w<=s' w):Next k es s T Sp x:=.inr ⟨_,_,_,_,h,h1,h2,h3,h4⟩
theorem pO (I:Iv k es s T Sp) (w:Bool) (y:ah×Int) (es':List aj) (h:y.2≠0∨y=(dr (iw w) es',0)/\Iv (k+1) (up w es es') s T Sp) :
  ∃ x,(bif (!(y.2==0)) then (bif (y.2 != 0) then (some (ZP,y.2)) else (some (ZP,0))) else (Option.bind (some (pk w ((y.1,(cZ es s T Sp).Desks.2),((cZ es s T Sp).Desks.1,y.1)))) fun y6=>some (aE.mk (y6.1,y6.2) (cZ es s T Sp).Synced (cZ es s T Sp).Told (cZ es s T Sp).Spoken,(0:Int))))=some x/\Next k es s T Sp x:=by
 rcases h with h | ⟨rfl,h⟩
 ·rw[show (y.2==0)=false from by simpa using h,show (y.2 != 0)=true from by simpa using h]
  exact⟨_,rfl,g9 h⟩
 ·refine⟨_,rfl,nx ?_ h (List.prefix_refl _) (fun _=>List.prefix_refl _) (fun _=>Nat.le_refl _)⟩
  cases w<;>rfl
theorem yC {T':Type} {L:List T'} {a:Int} (h:mE a 0 ((L.length:Int) - 1)=true):∃ x,bX L a=some x/\x∈L:=by
 unfold mE at h
 rw[Bool.and_eq_true,decide_eq_true_eq,decide_eq_true_eq] at h
 obtain ⟨n,rfl⟩:∃ n:Nat,a=(n:Int):=⟨a.toNat,by omega⟩
 have hn:n<L.length:=by omega
 exact⟨L[n],by rw[bV]; exact List.getElem?_eq_getElem hn,List.getElem_mem hn⟩
end
section
set_option linter.unusedVariables false
set_option linter.unusedSimpArgs false
set_option maxRecDepth 100000
set_option maxHeartbeats 4000000
variable {k:Nat} {es:Bool->List aj} {s:Bool->Nat} {T:List ak} {Sp:Bool->List av}
theorem E5 {T:Type} (w:Bool) (f:Bool->T):up w f (f w)=f:=funext fun v=>by
 by_cases h:v=w
 ·subst h; rw[cj]
 ·rw[bI _ _ h]
theorem G2 {T:Type} (w:Bool) (f:Bool->List T) (x:List T):∀ v,f v <+: up w f (f w++x) v:=fun v=>by
 by_cases h:v=w
 ·subst h; rw[cj]; exact List.prefix_append ..
 ·rw[bI _ _ h]; exact List.prefix_refl _
theorem xP {n:Nat} (h:n<=1000000):fS (n:Int):=⟨by omega,by omega⟩
theorem kinds {a:Nat} {b:Bool} (n:Int) (h:(bif decide (n=1) then (some ((39:Nat),true)) else bif decide (n=2) then (some (40,true)) else bif decide (n=3) then (some (41,true)) else bif decide (n=4) then (some (42,true)) else bif decide (n=5) then (some (43,true)) else bif decide (n=6) then (some (44,true)) else bif decide (n=7) then (some (45,true)) else (some (0,false)))=some (a,b)) :
  b=false∨(b=true/\(a=39∨a=40∨a=41∨a=42∨a=43∨a=44∨a=45)):=by
 cases h1:decide (n=1)<;>rw[h1] at h
 ·cases h2:decide (n=2)<;>rw[h2] at h
  ·cases h3:decide (n=3)<;>rw[h3] at h
   ·cases h4:decide (n=4)<;>rw[h4] at h
    ·cases h5:decide (n=5)<;>rw[h5] at h
     ·cases h6:decide (n=6)<;>rw[h6] at h
      ·cases h7:decide (n=7)<;>rw[h7] at h<;>cases h<;>simp
      ·cases h; simp
     ·cases h; simp
    ·cases h; simp
   ·cases h; simp
  ·cases h; simp
 ·cases h; simp
theorem yF (n:Int):∃ a b,(bif decide (n=1) then (some ((39:Nat),true)) else bif decide (n=2) then (some (40,true)) else bif decide (n=3) then (some (41,true)) else bif decide (n=4) then (some (42,true)) else bif decide (n=5) then (some (43,true)) else bif decide (n=6) then (some (44,true)) else bif decide (n=7) then (some (45,true)) else (some (0,false)))=some (a,b):=by
 cases decide (n=1)<;>cases decide (n=2)<;>cases decide (n=3)<;>cases decide (n=4)<;>cases decide (n=5)<;>cases decide (n=6)<;>cases decide (n=7)<;>exact⟨_,_,rfl⟩
theorem wc (self:Int) (es:List aj) (l:ak):lM (dr self es) l=dr self (es++[.mk true l (.mk 0 0)]):=(nG self es (.mk true l (.mk 0 0))).symm
theorem Cf (self:Int) (es:List aj) (c:av):mK (dr self es) c=dr self (es++[.mk false (.mk 0 0 0) c]):=(nG self es (.mk false (.mk 0 0 0) c)).symm
theorem LN (I:Iv k es s T Sp) (hk:k<=1000) (d:bj) (hd:nE d):∃ x,DT (cZ es s T Sp) d=some x/\Next k es s T Sp x:=by
 unfold DT JN
 obtain ⟨x0,h0⟩:=v0 I hk d d.Who
 rw[h0]
 cases x0 with
 | inl _=>exact⟨_,rfl,g9 (by decide)⟩
 | inr _ =>
 simp only[Option.bind_some]
 obtain ⟨x1,h1⟩:=v1 I hk d d.Who
 rw[h1]
 cases x1 with
 | inl _=>exact⟨_,rfl,g9 (by decide)⟩
 | inr _ =>
 simp only[Option.bind_some]
 obtain ⟨x3,h3⟩:=v3 I hk d d.Who
 rw[h3]
 rcases x3 with _ | _ | _
 ·exact⟨_,rfl,g9 (by decide)⟩
 ·exact⟨_,rfl,g9 (by decide)⟩
 simp only[Option.bind_some]
 obtain ⟨a,b,hab⟩:=yF d.Kind
 rw[hab,qC]
 simp only[Option.bind_some]
 cases hw:mE d.Who 0 1 with
 | false=>cases b<;>exact⟨_,rfl,g9 (by decide)⟩
 | true =>
 obtain ⟨w,hw⟩:=Gv hw
 have hlen:=I.len w
 obtain ⟨q1,q2,q3⟩:=jn (self:=iw w) (es:=es w) (by omega)
 have hsm:sE (dr (iw w) (es w)):=⟨q1,q2,q3⟩
 have hne:(dr (iw w) (es w)).Leases≠[]:=I.MZ w
 have hll:=nC (es w)
 rcases kinds d.Kind hab with rfl | ⟨rfl,rfl | rfl | rfl | rfl | rfl | rfl | rfl⟩
 ·exact⟨_,rfl,g9 (by decide)⟩
 all_goals simp only[hw,ue,ub,Bool.and_self,cond_true,cond_false,Bool.not_true,Option.bind_some,Nat.reduceEqDiff,decide_true,decide_false,jC]
 ·
  rw[show pk w ((cZ es s T Sp).Desks.1,(cZ es s T Sp).Desks.2)=dr (iw w) (es w) from ig (es:=es) (s:=s) (T:=T) (Sp:=Sp) w]
  obtain ⟨y,hy,hc⟩:=LR (dr (iw w) (es w)) d.A d.B hsm (I.gP w) hne
  rw[hy]
  refine pO I w y (es w++[.mk true (.mk ((dg (es w)).length:Int) d.A d.B) (.mk 0 0)]) (hc.imp_right fun ⟨e1,e2,e3,h,e4,e5⟩=>⟨?_,?_⟩)
  ·rw[e1,wc]; rfl
  ·exact I.lM w _ ⟨xP (by omega),hd.2.2.1,hd.2.2.2⟩ e2 e3 (.inl (I.GA w e4 e5)) (fun j h' hj hx hh=>by
    exfalso
    rw[show (dr (iw w) (es w)).Leases=dg (es w) from rfl,List.getLast?_eq_getElem?,hj] at e4
    rw[show j+1 - 1=j from rfl,hx] at e4
    cases e4
    rw[show (dr (iw w) (es w)).Self=iw w from rfl,hh] at e5
    cases w<;>cases e5)
 ·
  rw[qC,show (cZ es s T Sp).Told=T from rfl,jP (by omega) (by have:=I.tl; omega)]
  cases hA:mE d.A 0 ((T.length:Int) - 1) with
  | false=>exact⟨_,rfl,g9 (by decide)⟩
  | true =>
   obtain ⟨t,ht,htm⟩:=yC hA
   simp only[Option.bind_some,Bool.not_true,cond_false,ht]
   rw[show pk w ((cZ es s T Sp).Desks.1,(cZ es s T Sp).Desks.2)=dr (iw w) (es w) from ig (es:=es) (s:=s) (T:=T) (Sp:=Sp) w]
   obtain ⟨y,hy,hc⟩:=LX (dr (iw w) (es w)) t hsm (I.gP w) hne
   rw[hy]
   rcases hc with hc | hc | ⟨e1,e2,e3⟩
   ·exact pO I w y (es w) (.inl hc)
   ·exact pO I w y (es w) (.inr ⟨hc,by rw[E5]; exact I.more⟩)
   ·obtain ⟨p1,p2⟩:=I.Gz w htm (rF e2).1
    refine pO I w y (es w++[.mk true t (.mk 0 0)]) (.inr ⟨by rw[e1,wc],I.lM w t ?_ e2 e3 (.inr p1) (fun j h hj hx hh=>by rw[<-hj]; exact p2)⟩)
    obtain ⟨v,j,g1,_⟩:=I.told t htm
    obtain ⟨e,he,hev⟩:=List.mem_filterMap.1 (List.mem_of_getElem? g1)
    split at hev
    ·next hi =>
     cases hev
     have:=I.wf v e (List.mem_of_mem_take he)
     unfold Bj at this
     rw[if_pos hi] at this
     exact this.2
    ·cases hev
 ·
  rw[show pk w ((cZ es s T Sp).Desks.1,(cZ es s T Sp).Desks.2)=dr (iw w) (es w) from ig (es:=es) (s:=s) (T:=T) (Sp:=Sp) w,LQ _ _ _ q1 q2 q3]
  refine pO I w _ (es w++[.mk false (.mk 0 0 0) (.mk d.A d.B)]) ?_
  split
  ·next h=>exact .inr ⟨by rw[Cf],I.mK w _ ⟨hd.2.2.1,hd.2.2.2⟩ h.2⟩
  ·exact .inl (by decide)
 ·
  rw[show pk w ((cZ es s T Sp).Desks.1.Order,(cZ es s T Sp).Desks.2.Order)=oy (es w) from by cases w<;>rfl,jj]
  refine⟨_,rfl,nx (es':=es) (s':=up w s (es w).length) (T':=T) (Sp':=Sp) ?_ (I.sync w _ (I.sb w).2 (Nat.le_refl _)) (List.prefix_refl _) (fun _=>List.prefix_refl _) (fun v=>?_)⟩
  ·cases w<;>rfl
  ·by_cases h:v=w
   ·subst h; rw[cj]; exact(I.sb v).2
   ·rw[bI _ _ h]; exact Nat.le_refl _
 ·
  rw[show pk w ((cZ es s T Sp).Desks.1.Leases,(cZ es s T Sp).Desks.2.Leases)=dg (es w) from by cases w<;>rfl,qC,jP (by omega) (by omega)]
  cases hA:mE d.A 0 (((dg (es w)).length:Int) - 1) with
  | false=>exact⟨_,rfl,g9 (by decide)⟩
  | true =>
   obtain ⟨t,ht,htm⟩:=yC hA
   simp only[Option.bind_some,Bool.not_true,cond_false,ht]
   rw[GF (cZ es s T Sp) (iw w) w t (es w) (s w) (ig w) (m9 w) (by omega)]
   cases hs:((es w).take (s w)).any (pL t) with
   | false=>exact⟨_,rfl,g9 (by decide)⟩
   | true =>
    simp only[Option.bind_some,Bool.not_true,cond_false]
    rw[show (cZ es s T Sp).Told=T from rfl,Bc,Option.bind_some,th 24 T [t] (by omega) (by have:=I.tl; simp; omega)]
    exact⟨_,rfl,nx (es':=es) (s':=s) (T':=T++[t]) (Sp':=Sp) rfl (I.tell w t (K1 hs)) (List.prefix_append ..) (fun _=>List.prefix_refl _) (fun _=>Nat.le_refl _)⟩
 ·
  rw[show pk w ((cZ es s T Sp).Desks.1.Calls,(cZ es s T Sp).Desks.2.Calls)=gO (es w) from by cases w<;>rfl,qC,jP (by omega) (by omega)]
  cases hA:mE d.A 0 (((gO (es w)).length:Int) - 1) with
  | false=>exact⟨_,rfl,g9 (by decide)⟩
  | true =>
   obtain ⟨t,ht,htm⟩:=yC hA
   simp only[Option.bind_some,Bool.not_true,cond_false,ht]
   rw[Jd (cZ es s T Sp) (iw w) w t (es w) (s w) (ig w) (m9 w) (by omega)]
   cases hs:((es w).take (s w)).any (pC t) with
   | false=>exact⟨_,rfl,g9 (by decide)⟩
   | true =>
    simp only[Option.bind_some,Bool.not_true,cond_false]
    rw[show pk w ((cZ es s T Sp).Spoken.1,(cZ es s T Sp).Spoken.2)=Sp w from p0 (es:=es) (s:=s) (T:=T) (Sp:=Sp) w,Bc,Option.bind_some,th 16 (Sp w) [t] (by omega) (by simp; omega)]
    have hnx:Next k es s T Sp (cZ es s T (up w Sp (Sp w++[t])),0):=nx rfl (I.JF w t (K0 hs)) (List.prefix_refl _) (G2 w Sp [t]) (fun _=>Nat.le_refl _)
    cases w<;>exact⟨_,rfl,hnx⟩
 ·
  rw[show pk w ((cZ es s T Sp).Desks.1,(cZ es s T Sp).Desks.2)=dr (iw w) (es w) from ig (es:=es) (s:=s) (T:=T) (Sp:=Sp) w,show pk w ((cZ es s T Sp).Synced.1,(cZ es s T Sp).Synced.2)=(s w:Int) from m9 (es:=es) (s:=s) (T:=T) (Sp:=Sp) w,qC,
   show ((dr (iw w) (es w)).Order.length:Int)=((es w).length:Int) from congrArg _ (jj _)]
  cases hA:mE d.A (s w:Int) ((es w).length:Int) with
  | false=>exact⟨_,rfl,g9 (by decide)⟩
  | true =>
   unfold mE at hA
   rw[Bool.and_eq_true,decide_eq_true_eq,decide_eq_true_eq] at hA
   obtain ⟨n,hn⟩:∃ n:Nat,d.A=(n:Int):=⟨d.A.toNat,by omega⟩
   rw[hn] at hA ⊢
   have hn2:n<=(es w).length:=by omega
   have I':=I.HT w n (by omega) hn2
   have hc:=I'.gP w
   rw[cj] at hc
   simp only[Option.bind_some,Bool.not_true,cond_false]
   rw[L3 (I.gP w) (I.wf w) (by omega)]
   simp only[Option.bind_some,show ((0:Int)==0)=true from rfl,Bool.not_true,cond_false]
   rw[Dj _ n (by rw[List.length_map]; exact hn2),Option.bind_some,<-List.map_take,I4 (iw w) (by rw[List.length_take]; omega) (fun x hx=>I.wf w x (List.mem_of_mem_take hx)),if_pos hc]
   exact pO I w _ ((es w).take n) (.inr ⟨rfl,I'⟩)
end
section
set_option linter.unusedVariables false
set_option linter.unusedSimpArgs false
set_option maxRecDepth 100000
set_option maxHeartbeats 4000000
variable {k:Nat} {es:Bool->List aj} {s:Bool->Nat} {T:List ak} {Sp:Bool->List av}
theorem CY {a b:Int} {L M:List ak} (hp:L <+: M∨M <+: L) {bar:Int} (ha:k9 a L bar=true) (hb:k9 b M bar=true):a=b:=by
 have key:∀ {a b:Int} {N:List ak},k9 a N bar=true->k9 b N bar=true->a=b:=fun {a b N} ha hb=>by
  unfold k9 at ha hb
  rw[Bool.and_eq_true] at ha hb
  cases hf:N.find? (fun l=>decide (bar<l.Until)) with
  | none=>rw[hf] at ha; cases ha.2
  | some l =>
   rw[hf] at ha hb
   have h1:l.Holder=a:=by simpa using ha.2
   have h2:l.Holder=b:=by simpa using hb.2
   rw[<-h1,h2]
 rcases hp with ⟨r,rfl⟩ | ⟨r,rfl⟩
 ·exact key (pZ ha r) hb
 ·exact key ha (pZ hb r)
theorem Iv.apart (I:Iv k es s T Sp) {v w:Bool} (h:v≠w) {c d:av} (hc:c∈gO (es v)) (hd:d∈gO (es w)):c.Bar≠d.Bar:=fun e=>by
 have h1:=((I.calls v).1 c hc).1
 have h2:=((I.calls w).1 d hd).1
 rw[<-e] at h2
 have hp:=I.pre v
 rw[<-vB (Ne.symm h)] at hp
 have:=CY hp h1 h2
 cases v<;>cases w<;>first | exact h rfl | cases this
theorem EX {C:List av} (h:C.Pairwise (fun a b=>a.Bar<b.Bar)) {c d:av} (hc:c∈C) (hd:d∈C) (e:c.Bar=d.Bar):c=d:=by
 induction h with
 | nil=>cases hc
 | cons ha _ ih =>
  rcases List.mem_cons.1 hc with e1 | c1<;>rcases List.mem_cons.1 hd with e2 | d1
  ·rw[e1,e2]
  ·subst e1; have:=ha d d1; omega
  ·subst e2; have:=ha c c1; omega
  ·exact ih c1 d1
theorem Iv.sI (I:Iv k es s T Sp) (w:Bool):∀ c∈Sp w,c∈gO (es w):=fun c hc=>(Cg (es w) (s w)).subset (I.spk w c hc)
theorem Iv.known (I:Iv k es s T Sp) {t:ak} (h:t∈T):∃ w,t∈dg (es w):=by
 obtain ⟨w,j,h1,_⟩:=I.told t h
 exact⟨w,List.mem_of_getElem? (fZ (kY (es w) (s w)) h1)⟩
theorem Je {T σ:Type} {l:List T} {g:T->Option σ} {e:σ} (h:∀ x∈l,g x=none):(l.findSome? g).getD e=e:=by
 rw[List.findSome?_eq_none_iff.2 h]; rfl
theorem a1 (n:Nat) (b:Bool) (L M:List av) (x y:Int) (P:aE) (r1 r2:ah) (bar p:Int) (hM:M.length<=1000000) (h:∀ d∈M,bar≠d.Bar):iv n b L x y M (M.length:Int) P r1 r2 bar p (aH+8) 0=some (.inr ()):=by
 rw[m7 M hM (iv n b L x y M (M.length:Int) P r1 r2 bar p) (fun d=>if bar=d.Bar then some (.inl false) else none) (.inr ()) (fun m=>by rw[iv,decide_eq_false (by omega)]; rfl) (fun m i d hi hd=>by
  rw[iv,decide_eq_true (by omega),bV,hd]
  simp only[cond_true,Option.bind_some]
  by_cases e:bar=d.Bar
  ·rw[if_pos e,show (bar==d.Bar)=true from by simpa using e]; rfl
  ·rw[if_neg e,show (bar==d.Bar)=false from by simpa using e]; rfl) 8,Je (fun d hd=>if_neg (h d hd))]
theorem a0 (n:Nat) (hn:n=aH) (b:Bool) (P:aE) (r1 r2:ah) (h1:r1.Calls.length<=1000000) (h2:r2.Calls.length<=1000000) (h:∀ c∈r1.Calls,∀ d∈r2.Calls,c.Bar≠d.Bar):iu n b r1.Calls (r1.Calls.length:Int) P r1 r2 (n+8) 0=some (.inr ()):=by
 subst hn
 have:=CS r1.Calls h1 (iu aH b r1.Calls (r1.Calls.length:Int) P r1 r2) (fun c=>if c∈r1.Calls then none else some (.inl false)) (.inr ()) (fun m=>by rw[iu,decide_eq_false (by omega)]; rfl) (fun m i c hi hc=>by
  have hm:c∈r1.Calls:=List.mem_of_getElem? hc
  rw[iu,decide_eq_true (by omega),bV,hc,if_pos hm]
  simp only[cond_true,Option.bind_some]
  rw[a1 aH b r1.Calls r2.Calls (r1.Calls.length:Int) (i:Int) P r1 r2 c.Bar c.Program h2 (h c hm)]
  rfl) r1.Calls 0 (aH+8) rfl (by omega) (qB _ h1 _)
 rw[show ((0:Nat):Int)=0 from rfl] at this
 rw[this,Je (fun c hc=>if_pos hc)]
theorem a2 (b:Bool) (P:aE) (r1 r2:ah) (h1:r1.Leases.length<=1000000) (h2:r2.Leases.length<=1000000) (T:List ak) (hT:T.length<=1000000) (h:∀ t∈T,t∈r1.Leases∨t∈r2.Leases):ix aH b T (T.length:Int) P r1 r2 (aH+8) 0=some (.inr ()):=by
 rw[m7 T hT (ix aH b T (T.length:Int) P r1 r2) (fun t=>if t∈r1.Leases∨t∈r2.Leases then none else some (.inl false)) (.inr ()) (fun m=>by rw[ix,decide_eq_false (by omega)]; rfl) (fun m i t hi ht=>by
  rw[ix,decide_eq_true (by omega),bV,ht]
  simp only[cond_true,Option.bind_some]
  rw[Jb _ _ h1,Option.bind_some]
  by_cases e1:t∈r1.Leases
  ·rw[decide_eq_true e1,if_pos (.inl e1)]; rfl
  ·rw[decide_eq_false e1,Jb _ _ h2]
   by_cases e2:t∈r2.Leases
   ·rw[decide_eq_true e2,if_pos (.inr e2)]; rfl
   ·rw[decide_eq_false e2,if_neg (fun h=>h.elim e1 e2)]; rfl) 8,Je (fun t ht=>if_pos (h t ht))]
theorem a6 (b:Bool) (i k x y z u:Int) (L M:List av) (P:aE) (r1 r2:ah) (bar p:Int) (hM:M.length<=1000000) (h:∀ d∈M,bar=d.Bar->i=k/\p=d.Program):iz aH b i k x L y z u M (M.length:Int) P r1 r2 bar p (aH+8) 0=some (.inr ()):=by
 rw[m7 M hM (iz aH b i k x L y z u M (M.length:Int) P r1 r2 bar p) (fun d=>if bar=d.Bar->i=k/\p=d.Program then none else some (.inl false)) (.inr ()) (fun m=>by rw[iz,decide_eq_false (by omega)]; rfl) (fun m j d hj hd=>by
  rw[iz,decide_eq_true (by omega),bV,hd]
  simp only[cond_true,Option.bind_some]
  by_cases e:bar=d.Bar
  ·rw[show (bar==d.Bar)=true from by simpa using e]
   by_cases e2:i=k
   ·rw[show (i != k)=false from by simpa using e2]
    by_cases e3:p=d.Program
    ·rw[show (p != d.Program)=false from by simpa using e3,if_pos (fun _=>⟨e2,e3⟩)]; rfl
    ·rw[show (p != d.Program)=true from by simpa using e3,if_neg (fun h=>e3 (h e).2)]; rfl
   ·rw[show (i != k)=true from by simpa using e2,if_neg (fun h=>e2 (h e).1)]; rfl
  ·rw[show (bar==d.Bar)=false from by simpa using e,if_pos (fun h=>absurd h e)]; rfl) 8,Je (fun d hd=>if_pos (h d hd))]
theorem a5 (I:Iv k es s T Sp) (hk:k<=1000) (b:Bool) (w:Bool) (x y z:Int) (L:List av) (r1 r2:ah) (c:av) (hc:c∈Sp w):gz aH b (iw w) x L y z (cZ es s T Sp) r1 r2 c.Bar c.Program (aH+8) 0=some (.inr ()):=by
 have key:∀ (v:Bool) (m:Nat),gz aH b (iw w) x L y z (cZ es s T Sp) r1 r2 c.Bar c.Program (m+1) (iw v)=gz aH b (iw w) x L y z (cZ es s T Sp) r1 r2 c.Bar c.Program m (iw v+1):=fun v m=>by
  rw[gz]
  simp only[cond_true,Option.bind_some,ue,ub,Bool.and_self,jC]
  rw[show pk v ((cZ es s T Sp).Spoken.1,(cZ es s T Sp).Spoken.2)=Sp v from p0 (es:=es) (s:=s) (T:=T) v,a6 b (iw w) (iw v) x y z (iw v) L (Sp v) (cZ es s T Sp) r1 r2 c.Bar c.Program (by have:=I.len v; omega) (fun d hd e=>by
   by_cases hv:w=v
   ·subst hv
    exact⟨rfl,by rw[EX (I.calls w).2 (I.sI w c hc) (I.sI w d hd) e]⟩
   ·exact absurd e (I.apart hv (I.sI w c hc) (I.sI v d hd))),show wr .i64 (iw v+1)=iw v+1 from by cases v<;>rfl]
  rfl
 rw[show aH+8=aH+5+1+1+1 from rfl,show (0:Int)=iw false from rfl,key false,show iw false+1=iw true from rfl,key true,gz]
 rfl
theorem a4 (I:Iv k es s T Sp) (hk:k<=1000) (b:Bool) (w:Bool) (r1 r2:ah):iy aH b (iw w) (iw w) (Sp w) ((Sp w).length:Int) (cZ es s T Sp) r1 r2 (aH+8) 0=some (.inr (.inr ())):=by
 have hl:=I.len w
 rw[m7 (Sp w) (by omega) (iy aH b (iw w) (iw w) (Sp w) ((Sp w).length:Int) (cZ es s T Sp) r1 r2) (fun _=>none) (.inr (.inr ())) (fun m=>by rw[iy,decide_eq_false (by omega)]; rfl) (fun m i c hi hc=>by
  have hm:=List.mem_of_getElem? hc
  have hcs:=nC (es w)
  rw[iy,decide_eq_true (by omega),bV,hc]
  simp only[cond_true,Option.bind_some,xa,jC]
  rw[show pk w ((cZ es s T Sp).Desks.1.Calls,(cZ es s T Sp).Desks.2.Calls)=gO (es w) from by cases w<;>rfl,LV _ _ (by omega),decide_eq_true (I.sI w c hm)]
  simp only[Option.bind_some,Bool.not_true,cond_false]
  rw[a5 I hk b w (iw w) _ (i:Int) (Sp w) r1 r2 c hm]
  rfl) 8,Je (fun _ _=>rfl)]
theorem a3 (I:Iv k es s T Sp) (hk:k<=1000) (b:Bool) (r1 r2:ah):gy aH b (cZ es s T Sp) r1 r2 (aH+8) 0=some (.inr (.inr ())):=by
 have key:∀ (v:Bool) (m:Nat),gy aH b (cZ es s T Sp) r1 r2 (m+1) (iw v)=gy aH b (cZ es s T Sp) r1 r2 m (iw v+1):=fun v m=>by
  rw[gy]
  simp only[cond_true,Option.bind_some,ue,ub,Bool.and_self,jC]
  rw[show pk v ((cZ es s T Sp).Spoken.1,(cZ es s T Sp).Spoken.2)=Sp v from p0 (es:=es) (s:=s) (T:=T) v,a4 I hk b v r1 r2,show wr .i64 (iw v+1)=iw v+1 from by cases v<;>rfl]
  rfl
 rw[show aH+8=aH+5+1+1+1 from rfl,show (0:Int)=iw false from rfl,key false,show iw false+1=iw true from rfl,key true,gy]
 rfl
theorem LO (I:Iv k es s T Sp) (hk:k<=1000):Ht (cZ es s T Sp)=some true:=by
 have l0:=I.len false; have l1:=I.len true
 have c0:=nC (es false); have c1:=nC (es true)
 unfold Ht JO
 rw[I6 _ _ (by show (dg (es false)).length<=_; omega) (by show (dg (es true)).length<=_; omega),I6 _ _ (by show (dg (es true)).length<=_; omega) (by show (dg (es false)).length<=_; omega)]
 simp only[Option.bind_some]
 rw[show (bif (!decide ((cZ es s T Sp).Desks.1.Leases <+: (cZ es s T Sp).Desks.2.Leases)) then some (!decide ((cZ es s T Sp).Desks.2.Leases <+: (cZ es s T Sp).Desks.1.Leases)) else some false)=some false from by
  rcases I.pre false with h | h
  ·rw[decide_eq_true (show (cZ es s T Sp).Desks.1.Leases <+: (cZ es s T Sp).Desks.2.Leases from h)]; rfl
  ·rw[decide_eq_true (show (cZ es s T Sp).Desks.2.Leases <+: (cZ es s T Sp).Desks.1.Leases from h)]; cases decide ((cZ es s T Sp).Desks.1.Leases <+: (cZ es s T Sp).Desks.2.Leases)<;>rfl]
 simp only[Option.bind_some,cond_false]
 rw[a0 aH rfl false (cZ es s T Sp) _ _ (by show (gO (es false)).length<=_; omega) (by show (gO (es true)).length<=_; omega) (fun c hc d hd=>I.apart (by decide:false≠true) hc hd)]
 simp only[Option.bind_some]
 rw[a2 false (cZ es s T Sp) _ _ (by show (dg (es false)).length<=_; omega) (by show (dg (es true)).length<=_; omega) (cZ es s T Sp).Told (by show T.length<=_; have:=I.tl; omega) (fun t ht=>by
  obtain ⟨w,hw⟩:=I.known ht
  cases w
  ·exact .inl hw
  ·exact .inr hw)]
 simp only[Option.bind_some]
 rw[a3 I hk]
 rfl
theorem Jq {T:Type} {a b:List T} (h:a <+: b):et b 0 (a.length:Int)=some a:=by
 rw[Dj b a.length h.length_le,<-List.prefix_iff_eq_take.1 h]
theorem LU {k':Nat} {es':Bool->List aj} {s':Bool->Nat} {T':List ak} {Sp':Bool->List av} (I:Iv k es s T Sp) (I':Iv k' es' s' T' Sp') (hk:k<=1000) (hk':k'<=1000) (h1:∀ w,Sp w <+: Sp' w) (h2:∀ w,s w<=s' w):jy aH (cZ es s T Sp) (cZ es' s' T' Sp') (aH+8) 0=some (.inr ()):=by
 have key:∀ (v:Bool) (m:Nat),jy aH (cZ es s T Sp) (cZ es' s' T' Sp') (m+1) (iw v)=jy aH (cZ es s T Sp) (cZ es' s' T' Sp') m (iw v+1):=fun v m=>by
  have l:=I'.len v
  obtain ⟨q1,q2,q3⟩:=jn (self:=iw v) (es:=es' v) (by omega)
  have Gp:=yO _ q1 q2 q3
  rw[I'.gP v,if_pos rfl] at Gp
  rw[jy]
  simp only[cond_true,Option.bind_some,ue,ub,Bool.and_self,jC]
  rw[show pk v ((cZ es' s' T' Sp').Desks.1,(cZ es' s' T' Sp').Desks.2)=dr (iw v) (es' v) from ig (s:=s') (T:=T') (Sp:=Sp') v,Gp,
   show pk v ((cZ es' s' T' Sp').Spoken.1,(cZ es' s' T' Sp').Spoken.2)=Sp' v from p0 (es:=es') (s:=s') (T:=T') v,show pk v ((cZ es s T Sp).Spoken.1,(cZ es s T Sp).Spoken.2)=Sp v from p0 (es:=es) (s:=s) (T:=T) v,
   show pk v ((cZ es' s' T' Sp').Synced.1,(cZ es' s' T' Sp').Synced.2)=(s' v:Int) from m9 (es:=es') (T:=T') (Sp:=Sp') v,show pk v ((cZ es s T Sp).Synced.1,(cZ es s T Sp).Synced.2)=(s v:Int) from m9 (es:=es) (T:=T) (Sp:=Sp) v,
   Jq (h1 v),decide_eq_false (show ¬ ((Sp' v).length:Int)<((Sp v).length:Int) by have:=(h1 v).length_le; omega),decide_eq_false (show ¬ (s' v:Int)<(s v:Int) by have:=h2 v; omega)]
  simp only[Option.bind_some,show ((0:Int) != 0)=false from rfl,cond_false]
  rw[LP _ _ (by have:=I.len v; omega) (by have:=I.len v; omega),decide_eq_true rfl,show wr .i64 (iw v+1)=iw v+1 from by cases v<;>rfl]
  rfl
 rw[show aH+8=aH+5+1+1+1 from rfl,show (0:Int)=iw false from rfl,key false,show iw false+1=iw true from rfl,key true,jy]
 rfl
theorem FM:Hs ZP ZP=some true:=by kernel_rfl
theorem yP (D:List bj) (b:Bool) (hD:D.length<=60) (hok:∀ d∈D,nE d):∀ (l:List bj) (i m:Nat) (k:Nat) (es:Bool->List aj) (s:Bool->Nat) (T:List ak) (Sp:Bool->List av),D.drop i=l->i+l.length=D.length->l.length<m->k<=i+1->Iv k es s T Sp ->
  lG aH b D (D.length:Int) m (i:Int) (cZ es s T Sp)=some (.inr ())
 | l,i,0,_,_,_,_,_,_,_,h,_,_=>absurd h (Nat.not_lt_zero _)
 | [],i,m+1,k,es,s,T,Sp,hd,hi,h,hk,I=>by
  rw[lG,decide_eq_false (by simp at hi; omega)]; rfl
 | x :: l,i,m+1,k,es,s,T,Sp,hd,hi,h,hk,I=>by
  have hx:D[i]? = some x:=by rw[<-List.head?_drop,hd]; rfl
  have hd':D.drop (i+1)=l:=by rw[<-List.drop_drop,hd]; rfl
  simp only[List.length_cons] at hi h
  obtain ⟨y,hy,hn⟩:=LN I (by omega) x (hok x (List.mem_of_getElem? hx))
  rw[lG,decide_eq_true (by omega),bV,hx,Ao i (by omega)]
  simp only[cond_true,Option.bind_some]
  rw[hy]
  simp only[Option.bind_some]
  rcases hn with ⟨h1,h2⟩ | ⟨es',s',T',Sp',rfl,I',p1,p2,p3⟩
  ·rw[show (y.2 != 0)=true from by simpa using h1,h2]
   simp only[cond_true]
   rw[show aE.mk (ah.mk 0 [] [] [],ah.mk 0 [] [] []) (0,0) [] ([],[])=ZP from rfl,FM]
   exact yP D b hD hok l (i+1) m k es s T Sp hd' (by omega) (by omega) (by omega) I
  ·simp only[show ((0:Int) != 0)=false from rfl,cond_false]
   rw[LO I' (by omega)]
   have ht:=I.tl; have ht':=I'.tl; have hp:=p1.length_le
   simp only[Option.bind_some,Bool.not_true,cond_false]
   rw[show decide (((cZ es' s' T' Sp').Told.length:Int)<((cZ es s T Sp).Told.length:Int))=false from decide_eq_false (by show ¬ ((T'.length:Int)<(T.length:Int)); omega)]
   simp only[cond_false]
   rw[show et (cZ es' s' T' Sp').Told 0 ((cZ es s T Sp).Told.length:Int)=some T from Jq p1,Option.bind_some,show DC T (cZ es s T Sp).Told=some true from by rw[show (cZ es s T Sp).Told=T from rfl,I5 _ _ (by omega) (by omega),decide_eq_true rfl]]
   simp only[Option.bind_some,Bool.not_true,cond_false]
   rw[LU I I' (by omega) (by omega) p2 p3]
   exact yP D b hD hok l (i+1) m (k+1) es' s' T' Sp' hd' (by omega) (by omega) (by omega) I'
theorem I7 (a h u:Int) (ha:mE a 0 1=true):DU a h u=some (if mE h 0 1=true/\mE u 1 4096=true then (.mk a [.mk 0 h u] [] [true],0) else (.mk 0 [] [] [],1)):=by
 unfold DU JU
 rw[qC,qC,qC,ha]
 cases mE h 0 1<;>cases mE u 1 4096<;>rfl
def Ki (h u:Int):Bool->List aj:=fun _=>[.mk true (.mk 0 h u) (.mk 0 0)]
theorem O3 (h u:Int) (ok:fS h/\fS u) (h1:mE h 0 1=true) (h2:mE u 1 4096=true):Iv 1 (Ki h u) (fun _=>1) [] (fun _=>[]):=by
 have e:∀ w j x,(dg (Ki h u w))[j+1]? = some x->False:=fun w j x hx=>by cases hx
 refine⟨fun w x hx=>?_,fun w=>?_,fun w=>rfl,fun w=>⟨Nat.le_refl _,Nat.le_refl _⟩,fun w=>⟨Nat.le_refl _,Nat.zero_le _⟩,Nat.zero_le _,fun w=>by show 1<=256; omega,fun w=>.inl (List.prefix_refl _),fun w j x y a=>(e w j x a).elim,fun t ht=>(List.not_mem_nil ht).elim,fun w c hc=>(List.not_mem_nil hc).elim⟩
 ·rw[List.mem_singleton.1 hx]
  exact⟨rfl,(show fS (0:Int) from ⟨by decide,by decide⟩),ok.1,ok.2⟩
 ·show (mT [] (.mk 0 h u)&&true)=true
  unfold mT
  rw[h1]
  unfold mE at h2
  rw[Bool.and_eq_true,decide_eq_true_eq,decide_eq_true_eq] at h2
  rw[show A5 []=0 from rfl,decide_eq_true (show (0:Int)<u by omega),decide_eq_true h2.2]
  rfl
theorem LM (h u:Int):G8 h u=some (if mE h 0 1=true/\mE u 1 4096=true then (cZ (Ki h u) (fun _=>1) [] (fun _=>[]),0) else (ZP,1)):=by
 unfold G8 JM
 rw[show aH+8=aH+5+1+1+1 from rfl,kB,show decide ((0:Int)<2)=true from rfl,I7 0 h u rfl]
 by_cases hc:mE h 0 1=true/\mE u 1 4096=true
 ·rw[if_pos hc,if_pos hc]
  simp only[cond_true,Option.bind_some]
  rw[show jQ (0:Int) (ah.mk 0 [ak.mk 0 h u] [] [true],ah.mk 0 [] [] []) (ah.mk 0 [] [] [],ah.mk 0 [ak.mk 0 h u] [] [true])=some (ah.mk 0 [ak.mk 0 h u] [] [true],ah.mk 0 [] [] []) from rfl,show jQ (0:Int) ((1:Int),(0:Int)) (0,1)=some (1,0) from rfl]
  simp only[show (decide ((0:Int)<=0)&&true)=true from rfl,show ((0:Int) != 0)=false from rfl,cond_true,cond_false,Option.bind_some,show wr .i64 (0+1)=1 from rfl]
  rw[kB,show decide ((1:Int)<2)=true from rfl,I7 1 h u rfl,if_pos hc]
  rfl
 ·rw[if_neg hc,if_neg hc]
  rfl
theorem Jp:Fo:=by
 intro h u D o1 o2 ⟨_,hD⟩
 unfold G4 F4
 rw[JC]
 simp only[Option.bind_some,Bool.not_true,cond_false]
 by_cases hl:D.length<=60
 ·rw[decide_eq_false (show ¬ (60:Int)<(D.length:Int) by omega),LM]
  by_cases hc:mE h 0 1=true/\mE u 1 4096=true
  ·rw[if_pos hc]
   simp only[Option.bind_some,cond_false,show ((0:Int) != 0)=false from rfl]
   have:=yP D false hl hD D 0 (aH+8) 1 (Ki h u) (fun _=>1) [] (fun _=>[]) rfl (by omega) (qB _ (by omega) _) (by omega) (O3 h u ⟨o1,o2⟩ hc.1 hc.2)
   rw[show ((0:Nat):Int)=0 from rfl] at this
   rw[this]
   rfl
  ·rw[if_neg hc]
   simp only[Option.bind_some,cond_false,show ((1:Int) != 0)=true from rfl,cond_true]
   rw[show aE.mk (ah.mk 0 [] [] [],ah.mk 0 [] [] []) (0,0) [] ([],[])=ZP from rfl,FM]
   rfl
 ·rw[decide_eq_true (show (60:Int)<(D.length:Int) by omega)]
  rfl
end
end Go.Proofs.Ytdmgdjnadbakfaa
