/-
 Layer 01, in plain Lean: Decode.
-/
import Derived.Test.YtdmgdjnadbakfaaL
import Derived.Test.YtdmgdjnadbakfaaPure
import Derived.KernelRfl
namespace Go.Proofs.Ytdmgdjnadbakfaa
set_option linter.unusedVariables false
set_option linter.unusedSimpArgs false
set_option maxRecDepth 100000
set_option maxHeartbeats 4000000
theorem fu:aH=1208925819614629174706176:=rfl
mutual
def qD:ar->Nat
 | .mk _ _ s l=>1+s.size / 200+jN l
def jN:List ar->Nat
 | []=>0
 | x :: r=>qD x+jN r
end
theorem iY (v:ar):qD v=1+v.S.size / 200+jN v.L:=by cases v; rw[qD]
theorem vE (v:ar):1<=qD v:=by rw[iY]; omega
theorem lj:jN []=0:=by rw[jN]
theorem jl (x:ar) (r:List ar):jN (x :: r)=qD x+jN r:=by rw[jN]
theorem iM:∀ l:List ar,l.length<=jN l
 | []=>Nat.zero_le _
 | x :: r=>by rw[jl,List.length_cons]; have:=iM r; have:=vE x; omega
theorem lh:∀ {l:List ar} {x:ar},x∈l->qD x<=jN l
 | y :: r,x,h=>by
  rw[jl]
  rcases List.mem_cons.1 h with rfl | h
  ·omega
  ·have:=lh h; omega
def emp (s:ByteArray):Bool:=py s (ByteArray.mk #[])
mutual
def ta:ar->Bool
 | .mk k n s l=>bif k==1 then emp s&&((l.length:Int)==0) else bif k==2 then (n==0)&&((l.length:Int)==0) else bif k==3 then kO l&&((n==0)&&emp s) else false
def kO:List ar->Bool
 | []=>true
 | x :: r=>ta x&&kO r
end
mutual
def dep:ar->Nat
 | .mk k _ _ l=>bif k==3 then mC l+1 else 0
def mC:List ar->Nat
 | []=>0
 | x :: r=>max (dep x) (mC r)
end
theorem mV (v:ar):ta v=bif v.Kind==1 then emp v.S&&((v.L.length:Int)==0) else bif v.Kind==2 then (v.N==0)&&((v.L.length:Int)==0) else bif v.Kind==3 then kO v.L&&((v.N==0)&&emp v.S) else false:=by cases v; rw[ta]
theorem n4 (v:ar):dep v=bif v.Kind==3 then mC v.L+1 else 0:=by cases v; rw[dep]
theorem rH:kO []=true:=by rw[kO]
theorem nz (x:ar) (r:List ar):kO (x :: r)=(ta x&&kO r):=by rw[kO]
theorem oX:mC []=0:=by rw[mC]
theorem kJ (x:ar) (r:List ar):mC (x :: r)=max (dep x) (mC r):=by rw[mC]
mutual
theorem D6:∀ v:ar,dep v<=qD v
 | .mk k n s l=>by
  rw[dep,qD]
  have:=rj l
  cases k==3<;>simp<;>omega
theorem rj:∀ l:List ar,mC l<=jN l
 | []=>by rw[oX]; omega
 | x :: r=>by
  rw[kJ,jl]
  have:=D6 x; have:=rj r; omega
end
def gP (v:ar):Int:=bif ta v then (bif decide (16<dep v) then 2 else 0) else 1
theorem CO (self:ar->Option (Int×Bool)) (n:Nat) (z:Bool) (v:ar) (w a b c d:Bool) (hn:qD v<=1000000) (hself:∀ e∈v.L,∃ x,self e=some (x,ta e)/\(ta e=true->x=(dep e:Int))) :
  ∀ (k m i t:Nat),i+k=v.L.length->k<m->∃ r,jz self n z v.L (v.L.length:Int) v w a b c m (t:Int) (i:Int)=some r/\(match r with | .inl p=>kO (v.L.drop i)=false/\p.1=0/\p.2=false | .inr x=>kO (v.L.drop i)=true/\x=((max t (mC (v.L.drop i)):Nat):Int))
 | 0,m,i,t,h1,h2=>by
  obtain ⟨m,rfl⟩:∃ q,m=q+1:=⟨m - 1,by omega⟩
  rw[jz,decide_eq_false (by omega),List.drop_eq_nil_iff.2 (by omega),rH,oX]
  exact⟨_,rfl,rfl,by simp⟩
 | k+1,m,i,t,h1,h2=>by
  obtain ⟨m,rfl⟩:∃ q,m=q+1:=⟨m - 1,by omega⟩
  have hi:i<v.L.length:=by omega
  have hl:=iM v.L
  rw[iY] at hn
  obtain ⟨x,h3,h4⟩:=hself _ (List.getElem_mem hi)
  rw[jz,decide_eq_true (by omega),List.drop_eq_getElem_cons hi,nz,kJ]
  simp only[cond_true,bV,List.getElem?_eq_getElem hi,Option.bind_some,h3]
  cases hf:ta v.L[i] with
  | false=>exact⟨_,rfl,rfl,rfl,rfl⟩
  | true =>
   rw[h4 hf]
   simp only[Bool.not_true,cond_false,Bool.true_and]
   rw[jP (by omega) (by omega),show (i:Int)+1=((i+1:Nat):Int) by omega,show (if (t:Int)<(dep v.L[i]:Int) then (dep v.L[i]:Int) else (t:Int))=((max t (dep v.L[i]):Nat):Int) by split<;>omega]
   have:=CO self n z v w a b c d (by rw[iY]; exact hn) hself k m (i+1) (max t (dep v.L[i])) (by omega) (by omega)
   rw[show max t (max (dep v.L[i]) (mC (v.L.drop (i+1))))=max (max t (dep v.L[i])) (mC (v.L.drop (i+1))) by omega]
   exact this
theorem FR:∀ (q:Nat) (v:ar),qD v<=q->qD v<=1000000->∃ x,Fp q v=some (x,ta v)/\(ta v=true->x=(dep v:Int))
 | 0,v,h,_=>by have:=vE v; omega
 | q+1,v,h,hn=>by
  have hl:=iM v.L
  have hn':=hn
  rw[iY] at hn' h
  obtain ⟨r,h1,h2⟩:=CO (Fp q) aH false v false (emp v.S&&((v.L.length:Int)==0)) ((v.N==0)&&((v.L.length:Int)==0)) ((v.N==0)&&emp v.S) false hn (fun e he=>by
   have:=lh he
   exact FR q e (by omega) (by omega)) v.L.length (aH+8) 0 0 (by omega) (by rw[fu]; omega)
  rw[show ((0:Nat):Int)=0 from rfl] at h1
  rw[List.drop_zero] at h2
  show ∃ x,Hq (Fp q) aH v=_/\_
  unfold Hq
  rw[show (bif py v.S (ByteArray.mk #[]) then some ((v.L.length:Int)==0) else some false)=some (emp v.S&&((v.L.length:Int)==0)) from by unfold emp; cases py v.S (ByteArray.mk #[])<;>rfl,
   show (bif v.N==0 then some ((v.L.length:Int)==0) else some false)=some ((v.N==0)&&((v.L.length:Int)==0)) from by cases v.N==0<;>rfl,
   show (bif v.N==0 then some (py v.S (ByteArray.mk #[])) else some false)=some ((v.N==0)&&emp v.S) from by unfold emp; cases v.N==0<;>rfl]
  simp only[Option.bind_some]
  rw[mV,n4]
  by_cases k1:v.Kind<1
  ·rw[decide_eq_true k1]
   refine⟨0,?_,?_⟩
   ·rw[show (v.Kind==1)=false from by simp; omega,show (v.Kind==2)=false from by simp; omega,show (v.Kind==3)=false from by simp; omega]; rfl
   ·rw[show (v.Kind==1)=false from by simp; omega,show (v.Kind==2)=false from by simp; omega,show (v.Kind==3)=false from by simp; omega]; intro h; cases h
  by_cases k2:3<v.Kind
  ·rw[decide_eq_false k1,decide_eq_true k2]
   refine⟨0,?_,?_⟩
   ·rw[show (v.Kind==1)=false from by simp; omega,show (v.Kind==2)=false from by simp; omega,show (v.Kind==3)=false from by simp; omega]; rfl
   ·rw[show (v.Kind==1)=false from by simp; omega,show (v.Kind==2)=false from by simp; omega,show (v.Kind==3)=false from by simp; omega]; intro h; cases h
  rw[decide_eq_false k1,decide_eq_false k2]
  simp only[cond_false,cond_true,Option.bind_some]
  rcases (show v.Kind=1∨v.Kind=2∨v.Kind=3 by omega) with hk | hk | hk
  ·rw[hk]
   simp only[show decide ((1:Int)=0)=false from rfl,show decide ((1:Int)=1)=true from rfl,show decide ((1:Int)<3)=true from rfl,show ((1:Int)==1)=true from rfl,show ((1:Int)==3)=false from rfl,cond_false,cond_true,Option.bind_some]
   cases emp v.S&&((v.L.length:Int)==0) with
   | false=>exact⟨0,rfl,fun h=>by cases h⟩
   | true=>exact⟨0,rfl,fun _=>rfl⟩
  ·rw[hk]
   simp only[show decide ((2:Int)=0)=false from rfl,show decide ((2:Int)=1)=false from rfl,show decide ((2:Int)=2)=true from rfl,show decide ((2:Int)<3)=true from rfl,show ((2:Int)==1)=false from rfl,show ((2:Int)==2)=true from rfl,show ((2:Int)==3)=false from rfl,cond_false,cond_true,Option.bind_some]
   cases (v.N==0)&&((v.L.length:Int)==0) with
   | false=>exact⟨0,rfl,fun h=>by cases h⟩
   | true=>exact⟨0,rfl,fun _=>rfl⟩
  ·rw[hk]
   simp only[show decide ((3:Int)=0)=false from rfl,show decide ((3:Int)=1)=false from rfl,show decide ((3:Int)=2)=false from rfl,show decide ((3:Int)=3)=true from rfl,show decide ((3:Int)<3)=false from rfl,show ((3:Int)==1)=false from rfl,show ((3:Int)==2)=false from rfl,show ((3:Int)==3)=true from rfl,cond_false,cond_true,Option.bind_some]
   cases hc:(v.N==0)&&emp v.S with
   | false=>exact⟨0,by simp,fun h=>by simp at h⟩
   | true =>
    rw[hc] at h1
    simp only[Bool.not_true,cond_false,h1,Option.bind_some]
    cases r with
    | inl p =>
     obtain ⟨h3,h4,h5⟩:=h2
     obtain ⟨p1,p2⟩:=p
     refine⟨0,?_,fun h=>?_⟩
     ·rw[h3]; simp only at h4 h5; subst h4; subst h5; rfl
     ·rw[h3] at h; cases h
    | inr x =>
     obtain ⟨h3,h4⟩:=h2
     have hd:=rj v.L
     refine⟨_,by rw[h3]; rfl,fun _=>?_⟩
     rw[h4,jP (by omega) (by omega)]
     omega
theorem OZ (v:ar) (hn:qD v<=1000000):HA v=some (gP v):=by
 unfold HA J8 Kb
 obtain ⟨x,h1,h2⟩:=FR aH v (by rw[fu]; omega) hn
 rw[h1,Option.bind_some]
 unfold gP
 cases hf:ta v with
 | false=>rfl
 | true =>
  rw[h2 hf]
  simp only[Bool.not_true,cond_false,cond_true]
  by_cases h:16<dep v
  ·rw[decide_eq_true h,decide_eq_true (by omega)]; rfl
  ·rw[decide_eq_false h,decide_eq_false (by omega)]; rfl
theorem MY:eM=140737488355328:=by kernel_rfl
theorem tH {T:Type} (b:Nat) (l l2:List T) (h:(l.length+l2.length)*b<=eM):dS b l l2=some (l++l2):=by unfold dS; rw[decide_eq_true h]; rfl
theorem pM (l l2:List UInt8) (h:l.length+l2.length<=140737488355328):dS 1 l l2=some (l++l2):=tH _ _ _ (by rw[MY]; omega)
def num (n:Nat):List UInt8:=if h:n<128 then [UInt8.ofNat n] else UInt8.ofNat (n % 128+128) :: num (n / 128)
termination_by n
decreasing_by omega
theorem ov {n:Nat} (h:n<128):num n=[UInt8.ofNat n]:=by rw[num]; exact dif_pos h
theorem vF {n:Nat} (h:¬ n<128):num n=UInt8.ofNat (n % 128+128) :: num (n / 128):=by rw[num]; exact dif_neg h
theorem Ah:∀ (k n:Nat),n<128 ^ k->(num n).length<=max k 1
 | 0,n,h=>by rw[ov (by simpa using Nat.lt_of_lt_of_le h (by decide))]; simp
 | k+1,n,h=>by
  by_cases h1:n<128
  ·rw[ov h1]; simp
  ·rw[vF h1,List.length_cons]
   have hk:0<k:=by
    rcases Nat.eq_zero_or_pos k with rfl | hk
    ·simp at h; omega
    ·exact hk
   have:=Ah k (n / 128) (by rw[Nat.div_lt_iff_lt_mul (by decide)]; rw[Nat.pow_succ] at h; exact h)
   omega
theorem p6 {n:Nat} (h:n<18446744073709551616):(num n).length<=10:=Ah 10 n (Nat.lt_of_lt_of_le h (by decide))
theorem JI (n:Nat):wr .u8 (n:Int)=((n % 256:Nat):Int):=by
 unfold wr IntKind.wrap
 simp[IntKind.bits,IntKind.signed]
theorem Jk:∀ c:Fin 256,mF .u8 (c.val:Int) 128=((c.val % 128+128:Nat):Int):=by decide +kernel
theorem GJ (n:Nat):mF .u8 (wr .u8 (n:Int)) 128=((n % 128+128:Nat):Int):=by
 rw[JI]
 have:=Jk ⟨n % 256,Nat.mod_lt _ (by decide)⟩
 rw[this]
 simp only
 congr 2
 omega
theorem Mu (n:Nat):ng .u64 (n:Int) 7=((n / 128:Nat):Int):=by
 unfold ng
 show Int.fdiv (n:Int) (2 ^ 7)=_
 rw[Int.fdiv_eq_ediv_of_nonneg _ (by decide)]
 rfl
theorem jg (G:Nat->Int->List UInt8->Option (Int×List UInt8)) (hG:∀ m v l,G (m+1) v l=bif decide (128<=v) then (bif (decide (0<=(mF .u8 (wr .u8 (v)) 128))&&decide ((mF .u8 (wr .u8 (v)) 128)<256)) then (Option.bind (dS 1 l ([(UInt8.ofNat (Int.toNat (mF .u8 (wr .u8 (v)) 128)))])) fun y=>G m (ng .u64 v 7) y) else none) else some (v,l)) :
  ∀ (k m n:Nat) (l:List UInt8),n<128 ^ k->k<=11->k<m->l.length+k<=140737488355328->∃ (y:Nat) (ini:List UInt8),y<128/\G m (n:Int) l=some ((y:Int),l++ini)/\num n=ini++[UInt8.ofNat y]
 | 0,m,n,l,h,_,hm,hl=>by
  obtain ⟨m,rfl⟩:∃ q,m=q+1:=⟨m - 1,by omega⟩
  have h:n<1:=h
  exact⟨n,[],by omega,by rw[hG,decide_eq_false (by omega),List.append_nil]; rfl,by rw[ov (by omega)]; rfl⟩
 | k+1,m,n,l,h,hk,hm,hl=>by
  obtain ⟨m,rfl⟩:∃ q,m=q+1:=⟨m - 1,by omega⟩
  by_cases h1:n<128
  ·exact⟨n,[],h1,by rw[hG,decide_eq_false (by omega),List.append_nil]; rfl,by rw[ov h1]; rfl⟩
  ·have hq:n / 128<128 ^ k:=by rw[Nat.div_lt_iff_lt_mul (by decide)]; rw[Nat.pow_succ] at h; exact h
   rw[hG,decide_eq_true (by omega),GJ,decide_eq_true (by omega),decide_eq_true (by omega),Mu,Int.toNat_natCast]
   simp only[cond_true,Bool.and_self]
   rw[pM _ _ (by simp; omega),Option.bind_some]
   obtain ⟨y,ini,h2,h3,h4⟩:=jg G hG k m (n / 128) (l++[UInt8.ofNat (n % 128+128)]) hq (by omega) (by omega) (by simp; omega)
   exact⟨y,UInt8.ofNat (n % 128+128) :: ini,h2,by rw[h3,List.append_assoc]; rfl,by rw[vF h1,h4]; rfl⟩
theorem Pd {y:Nat} (h:y<128):wr .u8 (y:Int)=(y:Int):=by rw[JI,Nat.mod_eq_of_lt (by omega)]
def vQ (n:Int):Nat:=if 0<=n then (2*n).toNat else (-2*n - 1).toNat
theorem Dy (z:Int):wr .u64 z=z % 18446744073709551616:=by
 unfold wr IntKind.wrap
 simp[IntKind.bits,IntKind.signed]
theorem qg {n:Int} (h:fS n):vQ n<18446744073709551616:=by
 obtain ⟨h1,h2⟩:=h
 unfold vQ; split<;>omega
theorem xor_zero (a:Int) (h:0<=a) (h':a<18446744073709551616):qF .u64 a 0=a:=by
 unfold qF
 show IntKind.wrap .u64 ((BitVec.ofInt 64 a ^^^ BitVec.ofInt 64 0).toNat:Int)=a
 rw[show BitVec.ofInt 64 0=0#64 from rfl,BitVec.xor_zero]
 have:=Dy ((BitVec.ofInt 64 a).toNat:Int)
 unfold wr at this
 rw[this,BitVec.toNat_ofInt]
 omega
theorem Dz (a:Int) (h:0<=a) (h':a<18446744073709551616):qF .u64 a 18446744073709551615=18446744073709551615 - a:=by
 unfold qF
 show IntKind.wrap .u64 ((BitVec.ofInt 64 a ^^^ BitVec.ofInt 64 18446744073709551615).toNat:Int)=_
 rw[show BitVec.ofInt 64 18446744073709551615=BitVec.allOnes 64 from rfl,BitVec.xor_allOnes,BitVec.toNat_not]
 have:=Dy (((2 ^ 64 - 1 - (BitVec.ofInt 64 a).toNat:Nat)):Int)
 unfold wr at this
 rw[this,BitVec.toNat_ofInt]
 omega
theorem Le (n:Int) (h:fS n):FX n=some (vQ n:Int):=by
 obtain ⟨h1,h2⟩:=h
 unfold FX Ka
 have e1:sD .u64 (wr .u64 n) 1=(2*n) % 18446744073709551616:=by
  unfold sD
  have:=Dy (wr .u64 n*2 ^ 1)
  unfold wr at this ⊢
  show IntKind.wrap .u64 (IntKind.wrap .u64 n*2 ^ 1)=_
  rw[this]
  have h4:=Dy n
  unfold wr at h4
  rw[h4]; omega
 have e2:ng .i64 n 63=n / 9223372036854775808:=by
  unfold ng
  show Int.fdiv n (2 ^ 63)=_
  rw[Int.fdiv_eq_ediv_of_nonneg _ (by decide)]
  rfl
 rw[e1,e2]
 congr 1
 unfold vQ
 by_cases h0:0<=n
 ·rw[if_pos h0,show n / 9223372036854775808=0 by omega,show wr .u64 0=0 from rfl,xor_zero _ (by omega) (by omega)]; omega
 ·rw[if_neg h0,show n / 9223372036854775808=-1 by omega,show wr .u64 (-1)=18446744073709551615 from rfl,Dz _ (by omega) (by omega)]; omega
mutual
def jI:ar->List UInt8
 | .mk k n s l=>bif k==1 then 1 :: num (vQ n) else bif k==2 then 2 :: (num s.size++jD s) else 3 :: (num l.length++kj l)
def kj:List ar->List UInt8
 | []=>[]
 | x :: r=>jI x++kj r
end
theorem dN (v:ar):jI v=bif v.Kind==1 then 1 :: num (vQ v.N) else bif v.Kind==2 then 2 :: (num v.S.size++jD v.S) else 3 :: (num v.L.length++kj v.L):=by cases v; rw[jI]
theorem mN:kj []=[]:=by rw[kj]
theorem fL (x:ar) (r:List ar):kj (x :: r)=jI x++kj r:=by rw[kj]
theorem fT (s:ByteArray):(jD s).length=s.size:=rfl
mutual
theorem u0:∀ (v:ar),bS v->qD v<=1000000->(jI v).length<=420*qD v
 | .mk k n s l,h,hn=>by
  rw[bS] at h
  obtain ⟨⟨_,h2,_,_⟩,h5⟩:=h
  rw[qD] at hn
  have h1:=wB l h5 (by omega)
  have h3:=iM l
  rw[jI,qD]
  have l1:=p6 (n:=vQ n) (qg h2)
  have l2:=p6 (n:=s.size) (by omega)
  have l3:=p6 (n:=l.length) (by omega)
  cases k==1 with
  | true=>simp only[cond_true,List.length_cons]; omega
  | false =>
   cases k==2 with
   | true=>simp only[cond_true,cond_false,List.length_cons,List.length_append,fT]; omega
   | false=>simp only[cond_false,List.length_cons,List.length_append]; omega
theorem wB:∀ (l:List ar),fE l->jN l<=1000000->(kj l).length<=420*jN l
 | [],_,_=>by rw[mN,lj]; simp
 | x :: r,h,hn=>by
  rw[fE] at h
  rw[jl] at hn ⊢
  have h1:=u0 x h.1 (by omega)
  have h2:=wB r h.2 (by omega)
  rw[fL,List.length_append]; omega
end
theorem AR {v:ar} (h:bS v) (hn:qD v<=1000000):(jI v).length<=420000000:=by have:=u0 v h hn; omega
theorem oD {v:ar} (hn:qD v<=1000000):v.S.size<=200000000:=by rw[iY] at hn; omega
theorem Az (n:Nat) (h:n<18446744073709551616):wr .u64 (n:Int)=(n:Int):=by rw[Dy]; omega
theorem kP:∀ {l:List ar},kO l=true->∀ e∈l,ta e=true
 | x :: r,h,e,he=>by
  rw[nz,Bool.and_eq_true] at h
  rcases List.mem_cons.1 he with rfl | he
  ·exact h.1
  ·exact kP h.2 e he
theorem mW {v:ar} (h:ta v=true):v.Kind=1∨v.Kind=2∨(v.Kind=3/\kO v.L=true):=by
 rw[mV] at h
 cases h1:v.Kind==1 with
 | true=>exact .inl (by simpa using h1)
 | false =>
  cases h2:v.Kind==2 with
  | true=>exact .inr (.inl (by simpa using h2))
  | false =>
   cases h3:v.Kind==3 with
   | true =>
    rw[h1,h2,h3] at h
    simp only[cond_true,cond_false,Bool.and_eq_true] at h
    exact .inr (.inr ⟨by simpa using h3,h.1⟩)
   | false=>rw[h1,h2,h3] at h; cases h
theorem wL {y:Nat} (h:y<128) {β:Type} (k:List UInt8->Option β) (l:List UInt8) (hl:l.length<=1000000000000) :
  (bif (decide (0<=(wr .u8 (y:Int)))&&decide ((wr .u8 (y:Int))<256)) then Option.bind (dS 1 l ([(UInt8.ofNat (Int.toNat (wr .u8 (y:Int))))])) k else none)=k (l++[UInt8.ofNat y]):=by
 rw[Pd h,decide_eq_true (by omega),decide_eq_true (by omega),pM _ _ (by simp; omega),Int.toNat_natCast]
 rfl
theorem EW {n:Nat} (h:n<18446744073709551616):n<128 ^ 10:=Nat.lt_of_lt_of_le h (by decide)
theorem CQ (self:ar->ar->(List UInt8)->ar->Option (List UInt8)) (n:Nat) (hn:50<=n) (z:List UInt8) (b0 b3 x:ar) (L:List ar) (hL:jN L<=1000000) (hf:kO L=true) (hok:∀ e∈L,bS e)
  (hself:∀ e∈L,e.Kind=3->∀ l:List UInt8,l.length+(jI e).length<=100000000000->self b0 b3 l e=some (l++jI e)) :
  ∀ (k m i:Nat) (l:List UInt8),i+k=L.length->k<m->l.length+(kj (L.drop i)).length<=100000000000->fG self n z L (L.length:Int) b0 b3 x m (i:Int) l=some (l++kj (L.drop i))
 | 0,m,i,l,h1,h2,h3=>by
  obtain ⟨m,rfl⟩:∃ q,m=q+1:=⟨m - 1,by omega⟩
  rw[fG,decide_eq_false (by omega),List.drop_eq_nil_iff.2 (by omega),mN,List.append_nil]
  rfl
 | k+1,m,i,l,h1,h2,h3=>by
  obtain ⟨m,rfl⟩:∃ q,m=q+1:=⟨m - 1,by omega⟩
  have hi:i<L.length:=by omega
  have hl:=iM L
  have hme:L[i]∈L:=List.getElem_mem hi
  have hne:=lh hme
  have hs:=oD (v:=L[i]) (by omega)
  obtain ⟨_,hN,_,_,_⟩:=(dV L[i]).1 (hok _ hme)
  rw[List.drop_eq_getElem_cons hi,fL,List.length_append] at h3
  have ih:=CQ self n hn z b0 b3 x L hL hf hok hself k m (i+1) (l++jI L[i]) (by omega) (by omega) (by rw[List.length_append]; omega)
  rw[fG,decide_eq_true (by omega),List.drop_eq_getElem_cons hi,fL]
  simp only[cond_true,bV,List.getElem?_eq_getElem hi,Option.bind_some]
  rw[jP (by omega) (by omega),show (i:Int)+1=((i+1:Nat):Int) by omega,<-List.append_assoc]
  have h3':=h3
  rw[dN] at h3
  generalize hE:kj (L.drop (i+1))=E at h3 h3' ih ⊢
  rcases mW (kP hf _ hme) with hk | hk | ⟨hk,_⟩
  ·rw[hk] at h3 ⊢
   simp only[show ((1:Int)==1)=true from rfl,cond_true,List.length_cons] at h3
   simp only[show decide ((1:Int)=0)=false from rfl,show decide ((1:Int)=1)=true from rfl,cond_true,cond_false,Le _ hN,Option.bind_some]
   rw[pM _ _ (by simp; omega),Option.bind_some]
   obtain ⟨y,ini,e1,e2,e3⟩:=jg (gh n) (fun _ _ _=>rfl) 10 (n+6) (vQ L[i].N) (l++[1]) (EW (qg hN)) (by omega) (by omega) (by simp; omega)
   have e4:(num (vQ L[i].N)).length=ini.length+1:=by rw[e3]; simp
   try simp only at e2
   rw[e2,Option.bind_some]
   try simp only
   rw[wL e1 _ _ (by simp; omega)]
   rw[dN,hk] at ih
   simp only[show ((1:Int)==1)=true from rfl,cond_true,e3] at ih
   rw[dN,hk]
   simp only[show ((1:Int)==1)=true from rfl,cond_true,e3]
   rw[<-ih]
   congr 1
   simp
  ·rw[hk] at h3 ⊢
   simp only[show ((2:Int)==1)=false from rfl,show ((2:Int)==2)=true from rfl,cond_true,cond_false,List.length_cons,List.length_append,fT] at h3
   simp only[show decide ((2:Int)=0)=false from rfl,show decide ((2:Int)=1)=false from rfl,show decide ((2:Int)=2)=true from rfl,cond_true,cond_false]
   rw[pM _ _ (by simp; omega),Option.bind_some,Az _ (by omega)]
   obtain ⟨y,ini,e1,e2,e3⟩:=jg (gh n) (fun _ _ _=>rfl) 10 (n+6) L[i].S.size (l++[2]) (EW (by omega)) (by omega) (by omega) (by simp; omega)
   have e4:(num L[i].S.size).length=ini.length+1:=by rw[e3]; simp
   try simp only at e2
   rw[e2,Option.bind_some]
   try simp only
   rw[wL e1 _ _ (by simp; omega),pM _ _ (by simp[fT]; omega),Option.bind_some]
   rw[dN,hk] at ih
   simp only[show ((2:Int)==1)=false from rfl,show ((2:Int)==2)=true from rfl,cond_true,cond_false,e3] at ih
   rw[dN,hk]
   simp only[show ((2:Int)==1)=false from rfl,show ((2:Int)==2)=true from rfl,cond_true,cond_false,e3]
   rw[<-ih]
   congr 1
   simp
  ·rw[hk]
   simp only[show decide ((3:Int)=0)=false from rfl,show decide ((3:Int)=1)=false from rfl,show decide ((3:Int)=2)=false from rfl,show decide ((3:Int)=3)=true from rfl,cond_true,cond_false]
   rw[hself _ hme hk l (by omega),Option.bind_some]
   exact ih
theorem My:∀ (q N:Nat) (b0 b3:ar) (l:List UInt8) (v:ar),v.Kind=3->ta v=true->bS v->qD v<=q->qD v<=1000000->q+2000000<=N->l.length+(jI v).length<=100000000000->DY N b0 b3 l v=some (l++jI v)
 | 0,N,b0,b3,l,v,_,_,_,h,_,_,_=>by have:=vE v; omega
 | q+1,N,b0,b3,l,v,hk,hf,hv,h,hn,hN,hl=>by
  obtain ⟨N,rfl⟩:∃ p,N=p+1:=⟨N - 1,by omega⟩
  obtain ⟨_,h2,_,_,h4⟩:=(dV v).1 hv
  have hll:=iM v.L
  have hn':=hn
  rw[iY] at hn' h
  have hfs:kO v.L=true:=by
   rcases mW hf with h | h | h
   ·omega
   ·omega
   ·exact h.2
  show (bif Nat.ble 8 N then AA (DY N) (N - 8) b0 b3 l v else none)=_
  rw[Nat.ble_eq_true_of_le (by omega:8<=N)]
  simp only[cond_true]
  unfold AA
  rw[dN,hk] at hl ⊢
  simp only[show ((3:Int)==1)=false from rfl,show ((3:Int)==2)=false from rfl,cond_false,List.length_cons,List.length_append] at hl ⊢
  rw[pM _ _ (by simp; omega),Option.bind_some,Az _ (by omega)]
  obtain ⟨y,ini,e1,e2,e3⟩:=jg (kE (N - 8)) (fun _ _ _=>rfl) 10 (N - 8+7) v.L.length (l++[3]) (EW (by omega)) (by omega) (by omega) (by simp; omega)
  have e4:(num v.L.length).length=ini.length+1:=by rw[e3]; simp
  try simp only at e2
  rw[e2,Option.bind_some]
  try simp only
  rw[wL e1 _ _ (by simp; omega)]
  have:=CQ (DY N) (N - 8) (by omega) [] b0 b3 v v.L (by omega) hfs h4 (fun e he hke l' hl'=>by
   have:=lh he
   exact My q N b0 b3 l' e hke (kP hfs e he) (h4 e he) (by omega) (by omega) (by omega) hl') v.L.length (N - 8+8) 0 (l++[3]++ini++[UInt8.ofNat y]) (by omega) (by omega) (by rw[List.drop_zero]; simp; omega)
  rw[show ((0:Nat):Int)=0 from rfl,List.drop_zero] at this
  rw[this,e3]
  simp
theorem CN (n:Nat) (hn:50<=n) (z:List UInt8) (b0 b3:ar) (L:List ar) (hL:jN L<=1000000) (hf:kO L=true) (hok:∀ e∈L,bS e)
  (hself:∀ e∈L,e.Kind=3->∀ l:List UInt8,l.length+(jI e).length<=100000000000->DY (n+7) b0 b3 l e=some (l++jI e)) :
  ∀ (k m i:Nat) (l:List UInt8),i+k=L.length->k<m->l.length+(kj (L.drop i)).length<=100000000000->gC n z L (L.length:Int) b0 b3 m (i:Int) l=some (l++kj (L.drop i))
 | 0,m,i,l,h1,h2,h3=>by
  obtain ⟨m,rfl⟩:∃ q,m=q+1:=⟨m - 1,by omega⟩
  rw[gC,decide_eq_false (by omega),List.drop_eq_nil_iff.2 (by omega),mN,List.append_nil]
  rfl
 | k+1,m,i,l,h1,h2,h3=>by
  obtain ⟨m,rfl⟩:∃ q,m=q+1:=⟨m - 1,by omega⟩
  have hi:i<L.length:=by omega
  have hl:=iM L
  have hme:L[i]∈L:=List.getElem_mem hi
  have hne:=lh hme
  have hs:=oD (v:=L[i]) (by omega)
  obtain ⟨_,hN,_,_,_⟩:=(dV L[i]).1 (hok _ hme)
  rw[List.drop_eq_getElem_cons hi,fL,List.length_append] at h3
  have ih:=CN n hn z b0 b3 L hL hf hok hself k m (i+1) (l++jI L[i]) (by omega) (by omega) (by rw[List.length_append]; omega)
  rw[gC,decide_eq_true (by omega),List.drop_eq_getElem_cons hi,fL]
  simp only[cond_true,bV,List.getElem?_eq_getElem hi,Option.bind_some]
  rw[jP (by omega) (by omega),show (i:Int)+1=((i+1:Nat):Int) by omega,<-List.append_assoc]
  have h3':=h3
  rw[dN] at h3
  generalize hE:kj (L.drop (i+1))=E at h3 h3' ih ⊢
  rcases mW (kP hf _ hme) with hk | hk | ⟨hk,_⟩
  ·rw[hk] at h3 ⊢
   simp only[show ((1:Int)==1)=true from rfl,cond_true,List.length_cons] at h3
   simp only[show decide ((1:Int)=0)=false from rfl,show decide ((1:Int)=1)=true from rfl,cond_true,cond_false,Le _ hN,Option.bind_some]
   rw[pM _ _ (by simp; omega),Option.bind_some]
   obtain ⟨y,ini,e1,e2,e3⟩:=jg (gV n) (fun _ _ _=>rfl) 10 (n+5) (vQ L[i].N) (l++[1]) (EW (qg hN)) (by omega) (by omega) (by simp; omega)
   have e4:(num (vQ L[i].N)).length=ini.length+1:=by rw[e3]; simp
   try simp only at e2
   rw[e2,Option.bind_some]
   try simp only
   rw[wL e1 _ _ (by simp; omega)]
   rw[dN,hk] at ih
   simp only[show ((1:Int)==1)=true from rfl,cond_true,e3] at ih
   rw[dN,hk]
   simp only[show ((1:Int)==1)=true from rfl,cond_true,e3]
   rw[<-ih]
   congr 1
   simp
  ·rw[hk] at h3 ⊢
   simp only[show ((2:Int)==1)=false from rfl,show ((2:Int)==2)=true from rfl,cond_true,cond_false,List.length_cons,List.length_append,fT] at h3
   simp only[show decide ((2:Int)=0)=false from rfl,show decide ((2:Int)=1)=false from rfl,show decide ((2:Int)=2)=true from rfl,cond_true,cond_false]
   rw[pM _ _ (by simp; omega),Option.bind_some,Az _ (by omega)]
   obtain ⟨y,ini,e1,e2,e3⟩:=jg (gV n) (fun _ _ _=>rfl) 10 (n+5) L[i].S.size (l++[2]) (EW (by omega)) (by omega) (by omega) (by simp; omega)
   have e4:(num L[i].S.size).length=ini.length+1:=by rw[e3]; simp
   try simp only at e2
   rw[e2,Option.bind_some]
   try simp only
   rw[wL e1 _ _ (by simp; omega),pM _ _ (by simp[fT]; omega),Option.bind_some]
   rw[dN,hk] at ih
   simp only[show ((2:Int)==1)=false from rfl,show ((2:Int)==2)=true from rfl,cond_true,cond_false,e3] at ih
   rw[dN,hk]
   simp only[show ((2:Int)==1)=false from rfl,show ((2:Int)==2)=true from rfl,cond_true,cond_false,e3]
   rw[<-ih]
   congr 1
   simp
  ·rw[hk]
   simp only[show decide ((3:Int)=0)=false from rfl,show decide ((3:Int)=1)=false from rfl,show decide ((3:Int)=2)=false from rfl,show decide ((3:Int)=3)=true from rfl,cond_true,cond_false]
   rw[hself _ hme hk l (by omega),Option.bind_some]
   exact ih
theorem zC {v:ar} (h:gP v=0):ta v=true:=by
 unfold gP at h
 cases hf:ta v with
 | true=>rfl
 | false=>rw[hf] at h; cases h
def D8 (v:ar):List UInt8×Int:=bif gP v==0 then (jI v,0) else ([],gP v)
theorem OY (v:ar) (hv:bS v) (hn:qD v<=1000000):Hf v=some (D8 v):=by
 unfold Hf J3
 rw[OZ v hn,Option.bind_some]
 unfold D8
 cases hc:gP v==0 with
 | false=>rw[show (gP v != 0)=true by rw[bne,hc]; rfl]; rfl
 | true =>
  rw[show (gP v != 0)=false by rw[bne,hc]; rfl]
  have hf:=zC (by simpa using hc)
  obtain ⟨_,h2,_,_,h4⟩:=(dV v).1 hv
  have hs:=oD hn
  have he:=AR hv hn
  have hll:=iM v.L
  have hn':=hn
  rw[iY] at hn'
  simp only[cond_false,cond_true]
  rw[dN] at he ⊢
  rcases mW hf with hk | hk | ⟨hk,hfs⟩
  ·rw[hk] at he ⊢
   simp only[show decide ((1:Int)=0)=false from rfl,show decide ((1:Int)=1)=true from rfl,show ((1:Int)==1)=true from rfl,cond_true,cond_false,Le _ h2,Option.bind_some] at he ⊢
   rw[pM _ _ (by simp),Option.bind_some]
   obtain ⟨y,ini,e1,e2,e3⟩:=jg (gB aH) (fun _ _ _=>rfl) 10 (aH+6) (vQ v.N) ([]++[1]) (EW (qg h2)) (by omega) (by rw[fu]; omega) (by simp)
   have e4:(num (vQ v.N)).length=ini.length+1:=by rw[e3]; simp
   have l1:=p6 (qg h2)
   try simp only at e2
   rw[e2,Option.bind_some]
   try simp only
   rw[wL e1 _ _ (by simp; omega),e3]
   simp
  ·rw[hk] at he ⊢
   simp only[show decide ((2:Int)=0)=false from rfl,show decide ((2:Int)=1)=false from rfl,show decide ((2:Int)=2)=true from rfl,show ((2:Int)==1)=false from rfl,show ((2:Int)==2)=true from rfl,cond_true,cond_false,List.length_cons,List.length_append,fT] at he ⊢
   rw[pM _ _ (by simp),Option.bind_some,Az _ (by omega)]
   obtain ⟨y,ini,e1,e2,e3⟩:=jg (gB aH) (fun _ _ _=>rfl) 10 (aH+6) v.S.size ([]++[2]) (EW (by omega)) (by omega) (by rw[fu]; omega) (by simp)
   have e4:(num v.S.size).length=ini.length+1:=by rw[e3]; simp
   have l1:=p6 (n:=v.S.size) (by omega)
   try simp only at e2
   rw[e2,Option.bind_some]
   try simp only
   rw[wL e1 _ _ (by simp; omega),pM _ _ (by simp[fT]; omega),Option.bind_some,e3]
   simp
  ·rw[hk] at he ⊢
   simp only[show decide ((3:Int)=0)=false from rfl,show decide ((3:Int)=1)=false from rfl,show decide ((3:Int)=2)=false from rfl,show decide ((3:Int)=3)=true from rfl,show ((3:Int)==1)=false from rfl,show ((3:Int)==2)=false from rfl,cond_true,cond_false,List.length_cons,List.length_append] at he ⊢
   rw[pM _ _ (by simp),Option.bind_some,Az _ (by omega)]
   obtain ⟨y,ini,e1,e2,e3⟩:=jg (gB aH) (fun _ _ _=>rfl) 10 (aH+6) v.L.length ([]++[3]) (EW (by omega)) (by omega) (by rw[fu]; omega) (by simp)
   have e4:(num v.L.length).length=ini.length+1:=by rw[e3]; simp
   have l1:=p6 (n:=v.L.length) (by omega)
   try simp only at e2
   rw[e2,Option.bind_some]
   try simp only
   rw[wL e1 _ _ (by simp; omega)]
   have:=CN aH (by rw[fu]; omega) [] v v v.L (by omega) hfs h4 (fun e he' hke l' hl'=>by
    have:=lh he'
    exact My 1000000 (aH+7) v v l' e hke (kP hfs e he') (h4 e he') (by omega) (by omega) (by rw[fu]; omega) hl') v.L.length (aH+7) 0 ([]++[3]++ini++[UInt8.ofNat y]) (by omega) (by rw[fu]; omega) (by rw[List.drop_zero]; simp; omega)
   rw[show ((0:Nat):Int)=0 from rfl,List.drop_zero] at this
   rw[this,e3]
   simp
def km:Nat->List UInt8->Option (Nat×List UInt8)
 | _,[]=>none
 | c,b :: r=>if (0<c/\b.toNat=0)∨(9<=c/\1<b.toNat) then none else if b.toNat<128 then some (b.toNat,r) else match km (c+1) r with
  | some (n,t)=>some (b.toNat - 128+128*n,t)
  | none=>none
theorem pw (c:Nat):2 ^ (7*(c+1))=128*2 ^ (7*c):=by rw[Nat.mul_add,Nat.pow_add]; omega
theorem Mx {n:Nat} (h:n<256):(UInt8.ofNat n).toNat=n:=by simp; omega
theorem wW:∀ (k n c:Nat) (t:List UInt8),n<128 ^ k->c<=9->2 ^ (7*c)*n<18446744073709551616->(0<c->n≠0)->km c (num n++t)=some (n,t)
 | 0,n,c,t,h1,h2,h3,h4=>by
  have h1:n<1:=h1
  have h5:c=0:=by
   rcases Nat.eq_zero_or_pos c with h | h
   ·exact h
   ·have:=h4 h; omega
  subst h5
  rw[ov (by omega),List.singleton_append,km,Mx (by omega),if_neg (by omega),if_pos (by omega)]
 | k+1,n,c,t,h1,h2,h3,h4=>by
  have h9:c=9->n<=1:=by
   intro h
   subst h
   have:2 ^ (7*9)=9223372036854775808:=by decide
   omega
  by_cases hn:n<128
  ·rw[ov hn,List.singleton_append,km,Mx (by omega),if_neg (by
    rintro (⟨h5,h6⟩ | ⟨h5,h6⟩)
    ·exact h4 h5 h6
    ·have:=h9 (by omega); omega),if_pos hn]
  ·have h5:c≠9:=fun h=>by have:=h9 h; omega
   have h6:n / 128<128 ^ k:=by rw[Nat.div_lt_iff_lt_mul (by decide)]; rw[Nat.pow_succ] at h1; exact h1
   have h7:2 ^ (7*(c+1))*(n / 128)<=2 ^ (7*c)*n:=by
    rw[pw,Nat.mul_comm 128,Nat.mul_assoc]
    exact Nat.mul_le_mul_left _ (by omega)
   rw[vF hn,List.cons_append,km,Mx (by omega),if_neg (by omega),if_neg (by omega),wW k (n / 128) (c+1) t h6 (by omega) (by omega) (by omega)]
   simp only
   congr 2
   omega
theorem rM {n:Nat} {t:List UInt8} (h:n<18446744073709551616):km 0 (num n++t)=some (n,t):=wW 10 n 0 t (EW h) (by omega) (by omega) (by omega)
theorem wV:∀ (l:List UInt8) (c n:Nat) (r:List UInt8),km c l=some (n,r)->c<=9->l=num n++r/\(0<c->n≠0)/\2 ^ (7*c)*n<18446744073709551616
 | [],c,n,r,h,_=>by rw[km] at h; cases h
 | b :: l,c,n,r,h,hc=>by
  have hb:=b.toNat_lt
  rw[km] at h
  split at h
  ·cases h
  rename_i h1
  split at h
  ·rename_i h2
   cases h
   refine⟨?_,fun h3 h4=>h1 (.inl ⟨h3,h4⟩),?_⟩
   ·rw[ov h2,UInt8.ofNat_toNat]; rfl
   ·have:2 ^ (7*9)=9223372036854775808:=by decide
    by_cases h9:c=9
    ·subst h9; omega
    ·have h8:2 ^ (7*c)<=2 ^ 56:=Nat.pow_le_pow_right (by decide) (by omega)
     have h7:2 ^ (7*c)*b.toNat<=2 ^ 56*127:=Nat.mul_le_mul h8 (by omega)
     omega
  ·rename_i h2
   split at h
   ·rename_i m t h3
    cases h
    have h9:c≠9:=fun h=>h1 (.inr ⟨by omega,by omega⟩)
    obtain ⟨h4,h5,h6⟩:=wV l (c+1) m _ h3 (by omega)
    have h5:=h5 (by omega)
    refine⟨?_,fun _=>by omega,?_⟩
    ·rw[vF (by omega),show (b.toNat - 128+128*m) % 128+128=b.toNat by omega,show (b.toNat - 128+128*m) / 128=m by omega,UInt8.ofNat_toNat,h4]
     rfl
    ·rw[pw] at h6
     have h8:2 ^ (7*c)*(b.toNat - 128)+2 ^ (7*c)*(128*m)<18446744073709551616:=by
      have e:2 ^ (7*c)*(128*m)=128*2 ^ (7*c)*m:=by rw[Nat.mul_comm 128 (2 ^ (7*c)),Nat.mul_assoc]
      rw[e]
      have hlt:b.toNat - 128<128:=by omega
      have h10:2 ^ (7*c)*(b.toNat - 128)<2 ^ (7*c)*128:=Nat.mul_lt_mul_of_pos_left hlt (Nat.two_pow_pos _)
      have h11:2 ^ (7*c)*128*m<18446744073709551616:=by rw[Nat.mul_comm (2 ^ (7*c))]; exact h6
      have hd:18446744073709551616=2 ^ (7*c)*128*2 ^ (64 - (7*c+7)):=by
       rw[Nat.mul_assoc,show 128*2 ^ (64 - (7*c+7))=2 ^ (64 - 7*c) by
        rw[show 128=2 ^ 7 from rfl,<-Nat.pow_add]; congr 1; omega,<-Nat.pow_add,show 7*c+(64 - 7*c)=64 by omega]
      rw[hd] at h11
      have h12:m<2 ^ (64 - (7*c+7)):=Nat.lt_of_mul_lt_mul_left h11
      have h13:2 ^ (7*c)*128*(m+1)<=2 ^ (7*c)*128*2 ^ (64 - (7*c+7)):=Nat.mul_le_mul_left _ h12
      rw[<-hd,Nat.mul_add,Nat.mul_one] at h13
      rw[Nat.mul_comm 128 (2 ^ (7*c))]
      omega
     rw[Nat.mul_add]; exact h8
   ·cases h
theorem kW {l:List UInt8} {n:Nat} {r:List UInt8} (h:km 0 l=some (n,r)):l=num n++r/\n<18446744073709551616/\r.length<l.length:=by
 obtain ⟨h1,_,h2⟩:=wV l 0 n r h (by omega)
 refine⟨h1,by omega,?_⟩
 have:num n≠[]:=by
  rw[num]; split<;>simp
 have:=List.length_pos_iff.2 this
 rw[h1,List.length_append]; omega
theorem Gd:∀ c:Fin 256,oN .u8 (c.val:Int) 127=((c.val % 128:Nat):Int):=by decide +kernel
theorem Pc {b c:Nat} (hc:c<=9) (h:c=9->b<=1) (hb:b<128):sD .u64 (wr .u64 (b:Int)) (wr .i64 (7*(c:Int)))=((2 ^ (7*c)*b:Nat):Int):=by
 rw[jP (by omega) (by omega),Az _ (by omega)]
 unfold sD
 rw[show (7*(c:Int)).toNat=7*c by omega,show min (7*c) (IntKind.bits .u64)=7*c from Nat.min_eq_left (by show 7*c<=64; omega)]
 have e:((b:Int)*2 ^ (7*c))=((2 ^ (7*c)*b:Nat):Int):=by rw[Int.natCast_mul,Int.natCast_pow,Int.mul_comm]; rfl
 rw[e]
 have:=Az (2 ^ (7*c)*b) (by
  have h9:2 ^ (7*9)=9223372036854775808:=by decide
  by_cases h1:c=9
  ·have:=h h1; subst h1; rcases (show b=0∨b=1 by omega) with rfl | rfl<;>omega
  ·have h8:2 ^ (7*c)<=2 ^ 56:=Nat.pow_le_pow_right (by decide) (by omega)
   have:=Nat.mul_le_mul h8 (show b<=127 by omega)
   omega)
 exact this
theorem LL {a b c:Nat} (hc:c<=9) (h:c=9->b<=1) (hb:b<128) (ha:a<2 ^ (7*c)):a+2 ^ (7*c)*b<18446744073709551616:=by
 have h9:2 ^ (7*9)=9223372036854775808:=by decide
 by_cases h1:c=9
 ·have:=h h1; subst h1; rcases (show b=0∨b=1 by omega) with rfl | rfl<;>omega
 ·have h8:2 ^ (7*c)<=2 ^ 56:=Nat.pow_le_pow_right (by decide) (by omega)
  have:=Nat.mul_le_mul h8 (show b<=127 by omega)
  omega
theorem O8 {a b c:Nat} (hc:c<=9) (h:c=9->b<=1) (hb:b<128) (ha:a<2 ^ (7*c)):mF .u64 (a:Int) ((2 ^ (7*c)*b:Nat):Int)=((a+2 ^ (7*c)*b:Nat):Int):=by
 have h1:=LL hc h hb ha
 unfold mF
 show IntKind.wrap .u64 ((BitVec.ofInt 64 (a:Int) ||| BitVec.ofInt 64 ((2 ^ (7*c)*b:Nat):Int)).toNat:Int)=_
 rw[BitVec.toNat_or,BitVec.toNat_ofInt,BitVec.toNat_ofInt]
 have e1:((a:Int) % ((2 ^ 64:Nat):Int)).toNat=a:=by omega
 have e2:(((2 ^ (7*c)*b:Nat):Int) % ((2 ^ 64:Nat):Int)).toNat=2 ^ (7*c)*b:=by omega
 rw[e1,e2,Nat.or_comm,<-Nat.two_pow_add_eq_or_of_lt ha,Nat.add_comm]
 exact Az _ h1
theorem vM (G:Nat->Int->Int->List UInt8->Option ((List UInt8)⊕(Int×List UInt8))) (hG:∀ m v6 v7 v8,G (m+1) v6 v7 v8=bif (!(decide (1<=((v8.length:Int))))) then (some ((Sum.inl v8))) else (Option.bind (et v8 0 1) fun y13=>Option.bind (et v8 1 ((v8.length:Int))) fun y14=>Option.bind (bX y13 0) fun y15=>Option.bind (bif (v7==0) then (some true) else (some (((y15.toNat:Int)) != 0))) fun y17=>Option.bind (bif y17 then (Option.bind (bif (decide (v7<9)) then (some true) else (some (decide (((y15.toNat:Int))<=1)))) fun y22=>some y22) else (some false)) fun y25=>bif (!y25) then (some ((Sum.inl y14))) else (bif decide (0<=(wr .i64 (7*v7))) then (bif (decide (((y15.toNat:Int))<128)) then (some ((Sum.inr ((mF .u64 v6 (sD .u64 (wr .u64 (oN .u8 ((y15.toNat:Int)) 127)) (wr .i64 (7*v7))),y14))))) else (G m (mF .u64 v6 (sD .u64 (wr .u64 (oN .u8 ((y15.toNat:Int)) 127)) (wr .i64 (7*v7)))) (wr .i64 (v7+1)) y14)) else none))) :
  ∀ (l:List UInt8) (m a c:Nat),c<=9->10<=m+c->a<2 ^ (7*c)->match km c l with
   | some (n,r)=>G m (a:Int) (c:Int) l=some (.inr (((a+2 ^ (7*c)*n:Nat):Int),r))
   | none=>∃ r,G m (a:Int) (c:Int) l=some (.inl r)
 | [],m,a,c,hc,hm,ha=>by
  obtain ⟨m,rfl⟩:∃ q,m=q+1:=⟨m - 1,by omega⟩
  rw[km,hG]
  exact⟨_,rfl⟩
 | b :: l,m,a,c,hc,hm,ha=>by
  obtain ⟨m,rfl⟩:∃ q,m=q+1:=⟨m - 1,by omega⟩
  have hb:=b.toNat_lt
  have hs1:et (b :: l) 0 1=some [b]:=by
   unfold et
   rw[show decide ((1:Int)<=((b :: l).length:Int))=true from decide_eq_true (by rw[List.length_cons]; omega)]
   rfl
  have hs2:et (b :: l) 1 ((b :: l).length:Int)=some l:=by
   unfold et
   rw[show decide ((1:Int)<=((b :: l).length:Int))=true from decide_eq_true (by rw[List.length_cons]; omega),decide_eq_true (Int.le_refl _)]
   simp
  have hc1:(bif ((c:Int)==0) then (some true) else (some (((b.toNat:Int)) != 0)))=some (!decide (0<c/\b.toNat=0)):=by
   by_cases h:c=0
   ·subst h; simp
   ·rw[show ((c:Int)==0)=false by simp; omega]
    simp only[cond_false]
    congr 1
    rw[Bool.eq_iff_iff]
    simp
    omega
  have hc2:(bif (decide ((c:Int)<9)) then (some true) else (some (decide (((b.toNat:Int))<=1))))=some (!decide (9<=c/\1<b.toNat)):=by
   by_cases h:c<9
   ·rw[decide_eq_true (by omega)]
    simp only[cond_true]
    congr 1
    rw[Bool.eq_iff_iff]
    simp
    omega
   ·rw[decide_eq_false (by omega)]
    simp only[cond_false]
    congr 1
    rw[Bool.eq_iff_iff]
    simp
    omega
  have e127:oN .u8 ((b.toNat:Int)) 127=((b.toNat % 128:Nat):Int):=Gd ⟨b.toNat,hb⟩
  rw[km,hG,hs1,hs2,decide_eq_true (show (1:Int)<=((b :: l).length:Int) by rw[List.length_cons]; omega)]
  simp only[Bool.not_true,cond_false,Option.bind_some,show bX [b] 0=some b from rfl,hc1,hc2]
  by_cases h:(0<c/\b.toNat=0)∨(9<=c/\1<b.toNat)
  ·rw[if_pos h]
   refine⟨l,?_⟩
   by_cases h5:0<c/\b.toNat=0
   ·rw[decide_eq_true h5]; rfl
   ·rw[decide_eq_false h5,decide_eq_true (show 9<=c/\1<b.toNat by omega)]; rfl
  ·rw[if_neg h,decide_eq_false (show ¬ (0<c/\b.toNat=0) by omega),decide_eq_false (show ¬ (9<=c/\1<b.toNat) by omega)]
   have hb9:c=9->b.toNat % 128<=1:=fun h9=>by omega
   rw[e127,Pc hc hb9 (by omega),O8 hc hb9 (by omega) ha,decide_eq_true (show 0<=wr .i64 (7*(c:Int)) by rw[jP (by omega) (by omega)]; omega)]
   simp only[Bool.not_false,cond_true,Option.bind_some,Bool.not_true,cond_false]
   by_cases h8:b.toNat<128
   ·rw[if_pos h8,decide_eq_true (by omega),Nat.mod_eq_of_lt h8]
    rfl
   ·rw[if_neg h8,decide_eq_false (by omega),jP (n:=(c:Int)+1) (by omega) (by omega)]
    have hlt:a+2 ^ (7*c)*(b.toNat % 128)<2 ^ (7*(c+1)):=by
     rw[pw]
     have:=Nat.mul_le_mul_left (2 ^ (7*c)) (show b.toNat % 128<=127 by omega)
     omega
    have ih:=vM G hG l m (a+2 ^ (7*c)*(b.toNat % 128)) (c+1) (by omega) (by omega) hlt
    rw[show ((c+1:Nat):Int)=(c:Int)+1 by omega] at ih
    simp only[cond_false]
    cases hg:km (c+1) l with
    | none=>rw[hg] at ih; exact ih
    | some p =>
     obtain ⟨n,r⟩:=p
     rw[hg] at ih
     simp only at ih ⊢
     rw[ih,pw]
     congr 4
     rw[Nat.mul_add,show b.toNat % 128=b.toNat - 128 by omega,Nat.add_assoc,Nat.mul_comm 128 (2 ^ (7*c)),Nat.mul_assoc]
theorem E2 (a b:ByteArray):py a b=decide (a=b):=by
 rw[Bool.eq_iff_iff]
 unfold py
 rw[ByteArray.toList_eq,ByteArray.toList_eq]
 cases a; cases b
 simp
theorem Gg (s:ByteArray):nH (jD s)=s:=by cases s; simp[nH,jD]
theorem zy (l:List UInt8):jD (nH l)=l:=by simp[nH,jD]
theorem AL (l:List UInt8):(nH l).size=l.length:=by rw[<-fT,zy]
theorem pR {s:ByteArray}:emp s=true↔s=ByteArray.empty:=by
 unfold emp
 rw[E2,decide_eq_true_iff]
 rfl
def sg (u:Nat):Int:=if u % 2=1 then -((u / 2:Nat):Int) - 1 else ((u / 2:Nat):Int)
theorem GZ (n:Int):sg (vQ n)=n:=by unfold sg vQ; split<;>split<;>omega
theorem DB (u:Nat):vQ (sg u)=u:=by unfold sg; split<;>(unfold vQ; split<;>omega)
theorem JE {u:Nat} (h:u<18446744073709551616):fS (sg u):=by unfold sg fS; split<;>omega
theorem JH (z:Int):wr .i64 z=if 9223372036854775808<=z % 18446744073709551616 then z % 18446744073709551616 - 18446744073709551616 else z % 18446744073709551616:=by
 simp only[wr,IntKind.wrap,IntKind.bits,IntKind.signed]
 simp
theorem K3 (z:Int) (h:-9223372036854775808<=z) (h':z<=9223372036854775807):wr .i64 ((BitVec.ofInt 64 z).toNat:Int)=z:=by
 rw[JH,BitVec.toNat_ofInt]
 split<;>omega
theorem zj (a:Int) (h:0<=a) (h':a<=9223372036854775807):qF .i64 a 0=a:=by
 unfold qF
 show wr .i64 ((BitVec.ofInt 64 a ^^^ BitVec.ofInt 64 0).toNat:Int)=a
 rw[show BitVec.ofInt 64 0=0#64 from rfl,BitVec.xor_zero]
 exact K3 a (by omega) h'
theorem zi (a:Int) (h:0<=a) (h':a<=9223372036854775807):qF .i64 a (-1)=-a - 1:=by
 unfold qF
 show wr .i64 ((BitVec.ofInt 64 a ^^^ BitVec.ofInt 64 (-1)).toNat:Int)=_
 rw[show BitVec.ofInt 64 (-1)=BitVec.allOnes 64 from rfl,BitVec.xor_allOnes,BitVec.toNat_not,JH,BitVec.toNat_ofInt]
 split<;>omega
theorem KZ (u:Nat) (h:u<18446744073709551616):oN .u64 (u:Int) 1=((u % 2:Nat):Int):=by
 unfold oN
 show wr .u64 ((BitVec.ofInt 64 (u:Int) &&& BitVec.ofInt 64 1).toNat:Int)=_
 rw[BitVec.toNat_and,BitVec.toNat_ofInt,show (BitVec.ofInt 64 1).toNat=1 from rfl,Nat.and_one_is_mod,show ((u:Int) % ((2 ^ 64:Nat):Int)).toNat=u by omega,Az _ (by omega)]
theorem O1 (u:Nat) (h:u<18446744073709551616):Bo (u:Int)=some (sg u):=by
 unfold Bo DQ
 have e1:ng .u64 (u:Int) 1=((u / 2:Nat):Int):=by
  unfold ng
  show Int.fdiv (u:Int) (2 ^ 1)=_
  rw[Int.fdiv_eq_ediv_of_nonneg _ (by decide)]
  rfl
 rw[e1,KZ u h,jP (n:=((u / 2:Nat):Int)) (by omega) (by omega),jP (n:=((u % 2:Nat):Int)) (by omega) (by omega),jP (by omega) (by omega)]
 congr 1
 unfold sg
 by_cases h2:u % 2=1
 ·rw[if_pos h2,h2,show (0:Int) - ((1:Nat):Int)=-1 from rfl,zi _ (by omega) (by omega)]
 ·rw[if_neg h2,show u % 2=0 by omega,show (0:Int) - ((0:Nat):Int)=0 from rfl,zj _ (by omega) (by omega)]
def jL (f:List UInt8->Option (ar×List UInt8)):Nat->List UInt8->Option (List ar×List UInt8)
 | 0,l=>some ([],l)
 | n+1,l=>match f l with
  | none=>none
  | some (v,r)=>match jL f n r with
   | none=>none
   | some (vs,t)=>some (v :: vs,t)
def rL (b:UInt8) (l:List UInt8) (h:Nat->List UInt8->Option (List ar×List UInt8)):Option (ar×List UInt8) :=
 if b.toNat=1 then (match km 0 l with
  | none=>none
  | some (n,r)=>some (.mk 1 (sg n) ByteArray.empty [],r))
 else if b.toNat=2 then (match km 0 l with
  | none=>none
  | some (n,r)=>if n<=r.length then some (.mk 2 0 (nH (r.take n)) [],r.drop n) else none)
 else if b.toNat=3 then (match km 0 l with
  | none=>none
  | some (n,r)=>if n<=r.length then (match h n r with
   | none=>none
   | some (vs,t)=>some (.mk 3 0 ByteArray.empty vs,t)) else none)
 else none
def iI:Nat->List UInt8->Option (ar×List UInt8)
 | _,[]=>none
 | 0,b :: l=>rL b l fun _ _=>none
 | k+1,b :: l=>rL b l (jL (iI k))
def KR (k:Nat) (l:List UInt8) (v:ar) (r:List UInt8):Prop:=l=jI v++r/\ta v=true/\dep v<=k/\bS v/\qD v<=(jI v).length
theorem tY {f:List UInt8->Option (ar×List UInt8)} {k:Nat} (hf:∀ l v r,l.length<=1000000->f l=some (v,r)->KR k l v r):∀ (n:Nat) (l:List UInt8) (vs:List ar) (r:List UInt8),l.length<=1000000->jL f n l=some (vs,r) ->
  l=kj vs++r/\kO vs=true/\mC vs<=k/\(∀ e∈vs,bS e)/\jN vs<=(kj vs).length/\vs.length=n
 | 0,l,vs,r,_,h=>by
  rw[jL] at h; cases h
  refine⟨?_,rH,by rw[oX]; omega,fun _ h=>absurd h (List.not_mem_nil),by rw[lj]; omega,rfl⟩
  rw[mN]; rfl
 | n+1,l,vs,r,hl,h=>by
  rw[jL] at h
  split at h
  ·cases h
  rename_i v t hv
  split at h
  ·cases h
  rename_i ws u hw
  cases h
  obtain ⟨h1,h2,h3,h4,h5⟩:=hf l v t hl hv
  rw[h1,List.length_append] at hl
  obtain ⟨g1,g2,g3,g4,g5,g6⟩:=tY hf n t ws r (by omega) hw
  refine⟨?_,?_,?_,?_,?_,?_⟩
  ·rw[h1,g1,fL,List.append_assoc]
  ·rw[nz,h2,g2]; rfl
  ·rw[kJ]; omega
  ·intro e he
   rcases List.mem_cons.1 he with rfl | he
   ·exact h4
   ·exact g4 e he
  ·rw[jl,fL,List.length_append]; omega
  ·rw[List.length_cons,g6]
theorem Mw {b:UInt8} {n:Nat} (h:b.toNat=n):b=UInt8.ofNat n:=by rw[<-h,UInt8.ofNat_toNat]
theorem wU {h:Nat->List UInt8->Option (List ar×List UInt8)} {k:Nat} {b:UInt8} {l:List UInt8} {v:ar} {r:List UInt8} (hl:l.length<=1000000)
  (hh:∀ n t vs u,t.length<=1000000->h n t=some (vs,u)->t=kj vs++u/\kO vs=true/\mC vs+1<=k/\(∀ e∈vs,bS e)/\jN vs<=(kj vs).length/\vs.length=n)
  (e:rL b l h=some (v,r)):KR k (b :: l) v r:=by
 have okm:m8=9223372036854775807:=rfl
 unfold rL at e
 split at e
 ·rename_i h1
  split at e
  ·cases e
  rename_i n t hn
  obtain ⟨h2,h3,_⟩:=kW hn
  cases e
  refine⟨?_,?_,?_,?_,?_⟩
  ·rw[Mw h1,h2,dN]
   simp only[show ((1:Int)==1)=true from rfl,cond_true,DB]
   rfl
  ·rw[mV]
   simp only[show ((1:Int)==1)=true from rfl,cond_true,pR.2]
   rfl
  ·rw[n4]
   simp only[show ((1:Int)==3)=false from rfl,cond_false]
   omega
  ·exact(dV _).2 ⟨⟨by simp,by simp⟩,JE h3,by simp,by simp,fun _ h=>absurd h List.not_mem_nil⟩
  ·rw[iY,dN]
   simp only[show ((1:Int)==1)=true from rfl,cond_true,DB,lj,List.length_cons]
   have:(ByteArray.empty:ByteArray).size=0:=rfl
   omega
 split at e
 ·rename_i h1
  split at e
  ·cases e
  rename_i n t hn
  obtain ⟨h2,h3,h4⟩:=kW hn
  split at e
  ·rename_i h5
   cases e
   have hs:(nH (t.take n)).size=n:=by rw[AL,List.length_take]; omega
   refine⟨?_,?_,?_,?_,?_⟩
   ·rw[Mw h1,h2,dN]
    simp only[show ((2:Int)==1)=false from rfl,show ((2:Int)==2)=true from rfl,cond_true,cond_false,hs,zy]
    rw[List.cons_append,List.append_assoc,List.take_append_drop]
    rfl
   ·rw[mV]
    rfl
   ·rw[n4]
    simp only[show ((2:Int)==3)=false from rfl,cond_false]
    omega
   ·refine(dV _).2 ⟨⟨by simp,by simp⟩,⟨by simp,by simp⟩,?_,by simp,fun _ h=>absurd h List.not_mem_nil⟩
    show (nH (t.take n)).size<=m8
    rw[hs]; omega
   ·rw[iY,dN]
    simp only[show ((2:Int)==1)=false from rfl,show ((2:Int)==2)=true from rfl,cond_true,cond_false,lj,List.length_cons,List.length_append,fT,hs]
    omega
  ·cases e
 split at e
 ·rename_i h1
  split at e
  ·cases e
  rename_i n t hn
  obtain ⟨h2,h3,h4⟩:=kW hn
  split at e
  ·rename_i h5
   split at e
   ·cases e
   rename_i vs u hv
   cases e
   obtain ⟨g1,g2,g3,g4,g5,g6⟩:=hh n t vs r (by omega) hv
   refine⟨?_,?_,?_,?_,?_⟩
   ·rw[Mw h1,h2,dN,g1]
    simp only[show ((3:Int)==1)=false from rfl,show ((3:Int)==2)=false from rfl,cond_false,g6]
    rw[List.cons_append,List.append_assoc]
    rfl
   ·rw[mV]
    simp only[show ((3:Int)==1)=false from rfl,show ((3:Int)==2)=false from rfl,show ((3:Int)==3)=true from rfl,cond_true,cond_false,g2,pR.2]
    rfl
   ·rw[n4]
    simp only[show ((3:Int)==3)=true from rfl,cond_true]
    omega
   ·refine(dV _).2 ⟨⟨by simp,by simp⟩,⟨by simp,by simp⟩,by simp,?_,g4⟩
    show vs.length<=m8
    omega
   ·rw[iY,dN]
    simp only[show ((3:Int)==1)=false from rfl,show ((3:Int)==2)=false from rfl,cond_false,List.length_cons,List.length_append]
    have:(ByteArray.empty:ByteArray).size=0:=rfl
    omega
  ·cases e
 ·cases e
theorem wY:∀ (k:Nat) (l:List UInt8) (v:ar) (r:List UInt8),l.length<=1000000->iI k l=some (v,r)->KR k l v r
 | 0,[],v,r,_,h=>by rw[iI] at h; cases h
 | k+1,[],v,r,_,h=>by rw[iI] at h; cases h
 | 0,b :: l,v,r,hl,h=>by
  rw[iI] at h
  rw[List.length_cons] at hl
  exact wU (by omega) (fun _ _ _ _ _ h=>by cases h) h
 | k+1,b :: l,v,r,hl,h=>by
  rw[iI] at h
  rw[List.length_cons] at hl
  refine wU (by omega) (fun n t vs u ht hv=>?_) h
  obtain ⟨g1,g2,g3,g4,g5,g6⟩:=tY (fun l v r hl h=>wY k l v r hl h) n t vs u ht hv
  exact⟨g1,g2,by omega,g4,g5,g6⟩
theorem D9 (v:ar):1<=(jI v).length:=by
 rw[dN]
 cases v.Kind==1 with
 | true=>simp
 | false=>cases v.Kind==2<;>simp
theorem zK:∀ l:List ar,l.length<=(kj l).length
 | []=>by simp
 | x :: r=>by rw[fL,List.length_append,List.length_cons]; have:=D9 x; have:=zK r; omega
theorem tX {f:List UInt8->Option (ar×List UInt8)}:∀ (vs:List ar) (t:List UInt8),(∀ e∈vs,∀ t,f (jI e++t)=some (e,t))->jL f vs.length (kj vs++t)=some (vs,t)
 | [],t,_=>by rw[mN]; rfl
 | x :: r,t,h=>by
  rw[List.length_cons,jL,fL,List.append_assoc,h x (List.mem_cons_self ..)]
  simp only
  rw[tX r t fun e he=>h e (List.mem_cons_of_mem _ he)]
theorem wx:∀ {l:List ar} {x:ar},x∈l->dep x<=mC l
 | y :: r,x,h=>by
  rw[kJ]
  rcases List.mem_cons.1 h with rfl | h
  ·omega
  ·have:=wx h; omega
theorem wX:∀ (k:Nat) (v:ar) (t:List UInt8),ta v=true->dep v<=k->bS v->iI k (jI v++t)=some (v,t)
 | k,v,t,hf,hd,hv=>by
  obtain ⟨_,h2,h3,h4,h5⟩:=(dV v).1 hv
  unfold m8 at h3 h4
  obtain ⟨K,N,S,L⟩:=v
  simp only at h2 h3 h4 h5
  have hf':=hf
  rw[mV] at hf'
  simp only at hf'
  rw[dN]
  rcases mW hf with hk | hk | ⟨hk,hfs⟩
  ·simp only at hk
   subst hk
   simp only[show ((1:Int)==1)=true from rfl,cond_true,Bool.and_eq_true,pR] at hf' ⊢
   have e:iI k ((1:UInt8) :: num (vQ N)++t)=rL 1 (num (vQ N)++t) (match k with | 0=>fun _ _=>none | k+1=>jL (iI k)):=by
    rw[List.cons_append]
    cases k<;>rw[iI]
   rw[e]
   unfold rL
   rw[if_pos (by decide),rM (qg h2)]
   simp only[GZ]
   obtain ⟨rfl,h6⟩:=hf'
   have:L=[]:=by
    cases L with
    | nil=>rfl
    | cons a r=>simp at h6; omega
   rw[this]
  ·simp only at hk
   subst hk
   simp only[show ((2:Int)==1)=false from rfl,show ((2:Int)==2)=true from rfl,cond_true,cond_false,Bool.and_eq_true] at hf' ⊢
   have e:iI k ((2:UInt8) :: (num S.size++jD S)++t)=rL 2 (num S.size++(jD S++t)) (match k with | 0=>fun _ _=>none | k+1=>jL (iI k)):=by
    rw[List.cons_append,List.append_assoc]
    cases k<;>rw[iI]
   rw[e]
   unfold rL
   rw[if_neg (by decide),if_pos (by decide),rM (by omega)]
   simp only
   have hsz:=fT S
   rw[if_pos (by rw[List.length_append]; omega),<-hsz,List.take_left,List.drop_left,Gg]
   obtain ⟨h7,h6⟩:=hf'
   have:L=[]:=by
    cases L with
    | nil=>rfl
    | cons a r=>simp at h6; omega
   have h8:N=0:=by simpa using h7
   rw[this,h8]
  ·simp only at hk hfs
   subst hk
   simp only[show ((3:Int)==1)=false from rfl,show ((3:Int)==2)=false from rfl,show ((3:Int)==3)=true from rfl,cond_true,cond_false,Bool.and_eq_true,pR] at hf' ⊢
   rw[n4] at hd
   simp only[show ((3:Int)==3)=true from rfl,cond_true] at hd
   obtain ⟨k,rfl⟩:∃ q,k=q+1:=⟨k - 1,by omega⟩
   rw[List.cons_append,List.append_assoc,iI]
   unfold rL
   have hlen:=zK L
   rw[if_neg (by decide),if_neg (by decide),if_pos (by decide),rM (by omega)]
   simp only
   rw[if_pos (by rw[List.length_append]; omega),tX L t fun e he t=>wX k e t (kP hfs e he) (by have:=wx he; omega) (h5 e he)]
   simp only
   obtain ⟨h7,h6,rfl⟩:=hf'
   have h8:N=0:=by simpa using h6
   rw[h8]
theorem HJ (l:List ar) (x:ar) (h:l.length<=1000000):dS 56 l [x]=some (l++[x]):=tH _ _ _ (by rw[MY]; simp; omega)
theorem Cu {k:Nat} {l:List UInt8} {v:ar} {r:List UInt8} (hl:l.length<=1000000) (h:iI k l=some (v,r)):r.length<=l.length:=by
 have:=(wY k l v r hl h).1
 rw[this,List.length_append]; omega
theorem CP (f:List UInt8->Option (ar×List UInt8)) (self:(List UInt8)->Int->Option (Bool×ar×(List UInt8))) (N d n:Nat) (z0 z1:Int) (z2:ByteArray) (hd:d<=16) (hn:n<=1000000)
  (hf:∀ l:List UInt8,l.length<=1000000->match f l with
   | some (v,r)=>self l ((d:Int)+1)=some (true,v,r)/\r.length<=l.length
   | none=>∃ v r,self l ((d:Int)+1)=some (false,v,r)) :
  ∀ (k m i:Nat) (l:List UInt8) (acc:List ar),i+k=n->k<m->l.length<=1000000->acc.length<=i->match jL f k l with
   | some (vs,r)=>gn self N (d:Int) (n:Int) z0 z1 z2 m (i:Int) l acc=some (.inr (r,acc++vs))
   | none=>∃ x,gn self N (d:Int) (n:Int) z0 z1 z2 m (i:Int) l acc=some (.inl x)
 | 0,m,i,l,acc,h1,h2,h3,h4=>by
  obtain ⟨m,rfl⟩:∃ q,m=q+1:=⟨m - 1,by omega⟩
  rw[jL,gn,decide_eq_false (by omega)]
  simp
 | k+1,m,i,l,acc,h1,h2,h3,h4=>by
  obtain ⟨m,rfl⟩:∃ q,m=q+1:=⟨m - 1,by omega⟩
  have hl:=hf l h3
  rw[jL,gn,decide_eq_true (by omega),jP (n:=(d:Int)+1) (by omega) (by omega),jP (n:=(i:Int)+1) (by omega) (by omega)]
  simp only[cond_true]
  cases hv:f l with
  | none =>
   rw[hv] at hl
   obtain ⟨v,r,hl⟩:=hl
   simp only
   rw[hl]
   exact⟨_,rfl⟩
  | some p =>
   obtain ⟨v,r⟩:=p
   rw[hv] at hl
   simp only at hl ⊢
   rw[hl.1]
   simp only[Option.bind_some,cond_true]
   rw[HJ _ _ (by omega),Option.bind_some,show (i:Int)+1=((i+1:Nat):Int) by omega]
   have ih:=CP f self N d n z0 z1 z2 hd hn hf k m (i+1) r (acc++[v]) (by omega) (by omega) (by omega) (by simp; omega)
   cases hr:jL f k r with
   | none=>rw[hr] at ih; exact ih
   | some p =>
    obtain ⟨vs,t⟩:=p
    rw[hr] at ih
    simp only at ih ⊢
    rw[ih]; simp
theorem b1 {b:UInt8} (n:Nat) (h:n<256):(wr .i64 ((b.toNat:Int))==(n:Int))=decide (b.toNat=n):=by
 have:=b.toNat_lt
 rw[jP (by omega) (by omega),Bool.eq_iff_iff]
 simp
 omega
theorem Kn:∀ (k N d:Nat) (l:List UInt8),d+k=16->2000000+k<=N->l.length<=1000000->match iI k l with
  | some (v,r)=>Bl N l (d:Int)=some (true,v,r)
  | none=>∃ v r,Bl N l (d:Int)=some (false,v,r)
 | k,N,d,[],hd,hN,hl=>by
  obtain ⟨N,rfl⟩:∃ q,N=q+1:=⟨N - 1,by omega⟩
  have:iI k []=none:=by cases k<;>rw[iI]
  rw[this]
  show ∃ v r,(bif Nat.ble 8 N then vV (Bl N) (N - 8) [] d else none)=_
  rw[Nat.ble_eq_true_of_le (by omega:8<=N)]
  exact⟨_,_,rfl⟩
 | k,N,d,b :: l,hd,hN,hl=>by
  obtain ⟨N,rfl⟩:∃ q,N=q+1:=⟨N - 1,by omega⟩
  rw[List.length_cons] at hl
  have hb:=b.toNat_lt
  have hs1:et (b :: l) 0 1=some [b]:=by
   unfold et
   rw[show decide ((1:Int)<=((b :: l).length:Int))=true from decide_eq_true (by rw[List.length_cons]; omega)]
   rfl
  have hs2:et (b :: l) 1 ((b :: l).length:Int)=some l:=by
   unfold et
   rw[show decide ((1:Int)<=((b :: l).length:Int))=true from decide_eq_true (by rw[List.length_cons]; omega),decide_eq_true (Int.le_refl _)]
   simp
  have eW:Bl (N+1) (b :: l) (d:Int)=vV (Bl N) (N - 8) (b :: l) (d:Int):=by
   show (bif Nat.ble 8 N then vV (Bl N) (N - 8) (b :: l) d else none)=_
   rw[Nat.ble_eq_true_of_le (by omega:8<=N)]; rfl
  have eg:iI k (b :: l)=rL b l (match k with | 0=>fun _ _=>none | k+1=>jL (iI k)):=by cases k<;>rw[iI]
  rw[eW,eg]
  unfold vV
  rw[hs1,hs2,decide_eq_true (show (1:Int)<=((b :: l).length:Int) by rw[List.length_cons]; omega)]
  simp only[Bool.not_true,cond_false,Option.bind_some,show bX [b] 0=some b from rfl]
  rw[show (wr .i64 ((b.toNat:Int))==1)=decide (b.toNat=1) from b1 1 (by omega),show (wr .i64 ((b.toNat:Int))==2)=decide (b.toNat=2) from b1 2 (by omega),show (wr .i64 ((b.toNat:Int))==3)=decide (b.toNat=3) from b1 3 (by omega),jP (n:=(b.toNat:Int)) (by omega) (by omega)]
  unfold rL
  by_cases h1:b.toNat=1
  ·rw[if_pos h1,decide_eq_true h1]
   have hr:=vM (eB (N - 8+1)) (fun _ _ _ _=>rfl) l (N - 8+7) 0 0 (by omega) (by omega) (by decide)
   simp only[cond_true]
   cases hg:km 0 l with
   | none =>
    rw[hg] at hr
    obtain ⟨r,hr⟩:=hr
    refine⟨default,r,?_⟩
    exact(congrArg (fun x=>Option.bind x _) hr).trans rfl
   | some p =>
    obtain ⟨n,r⟩:=p
    rw[hg] at hr
    obtain ⟨_,hn,_⟩:=kW hg
    simp only at hr ⊢
    refine(congrArg (fun x=>Option.bind x _) hr).trans ?_
    rw[show (0+2 ^ (7*0)*n:Nat)=n by omega]
    simp only[Option.bind_some,O1 n hn]
    rw[h1]; rfl
  rw[if_neg h1,decide_eq_false h1]
  simp only[cond_false]
  by_cases h2:b.toNat=2
  ·rw[if_pos h2,decide_eq_true h2]
   have hr:=vM (eB (N - 8)) (fun _ _ _ _=>rfl) l (N - 8+6) 0 0 (by omega) (by omega) (by decide)
   simp only[cond_true]
   cases hg:km 0 l with
   | none =>
    rw[hg] at hr
    obtain ⟨r,hr⟩:=hr
    refine⟨default,r,?_⟩
    exact(congrArg (fun x=>Option.bind x _) hr).trans rfl
   | some p =>
    obtain ⟨n,r⟩:=p
    rw[hg] at hr
    obtain ⟨_,hn,hrl⟩:=kW hg
    simp only at hr ⊢
    by_cases hnr:n<=r.length
    ·rw[if_pos hnr]
     refine(congrArg (fun x=>Option.bind x _) hr).trans ?_
     rw[show (0+2 ^ (7*0)*n:Nat)=n by omega]
     simp only[Option.bind_some]
     rw[Az _ (show r.length<18446744073709551616 by omega),jP (n:=(n:Int)) (by omega) (by omega),decide_eq_true (show (n:Int)<=(r.length:Int) by omega)]
     simp only[Bool.not_true,cond_false]
     unfold et
     rw[decide_eq_true (show (n:Int)<=(r.length:Int) by omega),decide_eq_true (show (0:Int)<=(n:Int) by omega),decide_eq_true (Int.le_refl _)]
     simp[h2]
     exact List.take_of_length_le (by simp)
    ·rw[if_neg hnr]
     refine⟨default,r,?_⟩
     refine(congrArg (fun x=>Option.bind x _) hr).trans ?_
     rw[show (0+2 ^ (7*0)*n:Nat)=n by omega]
     simp only[Option.bind_some]
     rw[Az _ (show r.length<18446744073709551616 by omega),decide_eq_false (show ¬ (n:Int)<=(r.length:Int) by omega)]
     rfl
  rw[if_neg h2,decide_eq_false h2]
  simp only[cond_false]
  by_cases h3:b.toNat=3
  ·rw[if_pos h3,decide_eq_true h3]
   simp only[cond_true]
   cases k with
   | zero =>
    rw[decide_eq_false (show ¬ ((d:Int)<16) by omega)]
    have:∃ v r,(bif !false then some (false,(default:ar),l) else none)=some (false,v,r):=⟨_,_,rfl⟩
    cases hg:km 0 l with
    | none=>exact⟨_,_,rfl⟩
    | some p =>
     obtain ⟨n,r⟩:=p
     simp only
     split<;>rename_i hx
     ·split at hx<;>cases hx
     ·exact⟨_,_,rfl⟩
   | succ k =>
    rw[decide_eq_true (show ((d:Int)<16) by omega)]
    have hr:=vM (eB (N - 8)) (fun _ _ _ _=>rfl) l (N - 8+6) 0 0 (by omega) (by omega) (by decide)
    simp only[Bool.not_true,cond_false]
    cases hg:km 0 l with
    | none =>
     rw[hg] at hr
     obtain ⟨r,hr⟩:=hr
     refine⟨default,r,?_⟩
     exact(congrArg (fun x=>Option.bind x _) hr).trans rfl
    | some p =>
     obtain ⟨n,r⟩:=p
     rw[hg] at hr
     obtain ⟨_,hn,hrl⟩:=kW hg
     simp only at hr ⊢
     by_cases hnr:n<=r.length
     ·rw[if_pos hnr]
      have hL:=CP (iI k) (Bl N) (N - 8) d n (b.toNat:Int) 0 ByteArray.empty (by omega) (by omega) (fun l hl=>by
       have:=Kn k N (d+1) l (by omega) (by omega) hl
       cases hgv:iI k l with
       | none=>rw[hgv] at this; exact this
       | some p =>
        obtain ⟨v,r⟩:=p
        rw[hgv] at this
        exact⟨this,Cu hl hgv⟩) n (N - 8+8) 0 r [] (by omega) (by omega) (by omega) (by simp)
      cases hls:jL (iI k) n r with
      | none =>
       rw[hls] at hL
       obtain ⟨x,hL⟩:=hL
       refine⟨default,x,?_⟩
       refine(congrArg (fun x=>Option.bind x _) hr).trans ?_
       rw[show (0+2 ^ (7*0)*n:Nat)=n by omega]
       simp only[Option.bind_some]
       rw[Az _ (show r.length<18446744073709551616 by omega),jP (n:=(n:Int)) (by omega) (by omega),decide_eq_true (show (n:Int)<=(r.length:Int) by omega)]
       simp only[Bool.not_true,cond_false]
       exact(congrArg (fun x=>Option.bind x _) hL).trans rfl
      | some p =>
       obtain ⟨vs,t⟩:=p
       rw[hls] at hL
       simp only at hL ⊢
       refine(congrArg (fun x=>Option.bind x _) hr).trans ?_
       rw[show (0+2 ^ (7*0)*n:Nat)=n by omega]
       simp only[Option.bind_some]
       rw[Az _ (show r.length<18446744073709551616 by omega),jP (n:=(n:Int)) (by omega) (by omega),decide_eq_true (show (n:Int)<=(r.length:Int) by omega)]
       simp only[Bool.not_true,cond_false]
       refine(congrArg (fun x=>Option.bind x _) hL).trans ?_
       rw[h3]; rfl
     ·rw[if_neg hnr]
      refine⟨default,r,?_⟩
      refine(congrArg (fun x=>Option.bind x _) hr).trans ?_
      rw[show (0+2 ^ (7*0)*n:Nat)=n by omega]
      simp only[Option.bind_some]
      rw[Az _ (show r.length<18446744073709551616 by omega),decide_eq_false (show ¬ (n:Int)<=(r.length:Int) by omega)]
      rfl
  ·rw[if_neg h3,decide_eq_false h3]
   exact⟨_,_,rfl⟩
def AO (bs:List UInt8):ar×Int:=match iI 16 bs with
 | some (v,[])=>(v,0)
 | _=>(.mk 0 0 ByteArray.empty [],10)
theorem O0 (bs:List UInt8) (h:bs.length<=1000000):Hw bs=some (AO bs):=by
 unfold Hw J4
 have hw:=Kn 16 (aH+8) 0 bs (by omega) (by rw[fu]; omega) h
 rw[show ((0:Nat):Int)=0 from rfl] at hw
 unfold AO
 cases hg:iI 16 bs with
 | none =>
  rw[hg] at hw
  obtain ⟨v,r,hw⟩:=hw
  rw[hw]; rfl
 | some p =>
  obtain ⟨v,r⟩:=p
  rw[hg] at hw
  simp only at hw
  rw[hw]
  cases r with
  | nil=>rfl
  | cons a r =>
   have:(((a :: r).length:Int)==0)=false:=by simp; omega
   simp only[Option.bind_some,cond_true]
   rw[this]; rfl
theorem Cl {v:ar} (hc:gP v=0) (hv:bS v):AO (jI v)=(v,0):=by
 have hf:=zC hc
 have hd:dep v<=16:=by
  unfold gP at hc
  rw[hf] at hc
  simp only[cond_true] at hc
  rcases Nat.lt_or_ge 16 (dep v) with h | h
  ·rw[decide_eq_true h] at hc; cases hc
  ·exact h
 unfold AO
 have:=wX 16 v [] hf hd hv
 rw[List.append_nil] at this
 rw[this]
end Go.Proofs.Ytdmgdjnadbakfaa
