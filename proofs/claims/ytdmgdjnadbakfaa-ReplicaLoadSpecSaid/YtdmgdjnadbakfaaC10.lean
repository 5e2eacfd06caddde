/-
 Layer 01, in plain Lean: the reference's Decode.
-/
import Derived.Test.YtdmgdjnadbakfaaL
import Derived.Test.YtdmgdjnadbakfaaPure
import Derived.KernelRfl
namespace Go.Proofs.Ytdmgdjnadbakfaa
set_option linter.unusedVariables false
set_option linter.unusedSimpArgs false
set_option maxRecDepth 100000
set_option maxHeartbeats 4000000
theorem fu:aC=1208925819614629174706176:=rfl
mutual
def mf:ai->Nat
 | .mk _ _ s l=>1+s.size / 200+jJ l
def jJ:List ai->Nat
 | []=>0
 | x :: r=>mf x+jJ r
end
theorem ek (v:ai):mf v=1+v.S.size / 200+jJ v.L:=by cases v; rw[mf]
theorem nR (v:ai):1<=mf v:=by rw[ek]; omega
theorem lq:jJ []=0:=by rw[jJ]
theorem jf (x:ai) (r:List ai):jJ (x :: r)=mf x+jJ r:=by rw[jJ]
theorem dW:∀ l:List ai,l.length<=jJ l
 | []=>Nat.zero_le _
 | x :: r=>by rw[jf,List.length_cons]; have:=dW r; have:=nR x; omega
theorem gx:∀ {l:List ai} {x:ai},x∈l->mf x<=jJ l
 | y :: r,x,h=>by
  rw[jf]
  rcases List.mem_cons.1 h with rfl | h
  ·omega
  ·have:=gx h; omega
def emp (s:ByteArray):Bool:=iQ s (ByteArray.mk #[])
mutual
def qU:ai->Bool
 | .mk k n s l=>bif k==1 then emp s&&((l.length:Int)==0) else bif k==2 then (n==0)&&((l.length:Int)==0) else bif k==3 then jP l&&((n==0)&&emp s) else false
def jP:List ai->Bool
 | []=>true
 | x :: r=>qU x&&jP r
end
mutual
def dep:ai->Nat
 | .mk k _ _ l=>bif k==3 then mJ l+1 else 0
def mJ:List ai->Nat
 | []=>0
 | x :: r=>max (dep x) (mJ r)
end
theorem m6 (v:ai):qU v=bif v.Kind==1 then emp v.S&&((v.L.length:Int)==0) else bif v.Kind==2 then (v.N==0)&&((v.L.length:Int)==0) else bif v.Kind==3 then jP v.L&&((v.N==0)&&emp v.S) else false:=by cases v; rw[qU]
theorem ow (v:ai):dep v=bif v.Kind==3 then mJ v.L+1 else 0:=by cases v; rw[dep]
theorem pI:jP []=true:=by rw[jP]
theorem kI (x:ai) (r:List ai):jP (x :: r)=(qU x&&jP r):=by rw[jP]
theorem mT:mJ []=0:=by rw[mJ]
theorem kF (x:ai) (r:List ai):mJ (x :: r)=max (dep x) (mJ r):=by rw[mJ]
mutual
theorem EH:∀ v:ai,dep v<=mf v
 | .mk k n s l=>by
  rw[dep,mf]
  have:=py l
  cases k==3<;>simp<;>omega
theorem py:∀ l:List ai,mJ l<=jJ l
 | []=>by rw[mT]; omega
 | x :: r=>by
  rw[kF,jf]
  have:=EH x; have:=py r; omega
end
theorem DA (self:ai->Option Int) (n:Nat) (z:Int) (v:ai) (hn:mf v<=1000000) (hself:∀ e∈v.L,self e=some (dep e:Int)) :
  ∀ (k m i d:Nat),i+k=v.L.length->k<m->jw self n z v m (d:Int) (i:Int)=some ((max d (mJ (v.L.drop i)):Nat):Int)
 | 0,m,i,d,h1,h2=>by
  obtain ⟨m,rfl⟩:∃ q,m=q+1:=⟨m - 1,by omega⟩
  rw[jw,decide_eq_false (by omega),List.drop_eq_nil_iff.2 (by omega),mT]
  simp
 | k+1,m,i,d,h1,h2=>by
  obtain ⟨m,rfl⟩:∃ q,m=q+1:=⟨m - 1,by omega⟩
  have hi:i<v.L.length:=by omega
  have hl:=dW v.L
  rw[ek] at hn
  rw[jw,decide_eq_true (by omega),List.drop_eq_getElem_cons hi,kF]
  simp only[cond_true,bL,List.getElem?_eq_getElem hi,Option.bind_some,hself _ (List.getElem_mem hi)]
  rw[eu (by omega) (by omega),show (i:Int)+1=((i+1:Nat):Int) by omega,show (if (d:Int)<(dep v.L[i]:Int) then (dep v.L[i]:Int) else (d:Int))=((max d (dep v.L[i]):Nat):Int) by split<;>omega]
  rw[DA self n z v (by rw[ek]; exact hn) hself k m (i+1) _ (by omega) (by omega)]
  congr 2
  omega
theorem BU:∀ (q:Nat) (v:ai),mf v<=q->mf v<=1000000->Gg q v=some (dep v:Int)
 | 0,v,h,_=>by have:=nR v; omega
 | q+1,v,h,hn=>by
  show IL (Gg q) aC v=_
  unfold IL
  rw[ow]
  cases hk:v.Kind==3 with
  | false=>rw[show (v.Kind != 3)=true by rw[bne,hk]; rfl]; rfl
  | true =>
   rw[show (v.Kind != 3)=false by rw[bne,hk]; rfl]
   have hl:=dW v.L
   have hn':=hn
   rw[ek] at hn' h
   have:=DA (Gg q) aC 0 v hn (fun e he=>by
    have:=gx he
    exact BU q e (by omega) (by omega)) v.L.length (aC+8) 0 0 (by omega) (by rw[fu]; omega)
   rw[show ((0:Nat):Int)=0 from rfl] at this
   simp only[cond_false,this,Option.bind_some,List.drop_zero,cond_true]
   have hd:=py v.L
   rw[eu (by omega) (by omega)]
   first | done | (congr 1; try omega)
theorem Dz (self:ai->Option Bool) (n:Nat) (z:Bool) (v:ai) (hn:mf v<=1000000) (hself:∀ e∈v.L,self e=some (qU e)) :
  ∀ (k m i:Nat),i+k=v.L.length->k<m->jv self n z v m (i:Int)=some (bif jP (v.L.drop i) then .inr () else .inl false)
 | 0,m,i,h1,h2=>by
  obtain ⟨m,rfl⟩:∃ q,m=q+1:=⟨m - 1,by omega⟩
  rw[jv,decide_eq_false (by omega),List.drop_eq_nil_iff.2 (by omega),pI]
  rfl
 | k+1,m,i,h1,h2=>by
  obtain ⟨m,rfl⟩:∃ q,m=q+1:=⟨m - 1,by omega⟩
  have hi:i<v.L.length:=by omega
  have hl:=dW v.L
  rw[ek] at hn
  rw[jv,decide_eq_true (by omega),List.drop_eq_getElem_cons hi,kI]
  simp only[cond_true,bL,List.getElem?_eq_getElem hi,Option.bind_some,hself _ (List.getElem_mem hi)]
  cases qU v.L[i] with
  | false=>rfl
  | true =>
   rw[eu (by omega) (by omega),show (i:Int)+1=((i+1:Nat):Int) by omega]
   exact Dz self n z v (by rw[ek]; exact hn) hself k m (i+1) (by omega) (by omega)
theorem vO:∀ (q:Nat) (v:ai),mf v<=q->mf v<=1000000->Gf q v=some (qU v)
 | 0,v,h,_=>by have:=nR v; omega
 | q+1,v,h,hn=>by
  show IK (Gf q) aC v=_
  unfold IK
  rw[m6]
  cases hk1:v.Kind==1 with
  | true=>simp only[cond_true]; show Option.bind (bif emp v.S then _ else _) _=_; cases emp v.S<;>rfl
  | false =>
   cases hk2:v.Kind==2 with
   | true=>simp only[cond_true,cond_false]; cases v.N==0<;>rfl
   | false =>
    cases hk3:v.Kind==3 with
    | false=>rfl
    | true =>
     have hl:=dW v.L
     have hn':=hn
     rw[ek] at hn' h
     have:=Dz (Gf q) aC false v hn (fun e he=>by
      have:=gx he
      exact vO q e (by omega) (by omega)) v.L.length (aC+8) 0 (by omega) (by rw[fu]; omega)
     rw[show ((0:Nat):Int)=0 from rfl] at this
     simp only[cond_false,cond_true,this,Option.bind_some,List.drop_zero]
     cases jP v.L with
     | false=>rfl
     | true=>show Option.bind (bif v.N==0 then some (emp v.S) else _) _=_; cases v.N==0<;>rfl
def iq (v:ai):Int:=bif qU v then (bif decide (16<dep v) then 2 else 0) else 1
theorem PJ (v:ai) (hn:mf v<=1000000):Ir v=some (iq v):=by
 unfold Ir LC LI LJ
 rw[vO _ v (by rw[fu]; omega) hn,BU _ v (by rw[fu]; omega) hn]
 simp only[Option.bind_some]
 unfold iq
 cases qU v with
 | false=>rfl
 | true =>
  simp only[Bool.not_true,cond_false,cond_true]
  by_cases h:16<dep v
  ·rw[decide_eq_true h,decide_eq_true (by omega)]; rfl
  ·rw[decide_eq_false h,decide_eq_false (by omega)]; rfl
theorem Dy (self:ai->Option (Int×Bool)) (n:Nat) (z:Bool) (v:ai) (w a b c d:Bool) (hn:mf v<=1000000) (hself:∀ e∈v.L,∃ x,self e=some (x,qU e)/\(qU e=true->x=(dep e:Int))) :
  ∀ (k m i t:Nat),i+k=v.L.length->k<m->∃ r,jr self n z v.L (v.L.length:Int) v w a b c m (t:Int) (i:Int)=some r/\(match r with | .inl p=>jP (v.L.drop i)=false/\p.1=0/\p.2.1=false | .inr x=>jP (v.L.drop i)=true/\x=((max t (mJ (v.L.drop i)):Nat):Int))
 | 0,m,i,t,h1,h2=>by
  obtain ⟨m,rfl⟩:∃ q,m=q+1:=⟨m - 1,by omega⟩
  rw[jr,decide_eq_false (by omega),List.drop_eq_nil_iff.2 (by omega),pI,mT]
  exact⟨_,rfl,rfl,by simp⟩
 | k+1,m,i,t,h1,h2=>by
  obtain ⟨m,rfl⟩:∃ q,m=q+1:=⟨m - 1,by omega⟩
  have hi:i<v.L.length:=by omega
  have hl:=dW v.L
  rw[ek] at hn
  obtain ⟨x,h3,h4⟩:=hself _ (List.getElem_mem hi)
  rw[jr,decide_eq_true (by omega),List.drop_eq_getElem_cons hi,kI,kF]
  simp only[cond_true,bL,List.getElem?_eq_getElem hi,Option.bind_some,h3]
  cases hf:qU v.L[i] with
  | false=>exact⟨_,rfl,rfl,rfl,rfl⟩
  | true =>
   rw[h4 hf]
   simp only[Bool.not_true,cond_false,Bool.true_and]
   rw[eu (by omega) (by omega),show (i:Int)+1=((i+1:Nat):Int) by omega,show (if (t:Int)<(dep v.L[i]:Int) then (dep v.L[i]:Int) else (t:Int))=((max t (dep v.L[i]):Nat):Int) by split<;>omega]
   have:=Dy self n z v w a b c d (by rw[ek]; exact hn) hself k m (i+1) (max t (dep v.L[i])) (by omega) (by omega)
   rw[show max t (max (dep v.L[i]) (mJ (v.L.drop (i+1))))=max (max t (dep v.L[i])) (mJ (v.L.drop (i+1))) by omega]
   exact this
theorem GW:∀ (q:Nat) (v:ai),mf v<=q->mf v<=1000000->∃ x,Ge q v=some (x,qU v)/\(qU v=true->x=(dep v:Int))
 | 0,v,h,_=>by have:=nR v; omega
 | q+1,v,h,hn=>by
  have hl:=dW v.L
  have hn':=hn
  rw[ek] at hn' h
  obtain ⟨r,h1,h2⟩:=Dy (Ge q) aC false v false (emp v.S&&((v.L.length:Int)==0)) ((v.N==0)&&((v.L.length:Int)==0)) ((v.N==0)&&emp v.S) false hn (fun e he=>by
   have:=gx he
   exact GW q e (by omega) (by omega)) v.L.length (aC+8) 0 0 (by omega) (by rw[fu]; omega)
  rw[show ((0:Nat):Int)=0 from rfl] at h1
  rw[List.drop_zero] at h2
  show ∃ x,IJ (Ge q) aC v=_/\_
  unfold IJ
  rw[show (bif iQ v.S (ByteArray.mk #[]) then some ((v.L.length:Int)==0) else some false)=some (emp v.S&&((v.L.length:Int)==0)) from by unfold emp; cases iQ v.S (ByteArray.mk #[])<;>rfl,
   show (bif v.N==0 then some ((v.L.length:Int)==0) else some false)=some ((v.N==0)&&((v.L.length:Int)==0)) from by cases v.N==0<;>rfl,
   show (bif v.N==0 then some (iQ v.S (ByteArray.mk #[])) else some false)=some ((v.N==0)&&emp v.S) from by unfold emp; cases v.N==0<;>rfl]
  simp only[Option.bind_some]
  rw[m6,ow]
  by_cases k1:v.Kind<1
  ·rw[decide_eq_true k1]
   refine⟨0,?_,?_⟩
   ·rw[show (v.Kind==1)=false from by simp; omega,show (v.Kind==2)=false from by simp; omega,show (v.Kind==3)=false from by simp; omega]; rfl
   ·rw[show (v.Kind==1)=false from by simp; omega,show (v.Kind==2)=false from by simp; omega,show (v.Kind==3)=false from by simp; omega]; intro h; cases h
  by_cases k2:3<v.Kind
  ·rw[decide_eq_false k1,decide_eq_true k2]
   refine⟨0,?_,?_⟩
   ·rw[show (v.Kind==1)=false from by simp; omega,show (v.Kind==2)=false from by simp; omega,show (v.Kind==3)=false from by simp; omega]; rfl
   ·rw[show (v.Kind==1)=false from by simp; omega,show (v.Kind==2)=false from by simp; omega,show (v.Kind==3)=false from by simp; omega]; intro h; cases h
  rw[decide_eq_false k1,decide_eq_false k2]
  simp only[cond_false,cond_true,Option.bind_some]
  rcases (show v.Kind=1∨v.Kind=2∨v.Kind=3 by omega) with hk | hk | hk
  ·rw[hk]
   simp only[show decide ((1:Int)=0)=false from rfl,show decide ((1:Int)=1)=true from rfl,show decide ((1:Int)<3)=true from rfl,show ((1:Int)==1)=true from rfl,show ((1:Int)==3)=false from rfl,cond_false,cond_true,Option.bind_some]
   cases emp v.S&&((v.L.length:Int)==0) with
   | false=>exact⟨0,rfl,fun h=>by cases h⟩
   | true=>exact⟨0,rfl,fun _=>rfl⟩
  ·rw[hk]
   simp only[show decide ((2:Int)=0)=false from rfl,show decide ((2:Int)=1)=false from rfl,show decide ((2:Int)=2)=true from rfl,show decide ((2:Int)<3)=true from rfl,show ((2:Int)==1)=false from rfl,show ((2:Int)==2)=true from rfl,show ((2:Int)==3)=false from rfl,cond_false,cond_true,Option.bind_some]
   cases (v.N==0)&&((v.L.length:Int)==0) with
   | false=>exact⟨0,rfl,fun h=>by cases h⟩
   | true=>exact⟨0,rfl,fun _=>rfl⟩
  ·rw[hk]
   simp only[show decide ((3:Int)=0)=false from rfl,show decide ((3:Int)=1)=false from rfl,show decide ((3:Int)=2)=false from rfl,show decide ((3:Int)=3)=true from rfl,show decide ((3:Int)<3)=false from rfl,show ((3:Int)==1)=false from rfl,show ((3:Int)==2)=false from rfl,show ((3:Int)==3)=true from rfl,cond_false,cond_true,Option.bind_some]
   cases hc:(v.N==0)&&emp v.S with
   | false=>exact⟨0,by simp,fun h=>by simp at h⟩
   | true =>
    rw[hc] at h1
    simp only[Bool.not_true,cond_false,h1,Option.bind_some]
    cases r with
    | inl p =>
     obtain ⟨h3,h4,h5⟩:=h2
     obtain ⟨p1,p2,p3⟩:=p
     refine⟨0,?_,fun h=>?_⟩
     ·rw[h3]; simp only at h4 h5; subst h4; subst h5; rfl
     ·rw[h3] at h; cases h
    | inr x =>
     obtain ⟨h3,h4⟩:=h2
     have hd:=py v.L
     refine⟨_,by rw[h3]; rfl,fun _=>?_⟩
     rw[h4,eu (by omega) (by omega)]
     omega
theorem RT (v:ai) (hn:mf v<=1000000):I1 v=some (iq v):=by
 unfold I1 LB LH
 obtain ⟨x,h1,h2⟩:=GW aC v (by rw[fu]; omega) hn
 rw[h1,Option.bind_some]
 unfold iq
 cases hf:qU v with
 | false=>rfl
 | true =>
  rw[h2 hf]
  simp only[Bool.not_true,cond_false,cond_true]
  by_cases h:16<dep v
  ·rw[decide_eq_true h,decide_eq_true (by omega)]; rfl
  ·rw[decide_eq_false h,decide_eq_false (by omega)]; rfl
theorem PM:eG=140737488355328:=by kernel_rfl
theorem tJ {T:Type} (b:Nat) (l l2:List T) (h:(l.length+l2.length)*b<=eG):cQ b l l2=some (l++l2):=by unfold cQ; rw[decide_eq_true h]; rfl
theorem lO (l l2:List UInt8) (h:l.length+l2.length<=140737488355328):cQ 1 l l2=some (l++l2):=tJ _ _ _ (by rw[PM]; omega)
def num (n:Nat):List UInt8:=if h:n<128 then [UInt8.ofNat n] else UInt8.ofNat (n % 128+128) :: num (n / 128)
termination_by n
decreasing_by omega
theorem oV {n:Nat} (h:n<128):num n=[UInt8.ofNat n]:=by rw[num]; exact dif_pos h
theorem vH {n:Nat} (h:¬ n<128):num n=UInt8.ofNat (n % 128+128) :: num (n / 128):=by rw[num]; exact dif_neg h
theorem AD:∀ (k n:Nat),n<128 ^ k->(num n).length<=max k 1
 | 0,n,h=>by rw[oV (by simpa using Nat.lt_of_lt_of_le h (by decide))]; simp
 | k+1,n,h=>by
  by_cases h1:n<128
  ·rw[oV h1]; simp
  ·rw[vH h1,List.length_cons]
   have hk:0<k:=by
    rcases Nat.eq_zero_or_pos k with rfl | hk
    ·simp at h; omega
    ·exact hk
   have:=AD k (n / 128) (by rw[Nat.div_lt_iff_lt_mul (by decide)]; rw[Nat.pow_succ] at h; exact h)
   omega
theorem ka {n:Nat} (h:n<18446744073709551616):(num n).length<=10:=AD 10 n (Nat.lt_of_lt_of_le h (by decide))
theorem Ic (n:Nat):wr .u8 (n:Int)=((n % 256:Nat):Int):=by
 unfold wr IntKind.wrap
 simp[IntKind.bits,IntKind.signed]
theorem KA:∀ c:Fin 256,gy .u8 (c.val:Int) 128=((c.val % 128+128:Nat):Int):=by decide +kernel
theorem HN (n:Nat):gy .u8 (wr .u8 (n:Int)) 128=((n % 128+128:Nat):Int):=by
 rw[Ic]
 have:=KA ⟨n % 256,Nat.mod_lt _ (by decide)⟩
 rw[this]
 simp only
 congr 2
 omega
theorem O6 (n:Nat):lA .u64 (n:Int) 7=((n / 128:Nat):Int):=by
 unfold lA
 show Int.fdiv (n:Int) (2 ^ 7)=_
 rw[Int.fdiv_eq_ediv_of_nonneg _ (by decide)]
 rfl
theorem jb (G:Nat->Int->List UInt8->Option (Int×List UInt8)) (hG:∀ m v l,G (m+1) v l=bif decide (128<=v) then (bif (decide (0<=(gy .u8 (wr .u8 (v)) 128))&&decide ((gy .u8 (wr .u8 (v)) 128)<256)) then (Option.bind (cQ 1 l ([(UInt8.ofNat (Int.toNat (gy .u8 (wr .u8 (v)) 128)))])) fun y=>G m (lA .u64 v 7) y) else none) else some (v,l)) :
  ∀ (k m n:Nat) (l:List UInt8),n<128 ^ k->k<=11->k<m->l.length+k<=140737488355328->∃ (y:Nat) (ini:List UInt8),y<128/\G m (n:Int) l=some ((y:Int),l++ini)/\num n=ini++[UInt8.ofNat y]
 | 0,m,n,l,h,_,hm,hl=>by
  obtain ⟨m,rfl⟩:∃ q,m=q+1:=⟨m - 1,by omega⟩
  have h:n<1:=h
  exact⟨n,[],by omega,by rw[hG,decide_eq_false (by omega),List.append_nil]; rfl,by rw[oV (by omega)]; rfl⟩
 | k+1,m,n,l,h,hk,hm,hl=>by
  obtain ⟨m,rfl⟩:∃ q,m=q+1:=⟨m - 1,by omega⟩
  by_cases h1:n<128
  ·exact⟨n,[],h1,by rw[hG,decide_eq_false (by omega),List.append_nil]; rfl,by rw[oV h1]; rfl⟩
  ·have hq:n / 128<128 ^ k:=by rw[Nat.div_lt_iff_lt_mul (by decide)]; rw[Nat.pow_succ] at h; exact h
   rw[hG,decide_eq_true (by omega),HN,decide_eq_true (by omega),decide_eq_true (by omega),O6,Int.toNat_natCast]
   simp only[cond_true,Bool.and_self]
   rw[lO _ _ (by simp; omega),Option.bind_some]
   obtain ⟨y,ini,h2,h3,h4⟩:=jb G hG k m (n / 128) (l++[UInt8.ofNat (n % 128+128)]) hq (by omega) (by omega) (by simp; omega)
   exact⟨y,UInt8.ofNat (n % 128+128) :: ini,h2,by rw[h3,List.append_assoc]; rfl,by rw[vH h1,h4]; rfl⟩
theorem O9 {y:Nat} (h:y<128):wr .u8 (y:Int)=(y:Int):=by rw[Ic,Nat.mod_eq_of_lt (by omega)]
theorem Qd:∀ (k q n:Nat),n<128 ^ k->k<=11->k<q->n<18446744073709551616->Gi q (n:Int)=some (num n)
 | 0,q,n,h,_,hq,hn=>by
  obtain ⟨q,rfl⟩:∃ p,q=p+1:=⟨q - 1,by omega⟩
  have h:n<1:=h
  show GZ (Gi q) aC _=_
  unfold GZ
  rw[decide_eq_true (by omega),O9 (by omega),decide_eq_true (by omega),decide_eq_true (by omega),oV (by omega)]
  rfl
 | k+1,q,n,h,hk,hq,hn=>by
  obtain ⟨q,rfl⟩:∃ p,q=p+1:=⟨q - 1,by omega⟩
  show GZ (Gi q) aC _=_
  unfold GZ
  by_cases h1:n<128
  ·rw[decide_eq_true (by omega),O9 h1,decide_eq_true (by omega),decide_eq_true (by omega),oV h1]
   rfl
  ·have hk0:0<k:=by
    rcases Nat.eq_zero_or_pos k with rfl | hk
    ·simp at h; omega
    ·exact hk
   have hq2:n / 128<128 ^ k:=by rw[Nat.div_lt_iff_lt_mul (by decide)]; rw[Nat.pow_succ] at h; exact h
   have e1:Int.tmod (n:Int) 128=((n % 128:Nat):Int):=rfl
   have e2:Int.tdiv (n:Int) 128=((n / 128:Nat):Int):=rfl
   have wu:∀ z:Nat,z<18446744073709551616->wr .u64 (z:Int)=(z:Int):=fun z hz=>by
    unfold wr IntKind.wrap
    simp[IntKind.bits,IntKind.signed]
    omega
   rw[decide_eq_false (by omega)]
   simp only[cond_false]
   rw[e1,e2,show ((n % 128:Nat):Int)+128=((n % 128+128:Nat):Int) by omega,wu _ (by omega),wu _ (by omega),Ic (n % 128+128),Nat.mod_eq_of_lt (show n % 128+128<256 by omega),decide_eq_true (by omega),decide_eq_true (by omega),Int.toNat_natCast]
   simp only[cond_true,cond_false,Bool.and_self]
   rw[Qd k q (n / 128) hq2 (by omega) (by omega) (by omega),Option.bind_some,lO _ _ (by have:=ka (n:=n / 128) (by omega); simp; omega),vH h1]
   rfl
theorem Nc (n:Nat) (h:n<18446744073709551616):It (n:Int)=some (num n):=Qd 10 aC n (Nat.lt_of_lt_of_le h (by decide)) (by omega) (by rw[fu]; omega) h
def vP (n:Int):Nat:=if 0<=n then (2*n).toNat else (-2*n - 1).toNat
theorem zE (z:Int):wr .u64 z=z % 18446744073709551616:=by
 unfold wr IntKind.wrap
 simp[IntKind.bits,IntKind.signed]
theorem pa {n:Int} (h:iR n):vP n<18446744073709551616:=by
 obtain ⟨h1,h2⟩:=h
 unfold vP; split<;>omega
theorem RV (n:Int) (h:iR n):BV n=some (vP n:Int):=by
 obtain ⟨h1,h2⟩:=h
 unfold BV Es vP
 by_cases h0:0<=n
 ·rw[decide_eq_true h0,if_pos h0]
  simp only[cond_true,zE]
  congr 1; omega
 ·rw[decide_eq_false h0,if_neg h0,eu (n:=n+1) (by omega) (by omega),eu (n:=0 - (n+1)) (by omega) (by omega)]
  simp only[cond_false,zE]
  congr 1; omega
theorem xor_zero (a:Int) (h:0<=a) (h':a<18446744073709551616):qN .u64 a 0=a:=by
 unfold qN
 show IntKind.wrap .u64 ((BitVec.ofInt 64 a ^^^ BitVec.ofInt 64 0).toNat:Int)=a
 rw[show BitVec.ofInt 64 0=0#64 from rfl,BitVec.xor_zero]
 have:=zE ((BitVec.ofInt 64 a).toNat:Int)
 unfold wr at this
 rw[this,BitVec.toNat_ofInt]
 omega
theorem Ea (a:Int) (h:0<=a) (h':a<18446744073709551616):qN .u64 a 18446744073709551615=18446744073709551615 - a:=by
 unfold qN
 show IntKind.wrap .u64 ((BitVec.ofInt 64 a ^^^ BitVec.ofInt 64 18446744073709551615).toNat:Int)=_
 rw[show BitVec.ofInt 64 18446744073709551615=BitVec.allOnes 64 from rfl,BitVec.xor_allOnes,BitVec.toNat_not]
 have:=zE (((2 ^ 64 - 1 - (BitVec.ofInt 64 a).toNat:Nat)):Int)
 unfold wr at this
 rw[this,BitVec.toNat_ofInt]
 omega
theorem Nb (n:Int) (h:iR n):G6 n=some (vP n:Int):=by
 obtain ⟨h1,h2⟩:=h
 unfold G6 LD
 have e1:gQ .u64 (wr .u64 n) 1=(2*n) % 18446744073709551616:=by
  unfold gQ
  have:=zE (wr .u64 n*2 ^ 1)
  unfold wr at this ⊢
  show IntKind.wrap .u64 (IntKind.wrap .u64 n*2 ^ 1)=_
  rw[this]
  have h4:=zE n
  unfold wr at h4
  rw[h4]; omega
 have e2:lA .i64 n 63=n / 9223372036854775808:=by
  unfold lA
  show Int.fdiv n (2 ^ 63)=_
  rw[Int.fdiv_eq_ediv_of_nonneg _ (by decide)]
  rfl
 rw[e1,e2]
 congr 1
 unfold vP
 by_cases h0:0<=n
 ·rw[if_pos h0,show n / 9223372036854775808=0 by omega,show wr .u64 0=0 from rfl,xor_zero _ (by omega) (by omega)]; omega
 ·rw[if_neg h0,show n / 9223372036854775808=-1 by omega,show wr .u64 (-1)=18446744073709551615 from rfl,Ea _ (by omega) (by omega)]; omega
mutual
def jE:ai->List UInt8
 | .mk k n s l=>bif k==1 then 1 :: num (vP n) else bif k==2 then 2 :: (num s.size++kE s) else 3 :: (num l.length++jO l)
def jO:List ai->List UInt8
 | []=>[]
 | x :: r=>jE x++jO r
end
theorem dL (v:ai):jE v=bif v.Kind==1 then 1 :: num (vP v.N) else bif v.Kind==2 then 2 :: (num v.S.size++kE v.S) else 3 :: (num v.L.length++jO v.L):=by cases v; rw[jE]
theorem mV:jO []=[]:=by rw[jO]
theorem fz (x:ai) (r:List ai):jO (x :: r)=jE x++jO r:=by rw[jO]
theorem fH (s:ByteArray):(kE s).length=s.size:=rfl
mutual
theorem Ai:∀ (v:ai),bJ v->mf v<=1000000->(jE v).length<=420*mf v
 | .mk k n s l,h,hn=>by
  rw[bJ] at h
  obtain ⟨⟨_,h2,_,_⟩,h5⟩:=h
  rw[mf] at hn
  have h1:=rD l h5 (by omega)
  have h3:=dW l
  rw[jE,mf]
  have l1:=ka (n:=vP n) (pa h2)
  have l2:=ka (n:=s.size) (by omega)
  have l3:=ka (n:=l.length) (by omega)
  cases k==1 with
  | true=>simp only[cond_true,List.length_cons]; omega
  | false =>
   cases k==2 with
   | true=>simp only[cond_true,cond_false,List.length_cons,List.length_append,fH]; omega
   | false=>simp only[cond_false,List.length_cons,List.length_append]; omega
theorem rD:∀ (l:List ai),fq l->jJ l<=1000000->(jO l).length<=420*jJ l
 | [],_,_=>by rw[mV,lq]; simp
 | x :: r,h,hn=>by
  rw[fq] at h
  rw[jf] at hn ⊢
  have h1:=Ai x h.1 (by omega)
  have h2:=rD r h.2 (by omega)
  rw[fz,List.length_append]; omega
end
theorem Bm {v:ai} (h:bJ v) (hn:mf v<=1000000):(jE v).length<=420000000:=by have:=Ai v h hn; omega
theorem yK {v:ai} (h:bJ v) (hn:mf v<=1000000):(jO v.L).length<=420000000:=by
 have h4:=((dD v).1 h).2.2.2.2
 rw[ek] at hn
 have:=rD v.L ((mi _).2 h4) (by omega); omega
theorem my {v:ai} (hn:mf v<=1000000):v.S.size<=200000000:=by rw[ek] at hn; omega
theorem Dx (self:ai->Option (List UInt8)) (n:Nat) (z:List UInt8) (v:ai) (hv:bJ v) (hn:mf v<=1000000) (hself:∀ e∈v.L,self e=some (jE e)) :
  ∀ (k m i:Nat) (l:List UInt8),i+k=v.L.length->k<m->l.length+(jO (v.L.drop i)).length<=140737488355328->jn self n z v m (i:Int) l=some (l++jO (v.L.drop i))
 | 0,m,i,l,h1,h2,h3=>by
  obtain ⟨m,rfl⟩:∃ q,m=q+1:=⟨m - 1,by omega⟩
  rw[jn,decide_eq_false (by omega),List.drop_eq_nil_iff.2 (by omega),mV,List.append_nil]
  rfl
 | k+1,m,i,l,h1,h2,h3=>by
  obtain ⟨m,rfl⟩:∃ q,m=q+1:=⟨m - 1,by omega⟩
  have hi:i<v.L.length:=by omega
  have hl:=dW v.L
  have hn':=hn
  rw[ek] at hn'
  rw[List.drop_eq_getElem_cons hi,fz,List.length_append] at h3
  rw[jn,decide_eq_true (by omega),List.drop_eq_getElem_cons hi,fz]
  simp only[cond_true,bL,List.getElem?_eq_getElem hi,Option.bind_some,hself _ (List.getElem_mem hi)]
  rw[lO _ _ (by omega),Option.bind_some,eu (by omega) (by omega),show (i:Int)+1=((i+1:Nat):Int) by omega]
  rw[Dx self n z v hv hn hself k m (i+1) _ (by omega) (by omega) (by rw[List.length_append]; omega),List.append_assoc]
theorem tz (n:Nat) (h:n<18446744073709551616):wr .u64 (n:Int)=(n:Int):=by rw[zE]; omega
theorem Qc:∀ (q:Nat) (v:ai),bJ v->mf v<=q->mf v<=1000000->Gd q v=some (jE v)
 | 0,v,_,h,_=>by have:=nR v; omega
 | q+1,v,hv,h,hn=>by
  obtain ⟨_,h2,_,_,h4⟩:=(dD v).1 hv
  have hs:=my hn
  have he:=yK hv hn
  have hl:=dW v.L
  have hn':=hn
  rw[ek] at hn' h
  have l1:=ka (n:=vP v.N) (pa h2)
  have l2:=ka (n:=v.S.size) (by omega)
  have l3:=ka (n:=v.L.length) (by omega)
  show II (Gd q) aC v=_
  unfold II
  rw[dL]
  cases hk1:v.Kind==1 with
  | true =>
   simp only[cond_true,RV _ h2,Option.bind_some,Nc _ (pa h2)]
   rw[lO _ _ (by simp; omega)]; rfl
  | false =>
   cases hk2:v.Kind==2 with
   | true =>
    simp only[cond_true,cond_false]
    rw[tz _ (by omega),Nc _ (by omega),Option.bind_some,lO _ _ (by simp; omega),Option.bind_some,lO _ _ (by simp[fH]; omega)]
    simp
   | false =>
    simp only[cond_false]
    rw[tz _ (by omega),Nc _ (by omega),Option.bind_some,lO _ _ (by simp; omega),Option.bind_some]
    have:=Dx (Gd q) aC [] v hv hn (fun e he=>by
     have:=gx he
     exact Qc q e (h4 e he) (by omega) (by omega)) v.L.length (aC+8) 0 ([(3:UInt8)]++num v.L.length) (by omega) (by rw[fu]; omega) (by rw[List.drop_zero]; simp; omega)
    rw[show ((0:Nat):Int)=0 from rfl,List.drop_zero] at this
    rw[this]
    simp
theorem PL (v:ai) (hv:bJ v) (hn:mf v<=1000000):I2 v=some (jE v):=Qc aC v hv (by rw[fu]; omega) hn
theorem m7:∀ {l:List ai},jP l=true->∀ e∈l,qU e=true
 | x :: r,h,e,he=>by
  rw[kI,Bool.and_eq_true] at h
  rcases List.mem_cons.1 he with rfl | he
  ·exact h.1
  ·exact m7 h.2 e he
theorem pH {v:ai} (h:qU v=true):v.Kind=1∨v.Kind=2∨(v.Kind=3/\jP v.L=true):=by
 rw[m6] at h
 cases h1:v.Kind==1 with
 | true=>exact .inl (by simpa using h1)
 | false =>
  cases h2:v.Kind==2 with
  | true=>exact .inr (.inl (by simpa using h2))
  | false =>
   cases h3:v.Kind==3 with
   | true =>
    rw[h1,h2,h3] at h
    simp only[cond_true,cond_false,Bool.and_eq_true] at h
    exact .inr (.inr ⟨by simpa using h3,h.1⟩)
   | false=>rw[h1,h2,h3] at h; cases h
theorem wM {y:Nat} (h:y<128) {β:Type} (k:List UInt8->Option β) (l:List UInt8) (hl:l.length<=1000000000000) :
  (bif (decide (0<=(wr .u8 (y:Int)))&&decide ((wr .u8 (y:Int))<256)) then Option.bind (cQ 1 l ([(UInt8.ofNat (Int.toNat (wr .u8 (y:Int))))])) k else none)=k (l++[UInt8.ofNat y]):=by
 rw[O9 h,decide_eq_true (by omega),decide_eq_true (by omega),lO _ _ (by simp; omega),Int.toNat_natCast]
 rfl
theorem GU {n:Nat} (h:n<18446744073709551616):n<128 ^ 10:=Nat.lt_of_lt_of_le h (by decide)
theorem DD (self:ai->ai->(List UInt8)->ai->Option (List UInt8)) (n:Nat) (hn:50<=n) (z:List UInt8) (b0 b3 x:ai) (L:List ai) (hL:jJ L<=1000000) (hf:jP L=true) (hok:∀ e∈L,bJ e)
  (hself:∀ e∈L,e.Kind=3->∀ l:List UInt8,l.length+(jE e).length<=100000000000->self b0 b3 l e=some (l++jE e)) :
  ∀ (k m i:Nat) (l:List UInt8),i+k=L.length->k<m->l.length+(jO (L.drop i)).length<=100000000000->fw self n z L (L.length:Int) b0 b3 x m (i:Int) l=some (l++jO (L.drop i))
 | 0,m,i,l,h1,h2,h3=>by
  obtain ⟨m,rfl⟩:∃ q,m=q+1:=⟨m - 1,by omega⟩
  rw[fw,decide_eq_false (by omega),List.drop_eq_nil_iff.2 (by omega),mV,List.append_nil]
  rfl
 | k+1,m,i,l,h1,h2,h3=>by
  obtain ⟨m,rfl⟩:∃ q,m=q+1:=⟨m - 1,by omega⟩
  have hi:i<L.length:=by omega
  have hl:=dW L
  have hme:L[i]∈L:=List.getElem_mem hi
  have hne:=gx hme
  have hs:=my (v:=L[i]) (by omega)
  obtain ⟨_,hN,_,_,_⟩:=(dD L[i]).1 (hok _ hme)
  rw[List.drop_eq_getElem_cons hi,fz,List.length_append] at h3
  have ih:=DD self n hn z b0 b3 x L hL hf hok hself k m (i+1) (l++jE L[i]) (by omega) (by omega) (by rw[List.length_append]; omega)
  rw[fw,decide_eq_true (by omega),List.drop_eq_getElem_cons hi,fz]
  simp only[cond_true,bL,List.getElem?_eq_getElem hi,Option.bind_some]
  rw[eu (by omega) (by omega),show (i:Int)+1=((i+1:Nat):Int) by omega,<-List.append_assoc]
  have h3':=h3
  rw[dL] at h3
  generalize hE:jO (L.drop (i+1))=E at h3 h3' ih ⊢
  rcases pH (m7 hf _ hme) with hk | hk | ⟨hk,_⟩
  ·rw[hk] at h3 ⊢
   simp only[show ((1:Int)==1)=true from rfl,cond_true,List.length_cons] at h3
   simp only[show decide ((1:Int)=0)=false from rfl,show decide ((1:Int)=1)=true from rfl,cond_true,cond_false,Nb _ hN,Option.bind_some]
   rw[lO _ _ (by simp; omega),Option.bind_some]
   obtain ⟨y,ini,e1,e2,e3⟩:=jb (fun m v l=>jt self n [] b0 b3 x L[i] L[i] m v l) (fun _ _ _=>rfl) 10 (n+6) (vP L[i].N) (l++[1]) (GU (pa hN)) (by omega) (by omega) (by simp; omega)
   have e4:(num (vP L[i].N)).length=ini.length+1:=by rw[e3]; simp
   try simp only at e2
   rw[e2,Option.bind_some]
   try simp only
   rw[wM e1 _ _ (by simp; omega)]
   rw[dL,hk] at ih
   simp only[show ((1:Int)==1)=true from rfl,cond_true,e3] at ih
   rw[dL,hk]
   simp only[show ((1:Int)==1)=true from rfl,cond_true,e3]
   rw[<-ih]
   congr 1
   simp
  ·rw[hk] at h3 ⊢
   simp only[show ((2:Int)==1)=false from rfl,show ((2:Int)==2)=true from rfl,cond_true,cond_false,List.length_cons,List.length_append,fH] at h3
   simp only[show decide ((2:Int)=0)=false from rfl,show decide ((2:Int)=1)=false from rfl,show decide ((2:Int)=2)=true from rfl,cond_true,cond_false]
   rw[lO _ _ (by simp; omega),Option.bind_some,tz _ (by omega)]
   obtain ⟨y,ini,e1,e2,e3⟩:=jb (fun m v l=>ju self n [] b0 b3 x L[i] m v l) (fun _ _ _=>rfl) 10 (n+6) L[i].S.size (l++[2]) (GU (by omega)) (by omega) (by omega) (by simp; omega)
   have e4:(num L[i].S.size).length=ini.length+1:=by rw[e3]; simp
   try simp only at e2
   rw[e2,Option.bind_some]
   try simp only
   rw[wM e1 _ _ (by simp; omega),lO _ _ (by simp[fH]; omega),Option.bind_some]
   rw[dL,hk] at ih
   simp only[show ((2:Int)==1)=false from rfl,show ((2:Int)==2)=true from rfl,cond_true,cond_false,e3] at ih
   rw[dL,hk]
   simp only[show ((2:Int)==1)=false from rfl,show ((2:Int)==2)=true from rfl,cond_true,cond_false,e3]
   rw[<-ih]
   congr 1
   simp
  ·rw[hk]
   simp only[show decide ((3:Int)=0)=false from rfl,show decide ((3:Int)=1)=false from rfl,show decide ((3:Int)=2)=false from rfl,show decide ((3:Int)=3)=true from rfl,cond_true,cond_false]
   rw[hself _ hme hk l (by omega),Option.bind_some]
   exact ih
theorem Qi:∀ (q N:Nat) (b0 b3:ai) (l:List UInt8) (v:ai),v.Kind=3->qU v=true->bJ v->mf v<=q->mf v<=1000000->q+2000000<=N->l.length+(jE v).length<=100000000000->Ef N b0 b3 l v=some (l++jE v)
 | 0,N,b0,b3,l,v,_,_,_,h,_,_,_=>by have:=nR v; omega
 | q+1,N,b0,b3,l,v,hk,hf,hv,h,hn,hN,hl=>by
  obtain ⟨N,rfl⟩:∃ p,N=p+1:=⟨N - 1,by omega⟩
  obtain ⟨_,h2,_,_,h4⟩:=(dD v).1 hv
  have hll:=dW v.L
  have hn':=hn
  rw[ek] at hn' h
  have hfs:jP v.L=true:=by
   rcases pH hf with h | h | h
   ·omega
   ·omega
   ·exact h.2
  show (bif Nat.ble 8 N then A0 (Ef N) (N - 8) b0 b3 l v else none)=_
  rw[Nat.ble_eq_true_of_le (by omega:8<=N)]
  simp only[cond_true]
  unfold A0
  rw[dL,hk] at hl ⊢
  simp only[show ((3:Int)==1)=false from rfl,show ((3:Int)==2)=false from rfl,cond_false,List.length_cons,List.length_append] at hl ⊢
  rw[lO _ _ (by simp; omega),Option.bind_some,tz _ (by omega)]
  obtain ⟨y,ini,e1,e2,e3⟩:=jb (fun m u l=>ky (Ef N) (N - 8) [] b0 b3 v m u l) (fun _ _ _=>rfl) 10 (N - 8+7) v.L.length (l++[3]) (GU (by omega)) (by omega) (by omega) (by simp; omega)
  have e4:(num v.L.length).length=ini.length+1:=by rw[e3]; simp
  try simp only at e2
  rw[e2,Option.bind_some]
  try simp only
  rw[wM e1 _ _ (by simp; omega)]
  have:=DD (Ef N) (N - 8) (by omega) [] b0 b3 v v.L (by omega) hfs h4 (fun e he hke l' hl'=>by
   have:=gx he
   exact Qi q N b0 b3 l' e hke (m7 hfs e he) (h4 e he) (by omega) (by omega) (by omega) hl') v.L.length (N - 8+8) 0 (l++[3]++ini++[UInt8.ofNat y]) (by omega) (by omega) (by rw[List.drop_zero]; simp; omega)
  rw[show ((0:Nat):Int)=0 from rfl,List.drop_zero] at this
  rw[this,e3]
  simp
theorem Dw (n:Nat) (hn:50<=n) (z:List UInt8) (b0 b3:ai) (L:List ai) (hL:jJ L<=1000000) (hf:jP L=true) (hok:∀ e∈L,bJ e)
  (hself:∀ e∈L,e.Kind=3->∀ l:List UInt8,l.length+(jE e).length<=100000000000->Ef (n+7) b0 b3 l e=some (l++jE e)) :
  ∀ (k m i:Nat) (l:List UInt8),i+k=L.length->k<m->l.length+(jO (L.drop i)).length<=100000000000->gk n z L (L.length:Int) b0 b3 m (i:Int) l=some (l++jO (L.drop i))
 | 0,m,i,l,h1,h2,h3=>by
  obtain ⟨m,rfl⟩:∃ q,m=q+1:=⟨m - 1,by omega⟩
  rw[gk,decide_eq_false (by omega),List.drop_eq_nil_iff.2 (by omega),mV,List.append_nil]
  rfl
 | k+1,m,i,l,h1,h2,h3=>by
  obtain ⟨m,rfl⟩:∃ q,m=q+1:=⟨m - 1,by omega⟩
  have hi:i<L.length:=by omega
  have hl:=dW L
  have hme:L[i]∈L:=List.getElem_mem hi
  have hne:=gx hme
  have hs:=my (v:=L[i]) (by omega)
  obtain ⟨_,hN,_,_,_⟩:=(dD L[i]).1 (hok _ hme)
  rw[List.drop_eq_getElem_cons hi,fz,List.length_append] at h3
  have ih:=Dw n hn z b0 b3 L hL hf hok hself k m (i+1) (l++jE L[i]) (by omega) (by omega) (by rw[List.length_append]; omega)
  rw[gk,decide_eq_true (by omega),List.drop_eq_getElem_cons hi,fz]
  simp only[cond_true,bL,List.getElem?_eq_getElem hi,Option.bind_some]
  rw[eu (by omega) (by omega),show (i:Int)+1=((i+1:Nat):Int) by omega,<-List.append_assoc]
  have h3':=h3
  rw[dL] at h3
  generalize hE:jO (L.drop (i+1))=E at h3 h3' ih ⊢
  rcases pH (m7 hf _ hme) with hk | hk | ⟨hk,_⟩
  ·rw[hk] at h3 ⊢
   simp only[show ((1:Int)==1)=true from rfl,cond_true,List.length_cons] at h3
   simp only[show decide ((1:Int)=0)=false from rfl,show decide ((1:Int)=1)=true from rfl,cond_true,cond_false,Nb _ hN,Option.bind_some]
   rw[lO _ _ (by simp; omega),Option.bind_some]
   obtain ⟨y,ini,e1,e2,e3⟩:=jb (fun m v l=>ku n [] b0 b3 L[i] L[i] m v l) (fun _ _ _=>rfl) 10 (n+5) (vP L[i].N) (l++[1]) (GU (pa hN)) (by omega) (by omega) (by simp; omega)
   have e4:(num (vP L[i].N)).length=ini.length+1:=by rw[e3]; simp
   try simp only at e2
   rw[e2,Option.bind_some]
   try simp only
   rw[wM e1 _ _ (by simp; omega)]
   rw[dL,hk] at ih
   simp only[show ((1:Int)==1)=true from rfl,cond_true,e3] at ih
   rw[dL,hk]
   simp only[show ((1:Int)==1)=true from rfl,cond_true,e3]
   rw[<-ih]
   congr 1
   simp
  ·rw[hk] at h3 ⊢
   simp only[show ((2:Int)==1)=false from rfl,show ((2:Int)==2)=true from rfl,cond_true,cond_false,List.length_cons,List.length_append,fH] at h3
   simp only[show decide ((2:Int)=0)=false from rfl,show decide ((2:Int)=1)=false from rfl,show decide ((2:Int)=2)=true from rfl,cond_true,cond_false]
   rw[lO _ _ (by simp; omega),Option.bind_some,tz _ (by omega)]
   obtain ⟨y,ini,e1,e2,e3⟩:=jb (fun m v l=>kv n [] b0 b3 L[i] m v l) (fun _ _ _=>rfl) 10 (n+5) L[i].S.size (l++[2]) (GU (by omega)) (by omega) (by omega) (by simp; omega)
   have e4:(num L[i].S.size).length=ini.length+1:=by rw[e3]; simp
   try simp only at e2
   rw[e2,Option.bind_some]
   try simp only
   rw[wM e1 _ _ (by simp; omega),lO _ _ (by simp[fH]; omega),Option.bind_some]
   rw[dL,hk] at ih
   simp only[show ((2:Int)==1)=false from rfl,show ((2:Int)==2)=true from rfl,cond_true,cond_false,e3] at ih
   rw[dL,hk]
   simp only[show ((2:Int)==1)=false from rfl,show ((2:Int)==2)=true from rfl,cond_true,cond_false,e3]
   rw[<-ih]
   congr 1
   simp
  ·rw[hk]
   simp only[show decide ((3:Int)=0)=false from rfl,show decide ((3:Int)=1)=false from rfl,show decide ((3:Int)=2)=false from rfl,show decide ((3:Int)=3)=true from rfl,cond_true,cond_false]
   rw[hself _ hme hk l (by omega),Option.bind_some]
   exact ih
theorem EE {v:ai} (h:iq v=0):qU v=true:=by
 unfold iq at h
 cases hf:qU v with
 | true=>rfl
 | false=>rw[hf] at h; cases h
def Bl (v:ai):List UInt8×Int:=bif iq v==0 then (jE v,0) else ([],iq v)
theorem RR (v:ai) (hv:bJ v) (hn:mf v<=1000000):Im v=some (Bl v):=by
 unfold Im Lp
 rw[RT v hn,Option.bind_some]
 unfold Bl
 cases hc:iq v==0 with
 | false=>rw[show (iq v != 0)=true by rw[bne,hc]; rfl]; rfl
 | true =>
  rw[show (iq v != 0)=false by rw[bne,hc]; rfl]
  have hf:=EE (by simpa using hc)
  obtain ⟨_,h2,_,_,h4⟩:=(dD v).1 hv
  have hs:=my hn
  have he:=Bm hv hn
  have hll:=dW v.L
  have hn':=hn
  rw[ek] at hn'
  simp only[cond_false,cond_true]
  rw[dL] at he ⊢
  rcases pH hf with hk | hk | ⟨hk,hfs⟩
  ·rw[hk] at he ⊢
   simp only[show decide ((1:Int)=0)=false from rfl,show decide ((1:Int)=1)=true from rfl,show ((1:Int)==1)=true from rfl,cond_true,cond_false,Nb _ h2,Option.bind_some] at he ⊢
   rw[lO _ _ (by simp),Option.bind_some]
   obtain ⟨y,ini,e1,e2,e3⟩:=jb (fun m u l=>jk aC [] v v m u l) (fun _ _ _=>rfl) 10 (aC+6) (vP v.N) ([]++[1]) (GU (pa h2)) (by omega) (by rw[fu]; omega) (by simp)
   have e4:(num (vP v.N)).length=ini.length+1:=by rw[e3]; simp
   have l1:=ka (pa h2)
   try simp only at e2
   rw[e2,Option.bind_some]
   try simp only
   rw[wM e1 _ _ (by simp; omega),e3]
   simp
  ·rw[hk] at he ⊢
   simp only[show decide ((2:Int)=0)=false from rfl,show decide ((2:Int)=1)=false from rfl,show decide ((2:Int)=2)=true from rfl,show ((2:Int)==1)=false from rfl,show ((2:Int)==2)=true from rfl,cond_true,cond_false,List.length_cons,List.length_append,fH] at he ⊢
   rw[lO _ _ (by simp),Option.bind_some,tz _ (by omega)]
   obtain ⟨y,ini,e1,e2,e3⟩:=jb (fun m u l=>kq aC [] v m u l) (fun _ _ _=>rfl) 10 (aC+6) v.S.size ([]++[2]) (GU (by omega)) (by omega) (by rw[fu]; omega) (by simp)
   have e4:(num v.S.size).length=ini.length+1:=by rw[e3]; simp
   have l1:=ka (n:=v.S.size) (by omega)
   try simp only at e2
   rw[e2,Option.bind_some]
   try simp only
   rw[wM e1 _ _ (by simp; omega),lO _ _ (by simp[fH]; omega),Option.bind_some,e3]
   simp
  ·rw[hk] at he ⊢
   simp only[show decide ((3:Int)=0)=false from rfl,show decide ((3:Int)=1)=false from rfl,show decide ((3:Int)=2)=false from rfl,show decide ((3:Int)=3)=true from rfl,show ((3:Int)==1)=false from rfl,show ((3:Int)==2)=false from rfl,cond_true,cond_false,List.length_cons,List.length_append] at he ⊢
   rw[lO _ _ (by simp),Option.bind_some,tz _ (by omega)]
   obtain ⟨y,ini,e1,e2,e3⟩:=jb (fun m u l=>jk aC [] v v m u l) (fun _ _ _=>rfl) 10 (aC+6) v.L.length ([]++[3]) (GU (by omega)) (by omega) (by rw[fu]; omega) (by simp)
   have e4:(num v.L.length).length=ini.length+1:=by rw[e3]; simp
   have l1:=ka (n:=v.L.length) (by omega)
   try simp only at e2
   rw[e2,Option.bind_some]
   try simp only
   rw[wM e1 _ _ (by simp; omega)]
   have:=Dw aC (by rw[fu]; omega) [] v v v.L (by omega) hfs h4 (fun e he' hke l' hl'=>by
    have:=gx he'
    exact Qi 1000000 (aC+7) v v l' e hke (m7 hfs e he') (h4 e he') (by omega) (by omega) (by rw[fu]; omega) hl') v.L.length (aC+7) 0 ([]++[3]++ini++[UInt8.ofNat y]) (by omega) (by rw[fu]; omega) (by rw[List.drop_zero]; simp; omega)
   rw[show ((0:Nat):Int)=0 from rfl,List.drop_zero] at this
   rw[this,e3]
   simp
theorem RS (v:ai) (hv:bJ v) (hn:mf v<=1000000):G4 v=some (Bl v):=by
 unfold G4 Lr
 rw[PJ v hn,Option.bind_some]
 unfold Bl
 cases hc:iq v==0 with
 | false=>rw[show (iq v != 0)=true by rw[bne,hc]; rfl]; rfl
 | true =>
  rw[show (iq v != 0)=false by rw[bne,hc]; rfl]
  simp only[cond_false,cond_true,PL v hv hn,Option.bind_some]
def jH:Nat->List UInt8->Option (Nat×List UInt8)
 | _,[]=>none
 | c,b :: r=>if (0<c/\b.toNat=0)∨(9<=c/\1<b.toNat) then none else if b.toNat<128 then some (b.toNat,r) else match jH (c+1) r with
  | some (n,t)=>some (b.toNat - 128+128*n,t)
  | none=>none
theorem pw (c:Nat):2 ^ (7*(c+1))=128*2 ^ (7*c):=by rw[Nat.mul_add,Nat.pow_add]; omega
theorem wZ:∀ (l:List UInt8) (c n:Nat) (r:List UInt8),jH c l=some (n,r)->c<=9->l=num n++r/\(0<c->n≠0)/\2 ^ (7*c)*n<18446744073709551616
 | [],c,n,r,h,_=>by rw[jH] at h; cases h
 | b :: l,c,n,r,h,hc=>by
  have hb:=b.toNat_lt
  rw[jH] at h
  split at h
  ·cases h
  rename_i h1
  split at h
  ·rename_i h2
   cases h
   refine⟨?_,fun h3 h4=>h1 (.inl ⟨h3,h4⟩),?_⟩
   ·rw[oV h2,UInt8.ofNat_toNat]; rfl
   ·have:2 ^ (7*9)=9223372036854775808:=by decide
    by_cases h9:c=9
    ·subst h9; omega
    ·have h8:2 ^ (7*c)<=2 ^ 56:=Nat.pow_le_pow_right (by decide) (by omega)
     have h7:2 ^ (7*c)*b.toNat<=2 ^ 56*127:=Nat.mul_le_mul h8 (by omega)
     omega
  ·rename_i h2
   split at h
   ·rename_i m t h3
    cases h
    have h9:c≠9:=fun h=>h1 (.inr ⟨by omega,by omega⟩)
    obtain ⟨h4,h5,h6⟩:=wZ l (c+1) m _ h3 (by omega)
    have h5:=h5 (by omega)
    refine⟨?_,fun _=>by omega,?_⟩
    ·rw[vH (by omega),show (b.toNat - 128+128*m) % 128+128=b.toNat by omega,show (b.toNat - 128+128*m) / 128=m by omega,UInt8.ofNat_toNat,h4]
     rfl
    ·rw[pw] at h6
     have h8:2 ^ (7*c)*(b.toNat - 128)+2 ^ (7*c)*(128*m)<18446744073709551616:=by
      have e:2 ^ (7*c)*(128*m)=128*2 ^ (7*c)*m:=by rw[Nat.mul_comm 128 (2 ^ (7*c)),Nat.mul_assoc]
      rw[e]
      have hlt:b.toNat - 128<128:=by omega
      have h10:2 ^ (7*c)*(b.toNat - 128)<2 ^ (7*c)*128:=Nat.mul_lt_mul_of_pos_left hlt (Nat.two_pow_pos _)
      have h11:2 ^ (7*c)*128*m<18446744073709551616:=by rw[Nat.mul_comm (2 ^ (7*c))]; exact h6
      have hd:18446744073709551616=2 ^ (7*c)*128*2 ^ (64 - (7*c+7)):=by
       rw[Nat.mul_assoc,show 128*2 ^ (64 - (7*c+7))=2 ^ (64 - 7*c) by
        rw[show 128=2 ^ 7 from rfl,<-Nat.pow_add]; congr 1; omega,<-Nat.pow_add,show 7*c+(64 - 7*c)=64 by omega]
      rw[hd] at h11
      have h12:m<2 ^ (64 - (7*c+7)):=Nat.lt_of_mul_lt_mul_left h11
      have h13:2 ^ (7*c)*128*(m+1)<=2 ^ (7*c)*128*2 ^ (64 - (7*c+7)):=Nat.mul_le_mul_left _ h12
      rw[<-hd,Nat.mul_add,Nat.mul_one] at h13
      rw[Nat.mul_comm 128 (2 ^ (7*c))]
      omega
     rw[Nat.mul_add]; exact h8
   ·cases h
theorem gv {l:List UInt8} {n:Nat} {r:List UInt8} (h:jH 0 l=some (n,r)):l=num n++r/\n<18446744073709551616/\r.length<l.length:=by
 obtain ⟨h1,_,h2⟩:=wZ l 0 n r h (by omega)
 refine⟨h1,by omega,?_⟩
 have:num n≠[]:=by
  rw[num]; split<;>simp
 have:=List.length_pos_iff.2 this
 rw[h1,List.length_append]; omega
theorem Hg:∀ c:Fin 256,kB .u8 (c.val:Int) 127=((c.val % 128:Nat):Int):=by decide +kernel
theorem Qf {b c:Nat} (hc:c<=9) (h:c=9->b<=1) (hb:b<128):gQ .u64 (wr .u64 (b:Int)) (wr .i64 (7*(c:Int)))=((2 ^ (7*c)*b:Nat):Int):=by
 rw[eu (by omega) (by omega),tz _ (by omega)]
 unfold gQ
 rw[show (7*(c:Int)).toNat=7*c by omega,show min (7*c) (IntKind.bits .u64)=7*c from Nat.min_eq_left (by show 7*c<=64; omega)]
 have e:((b:Int)*2 ^ (7*c))=((2 ^ (7*c)*b:Nat):Int):=by rw[Int.natCast_mul,Int.natCast_pow,Int.mul_comm]; rfl
 rw[e]
 have:=tz (2 ^ (7*c)*b) (by
  have h9:2 ^ (7*9)=9223372036854775808:=by decide
  by_cases h1:c=9
  ·have:=h h1; subst h1; rcases (show b=0∨b=1 by omega) with rfl | rfl<;>omega
  ·have h8:2 ^ (7*c)<=2 ^ 56:=Nat.pow_le_pow_right (by decide) (by omega)
   have:=Nat.mul_le_mul h8 (show b<=127 by omega)
   omega)
 exact this
theorem Ka {a b c:Nat} (hc:c<=9) (h:c=9->b<=1) (hb:b<128) (ha:a<2 ^ (7*c)):a+2 ^ (7*c)*b<18446744073709551616:=by
 have h9:2 ^ (7*9)=9223372036854775808:=by decide
 by_cases h1:c=9
 ·have:=h h1; subst h1; rcases (show b=0∨b=1 by omega) with rfl | rfl<;>omega
 ·have h8:2 ^ (7*c)<=2 ^ 56:=Nat.pow_le_pow_right (by decide) (by omega)
  have:=Nat.mul_le_mul h8 (show b<=127 by omega)
  omega
theorem R5 {a b c:Nat} (hc:c<=9) (h:c=9->b<=1) (hb:b<128) (ha:a<2 ^ (7*c)):gy .u64 (a:Int) ((2 ^ (7*c)*b:Nat):Int)=((a+2 ^ (7*c)*b:Nat):Int):=by
 have h1:=Ka hc h hb ha
 unfold gy
 show IntKind.wrap .u64 ((BitVec.ofInt 64 (a:Int) ||| BitVec.ofInt 64 ((2 ^ (7*c)*b:Nat):Int)).toNat:Int)=_
 rw[BitVec.toNat_or,BitVec.toNat_ofInt,BitVec.toNat_ofInt]
 have e1:((a:Int) % ((2 ^ 64:Nat):Int)).toNat=a:=by omega
 have e2:(((2 ^ (7*c)*b:Nat):Int) % ((2 ^ 64:Nat):Int)).toNat=2 ^ (7*c)*b:=by omega
 rw[e1,e2,Nat.or_comm,<-Nat.two_pow_add_eq_or_of_lt ha,Nat.add_comm]
 exact tz _ h1
theorem vL (G:Nat->Int->Int->List UInt8->Option ((List UInt8)⊕(Int×List UInt8))) (hG:∀ m v6 v7 v8,G (m+1) v6 v7 v8=bif (!(decide (1<=((v8.length:Int))))) then (some ((Sum.inl v8))) else (Option.bind (er v8 0 1) fun y13=>Option.bind (er v8 1 ((v8.length:Int))) fun y14=>Option.bind (bw y13 0) fun y15=>Option.bind (bif (v7==0) then (some true) else (some (((y15.toNat:Int)) != 0))) fun y17=>Option.bind (bif y17 then (Option.bind (bif (decide (v7<9)) then (some true) else (some (decide (((y15.toNat:Int))<=1)))) fun y22=>some y22) else (some false)) fun y25=>bif (!y25) then (some ((Sum.inl y14))) else (bif decide (0<=(wr .i64 (7*v7))) then (bif (decide (((y15.toNat:Int))<128)) then (some ((Sum.inr ((gy .u64 v6 (gQ .u64 (wr .u64 (kB .u8 ((y15.toNat:Int)) 127)) (wr .i64 (7*v7))),y14))))) else (G m (gy .u64 v6 (gQ .u64 (wr .u64 (kB .u8 ((y15.toNat:Int)) 127)) (wr .i64 (7*v7)))) (wr .i64 (v7+1)) y14)) else none))) :
  ∀ (l:List UInt8) (m a c:Nat),c<=9->10<=m+c->a<2 ^ (7*c)->match jH c l with
   | some (n,r)=>G m (a:Int) (c:Int) l=some (.inr (((a+2 ^ (7*c)*n:Nat):Int),r))
   | none=>∃ r,G m (a:Int) (c:Int) l=some (.inl r)
 | [],m,a,c,hc,hm,ha=>by
  obtain ⟨m,rfl⟩:∃ q,m=q+1:=⟨m - 1,by omega⟩
  rw[jH,hG]
  exact⟨_,rfl⟩
 | b :: l,m,a,c,hc,hm,ha=>by
  obtain ⟨m,rfl⟩:∃ q,m=q+1:=⟨m - 1,by omega⟩
  have hb:=b.toNat_lt
  have hs1:er (b :: l) 0 1=some [b]:=by
   unfold er
   rw[show decide ((1:Int)<=((b :: l).length:Int))=true from decide_eq_true (by rw[List.length_cons]; omega)]
   rfl
  have hs2:er (b :: l) 1 ((b :: l).length:Int)=some l:=by
   unfold er
   rw[show decide ((1:Int)<=((b :: l).length:Int))=true from decide_eq_true (by rw[List.length_cons]; omega),decide_eq_true (Int.le_refl _)]
   simp
  have hc1:(bif ((c:Int)==0) then (some true) else (some (((b.toNat:Int)) != 0)))=some (!decide (0<c/\b.toNat=0)):=by
   by_cases h:c=0
   ·subst h; simp
   ·rw[show ((c:Int)==0)=false by simp; omega]
    simp only[cond_false]
    congr 1
    rw[Bool.eq_iff_iff]
    simp
    omega
  have hc2:(bif (decide ((c:Int)<9)) then (some true) else (some (decide (((b.toNat:Int))<=1))))=some (!decide (9<=c/\1<b.toNat)):=by
   by_cases h:c<9
   ·rw[decide_eq_true (by omega)]
    simp only[cond_true]
    congr 1
    rw[Bool.eq_iff_iff]
    simp
    omega
   ·rw[decide_eq_false (by omega)]
    simp only[cond_false]
    congr 1
    rw[Bool.eq_iff_iff]
    simp
    omega
  have e127:kB .u8 ((b.toNat:Int)) 127=((b.toNat % 128:Nat):Int):=Hg ⟨b.toNat,hb⟩
  rw[jH,hG,hs1,hs2,decide_eq_true (show (1:Int)<=((b :: l).length:Int) by rw[List.length_cons]; omega)]
  simp only[Bool.not_true,cond_false,Option.bind_some,show bw [b] 0=some b from rfl,hc1,hc2]
  by_cases h:(0<c/\b.toNat=0)∨(9<=c/\1<b.toNat)
  ·rw[if_pos h]
   refine⟨l,?_⟩
   by_cases h5:0<c/\b.toNat=0
   ·rw[decide_eq_true h5]; rfl
   ·rw[decide_eq_false h5,decide_eq_true (show 9<=c/\1<b.toNat by omega)]; rfl
  ·rw[if_neg h,decide_eq_false (show ¬ (0<c/\b.toNat=0) by omega),decide_eq_false (show ¬ (9<=c/\1<b.toNat) by omega)]
   have hb9:c=9->b.toNat % 128<=1:=fun h9=>by omega
   rw[e127,Qf hc hb9 (by omega),R5 hc hb9 (by omega) ha,decide_eq_true (show 0<=wr .i64 (7*(c:Int)) by rw[eu (by omega) (by omega)]; omega)]
   simp only[Bool.not_false,cond_true,Option.bind_some,Bool.not_true,cond_false]
   by_cases h8:b.toNat<128
   ·rw[if_pos h8,decide_eq_true (by omega),Nat.mod_eq_of_lt h8]
    rfl
   ·rw[if_neg h8,decide_eq_false (by omega),eu (n:=(c:Int)+1) (by omega) (by omega)]
    have hlt:a+2 ^ (7*c)*(b.toNat % 128)<2 ^ (7*(c+1)):=by
     rw[pw]
     have:=Nat.mul_le_mul_left (2 ^ (7*c)) (show b.toNat % 128<=127 by omega)
     omega
    have ih:=vL G hG l m (a+2 ^ (7*c)*(b.toNat % 128)) (c+1) (by omega) (by omega) hlt
    rw[show ((c+1:Nat):Int)=(c:Int)+1 by omega] at ih
    simp only[cond_false]
    cases hg:jH (c+1) l with
    | none=>rw[hg] at ih; exact ih
    | some p =>
     obtain ⟨n,r⟩:=p
     rw[hg] at ih
     simp only at ih ⊢
     rw[ih,pw]
     congr 4
     rw[Nat.mul_add,show b.toNat % 128=b.toNat - 128 by omega,Nat.add_assoc,Nat.mul_comm 128 (2 ^ (7*c)),Nat.mul_assoc]
theorem qX (bs:List UInt8) (hbs:bs.length<=1000000) (G:Nat->Int->Int->Int->Option ((Int×Int×Bool)⊕((Int×Int)⊕(Int)))) (hG:∀ m v5 v6 v8,G (m+1) v5 v6 v8=(bif (decide (((bs.length:Int))<=v8)) then (Option.bind (bif (v6==9) then (some false) else (some false)) fun y16=>Option.bind (bif y16 then (some true) else (Option.bind (bif (decide (0<v6)) then (some true) else (some false)) fun y21=>some y21)) fun y24=>bif y24 then (some ((Sum.inl ((0,v8,true))))) else (bif decide (0<=(wr .i64 (7*v6))) then (some ((Sum.inl ((wr .u64 (v5+(gQ .u64 (wr .u64 (Int.tmod 0 128)) (wr .i64 (7*v6)))),v8,true))))) else none)) else (Option.bind (bw bs (wr .i64 ((wr .i64 (v8+1)) - 1))) fun y32=>Option.bind (bif (v6==9) then (some (decide (1<((y32.toNat:Int))))) else (some false)) fun y34=>Option.bind (bif y34 then (some true) else (Option.bind (bif (decide (0<v6)) then (some (((y32.toNat:Int))==0)) else (some false)) fun y39=>some y39)) fun y42=>bif y42 then (some ((Sum.inl ((0,wr .i64 (v8+1),true))))) else (bif decide (0<=(wr .i64 (7*v6))) then (bif (decide (((y32.toNat:Int))<128)) then (some ((Sum.inr ((Sum.inl ((wr .u64 (v5+(gQ .u64 (wr .u64 (Int.tmod ((y32.toNat:Int)) 128)) (wr .i64 (7*v6)))),wr .i64 (v8+1)))))))) else (G m (wr .u64 (v5+(gQ .u64 (wr .u64 (Int.tmod ((y32.toNat:Int)) 128)) (wr .i64 (7*v6))))) (wr .i64 (v6+1)) (wr .i64 (v8+1)))) else none)))) :
  ∀ (k i m a c:Nat),i+k=bs.length->c<=9->10<=m+c->a<2 ^ (7*c)->match jH c (bs.drop i) with
   | some (n,r)=>∃ j:Nat,G m (a:Int) (c:Int) (i:Int)=some (.inr (.inl (((a+2 ^ (7*c)*n:Nat):Int),(j:Int))))/\r=bs.drop j/\j<=bs.length
   | none=>∃ (x:Int) (j:Nat),G m (a:Int) (c:Int) (i:Int)=some (.inl (x,(j:Int),true))/\j<=bs.length
 | 0,i,m,a,c,hi,hc,hm,ha=>by
  obtain ⟨m,rfl⟩:∃ q,m=q+1:=⟨m - 1,by omega⟩
  rw[List.drop_eq_nil_iff.2 (by omega),jH,hG,decide_eq_true (by omega)]
  simp only[cond_true]
  rw[show (bif ((c:Int)==9) then (some false) else (some false))=some false by cases (c:Int)==9<;>rfl,decide_eq_true (show 0<=wr .i64 (7*(c:Int)) by rw[eu (by omega) (by omega)]; omega)]
  by_cases h:(0:Int)<c
  ·rw[decide_eq_true h]; exact⟨_,i,rfl,by omega⟩
  ·rw[decide_eq_false h]; exact⟨_,i,rfl,by omega⟩
 | k+1,i,m,a,c,hi,hc,hm,ha=>by
  obtain ⟨m,rfl⟩:∃ q,m=q+1:=⟨m - 1,by omega⟩
  have hil:i<bs.length:=by omega
  rw[List.drop_eq_getElem_cons hil]
  generalize hb':bs[i]=b
  have hb:=b.toNat_lt
  have hc1:(bif ((c:Int)==9) then (some (decide (1<((b.toNat:Int))))) else (some false))=some (decide (9<=c/\1<b.toNat)):=by
   by_cases h:c=9
   ·subst h; simp; omega
   ·rw[show ((c:Int)==9)=false by simp; omega]
    simp only[cond_false]
    congr 1
    rw[Bool.eq_iff_iff]
    simp
    omega
  have hc2:(bif (decide (0<(c:Int))) then (some (((b.toNat:Int))==0)) else (some false))=some (decide (0<c/\b.toNat=0)):=by
   by_cases h:0<c
   ·rw[decide_eq_true (by omega)]
    simp only[cond_true]
    congr 1
    rw[Bool.eq_iff_iff]
    simp
    omega
   ·rw[decide_eq_false (by omega)]
    simp only[cond_false]
    congr 1
    rw[Bool.eq_iff_iff]
    simp
    omega
  have e127:Int.tmod ((b.toNat:Int)) 128=((b.toNat % 128:Nat):Int):=rfl
  rw[jH,hG,decide_eq_false (by omega),eu (n:=(i:Int)+1) (by omega) (by omega),show (i:Int)+1 - 1=(i:Int) by omega,eu (n:=(i:Int)) (by omega) (by omega),bL,List.getElem?_eq_getElem hil,hb']
  simp only[cond_false,Option.bind_some,hc1,hc2]
  by_cases h:(0<c/\b.toNat=0)∨(9<=c/\1<b.toNat)
  ·rw[if_pos h]
   refine⟨0,i+1,?_,by omega⟩
   by_cases h5:9<=c/\1<b.toNat
   ·rw[decide_eq_true h5]; rfl
   ·rw[decide_eq_false h5,decide_eq_true (show 0<c/\b.toNat=0 by omega)]; rfl
  ·rw[if_neg h,decide_eq_false (show ¬ (0<c/\b.toNat=0) by omega),decide_eq_false (show ¬ (9<=c/\1<b.toNat) by omega)]
   have hb9:c=9->b.toNat % 128<=1:=fun h9=>by omega
   have h64:=Ka hc hb9 (show b.toNat % 128<128 by omega) ha
   rw[e127,Qf hc hb9 (by omega),show (a:Int)+((2 ^ (7*c)*(b.toNat % 128):Nat):Int)=((a+2 ^ (7*c)*(b.toNat % 128):Nat):Int) from (Int.natCast_add _ _).symm,tz _ h64,decide_eq_true (show 0<=wr .i64 (7*(c:Int)) by rw[eu (by omega) (by omega)]; omega)]
   simp only[Bool.not_false,cond_true,Option.bind_some,Bool.not_true,cond_false]
   by_cases h8:b.toNat<128
   ·rw[if_pos h8,decide_eq_true (by omega),Nat.mod_eq_of_lt h8]
    exact⟨i+1,rfl,rfl,by omega⟩
   ·rw[if_neg h8,decide_eq_false (by omega),eu (n:=(c:Int)+1) (by omega) (by omega)]
    have hlt:a+2 ^ (7*c)*(b.toNat % 128)<2 ^ (7*(c+1)):=by
     rw[pw]
     have:=Nat.mul_le_mul_left (2 ^ (7*c)) (show b.toNat % 128<=127 by omega)
     omega
    have ih:=qX bs hbs G hG k (i+1) m (a+2 ^ (7*c)*(b.toNat % 128)) (c+1) (by omega) (by omega) (by omega) hlt
    rw[show ((c+1:Nat):Int)=(c:Int)+1 by omega,show ((i+1:Nat):Int)=(i:Int)+1 by omega] at ih
    simp only[cond_false]
    cases hg:jH (c+1) (bs.drop (i+1)) with
    | none=>rw[hg] at ih; exact ih
    | some p =>
     obtain ⟨n,r⟩:=p
     rw[hg] at ih
     simp only at ih ⊢
     obtain ⟨j,ih,h10,h11⟩:=ih
     refine⟨j,?_,h10,h11⟩
     rw[ih,pw]
     congr 5
     rw[Nat.mul_add,show b.toNat % 128=b.toNat - 128 by omega,Nat.add_assoc,Nat.mul_comm 128 (2 ^ (7*c)),Nat.mul_assoc]
theorem AV (a b:ByteArray):iQ a b=decide (a=b):=by
 rw[Bool.eq_iff_iff]
 unfold iQ
 rw[ByteArray.toList_eq,ByteArray.toList_eq]
 cases a; cases b
 simp
theorem AU (a b:List UInt8):iQ (cU a) (cU b)=decide (a=b):=by
 rw[AV,Bool.eq_iff_iff]
 simp[cU]
theorem Ab (l:List UInt8):kE (cU l)=l:=by simp[cU,kE]
theorem Be (l:List UInt8):(cU l).size=l.length:=by rw[<-fH,Ab]
theorem uY {s:ByteArray}:emp s=true↔s=ByteArray.empty:=by
 unfold emp
 rw[AV,decide_eq_true_iff]
 rfl
def sg (u:Nat):Int:=if u % 2=1 then -((u / 2:Nat):Int) - 1 else ((u / 2:Nat):Int)
theorem Ec (u:Nat):vP (sg u)=u:=by unfold sg; split<;>(unfold vP; split<;>omega)
theorem KZ {u:Nat} (h:u<18446744073709551616):iR (sg u):=by unfold sg iR; split<;>omega
theorem K3 (z:Int):wr .i64 z=if 9223372036854775808<=z % 18446744073709551616 then z % 18446744073709551616 - 18446744073709551616 else z % 18446744073709551616:=by
 simp only[wr,IntKind.wrap,IntKind.bits,IntKind.signed]
 simp
theorem MY (z:Int) (h:-9223372036854775808<=z) (h':z<=9223372036854775807):wr .i64 ((BitVec.ofInt 64 z).toNat:Int)=z:=by
 rw[K3,BitVec.toNat_ofInt]
 split<;>omega
theorem zG (a:Int) (h:0<=a) (h':a<=9223372036854775807):qN .i64 a 0=a:=by
 unfold qN
 show wr .i64 ((BitVec.ofInt 64 a ^^^ BitVec.ofInt 64 0).toNat:Int)=a
 rw[show BitVec.ofInt 64 0=0#64 from rfl,BitVec.xor_zero]
 exact MY a (by omega) h'
theorem zF (a:Int) (h:0<=a) (h':a<=9223372036854775807):qN .i64 a (-1)=-a - 1:=by
 unfold qN
 show wr .i64 ((BitVec.ofInt 64 a ^^^ BitVec.ofInt 64 (-1)).toNat:Int)=_
 rw[show BitVec.ofInt 64 (-1)=BitVec.allOnes 64 from rfl,BitVec.xor_allOnes,BitVec.toNat_not,K3,BitVec.toNat_ofInt]
 split<;>omega
theorem MW (u:Nat) (h:u<18446744073709551616):kB .u64 (u:Int) 1=((u % 2:Nat):Int):=by
 unfold kB
 show wr .u64 ((BitVec.ofInt 64 (u:Int) &&& BitVec.ofInt 64 1).toNat:Int)=_
 rw[BitVec.toNat_and,BitVec.toNat_ofInt,show (BitVec.ofInt 64 1).toNat=1 from rfl,Nat.and_one_is_mod,show ((u:Int) % ((2 ^ 64:Nat):Int)).toNat=u by omega,tz _ (by omega)]
theorem RW (u:Nat) (h:u<18446744073709551616):BW (u:Int)=some (sg u):=by
 unfold BW Et
 have e1:lA .u64 (u:Int) 1=((u / 2:Nat):Int):=by
  unfold lA
  show Int.fdiv (u:Int) (2 ^ 1)=_
  rw[Int.fdiv_eq_ediv_of_nonneg _ (by decide)]
  rfl
 rw[e1,MW u h,eu (n:=((u / 2:Nat):Int)) (by omega) (by omega),eu (n:=((u % 2:Nat):Int)) (by omega) (by omega),eu (by omega) (by omega)]
 congr 1
 unfold sg
 by_cases h2:u % 2=1
 ·rw[if_pos h2,h2,show (0:Int) - ((1:Nat):Int)=-1 from rfl,zF _ (by omega) (by omega)]
 ·rw[if_neg h2,show u % 2=0 by omega,show (0:Int) - ((0:Nat):Int)=0 from rfl,zG _ (by omega) (by omega)]
def gF (f:List UInt8->Option (ai×List UInt8)):Nat->List UInt8->Option (List ai×List UInt8)
 | 0,l=>some ([],l)
 | n+1,l=>match f l with
  | none=>none
  | some (v,r)=>match gF f n r with
   | none=>none
   | some (vs,t)=>some (v :: vs,t)
def wX (b:UInt8) (l:List UInt8) (h:Nat->List UInt8->Option (List ai×List UInt8)):Option (ai×List UInt8) :=
 if b.toNat=1 then (match jH 0 l with
  | none=>none
  | some (n,r)=>some (.mk 1 (sg n) ByteArray.empty [],r))
 else if b.toNat=2 then (match jH 0 l with
  | none=>none
  | some (n,r)=>if n<=r.length then some (.mk 2 0 (cU (r.take n)) [],r.drop n) else none)
 else if b.toNat=3 then (match jH 0 l with
  | none=>none
  | some (n,r)=>if n<=r.length then (match h n r with
   | none=>none
   | some (vs,t)=>some (.mk 3 0 ByteArray.empty vs,t)) else none)
 else none
def gD:Nat->List UInt8->Option (ai×List UInt8)
 | _,[]=>none
 | 0,b :: l=>wX b l fun _ _=>none
 | k+1,b :: l=>wX b l (gF (gD k))
def MN (k:Nat) (l:List UInt8) (v:ai) (r:List UInt8):Prop:=l=jE v++r/\qU v=true/\dep v<=k/\bJ v/\mf v<=(jE v).length
theorem ub {f:List UInt8->Option (ai×List UInt8)} {k:Nat} (hf:∀ l v r,l.length<=1000000->f l=some (v,r)->MN k l v r):∀ (n:Nat) (l:List UInt8) (vs:List ai) (r:List UInt8),l.length<=1000000->gF f n l=some (vs,r) ->
  l=jO vs++r/\jP vs=true/\mJ vs<=k/\(∀ e∈vs,bJ e)/\jJ vs<=(jO vs).length/\vs.length=n
 | 0,l,vs,r,_,h=>by
  rw[gF] at h; cases h
  refine⟨?_,pI,by rw[mT]; omega,fun _ h=>absurd h (List.not_mem_nil),by rw[lq]; omega,rfl⟩
  rw[mV]; rfl
 | n+1,l,vs,r,hl,h=>by
  rw[gF] at h
  split at h
  ·cases h
  rename_i v t hv
  split at h
  ·cases h
  rename_i ws u hw
  cases h
  obtain ⟨h1,h2,h3,h4,h5⟩:=hf l v t hl hv
  rw[h1,List.length_append] at hl
  obtain ⟨g1,g2,g3,g4,g5,g6⟩:=ub hf n t ws r (by omega) hw
  refine⟨?_,?_,?_,?_,?_,?_⟩
  ·rw[h1,g1,fz,List.append_assoc]
  ·rw[kI,h2,g2]; rfl
  ·rw[kF]; omega
  ·intro e he
   rcases List.mem_cons.1 he with rfl | he
   ·exact h4
   ·exact g4 e he
  ·rw[jf,fz,List.length_append]; omega
  ·rw[List.length_cons,g6]
theorem O8 {b:UInt8} {n:Nat} (h:b.toNat=n):b=UInt8.ofNat n:=by rw[<-h,UInt8.ofNat_toNat]
theorem wY {h:Nat->List UInt8->Option (List ai×List UInt8)} {k:Nat} {b:UInt8} {l:List UInt8} {v:ai} {r:List UInt8} (hl:l.length<=1000000)
  (hh:∀ n t vs u,t.length<=1000000->h n t=some (vs,u)->t=jO vs++u/\jP vs=true/\mJ vs+1<=k/\(∀ e∈vs,bJ e)/\jJ vs<=(jO vs).length/\vs.length=n)
  (e:wX b l h=some (v,r)):MN k (b :: l) v r:=by
 have okm:lj=9223372036854775807:=rfl
 unfold wX at e
 split at e
 ·rename_i h1
  split at e
  ·cases e
  rename_i n t hn
  obtain ⟨h2,h3,_⟩:=gv hn
  cases e
  refine⟨?_,?_,?_,?_,?_⟩
  ·rw[O8 h1,h2,dL]
   simp only[show ((1:Int)==1)=true from rfl,cond_true,Ec]
   rfl
  ·rw[m6]
   simp only[show ((1:Int)==1)=true from rfl,cond_true,uY.2]
   rfl
  ·rw[ow]
   simp only[show ((1:Int)==3)=false from rfl,cond_false]
   omega
  ·exact(dD _).2 ⟨⟨by simp,by simp⟩,KZ h3,by simp,by simp,fun _ h=>absurd h List.not_mem_nil⟩
  ·rw[ek,dL]
   simp only[show ((1:Int)==1)=true from rfl,cond_true,Ec,lq,List.length_cons]
   have:(ByteArray.empty:ByteArray).size=0:=rfl
   omega
 split at e
 ·rename_i h1
  split at e
  ·cases e
  rename_i n t hn
  obtain ⟨h2,h3,h4⟩:=gv hn
  split at e
  ·rename_i h5
   cases e
   have hs:(cU (t.take n)).size=n:=by rw[Be,List.length_take]; omega
   refine⟨?_,?_,?_,?_,?_⟩
   ·rw[O8 h1,h2,dL]
    simp only[show ((2:Int)==1)=false from rfl,show ((2:Int)==2)=true from rfl,cond_true,cond_false,hs,Ab]
    rw[List.cons_append,List.append_assoc,List.take_append_drop]
    rfl
   ·rw[m6]
    rfl
   ·rw[ow]
    simp only[show ((2:Int)==3)=false from rfl,cond_false]
    omega
   ·refine(dD _).2 ⟨⟨by simp,by simp⟩,⟨by simp,by simp⟩,?_,by simp,fun _ h=>absurd h List.not_mem_nil⟩
    show (cU (t.take n)).size<=lj
    rw[hs]; omega
   ·rw[ek,dL]
    simp only[show ((2:Int)==1)=false from rfl,show ((2:Int)==2)=true from rfl,cond_true,cond_false,lq,List.length_cons,List.length_append,fH,hs]
    omega
  ·cases e
 split at e
 ·rename_i h1
  split at e
  ·cases e
  rename_i n t hn
  obtain ⟨h2,h3,h4⟩:=gv hn
  split at e
  ·rename_i h5
   split at e
   ·cases e
   rename_i vs u hv
   cases e
   obtain ⟨g1,g2,g3,g4,g5,g6⟩:=hh n t vs r (by omega) hv
   refine⟨?_,?_,?_,?_,?_⟩
   ·rw[O8 h1,h2,dL,g1]
    simp only[show ((3:Int)==1)=false from rfl,show ((3:Int)==2)=false from rfl,cond_false,g6]
    rw[List.cons_append,List.append_assoc]
    rfl
   ·rw[m6]
    simp only[show ((3:Int)==1)=false from rfl,show ((3:Int)==2)=false from rfl,show ((3:Int)==3)=true from rfl,cond_true,cond_false,g2,uY.2]
    rfl
   ·rw[ow]
    simp only[show ((3:Int)==3)=true from rfl,cond_true]
    omega
   ·refine(dD _).2 ⟨⟨by simp,by simp⟩,⟨by simp,by simp⟩,by simp,?_,g4⟩
    show vs.length<=lj
    omega
   ·rw[ek,dL]
    simp only[show ((3:Int)==1)=false from rfl,show ((3:Int)==2)=false from rfl,cond_false,List.length_cons,List.length_append]
    have:(ByteArray.empty:ByteArray).size=0:=rfl
    omega
  ·cases e
 ·cases e
theorem rU:∀ (k:Nat) (l:List UInt8) (v:ai) (r:List UInt8),l.length<=1000000->gD k l=some (v,r)->MN k l v r
 | 0,[],v,r,_,h=>by rw[gD] at h; cases h
 | k+1,[],v,r,_,h=>by rw[gD] at h; cases h
 | 0,b :: l,v,r,hl,h=>by
  rw[gD] at h
  rw[List.length_cons] at hl
  exact wY (by omega) (fun _ _ _ _ _ h=>by cases h) h
 | k+1,b :: l,v,r,hl,h=>by
  rw[gD] at h
  rw[List.length_cons] at hl
  refine wY (by omega) (fun n t vs u ht hv=>?_) h
  obtain ⟨g1,g2,g3,g4,g5,g6⟩:=ub (fun l v r hl h=>rU k l v r hl h) n t vs u ht hv
  exact⟨g1,g2,by omega,g4,g5,g6⟩
theorem CO (l:List ai) (x:ai) (h:l.length<=1000000):cQ 56 l [x]=some (l++[x]):=tJ _ _ _ (by rw[PM]; simp; omega)
theorem Dh {k:Nat} {l:List UInt8} {v:ai} {r:List UInt8} (hl:l.length<=1000000) (h:gD k l=some (v,r)):r.length<=l.length:=by
 have:=(rU k l v r hl h).1
 rw[this,List.length_append]; omega
theorem DB (f:List UInt8->Option (ai×List UInt8)) (self:(List UInt8)->Int->Option (Bool×ai×(List UInt8))) (N d n:Nat) (z0 z1:Int) (z2:ByteArray) (hd:d<=16) (hn:n<=1000000)
  (hf:∀ l:List UInt8,l.length<=1000000->match f l with
   | some (v,r)=>self l ((d:Int)+1)=some (true,v,r)/\r.length<=l.length
   | none=>∃ v r,self l ((d:Int)+1)=some (false,v,r)) :
  ∀ (k m i:Nat) (l:List UInt8) (acc:List ai),i+k=n->k<m->l.length<=1000000->acc.length<=i->match gF f k l with
   | some (vs,r)=>fS self N (d:Int) (n:Int) z0 z1 z2 m (i:Int) l acc=some (.inr (r,acc++vs))
   | none=>∃ x,fS self N (d:Int) (n:Int) z0 z1 z2 m (i:Int) l acc=some (.inl x)
 | 0,m,i,l,acc,h1,h2,h3,h4=>by
  obtain ⟨m,rfl⟩:∃ q,m=q+1:=⟨m - 1,by omega⟩
  rw[gF,fS,decide_eq_false (by omega)]
  simp
 | k+1,m,i,l,acc,h1,h2,h3,h4=>by
  obtain ⟨m,rfl⟩:∃ q,m=q+1:=⟨m - 1,by omega⟩
  have hl:=hf l h3
  rw[gF,fS,decide_eq_true (by omega),eu (n:=(d:Int)+1) (by omega) (by omega),eu (n:=(i:Int)+1) (by omega) (by omega)]
  simp only[cond_true]
  cases hv:f l with
  | none =>
   rw[hv] at hl
   obtain ⟨v,r,hl⟩:=hl
   simp only
   rw[hl]
   exact⟨_,rfl⟩
  | some p =>
   obtain ⟨v,r⟩:=p
   rw[hv] at hl
   simp only at hl ⊢
   rw[hl.1]
   simp only[Option.bind_some,cond_true]
   rw[CO _ _ (by omega),Option.bind_some,show (i:Int)+1=((i+1:Nat):Int) by omega]
   have ih:=DB f self N d n z0 z1 z2 hd hn hf k m (i+1) r (acc++[v]) (by omega) (by omega) (by omega) (by simp; omega)
   cases hr:gF f k r with
   | none=>rw[hr] at ih; exact ih
   | some p =>
    obtain ⟨vs,t⟩:=p
    rw[hr] at ih
    simp only at ih ⊢
    rw[ih]; simp
theorem b1 {b:UInt8} (n:Nat) (h:n<256):(wr .i64 ((b.toNat:Int))==(n:Int))=decide (b.toNat=n):=by
 have:=b.toNat_lt
 rw[eu (by omega) (by omega),Bool.eq_iff_iff]
 simp
 omega
theorem Qg:∀ (k N d:Nat) (l:List UInt8),d+k=16->2000000+k<=N->l.length<=1000000->match gD k l with
  | some (v,r)=>yk N l (d:Int)=some (true,v,r)
  | none=>∃ v r,yk N l (d:Int)=some (false,v,r)
 | k,N,d,[],hd,hN,hl=>by
  obtain ⟨N,rfl⟩:∃ q,N=q+1:=⟨N - 1,by omega⟩
  have:gD k []=none:=by cases k<;>rw[gD]
  rw[this]
  show ∃ v r,(bif Nat.ble 8 N then vR (yk N) (N - 8) [] d else none)=_
  rw[Nat.ble_eq_true_of_le (by omega:8<=N)]
  exact⟨_,_,rfl⟩
 | k,N,d,b :: l,hd,hN,hl=>by
  obtain ⟨N,rfl⟩:∃ q,N=q+1:=⟨N - 1,by omega⟩
  rw[List.length_cons] at hl
  have hb:=b.toNat_lt
  have hs1:er (b :: l) 0 1=some [b]:=by
   unfold er
   rw[show decide ((1:Int)<=((b :: l).length:Int))=true from decide_eq_true (by rw[List.length_cons]; omega)]
   rfl
  have hs2:er (b :: l) 1 ((b :: l).length:Int)=some l:=by
   unfold er
   rw[show decide ((1:Int)<=((b :: l).length:Int))=true from decide_eq_true (by rw[List.length_cons]; omega),decide_eq_true (Int.le_refl _)]
   simp
  have eW:yk (N+1) (b :: l) (d:Int)=vR (yk N) (N - 8) (b :: l) (d:Int):=by
   show (bif Nat.ble 8 N then vR (yk N) (N - 8) (b :: l) d else none)=_
   rw[Nat.ble_eq_true_of_le (by omega:8<=N)]; rfl
  have eg:gD k (b :: l)=wX b l (match k with | 0=>fun _ _=>none | k+1=>gF (gD k)):=by cases k<;>rw[gD]
  rw[eW,eg]
  unfold vR
  rw[hs1,hs2,decide_eq_true (show (1:Int)<=((b :: l).length:Int) by rw[List.length_cons]; omega)]
  simp only[Bool.not_true,cond_false,Option.bind_some,show bw [b] 0=some b from rfl]
  rw[show (wr .i64 ((b.toNat:Int))==1)=decide (b.toNat=1) from b1 1 (by omega),show (wr .i64 ((b.toNat:Int))==2)=decide (b.toNat=2) from b1 2 (by omega),show (wr .i64 ((b.toNat:Int))==3)=decide (b.toNat=3) from b1 3 (by omega),eu (n:=(b.toNat:Int)) (by omega) (by omega)]
  unfold wX
  by_cases h1:b.toNat=1
  ·rw[if_pos h1,decide_eq_true h1]
   have hr:=vL (fun m u i l=>jo (yk N) (N - 8) (b.toNat:Int) 0 ByteArray.empty m u i l) (fun _ _ _ _=>rfl) l (N - 8+7) 0 0 (by omega) (by omega) (by decide)
   simp only[cond_true]
   cases hg:jH 0 l with
   | none =>
    rw[hg] at hr
    obtain ⟨r,hr⟩:=hr
    refine⟨default,r,?_⟩
    exact(congrArg (fun x=>Option.bind x _) hr).trans rfl
   | some p =>
    obtain ⟨n,r⟩:=p
    rw[hg] at hr
    obtain ⟨_,hn,_⟩:=gv hg
    simp only at hr ⊢
    refine(congrArg (fun x=>Option.bind x _) hr).trans ?_
    rw[show (0+2 ^ (7*0)*n:Nat)=n by omega]
    simp only[Option.bind_some,RW n hn]
    rw[h1]; rfl
  rw[if_neg h1,decide_eq_false h1]
  simp only[cond_false]
  by_cases h2:b.toNat=2
  ·rw[if_pos h2,decide_eq_true h2]
   have hr:=vL (fun m u i l=>ib (yk N) (N - 8) (b.toNat:Int) 0 ByteArray.empty m u i l) (fun _ _ _ _=>rfl) l (N - 8+6) 0 0 (by omega) (by omega) (by decide)
   simp only[cond_true]
   cases hg:jH 0 l with
   | none =>
    rw[hg] at hr
    obtain ⟨r,hr⟩:=hr
    refine⟨default,r,?_⟩
    exact(congrArg (fun x=>Option.bind x _) hr).trans rfl
   | some p =>
    obtain ⟨n,r⟩:=p
    rw[hg] at hr
    obtain ⟨_,hn,hrl⟩:=gv hg
    simp only at hr ⊢
    by_cases hnr:n<=r.length
    ·rw[if_pos hnr]
     refine(congrArg (fun x=>Option.bind x _) hr).trans ?_
     rw[show (0+2 ^ (7*0)*n:Nat)=n by omega]
     simp only[Option.bind_some]
     rw[tz _ (show r.length<18446744073709551616 by omega),eu (n:=(n:Int)) (by omega) (by omega),decide_eq_true (show (n:Int)<=(r.length:Int) by omega)]
     simp only[Bool.not_true,cond_false]
     unfold er
     rw[decide_eq_true (show (n:Int)<=(r.length:Int) by omega),decide_eq_true (show (0:Int)<=(n:Int) by omega),decide_eq_true (Int.le_refl _)]
     simp[h2]
     exact List.take_of_length_le (by simp)
    ·rw[if_neg hnr]
     refine⟨default,r,?_⟩
     refine(congrArg (fun x=>Option.bind x _) hr).trans ?_
     rw[show (0+2 ^ (7*0)*n:Nat)=n by omega]
     simp only[Option.bind_some]
     rw[tz _ (show r.length<18446744073709551616 by omega),decide_eq_false (show ¬ (n:Int)<=(r.length:Int) by omega)]
     rfl
  rw[if_neg h2,decide_eq_false h2]
  simp only[cond_false]
  by_cases h3:b.toNat=3
  ·rw[if_pos h3,decide_eq_true h3]
   simp only[cond_true]
   cases k with
   | zero =>
    rw[decide_eq_false (show ¬ ((d:Int)<16) by omega)]
    have:∃ v r,(bif !false then some (false,(default:ai),l) else none)=some (false,v,r):=⟨_,_,rfl⟩
    cases hg:jH 0 l with
    | none=>exact⟨_,_,rfl⟩
    | some p =>
     obtain ⟨n,r⟩:=p
     simp only
     split<;>rename_i hx
     ·split at hx<;>cases hx
     ·exact⟨_,_,rfl⟩
   | succ k =>
    rw[decide_eq_true (show ((d:Int)<16) by omega)]
    have hr:=vL (fun m u i l=>ic (yk N) (N - 8) (b.toNat:Int) 0 ByteArray.empty m u i l) (fun _ _ _ _=>rfl) l (N - 8+6) 0 0 (by omega) (by omega) (by decide)
    simp only[Bool.not_true,cond_false]
    cases hg:jH 0 l with
    | none =>
     rw[hg] at hr
     obtain ⟨r,hr⟩:=hr
     refine⟨default,r,?_⟩
     exact(congrArg (fun x=>Option.bind x _) hr).trans rfl
    | some p =>
     obtain ⟨n,r⟩:=p
     rw[hg] at hr
     obtain ⟨_,hn,hrl⟩:=gv hg
     simp only at hr ⊢
     by_cases hnr:n<=r.length
     ·rw[if_pos hnr]
      have hL:=DB (gD k) (yk N) (N - 8) d n (b.toNat:Int) 0 ByteArray.empty (by omega) (by omega) (fun l hl=>by
       have:=Qg k N (d+1) l (by omega) (by omega) hl
       cases hgv:gD k l with
       | none=>rw[hgv] at this; exact this
       | some p =>
        obtain ⟨v,r⟩:=p
        rw[hgv] at this
        exact⟨this,Dh hl hgv⟩) n (N - 8+8) 0 r [] (by omega) (by omega) (by omega) (by simp)
      cases hls:gF (gD k) n r with
      | none =>
       rw[hls] at hL
       obtain ⟨x,hL⟩:=hL
       refine⟨default,x.1,?_⟩
       refine(congrArg (fun x=>Option.bind x _) hr).trans ?_
       rw[show (0+2 ^ (7*0)*n:Nat)=n by omega]
       simp only[Option.bind_some]
       rw[tz _ (show r.length<18446744073709551616 by omega),eu (n:=(n:Int)) (by omega) (by omega),decide_eq_true (show (n:Int)<=(r.length:Int) by omega)]
       simp only[Bool.not_true,cond_false]
       exact(congrArg (fun x=>Option.bind x _) hL).trans rfl
      | some p =>
       obtain ⟨vs,t⟩:=p
       rw[hls] at hL
       simp only at hL ⊢
       refine(congrArg (fun x=>Option.bind x _) hr).trans ?_
       rw[show (0+2 ^ (7*0)*n:Nat)=n by omega]
       simp only[Option.bind_some]
       rw[tz _ (show r.length<18446744073709551616 by omega),eu (n:=(n:Int)) (by omega) (by omega),decide_eq_true (show (n:Int)<=(r.length:Int) by omega)]
       simp only[Bool.not_true,cond_false]
       refine(congrArg (fun x=>Option.bind x _) hL).trans ?_
       rw[h3]; rfl
     ·rw[if_neg hnr]
      refine⟨default,r,?_⟩
      refine(congrArg (fun x=>Option.bind x _) hr).trans ?_
      rw[show (0+2 ^ (7*0)*n:Nat)=n by omega]
      simp only[Option.bind_some]
      rw[tz _ (show r.length<18446744073709551616 by omega),decide_eq_false (show ¬ (n:Int)<=(r.length:Int) by omega)]
      rfl
  ·rw[if_neg h3,decide_eq_false h3]
   exact⟨_,_,rfl⟩
def fy (bs:List UInt8):ai×Int:=match gD 16 bs with
 | some (v,[])=>(v,0)
 | _=>(.mk 0 0 ByteArray.empty [],10)
theorem PK (bs:List UInt8) (h:bs.length<=1000000):IW bs=some (fy bs):=by
 unfold IW Ls
 have hw:=Qg 16 (aC+8) 0 bs (by omega) (by rw[fu]; omega) h
 rw[show ((0:Nat):Int)=0 from rfl] at hw
 unfold fy
 cases hg:gD 16 bs with
 | none =>
  rw[hg] at hw
  obtain ⟨v,r,hw⟩:=hw
  rw[hw]; rfl
 | some p =>
  obtain ⟨v,r⟩:=p
  rw[hg] at hw
  simp only at hw
  rw[hw]
  cases r with
  | nil=>rfl
  | cons a r =>
   have:(((a :: r).length:Int)==0)=false:=by simp; omega
   simp only[Option.bind_some,cond_true]
   rw[this]; rfl
theorem Ae {bs:List UInt8} {v:ai} (h:bs.length<=1000000) (e:fy bs=(v,0)):bs=jE v/\iq v=0/\bJ v/\mf v<=1000000:=by
 unfold fy at e
 split at e
 ·rename_i u hg
  cases e
  obtain ⟨h1,h2,h3,h4,h5⟩:=rU 16 bs v [] h hg
  rw[List.append_nil] at h1
  refine⟨h1,?_,h4,?_⟩
  ·unfold iq
   rw[h2]
   simp only[cond_true]
   rw[decide_eq_false (by omega)]; rfl
  ·rw[h1] at h; omega
 ·cases e
theorem yF (bs:List UInt8):(∃ v,fy bs=(v,0))∨fy bs=(.mk 0 0 ByteArray.empty [],10):=by
 unfold fy
 split
 ·exact .inl ⟨_,rfl⟩
 ·exact .inr rfl
theorem DC (bs:List UInt8) (f:List UInt8->Option (ai×List UInt8)) (self:(List UInt8)->Int->Bool->Int->Option (ai×Int×Bool)) (N d n:Nat) (z0 z1:Int) (z2:ByteArray) (z3:List ai) (z4 z5:Int) (z6:ByteArray) (hd:d<=16) (hn:n<=1000000)
  (hf:∀ i:Nat,i<=bs.length->match f (bs.drop i) with
   | some (v,r)=>∃ j:Nat,self bs (i:Int) false ((d:Int)+1)=some (v,(j:Int),false)/\r=bs.drop j/\j<=bs.length
   | none=>∃ (v:ai) (j:Nat),self bs (i:Int) false ((d:Int)+1)=some (v,(j:Int),true)/\j<=bs.length) :
  ∀ (k m i j:Nat) (acc:List ai),i+k=n->k<m->j<=bs.length->acc.length<=i->match gF f k (bs.drop j) with
   | some (vs,r)=>∃ j':Nat,eQ self N (d:Int) (n:Int) bs z0 z1 z2 z3 z4 z5 z6 m (i:Int) (j:Int) false acc=some ((j':Int),false,acc++vs)/\r=bs.drop j'/\j'<=bs.length
   | none=>∃ (j':Nat) (l:List ai),eQ self N (d:Int) (n:Int) bs z0 z1 z2 z3 z4 z5 z6 m (i:Int) (j:Int) false acc=some ((j':Int),true,l)/\j'<=bs.length
 | 0,m,i,j,acc,h1,h2,h3,h4=>by
  obtain ⟨m,rfl⟩:∃ q,m=q+1:=⟨m - 1,by omega⟩
  rw[gF,eQ,decide_eq_false (by omega)]
  exact⟨j,by rw[List.append_nil]; rfl,rfl,h3⟩
 | k+1,m,i,j,acc,h1,h2,h3,h4=>by
  obtain ⟨m,rfl⟩:∃ q,m=q+1:=⟨m - 1,by omega⟩
  have hl:=hf j h3
  rw[gF,eQ,decide_eq_true (by omega),eu (n:=(d:Int)+1) (by omega) (by omega),show (i:Int)+1=((i+1:Nat):Int) by omega,tz _ (by omega)]
  simp only[cond_true,Bool.not_false,Option.bind_some]
  cases hv:f (bs.drop j) with
  | none =>
   rw[hv] at hl
   obtain ⟨v,j',hl,hj⟩:=hl
   simp only
   rw[hl]
   simp only[Option.bind_some]
   rw[CO _ _ (by omega),Option.bind_some]
   obtain ⟨m,rfl⟩:∃ q,m=q+1:=⟨m - 1,by omega⟩
   refine⟨j',acc++[v],?_,hj⟩
   rw[eQ]
   cases decide (((i+1:Nat):Int)<(n:Int))<;>rfl
  | some p =>
   obtain ⟨v,r⟩:=p
   rw[hv] at hl
   obtain ⟨j',hl,hr,hj⟩:=hl
   simp only
   rw[hl]
   simp only[Option.bind_some]
   rw[CO _ _ (by omega),Option.bind_some,hr]
   have ih:=DC bs f self N d n z0 z1 z2 z3 z4 z5 z6 hd hn hf k m (i+1) j' (acc++[v]) (by omega) (by omega) hj (by simp; omega)
   cases hg:gF f k (bs.drop j') with
   | none=>rw[hg] at ih; exact ih
   | some p =>
    obtain ⟨vs,t⟩:=p
    rw[hg] at ih
    simp only at ih ⊢
    obtain ⟨j2,ih,h5,h6⟩:=ih
    exact⟨j2,by rw[ih]; simp,h5,h6⟩
theorem Se (n:Nat) (h:n<18446744073709551616) (j:Int) (b:Bool):(bif ((Int.tmod (n:Int) 2)==1) then (some (((ai.mk 1 (wr .i64 ((wr .i64 (0 - (wr .i64 (wr .u64 (Int.tdiv (n:Int) 2))))) - 1)) ByteArray.empty ([])),j,b))) else (some (((ai.mk 1 (wr .i64 (wr .u64 (Int.tdiv (n:Int) 2))) ByteArray.empty ([])),j,b))))=some (ai.mk 1 (sg n) ByteArray.empty [],j,b):=by
 have e1:Int.tmod (n:Int) 2=((n % 2:Nat):Int):=rfl
 have e2:Int.tdiv (n:Int) 2=((n / 2:Nat):Int):=rfl
 rw[e1,e2,tz _ (by omega),eu (n:=((n / 2:Nat):Int)) (by omega) (by omega),eu (n:=0 - ((n / 2:Nat):Int)) (by omega) (by omega),eu (n:=0 - ((n / 2:Nat):Int) - 1) (by omega) (by omega)]
 unfold sg
 by_cases h2:n % 2=1
 ·rw[if_pos h2,h2,show (0:Int) - ((n / 2:Nat):Int)=-((n / 2:Nat):Int) by omega]; rfl
 ·rw[if_neg h2,show n % 2=0 by omega]; rfl
theorem FN (x j:Int):∃ v,(bif ((Int.tmod x 2)==1) then (some (((ai.mk 1 (wr .i64 ((wr .i64 (0 - (wr .i64 (wr .u64 (Int.tdiv x 2))))) - 1)) ByteArray.empty ([])),j,true))) else (some (((ai.mk 1 (wr .i64 (wr .u64 (Int.tdiv x 2))) ByteArray.empty ([])),j,true))))=some (v,j,true):=by
 cases (Int.tmod x 2)==1<;>exact⟨_,rfl⟩
def Nd:Nat->Nat->List UInt8->Option (List ai×List UInt8)
 | 0=>fun _ _=>none
 | k+1=>gF (gD k)
theorem Qh (bs:List UInt8) (hbs:bs.length<=1000000):∀ (k N d i:Nat),d+k=16->2000000+k<=N->i<=bs.length->match gD k (bs.drop i) with
  | some (v,r)=>∃ j:Nat,zU N bs (i:Int) false (d:Int)=some (v,(j:Int),false)/\r=bs.drop j/\j<=bs.length
  | none=>∃ (v:ai) (j:Nat),zU N bs (i:Int) false (d:Int)=some (v,(j:Int),true)/\j<=bs.length
 | k,N,d,i,hd,hN,hi=>by
  obtain ⟨N,rfl⟩:∃ q,N=q+1:=⟨N - 1,by omega⟩
  have eW:zU (N+1) bs (i:Int) false (d:Int)=vS (zU N) (N - 8) bs (i:Int) false (d:Int):=by
   show (bif Nat.ble 8 N then vS (zU N) (N - 8) bs (i:Int) false (d:Int) else none)=_
   rw[Nat.ble_eq_true_of_le (by omega:8<=N)]; rfl
  rw[eW]
  by_cases hil:i<bs.length
  ·rw[List.drop_eq_getElem_cons hil]
   generalize hb':bs[i]=b
   have hb:=b.toNat_lt
   have eg:gD k (b :: bs.drop (i+1))=wX b (bs.drop (i+1)) (Nd k):=by cases k<;>(rw[gD]; rfl)
   rw[eg]
   unfold vS
   rw[decide_eq_false (by omega),eu (n:=(i:Int)+1) (by omega) (by omega),show (i:Int)+1 - 1=(i:Int) by omega,eu (n:=(i:Int)) (by omega) (by omega),bL,List.getElem?_eq_getElem hil,hb']
   simp only[cond_false,Option.bind_some]
   rw[show ((b.toNat:Int)==1)=decide (b.toNat=1) by rw[Bool.eq_iff_iff]; simp; omega,show ((b.toNat:Int)==2)=decide (b.toNat=2) by rw[Bool.eq_iff_iff]; simp; omega,show ((b.toNat:Int)==3)=decide (b.toNat=3) by rw[Bool.eq_iff_iff]; simp; omega]
   have ei:(i:Int)+1=((i+1:Nat):Int):=by omega
   rw[ei]
   unfold wX
   by_cases h1:b.toNat=1
   ·rw[if_pos h1,decide_eq_true h1]
    have hr:=qX bs hbs (fun m u i l=>jq (zU N) (N - 8) 0 bs false 0 0 ByteArray.empty m u i l) (fun _ _ _ _=>rfl) (bs.length - (i+1)) (i+1) (N - 8+7) 0 0 (by omega) (by omega) (by omega) (by decide)
    simp only[cond_true]
    cases hg:jH 0 (bs.drop (i+1)) with
    | none =>
     rw[hg] at hr
     obtain ⟨x,j,hr,hj⟩:=hr
     obtain ⟨v,hv⟩:=FN x j
     refine⟨v,j,?_,hj⟩
     exact(congrArg (fun x=>Option.bind x _) hr).trans hv
    | some p =>
     obtain ⟨n,r⟩:=p
     rw[hg] at hr
     obtain ⟨_,hn,_⟩:=gv hg
     obtain ⟨j,hr,hrj,hj⟩:=hr
     simp only
     refine⟨j,?_,hrj,hj⟩
     refine(congrArg (fun x=>Option.bind x _) hr).trans ?_
     rw[show (0+2 ^ (7*0)*n:Nat)=n by omega]
     exact Se n hn j false
   rw[if_neg h1,decide_eq_false h1]
   simp only[cond_false]
   by_cases h2:b.toNat=2
   ·rw[if_pos h2,decide_eq_true h2]
    have hr:=qX bs hbs (fun m u i l=>ig (zU N) (N - 8) 0 bs false 0 0 ByteArray.empty m u i l) (fun _ _ _ _=>rfl) (bs.length - (i+1)) (i+1) (N - 8+7) 0 0 (by omega) (by omega) (by omega) (by decide)
    simp only[cond_true]
    cases hg:jH 0 (bs.drop (i+1)) with
    | none =>
     rw[hg] at hr
     obtain ⟨x,j,hr,hj⟩:=hr
     refine⟨.mk 0 0 ByteArray.empty [],j,?_,hj⟩
     exact(congrArg (fun x=>Option.bind x _) hr).trans rfl
    | some p =>
     obtain ⟨n,r⟩:=p
     rw[hg] at hr
     obtain ⟨_,hn,hrl⟩:=gv hg
     obtain ⟨j,hr,hrj,hj⟩:=hr
     have hlr:r.length=bs.length - j:=by rw[hrj,List.length_drop]
     have el:wr .u64 (wr .i64 ((bs.length:Int) - (j:Int)))=((bs.length - j:Nat):Int):=by
      rw[show (bs.length:Int) - (j:Int)=((bs.length - j:Nat):Int) by omega,eu (by omega) (by omega),tz _ (by omega)]
     simp only
     by_cases hnr:n<=r.length
     ·rw[if_pos hnr]
      refine⟨j+n,?_,by rw[hrj,List.drop_drop],by omega⟩
      refine(congrArg (fun x=>Option.bind x _) hr).trans ?_
      rw[show (0+2 ^ (7*0)*n:Nat)=n by omega]
      simp only[Option.bind_some,cond_false]
      rw[el,decide_eq_false (by omega),eu (n:=(n:Int)) (by omega) (by omega),eu (n:=(j:Int)+(n:Int)) (by omega) (by omega),show (j:Int)+(n:Int) - (n:Int)=(j:Int) by omega,eu (n:=(j:Int)) (by omega) (by omega)]
      simp only[cond_false]
      unfold er
      rw[decide_eq_true (show (0:Int)<=(j:Int) by omega),decide_eq_true (show (j:Int)<=(j:Int)+(n:Int) by omega),decide_eq_true (show (j:Int)+(n:Int)<=(bs.length:Int) by omega)]
      simp only[Bool.and_self,cond_true,Option.bind_some]
      rw[show ((j:Int)+(n:Int)).toNat - (j:Int).toNat=n by omega,hrj]
      rfl
     ·rw[if_neg hnr]
      refine⟨.mk 0 0 ByteArray.empty [],j,?_,hj⟩
      refine(congrArg (fun x=>Option.bind x _) hr).trans ?_
      rw[show (0+2 ^ (7*0)*n:Nat)=n by omega]
      simp only[Option.bind_some,cond_false]
      rw[el,decide_eq_true (by omega)]
      rfl
   rw[if_neg h2,decide_eq_false h2]
   simp only[cond_false]
   by_cases h3:b.toNat=3
   ·rw[if_pos h3,decide_eq_true h3]
    have hr:=qX bs hbs (fun m u i l=>ij (zU N) (N - 8) 0 bs false 0 0 ByteArray.empty m u i l) (fun _ _ _ _=>rfl) (bs.length - (i+1)) (i+1) (N - 8+7) 0 0 (by omega) (by omega) (by omega) (by decide)
    simp only[cond_true]
    cases hg:jH 0 (bs.drop (i+1)) with
    | none =>
     rw[hg] at hr
     obtain ⟨x,j,hr,hj⟩:=hr
     refine⟨.mk 0 0 ByteArray.empty [],j,?_,hj⟩
     exact(congrArg (fun x=>Option.bind x _) hr).trans rfl
    | some p =>
     obtain ⟨n,r⟩:=p
     rw[hg] at hr
     obtain ⟨_,hn,hrl⟩:=gv hg
     obtain ⟨j,hr,hrj,hj⟩:=hr
     have hlr:r.length=bs.length - j:=by rw[hrj,List.length_drop]
     have el:wr .u64 (wr .i64 ((bs.length:Int) - (j:Int)))=((bs.length - j:Nat):Int):=by
      rw[show (bs.length:Int) - (j:Int)=((bs.length - j:Nat):Int) by omega,eu (by omega) (by omega),tz _ (by omega)]
     simp only
     by_cases hnr:n<=r.length
     ·rw[if_pos hnr]
      cases k with
      | zero =>
       refine⟨.mk 0 0 ByteArray.empty [],j,?_,hj⟩
       refine(congrArg (fun x=>Option.bind x _) hr).trans ?_
       rw[show (0+2 ^ (7*0)*n:Nat)=n by omega]
       simp only[Option.bind_some,cond_false]
       rw[show d=16 by omega]
       cases decide ((wr .u64 (wr .i64 ((bs.length:Int) - (j:Int))))<(n:Int))<;>rfl
      | succ k =>
       have hL:=DC bs (gD k) (zU N) (N - 8) d n 0 0 ByteArray.empty [] 3 0 ByteArray.empty (by omega) (by omega) (fun i hi=>by
        have:=Qh bs hbs k N (d+1) i (by omega) (by omega) hi
        exact this) n (N - 8+8) 0 j [] (by omega) (by omega) hj (by simp)
       rw[<-hrj] at hL
       show (match (match gF (gD k) n r with
        | none=>none
        | some (vs,t)=>some (ai.mk 3 0 ByteArray.empty vs,t)) with
        | some (v,r)=>_
        | none=>_)
       cases hls:gF (gD k) n r with
       | none =>
        rw[hls] at hL
        obtain ⟨j',l,hL,hj'⟩:=hL
        refine⟨.mk 3 0 ByteArray.empty l,j',?_,hj'⟩
        refine(congrArg (fun x=>Option.bind x _) hr).trans ?_
        rw[show (0+2 ^ (7*0)*n:Nat)=n by omega]
        simp only[Option.bind_some,cond_false]
        rw[el,decide_eq_false (by omega),show ((d:Int)==16)=false by simp; omega]
        exact(congrArg (fun x=>Option.bind x _) hL).trans rfl
       | some p =>
        obtain ⟨vs,t⟩:=p
        rw[hls] at hL
        obtain ⟨j',hL,ht,hj'⟩:=hL
        simp only
        refine⟨j',?_,ht,hj'⟩
        refine(congrArg (fun x=>Option.bind x _) hr).trans ?_
        rw[show (0+2 ^ (7*0)*n:Nat)=n by omega]
        simp only[Option.bind_some,cond_false]
        rw[el,decide_eq_false (by omega),show ((d:Int)==16)=false by simp; omega]
        exact(congrArg (fun x=>Option.bind x _) hL).trans rfl
     ·rw[if_neg hnr]
      refine⟨.mk 0 0 ByteArray.empty [],j,?_,hj⟩
      refine(congrArg (fun x=>Option.bind x _) hr).trans ?_
      rw[show (0+2 ^ (7*0)*n:Nat)=n by omega]
      simp only[Option.bind_some,cond_false]
      rw[el,decide_eq_true (by omega)]
      rfl
   ·rw[if_neg h3,decide_eq_false h3]
    exact⟨_,i+1,by simp only[cond_false,Bool.false_eq_true]; rfl,by omega⟩
  ·have:gD k []=none:=by cases k<;>rw[gD]
   rw[List.drop_eq_nil_iff.2 (by omega),this]
   refine⟨.mk 0 0 ByteArray.empty [],i,?_,hi⟩
   unfold vS
   rw[decide_eq_true (by omega)]
   rfl
theorem RU (bs:List UInt8) (h:bs.length<=1000000):IX bs=some (fy bs):=by
 unfold IX Lt
 have hw:=Qh bs h 16 (aC+8) 0 0 (by omega) (by rw[fu]; omega) (by omega)
 rw[show ((0:Nat):Int)=0 from rfl,List.drop_zero] at hw
 unfold fy
 cases hg:gD 16 bs with
 | none =>
  rw[hg] at hw
  obtain ⟨v,j,hw,_⟩:=hw
  rw[hw]; rfl
 | some p =>
  obtain ⟨v,r⟩:=p
  rw[hg] at hw
  obtain ⟨j,hw,hr,hj⟩:=hw
  rw[hw]
  simp only[Option.bind_some,cond_false]
  cases r with
  | cons a r =>
   have:j<bs.length:=by
    rcases Nat.lt_or_ge j bs.length with h | h
    ·exact h
    ·rw[List.drop_eq_nil_iff.2 h] at hr; cases hr
   rw[show ((j:Int) != (bs.length:Int))=true by simp; omega]
   rfl
  | nil =>
   have hj2:j=bs.length:=by
    have:=congrArg List.length hr
    rw[List.length_drop] at this
    simp at this; omega
   obtain ⟨h1,h2,h3,h4⟩:=Ae (v:=v) h (by unfold fy; rw[hg])
   rw[show ((j:Int) != (bs.length:Int))=false by simp; omega,PJ v h4]
   simp only[cond_false,Option.bind_some,h2]
   rw[show ((0:Int) != 0)=false from rfl]
   simp only[cond_false,Option.bind_some,PL v h3 h4]
   rw[AU,<-h1,decide_eq_true rfl]
   rfl
end Go.Proofs.Ytdmgdjnadbakfaa
