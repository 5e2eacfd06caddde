/-
 Layer 01, in plain Lean: Decode.
-/
import Derived.Test.YtdmgdjnadbakfaaL
import Derived.Test.YtdmgdjnadbakfaaPure
import Derived.KernelRfl
namespace Go.Proofs.Ytdmgdjnadbakfaa
set_option linter.unusedVariables false
set_option linter.unusedSimpArgs false
set_option maxRecDepth 100000
set_option maxHeartbeats 4000000
theorem fu:fuel0=1208925819614629174706176:=rfl
mutual
def nod:S_Value->Nat
 | .mk _ _ s l=>1+s.size / 200+nods l
def nods:List S_Value->Nat
 | []=>0
 | x :: r=>nod x+nods r
end
theorem nod_eq (v:S_Value):nod v=1+v.S.size / 200+nods v.L:=by cases v; rw[nod]
theorem nod_pos (v:S_Value):1<=nod v:=by rw[nod_eq]; omega
theorem nods_nil:nods []=0:=by rw[nods]
theorem nods_cons (x:S_Value) (r:List S_Value):nods (x :: r)=nod x+nods r:=by rw[nods]
theorem nods_len:∀ l:List S_Value,l.length<=nods l
 | []=>Nat.zero_le _
 | x :: r=>by rw[nods_cons,List.length_cons]; have:=nods_len r; have:=nod_pos x; omega
theorem nods_mem:∀ {l:List S_Value} {x:S_Value},x∈l->nod x<=nods l
 | y :: r,x,h=>by
  rw[nods_cons]
  rcases List.mem_cons.1 h with rfl | h
  ·omega
  ·have:=nods_mem h; omega
def emp (s:ByteArray):Bool:=strEq s (ByteArray.mk #[])
mutual
def frm:S_Value->Bool
 | .mk k n s l=>bif k==1 then emp s&&((l.length:Int)==0) else bif k==2 then (n==0)&&((l.length:Int)==0) else bif k==3 then frms l&&((n==0)&&emp s) else false
def frms:List S_Value->Bool
 | []=>true
 | x :: r=>frm x&&frms r
end
mutual
def dep:S_Value->Nat
 | .mk k _ _ l=>bif k==3 then deps l+1 else 0
def deps:List S_Value->Nat
 | []=>0
 | x :: r=>max (dep x) (deps r)
end
theorem frm_eq (v:S_Value):frm v=bif v.Kind==1 then emp v.S&&((v.L.length:Int)==0) else bif v.Kind==2 then (v.N==0)&&((v.L.length:Int)==0) else bif v.Kind==3 then frms v.L&&((v.N==0)&&emp v.S) else false:=by cases v; rw[frm]
theorem dep_eq (v:S_Value):dep v=bif v.Kind==3 then deps v.L+1 else 0:=by cases v; rw[dep]
theorem frms_nil:frms []=true:=by rw[frms]
theorem frms_cons (x:S_Value) (r:List S_Value):frms (x :: r)=(frm x&&frms r):=by rw[frms]
theorem deps_nil:deps []=0:=by rw[deps]
theorem deps_cons (x:S_Value) (r:List S_Value):deps (x :: r)=max (dep x) (deps r):=by rw[deps]
mutual
theorem dep_nod:∀ v:S_Value,dep v<=nod v
 | .mk k n s l=>by
  rw[dep,nod]
  have:=deps_nod l
  cases k==3<;>simp<;>omega
theorem deps_nod:∀ l:List S_Value,deps l<=nods l
 | []=>by rw[deps_nil]; omega
 | x :: r=>by
  rw[deps_cons,nods_cons]
  have:=dep_nod x; have:=deps_nod r; omega
end
def chk (v:S_Value):Int:=bif frm v then (bif decide (16<dep v) then 2 else 0) else 1
theorem loop28 (self:S_Value->Option (Int×Bool)) (n:Nat) (z:Bool) (v:S_Value) (w a b c d:Bool) (hn:nod v<=1000000) (hself:∀ e∈v.L,∃ x,self e=some (x,frm e)/\(frm e=true->x=(dep e:Int))) :
  ∀ (k m i t:Nat),i+k=v.L.length->k<m->∃ r,F91_91_0 self n z v.L (v.L.length:Int) v w a b c m (t:Int) (i:Int)=some r/\(match r with | .inl p=>frms (v.L.drop i)=false/\p.1=0/\p.2.1=false | .inr x=>frms (v.L.drop i)=true/\x=((max t (deps (v.L.drop i)):Nat):Int))
 | 0,m,i,t,h1,h2=>by
  obtain ⟨m,rfl⟩:∃ q,m=q+1:=⟨m - 1,by omega⟩
  rw[F91_91_0,decide_eq_false (by omega),List.drop_eq_nil_iff.2 (by omega),frms_nil,deps_nil]
  exact⟨_,rfl,rfl,by simp⟩
 | k+1,m,i,t,h1,h2=>by
  obtain ⟨m,rfl⟩:∃ q,m=q+1:=⟨m - 1,by omega⟩
  have hi:i<v.L.length:=by omega
  have hl:=nods_len v.L
  rw[nod_eq] at hn
  obtain ⟨x,h3,h4⟩:=hself _ (List.getElem_mem hi)
  rw[F91_91_0,decide_eq_true (by omega),List.drop_eq_getElem_cons hi,frms_cons,deps_cons]
  simp only[cond_true,getI_nat,List.getElem?_eq_getElem hi,Option.bind_some,h3]
  cases hf:frm v.L[i] with
  | false=>exact⟨_,rfl,rfl,rfl,rfl⟩
  | true =>
   rw[h4 hf]
   simp only[Bool.not_true,cond_false,Bool.true_and]
   rw[wr64 (by omega) (by omega),show (i:Int)+1=((i+1:Nat):Int) by omega,show (if (t:Int)<(dep v.L[i]:Int) then (dep v.L[i]:Int) else (t:Int))=((max t (dep v.L[i]):Nat):Int) by split<;>omega]
   have:=loop28 self n z v w a b c d (by rw[nod_eq]; exact hn) hself k m (i+1) (max t (dep v.L[i])) (by omega) (by omega)
   rw[show max t (max (dep v.L[i]) (deps (v.L.drop (i+1))))=max (max t (dep v.L[i])) (deps (v.L.drop (i+1))) by omega]
   exact this
theorem r28:∀ (q:Nat) (v:S_Value),nod v<=q->nod v<=1000000->∃ x,R91 q v=some (x,frm v)/\(frm v=true->x=(dep v:Int))
 | 0,v,h,_=>by have:=nod_pos v; omega
 | q+1,v,h,hn=>by
  have hl:=nods_len v.L
  have hn':=hn
  rw[nod_eq] at hn' h
  obtain ⟨r,h1,h2⟩:=loop28 (R91 q) fuel0 false v false (emp v.S&&((v.L.length:Int)==0)) ((v.N==0)&&((v.L.length:Int)==0)) ((v.N==0)&&emp v.S) false hn (fun e he=>by
   have:=nods_mem he
   exact r28 q e (by omega) (by omega)) v.L.length (fuel0+8) 0 0 (by omega) (by rw[fu]; omega)
  rw[show ((0:Nat):Int)=0 from rfl] at h1
  rw[List.drop_zero] at h2
  show ∃ x,F91 (R91 q) fuel0 v=_/\_
  unfold F91
  rw[show (bif strEq v.S (ByteArray.mk #[]) then some ((v.L.length:Int)==0) else some false)=some (emp v.S&&((v.L.length:Int)==0)) from by unfold emp; cases strEq v.S (ByteArray.mk #[])<;>rfl,
   show (bif v.N==0 then some ((v.L.length:Int)==0) else some false)=some ((v.N==0)&&((v.L.length:Int)==0)) from by cases v.N==0<;>rfl,
   show (bif v.N==0 then some (strEq v.S (ByteArray.mk #[])) else some false)=some ((v.N==0)&&emp v.S) from by unfold emp; cases v.N==0<;>rfl]
  simp only[Option.bind_some]
  rw[frm_eq,dep_eq]
  by_cases k1:v.Kind<1
  ·rw[decide_eq_true k1]
   refine⟨0,?_,?_⟩
   ·rw[show (v.Kind==1)=false from by simp; omega,show (v.Kind==2)=false from by simp; omega,show (v.Kind==3)=false from by simp; omega]; rfl
   ·rw[show (v.Kind==1)=false from by simp; omega,show (v.Kind==2)=false from by simp; omega,show (v.Kind==3)=false from by simp; omega]; intro h; cases h
  by_cases k2:3<v.Kind
  ·rw[decide_eq_false k1,decide_eq_true k2]
   refine⟨0,?_,?_⟩
   ·rw[show (v.Kind==1)=false from by simp; omega,show (v.Kind==2)=false from by simp; omega,show (v.Kind==3)=false from by simp; omega]; rfl
   ·rw[show (v.Kind==1)=false from by simp; omega,show (v.Kind==2)=false from by simp; omega,show (v.Kind==3)=false from by simp; omega]; intro h; cases h
  rw[decide_eq_false k1,decide_eq_false k2]
  simp only[cond_false,cond_true,Option.bind_some]
  rcases (show v.Kind=1∨v.Kind=2∨v.Kind=3 by omega) with hk | hk | hk
  ·rw[hk]
   simp only[show decide ((1:Int)=0)=false from rfl,show decide ((1:Int)=1)=true from rfl,show decide ((1:Int)<3)=true from rfl,show ((1:Int)==1)=true from rfl,show ((1:Int)==3)=false from rfl,cond_false,cond_true,Option.bind_some]
   cases emp v.S&&((v.L.length:Int)==0) with
   | false=>exact⟨0,rfl,fun h=>by cases h⟩
   | true=>exact⟨0,rfl,fun _=>rfl⟩
  ·rw[hk]
   simp only[show decide ((2:Int)=0)=false from rfl,show decide ((2:Int)=1)=false from rfl,show decide ((2:Int)=2)=true from rfl,show decide ((2:Int)<3)=true from rfl,show ((2:Int)==1)=false from rfl,show ((2:Int)==2)=true from rfl,show ((2:Int)==3)=false from rfl,cond_false,cond_true,Option.bind_some]
   cases (v.N==0)&&((v.L.length:Int)==0) with
   | false=>exact⟨0,rfl,fun h=>by cases h⟩
   | true=>exact⟨0,rfl,fun _=>rfl⟩
  ·rw[hk]
   simp only[show decide ((3:Int)=0)=false from rfl,show decide ((3:Int)=1)=false from rfl,show decide ((3:Int)=2)=false from rfl,show decide ((3:Int)=3)=true from rfl,show decide ((3:Int)<3)=false from rfl,show ((3:Int)==1)=false from rfl,show ((3:Int)==2)=false from rfl,show ((3:Int)==3)=true from rfl,cond_false,cond_true,Option.bind_some]
   cases hc:(v.N==0)&&emp v.S with
   | false=>exact⟨0,by simp,fun h=>by simp at h⟩
   | true =>
    rw[hc] at h1
    simp only[Bool.not_true,cond_false,h1,Option.bind_some]
    cases r with
    | inl p =>
     obtain ⟨h3,h4,h5⟩:=h2
     obtain ⟨p1,p2,p3⟩:=p
     refine⟨0,?_,fun h=>?_⟩
     ·rw[h3]; simp only at h4 h5; subst h4; subst h5; rfl
     ·rw[h3] at h; cases h
    | inr x =>
     obtain ⟨h3,h4⟩:=h2
     have hd:=deps_nod v.L
     refine⟨_,by rw[h3]; rfl,fun _=>?_⟩
     rw[h4,wr64 (by omega) (by omega)]
     omega
theorem g16 (v:S_Value) (hn:nod v<=1000000):G76 v=some (chk v):=by
 unfold G76 F76 G91
 obtain ⟨x,h1,h2⟩:=r28 fuel0 v (by rw[fu]; omega) hn
 rw[h1,Option.bind_some]
 unfold chk
 cases hf:frm v with
 | false=>rfl
 | true =>
  rw[h2 hf]
  simp only[Bool.not_true,cond_false,cond_true]
  by_cases h:16<dep v
  ·rw[decide_eq_true h,decide_eq_true (by omega)]; rfl
  ·rw[decide_eq_false h,decide_eq_false (by omega)]; rfl
theorem lim:limit=140737488355328:=by kernel_rfl
theorem appI_some {T:Type} (b:Nat) (l l2:List T) (h:(l.length+l2.length)*b<=limit):appI b l l2=some (l++l2):=by unfold appI; rw[decide_eq_true h]; rfl
theorem app1 (l l2:List UInt8) (h:l.length+l2.length<=140737488355328):appI 1 l l2=some (l++l2):=appI_some _ _ _ (by rw[lim]; omega)
def num (n:Nat):List UInt8:=if h:n<128 then [UInt8.ofNat n] else UInt8.ofNat (n % 128+128) :: num (n / 128)
termination_by n
decreasing_by omega
theorem num_lt {n:Nat} (h:n<128):num n=[UInt8.ofNat n]:=by rw[num]; exact dif_pos h
theorem num_ge {n:Nat} (h:¬ n<128):num n=UInt8.ofNat (n % 128+128) :: num (n / 128):=by rw[num]; exact dif_neg h
theorem num_len:∀ (k n:Nat),n<128 ^ k->(num n).length<=max k 1
 | 0,n,h=>by rw[num_lt (by simpa using Nat.lt_of_lt_of_le h (by decide))]; simp
 | k+1,n,h=>by
  by_cases h1:n<128
  ·rw[num_lt h1]; simp
  ·rw[num_ge h1,List.length_cons]
   have hk:0<k:=by
    rcases Nat.eq_zero_or_pos k with rfl | hk
    ·simp at h; omega
    ·exact hk
   have:=num_len k (n / 128) (by rw[Nat.div_lt_iff_lt_mul (by decide)]; rw[Nat.pow_succ] at h; exact h)
   omega
theorem num_10 {n:Nat} (h:n<18446744073709551616):(num n).length<=10:=num_len 10 n (Nat.lt_of_lt_of_le h (by decide))
theorem wr8n (n:Nat):wr .u8 (n:Int)=((n % 256:Nat):Int):=by
 unfold wr IntKind.wrap
 simp[IntKind.bits,IntKind.signed]
theorem or128:∀ c:Fin 256,orI .u8 (c.val:Int) 128=((c.val % 128+128:Nat):Int):=by decide +kernel
theorem or128n (n:Nat):orI .u8 (wr .u8 (n:Int)) 128=((n % 128+128:Nat):Int):=by
 rw[wr8n]
 have:=or128 ⟨n % 256,Nat.mod_lt _ (by decide)⟩
 rw[this]
 simp only
 congr 2
 omega
theorem shr7 (n:Nat):shrI .u64 (n:Int) 7=((n / 128:Nat):Int):=by
 unfold shrI
 show Int.fdiv (n:Int) (2 ^ 7)=_
 rw[Int.fdiv_eq_ediv_of_nonneg _ (by decide)]
 rfl
theorem numloop (G:Nat->Int->List UInt8->Option (Int×List UInt8)) (hG:∀ m v l,G (m+1) v l=bif decide (128<=v) then (bif (decide (0<=(orI .u8 (wr .u8 (v)) 128))&&decide ((orI .u8 (wr .u8 (v)) 128)<256)) then (Option.bind (appI 1 l ([(UInt8.ofNat (Int.toNat (orI .u8 (wr .u8 (v)) 128)))])) fun y=>G m (shrI .u64 v 7) y) else none) else some (v,l)) :
  ∀ (k m n:Nat) (l:List UInt8),n<128 ^ k->k<=11->k<m->l.length+k<=140737488355328->∃ (y:Nat) (ini:List UInt8),y<128/\G m (n:Int) l=some ((y:Int),l++ini)/\num n=ini++[UInt8.ofNat y]
 | 0,m,n,l,h,_,hm,hl=>by
  obtain ⟨m,rfl⟩:∃ q,m=q+1:=⟨m - 1,by omega⟩
  have h:n<1:=h
  exact⟨n,[],by omega,by rw[hG,decide_eq_false (by omega),List.append_nil]; rfl,by rw[num_lt (by omega)]; rfl⟩
 | k+1,m,n,l,h,hk,hm,hl=>by
  obtain ⟨m,rfl⟩:∃ q,m=q+1:=⟨m - 1,by omega⟩
  by_cases h1:n<128
  ·exact⟨n,[],h1,by rw[hG,decide_eq_false (by omega),List.append_nil]; rfl,by rw[num_lt h1]; rfl⟩
  ·have hq:n / 128<128 ^ k:=by rw[Nat.div_lt_iff_lt_mul (by decide)]; rw[Nat.pow_succ] at h; exact h
   rw[hG,decide_eq_true (by omega),or128n,decide_eq_true (by omega),decide_eq_true (by omega),shr7,Int.toNat_natCast]
   simp only[cond_true,Bool.and_self]
   rw[app1 _ _ (by simp; omega),Option.bind_some]
   obtain ⟨y,ini,h2,h3,h4⟩:=numloop G hG k m (n / 128) (l++[UInt8.ofNat (n % 128+128)]) hq (by omega) (by omega) (by simp; omega)
   exact⟨y,UInt8.ofNat (n % 128+128) :: ini,h2,by rw[h3,List.append_assoc]; rfl,by rw[num_ge h1,h4]; rfl⟩
theorem u8y {y:Nat} (h:y<128):wr .u8 (y:Int)=(y:Int):=by rw[wr8n,Nat.mod_eq_of_lt (by omega)]
def zig (n:Int):Nat:=if 0<=n then (2*n).toNat else (-2*n - 1).toNat
theorem wu64 (z:Int):wr .u64 z=z % 18446744073709551616:=by
 unfold wr IntKind.wrap
 simp[IntKind.bits,IntKind.signed]
theorem zig_lt {n:Int} (h:In64 n):zig n<18446744073709551616:=by
 obtain ⟨h1,h2⟩:=h
 unfold zig; split<;>omega
theorem xor_zero (a:Int) (h:0<=a) (h':a<18446744073709551616):xorI .u64 a 0=a:=by
 unfold xorI
 show IntKind.wrap .u64 ((BitVec.ofInt 64 a ^^^ BitVec.ofInt 64 0).toNat:Int)=a
 rw[show BitVec.ofInt 64 0=0#64 from rfl,BitVec.xor_zero]
 have:=wu64 ((BitVec.ofInt 64 a).toNat:Int)
 unfold wr at this
 rw[this,BitVec.toNat_ofInt]
 omega
theorem xor_ones (a:Int) (h:0<=a) (h':a<18446744073709551616):xorI .u64 a 18446744073709551615=18446744073709551615 - a:=by
 unfold xorI
 show IntKind.wrap .u64 ((BitVec.ofInt 64 a ^^^ BitVec.ofInt 64 18446744073709551615).toNat:Int)=_
 rw[show BitVec.ofInt 64 18446744073709551615=BitVec.allOnes 64 from rfl,BitVec.xor_allOnes,BitVec.toNat_not]
 have:=wu64 (((2 ^ 64 - 1 - (BitVec.ofInt 64 a).toNat:Nat)):Int)
 unfold wr at this
 rw[this,BitVec.toNat_ofInt]
 omega
theorem g39 (n:Int) (h:In64 n):G94 n=some (zig n:Int):=by
 obtain ⟨h1,h2⟩:=h
 unfold G94 F94
 have e1:shlI .u64 (wr .u64 n) 1=(2*n) % 18446744073709551616:=by
  unfold shlI
  have:=wu64 (wr .u64 n*2 ^ 1)
  unfold wr at this ⊢
  show IntKind.wrap .u64 (IntKind.wrap .u64 n*2 ^ 1)=_
  rw[this]
  have h4:=wu64 n
  unfold wr at h4
  rw[h4]; omega
 have e2:shrI .i64 n 63=n / 9223372036854775808:=by
  unfold shrI
  show Int.fdiv n (2 ^ 63)=_
  rw[Int.fdiv_eq_ediv_of_nonneg _ (by decide)]
  rfl
 rw[e1,e2]
 congr 1
 unfold zig
 by_cases h0:0<=n
 ·rw[if_pos h0,show n / 9223372036854775808=0 by omega,show wr .u64 0=0 from rfl,xor_zero _ (by omega) (by omega)]; omega
 ·rw[if_neg h0,show n / 9223372036854775808=-1 by omega,show wr .u64 (-1)=18446744073709551615 from rfl,xor_ones _ (by omega) (by omega)]; omega
mutual
def encV:S_Value->List UInt8
 | .mk k n s l=>bif k==1 then 1 :: num (zig n) else bif k==2 then 2 :: (num s.size++bstrL s) else 3 :: (num l.length++encs l)
def encs:List S_Value->List UInt8
 | []=>[]
 | x :: r=>encV x++encs r
end
theorem encV_eq (v:S_Value):encV v=bif v.Kind==1 then 1 :: num (zig v.N) else bif v.Kind==2 then 2 :: (num v.S.size++bstrL v.S) else 3 :: (num v.L.length++encs v.L):=by cases v; rw[encV]
theorem encs_nil:encs []=[]:=by rw[encs]
theorem encs_cons (x:S_Value) (r:List S_Value):encs (x :: r)=encV x++encs r:=by rw[encs]
theorem bstr_len (s:ByteArray):(bstrL s).length=s.size:=rfl
mutual
theorem enc_len:∀ (v:S_Value),ok_S_Value v->nod v<=1000000->(encV v).length<=420*nod v
 | .mk k n s l,h,hn=>by
  rw[ok_S_Value] at h
  obtain ⟨⟨_,h2,_,_⟩,h5⟩:=h
  rw[nod] at hn
  have h1:=encs_len l h5 (by omega)
  have h3:=nods_len l
  rw[encV,nod]
  have l1:=num_10 (n:=zig n) (zig_lt h2)
  have l2:=num_10 (n:=s.size) (by omega)
  have l3:=num_10 (n:=l.length) (by omega)
  cases k==1 with
  | true=>simp only[cond_true,List.length_cons]; omega
  | false =>
   cases k==2 with
   | true=>simp only[cond_true,cond_false,List.length_cons,List.length_append,bstr_len]; omega
   | false=>simp only[cond_false,List.length_cons,List.length_append]; omega
theorem encs_len:∀ (l:List S_Value),oks_S_Value l->nods l<=1000000->(encs l).length<=420*nods l
 | [],_,_=>by rw[encs_nil,nods_nil]; simp
 | x :: r,h,hn=>by
  rw[oks_S_Value] at h
  rw[nods_cons] at hn ⊢
  have h1:=enc_len x h.1 (by omega)
  have h2:=encs_len r h.2 (by omega)
  rw[encs_cons,List.length_append]; omega
end
theorem enc_small {v:S_Value} (h:ok_S_Value v) (hn:nod v<=1000000):(encV v).length<=420000000:=by have:=enc_len v h hn; omega
theorem size_small {v:S_Value} (hn:nod v<=1000000):v.S.size<=200000000:=by rw[nod_eq] at hn; omega
theorem wun (n:Nat) (h:n<18446744073709551616):wr .u64 (n:Int)=(n:Int):=by rw[wu64]; omega
theorem frms_mem:∀ {l:List S_Value},frms l=true->∀ e∈l,frm e=true
 | x :: r,h,e,he=>by
  rw[frms_cons,Bool.and_eq_true] at h
  rcases List.mem_cons.1 he with rfl | he
  ·exact h.1
  ·exact frms_mem h.2 e he
theorem frm_kind {v:S_Value} (h:frm v=true):v.Kind=1∨v.Kind=2∨(v.Kind=3/\frms v.L=true):=by
 rw[frm_eq] at h
 cases h1:v.Kind==1 with
 | true=>exact .inl (by simpa using h1)
 | false =>
  cases h2:v.Kind==2 with
  | true=>exact .inr (.inl (by simpa using h2))
  | false =>
   cases h3:v.Kind==3 with
   | true =>
    rw[h1,h2,h3] at h
    simp only[cond_true,cond_false,Bool.and_eq_true] at h
    exact .inr (.inr ⟨by simpa using h3,h.1⟩)
   | false=>rw[h1,h2,h3] at h; cases h
theorem fin8 {y:Nat} (h:y<128) {β:Type} (k:List UInt8->Option β) (l:List UInt8) (hl:l.length<=1000000000000) :
  (bif (decide (0<=(wr .u8 (y:Int)))&&decide ((wr .u8 (y:Int))<256)) then Option.bind (appI 1 l ([(UInt8.ofNat (Int.toNat (wr .u8 (y:Int))))])) k else none)=k (l++[UInt8.ofNat y]):=by
 rw[u8y h,decide_eq_true (by omega),decide_eq_true (by omega),app1 _ _ (by simp; omega),Int.toNat_natCast]
 rfl
theorem p10 {n:Nat} (h:n<18446744073709551616):n<128 ^ 10:=Nat.lt_of_lt_of_le h (by decide)
theorem loop41 (self:S_Value->S_Value->(List UInt8)->S_Value->Option (List UInt8)) (n:Nat) (hn:50<=n) (z:List UInt8) (b0 b3 x:S_Value) (L:List S_Value) (hL:nods L<=1000000) (hf:frms L=true) (hok:∀ e∈L,ok_S_Value e)
  (hself:∀ e∈L,e.Kind=3->∀ l:List UInt8,l.length+(encV e).length<=100000000000->self b0 b3 l e=some (l++encV e)) :
  ∀ (k m i:Nat) (l:List UInt8),i+k=L.length->k<m->l.length+(encs (L.drop i)).length<=100000000000->F96w_96_0 self n z L (L.length:Int) b0 b3 x m (i:Int) l=some (l++encs (L.drop i))
 | 0,m,i,l,h1,h2,h3=>by
  obtain ⟨m,rfl⟩:∃ q,m=q+1:=⟨m - 1,by omega⟩
  rw[F96w_96_0,decide_eq_false (by omega),List.drop_eq_nil_iff.2 (by omega),encs_nil,List.append_nil]
  rfl
 | k+1,m,i,l,h1,h2,h3=>by
  obtain ⟨m,rfl⟩:∃ q,m=q+1:=⟨m - 1,by omega⟩
  have hi:i<L.length:=by omega
  have hl:=nods_len L
  have hme:L[i]∈L:=List.getElem_mem hi
  have hne:=nods_mem hme
  have hs:=size_small (v:=L[i]) (by omega)
  obtain ⟨_,hN,_,_,_⟩:=(okq_S_Value L[i]).1 (hok _ hme)
  rw[List.drop_eq_getElem_cons hi,encs_cons,List.length_append] at h3
  have ih:=loop41 self n hn z b0 b3 x L hL hf hok hself k m (i+1) (l++encV L[i]) (by omega) (by omega) (by rw[List.length_append]; omega)
  rw[F96w_96_0,decide_eq_true (by omega),List.drop_eq_getElem_cons hi,encs_cons]
  simp only[cond_true,getI_nat,List.getElem?_eq_getElem hi,Option.bind_some]
  rw[wr64 (by omega) (by omega),show (i:Int)+1=((i+1:Nat):Int) by omega,<-List.append_assoc]
  have h3':=h3
  rw[encV_eq] at h3
  generalize hE:encs (L.drop (i+1))=E at h3 h3' ih ⊢
  rcases frm_kind (frms_mem hf _ hme) with hk | hk | ⟨hk,_⟩
  ·rw[hk] at h3 ⊢
   simp only[show ((1:Int)==1)=true from rfl,cond_true,List.length_cons] at h3
   simp only[show decide ((1:Int)=0)=false from rfl,show decide ((1:Int)=1)=true from rfl,cond_true,cond_false,g39 _ hN,Option.bind_some]
   rw[app1 _ _ (by simp; omega),Option.bind_some]
   obtain ⟨y,ini,e1,e2,e3⟩:=numloop (fun m v l=>F96w_93_0a self n [] b0 b3 x L[i] L[i] m v l) (fun _ _ _=>rfl) 10 (n+6) (zig L[i].N) (l++[1]) (p10 (zig_lt hN)) (by omega) (by omega) (by simp; omega)
   have e4:(num (zig L[i].N)).length=ini.length+1:=by rw[e3]; simp
   try simp only at e2
   rw[e2,Option.bind_some]
   try simp only
   rw[fin8 e1 _ _ (by simp; omega)]
   rw[encV_eq,hk] at ih
   simp only[show ((1:Int)==1)=true from rfl,cond_true,e3] at ih
   rw[encV_eq,hk]
   simp only[show ((1:Int)==1)=true from rfl,cond_true,e3]
   rw[<-ih]
   congr 1
   simp
  ·rw[hk] at h3 ⊢
   simp only[show ((2:Int)==1)=false from rfl,show ((2:Int)==2)=true from rfl,cond_true,cond_false,List.length_cons,List.length_append,bstr_len] at h3
   simp only[show decide ((2:Int)=0)=false from rfl,show decide ((2:Int)=1)=false from rfl,show decide ((2:Int)=2)=true from rfl,cond_true,cond_false]
   rw[app1 _ _ (by simp; omega),Option.bind_some,wun _ (by omega)]
   obtain ⟨y,ini,e1,e2,e3⟩:=numloop (fun m v l=>F96w_93_0b self n [] b0 b3 x L[i] m v l) (fun _ _ _=>rfl) 10 (n+6) L[i].S.size (l++[2]) (p10 (by omega)) (by omega) (by omega) (by simp; omega)
   have e4:(num L[i].S.size).length=ini.length+1:=by rw[e3]; simp
   try simp only at e2
   rw[e2,Option.bind_some]
   try simp only
   rw[fin8 e1 _ _ (by simp; omega),app1 _ _ (by simp[bstr_len]; omega),Option.bind_some]
   rw[encV_eq,hk] at ih
   simp only[show ((2:Int)==1)=false from rfl,show ((2:Int)==2)=true from rfl,cond_true,cond_false,e3] at ih
   rw[encV_eq,hk]
   simp only[show ((2:Int)==1)=false from rfl,show ((2:Int)==2)=true from rfl,cond_true,cond_false,e3]
   rw[<-ih]
   congr 1
   simp
  ·rw[hk]
   simp only[show decide ((3:Int)=0)=false from rfl,show decide ((3:Int)=1)=false from rfl,show decide ((3:Int)=2)=false from rfl,show decide ((3:Int)=3)=true from rfl,cond_true,cond_false]
   rw[hself _ hme hk l (by omega),Option.bind_some]
   exact ih
theorem w41:∀ (q N:Nat) (b0 b3:S_Value) (l:List UInt8) (v:S_Value),v.Kind=3->frm v=true->ok_S_Value v->nod v<=q->nod v<=1000000->q+2000000<=N->l.length+(encV v).length<=100000000000->W96 N b0 b3 l v=some (l++encV v)
 | 0,N,b0,b3,l,v,_,_,_,h,_,_,_=>by have:=nod_pos v; omega
 | q+1,N,b0,b3,l,v,hk,hf,hv,h,hn,hN,hl=>by
  obtain ⟨N,rfl⟩:∃ p,N=p+1:=⟨N - 1,by omega⟩
  obtain ⟨_,h2,_,_,h4⟩:=(okq_S_Value v).1 hv
  have hll:=nods_len v.L
  have hn':=hn
  rw[nod_eq] at hn' h
  have hfs:frms v.L=true:=by
   rcases frm_kind hf with h | h | h
   ·omega
   ·omega
   ·exact h.2
  show (bif Nat.ble 8 N then F96w (W96 N) (N - 8) b0 b3 l v else none)=_
  rw[Nat.ble_eq_true_of_le (by omega:8<=N)]
  simp only[cond_true]
  unfold F96w
  rw[encV_eq,hk] at hl ⊢
  simp only[show ((3:Int)==1)=false from rfl,show ((3:Int)==2)=false from rfl,cond_false,List.length_cons,List.length_append] at hl ⊢
  rw[app1 _ _ (by simp; omega),Option.bind_some,wun _ (by omega)]
  obtain ⟨y,ini,e1,e2,e3⟩:=numloop (fun m u l=>F96w_93_0 (W96 N) (N - 8) [] b0 b3 v m u l) (fun _ _ _=>rfl) 10 (N - 8+7) v.L.length (l++[3]) (p10 (by omega)) (by omega) (by omega) (by simp; omega)
  have e4:(num v.L.length).length=ini.length+1:=by rw[e3]; simp
  try simp only at e2
  rw[e2,Option.bind_some]
  try simp only
  rw[fin8 e1 _ _ (by simp; omega)]
  have:=loop41 (W96 N) (N - 8) (by omega) [] b0 b3 v v.L (by omega) hfs h4 (fun e he hke l' hl'=>by
   have:=nods_mem he
   exact w41 q N b0 b3 l' e hke (frms_mem hfs e he) (h4 e he) (by omega) (by omega) (by omega) hl') v.L.length (N - 8+8) 0 (l++[3]++ini++[UInt8.ofNat y]) (by omega) (by omega) (by rw[List.drop_zero]; simp; omega)
  rw[show ((0:Nat):Int)=0 from rfl,List.drop_zero] at this
  rw[this,e3]
  simp
theorem loop12 (n:Nat) (hn:50<=n) (z:List UInt8) (b0 b3:S_Value) (L:List S_Value) (hL:nods L<=1000000) (hf:frms L=true) (hok:∀ e∈L,ok_S_Value e)
  (hself:∀ e∈L,e.Kind=3->∀ l:List UInt8,l.length+(encV e).length<=100000000000->W96 (n+7) b0 b3 l e=some (l++encV e)) :
  ∀ (k m i:Nat) (l:List UInt8),i+k=L.length->k<m->l.length+(encs (L.drop i)).length<=100000000000->F56_96_0 n z L (L.length:Int) b0 b3 m (i:Int) l=some (l++encs (L.drop i))
 | 0,m,i,l,h1,h2,h3=>by
  obtain ⟨m,rfl⟩:∃ q,m=q+1:=⟨m - 1,by omega⟩
  rw[F56_96_0,decide_eq_false (by omega),List.drop_eq_nil_iff.2 (by omega),encs_nil,List.append_nil]
  rfl
 | k+1,m,i,l,h1,h2,h3=>by
  obtain ⟨m,rfl⟩:∃ q,m=q+1:=⟨m - 1,by omega⟩
  have hi:i<L.length:=by omega
  have hl:=nods_len L
  have hme:L[i]∈L:=List.getElem_mem hi
  have hne:=nods_mem hme
  have hs:=size_small (v:=L[i]) (by omega)
  obtain ⟨_,hN,_,_,_⟩:=(okq_S_Value L[i]).1 (hok _ hme)
  rw[List.drop_eq_getElem_cons hi,encs_cons,List.length_append] at h3
  have ih:=loop12 n hn z b0 b3 L hL hf hok hself k m (i+1) (l++encV L[i]) (by omega) (by omega) (by rw[List.length_append]; omega)
  rw[F56_96_0,decide_eq_true (by omega),List.drop_eq_getElem_cons hi,encs_cons]
  simp only[cond_true,getI_nat,List.getElem?_eq_getElem hi,Option.bind_some]
  rw[wr64 (by omega) (by omega),show (i:Int)+1=((i+1:Nat):Int) by omega,<-List.append_assoc]
  have h3':=h3
  rw[encV_eq] at h3
  generalize hE:encs (L.drop (i+1))=E at h3 h3' ih ⊢
  rcases frm_kind (frms_mem hf _ hme) with hk | hk | ⟨hk,_⟩
  ·rw[hk] at h3 ⊢
   simp only[show ((1:Int)==1)=true from rfl,cond_true,List.length_cons] at h3
   simp only[show decide ((1:Int)=0)=false from rfl,show decide ((1:Int)=1)=true from rfl,cond_true,cond_false,g39 _ hN,Option.bind_some]
   rw[app1 _ _ (by simp; omega),Option.bind_some]
   obtain ⟨y,ini,e1,e2,e3⟩:=numloop (fun m v l=>F56_93_0c n [] b0 b3 L[i] L[i] m v l) (fun _ _ _=>rfl) 10 (n+5) (zig L[i].N) (l++[1]) (p10 (zig_lt hN)) (by omega) (by omega) (by simp; omega)
   have e4:(num (zig L[i].N)).length=ini.length+1:=by rw[e3]; simp
   try simp only at e2
   rw[e2,Option.bind_some]
   try simp only
   rw[fin8 e1 _ _ (by simp; omega)]
   rw[encV_eq,hk] at ih
   simp only[show ((1:Int)==1)=true from rfl,cond_true,e3] at ih
   rw[encV_eq,hk]
   simp only[show ((1:Int)==1)=true from rfl,cond_true,e3]
   rw[<-ih]
   congr 1
   simp
  ·rw[hk] at h3 ⊢
   simp only[show ((2:Int)==1)=false from rfl,show ((2:Int)==2)=true from rfl,cond_true,cond_false,List.length_cons,List.length_append,bstr_len] at h3
   simp only[show decide ((2:Int)=0)=false from rfl,show decide ((2:Int)=1)=false from rfl,show decide ((2:Int)=2)=true from rfl,cond_true,cond_false]
   rw[app1 _ _ (by simp; omega),Option.bind_some,wun _ (by omega)]
   obtain ⟨y,ini,e1,e2,e3⟩:=numloop (fun m v l=>F56_93_0d n [] b0 b3 L[i] m v l) (fun _ _ _=>rfl) 10 (n+5) L[i].S.size (l++[2]) (p10 (by omega)) (by omega) (by omega) (by simp; omega)
   have e4:(num L[i].S.size).length=ini.length+1:=by rw[e3]; simp
   try simp only at e2
   rw[e2,Option.bind_some]
   try simp only
   rw[fin8 e1 _ _ (by simp; omega),app1 _ _ (by simp[bstr_len]; omega),Option.bind_some]
   rw[encV_eq,hk] at ih
   simp only[show ((2:Int)==1)=false from rfl,show ((2:Int)==2)=true from rfl,cond_true,cond_false,e3] at ih
   rw[encV_eq,hk]
   simp only[show ((2:Int)==1)=false from rfl,show ((2:Int)==2)=true from rfl,cond_true,cond_false,e3]
   rw[<-ih]
   congr 1
   simp
  ·rw[hk]
   simp only[show decide ((3:Int)=0)=false from rfl,show decide ((3:Int)=1)=false from rfl,show decide ((3:Int)=2)=false from rfl,show decide ((3:Int)=3)=true from rfl,cond_true,cond_false]
   rw[hself _ hme hk l (by omega),Option.bind_some]
   exact ih
theorem chk_frm {v:S_Value} (h:chk v=0):frm v=true:=by
 unfold chk at h
 cases hf:frm v with
 | true=>rfl
 | false=>rw[hf] at h; cases h
def encR (v:S_Value):List UInt8×Int:=bif chk v==0 then (encV v,0) else ([],chk v)
theorem g12 (v:S_Value) (hv:ok_S_Value v) (hn:nod v<=1000000):G56 v=some (encR v):=by
 unfold G56 F56
 rw[g16 v hn,Option.bind_some]
 unfold encR
 cases hc:chk v==0 with
 | false=>rw[show (chk v != 0)=true by rw[bne,hc]; rfl]; rfl
 | true =>
  rw[show (chk v != 0)=false by rw[bne,hc]; rfl]
  have hf:=chk_frm (by simpa using hc)
  obtain ⟨_,h2,_,_,h4⟩:=(okq_S_Value v).1 hv
  have hs:=size_small hn
  have he:=enc_small hv hn
  have hll:=nods_len v.L
  have hn':=hn
  rw[nod_eq] at hn'
  simp only[cond_false,cond_true]
  rw[encV_eq] at he ⊢
  rcases frm_kind hf with hk | hk | ⟨hk,hfs⟩
  ·rw[hk] at he ⊢
   simp only[show decide ((1:Int)=0)=false from rfl,show decide ((1:Int)=1)=true from rfl,show ((1:Int)==1)=true from rfl,cond_true,cond_false,g39 _ h2,Option.bind_some] at he ⊢
   rw[app1 _ _ (by simp),Option.bind_some]
   obtain ⟨y,ini,e1,e2,e3⟩:=numloop (fun m u l=>F56_93_0 fuel0 [] v v m u l) (fun _ _ _=>rfl) 10 (fuel0+6) (zig v.N) ([]++[1]) (p10 (zig_lt h2)) (by omega) (by rw[fu]; omega) (by simp)
   have e4:(num (zig v.N)).length=ini.length+1:=by rw[e3]; simp
   have l1:=num_10 (zig_lt h2)
   try simp only at e2
   rw[e2,Option.bind_some]
   try simp only
   rw[fin8 e1 _ _ (by simp; omega),e3]
   simp
  ·rw[hk] at he ⊢
   simp only[show decide ((2:Int)=0)=false from rfl,show decide ((2:Int)=1)=false from rfl,show decide ((2:Int)=2)=true from rfl,show ((2:Int)==1)=false from rfl,show ((2:Int)==2)=true from rfl,cond_true,cond_false,List.length_cons,List.length_append,bstr_len] at he ⊢
   rw[app1 _ _ (by simp),Option.bind_some,wun _ (by omega)]
   obtain ⟨y,ini,e1,e2,e3⟩:=numloop (fun m u l=>F56_93_0a fuel0 [] v m u l) (fun _ _ _=>rfl) 10 (fuel0+6) v.S.size ([]++[2]) (p10 (by omega)) (by omega) (by rw[fu]; omega) (by simp)
   have e4:(num v.S.size).length=ini.length+1:=by rw[e3]; simp
   have l1:=num_10 (n:=v.S.size) (by omega)
   try simp only at e2
   rw[e2,Option.bind_some]
   try simp only
   rw[fin8 e1 _ _ (by simp; omega),app1 _ _ (by simp[bstr_len]; omega),Option.bind_some,e3]
   simp
  ·rw[hk] at he ⊢
   simp only[show decide ((3:Int)=0)=false from rfl,show decide ((3:Int)=1)=false from rfl,show decide ((3:Int)=2)=false from rfl,show decide ((3:Int)=3)=true from rfl,show ((3:Int)==1)=false from rfl,show ((3:Int)==2)=false from rfl,cond_true,cond_false,List.length_cons,List.length_append] at he ⊢
   rw[app1 _ _ (by simp),Option.bind_some,wun _ (by omega)]
   obtain ⟨y,ini,e1,e2,e3⟩:=numloop (fun m u l=>F56_93_0 fuel0 [] v v m u l) (fun _ _ _=>rfl) 10 (fuel0+6) v.L.length ([]++[3]) (p10 (by omega)) (by omega) (by rw[fu]; omega) (by simp)
   have e4:(num v.L.length).length=ini.length+1:=by rw[e3]; simp
   have l1:=num_10 (n:=v.L.length) (by omega)
   try simp only at e2
   rw[e2,Option.bind_some]
   try simp only
   rw[fin8 e1 _ _ (by simp; omega)]
   have:=loop12 fuel0 (by rw[fu]; omega) [] v v v.L (by omega) hfs h4 (fun e he' hke l' hl'=>by
    have:=nods_mem he'
    exact w41 1000000 (fuel0+7) v v l' e hke (frms_mem hfs e he') (h4 e he') (by omega) (by omega) (by rw[fu]; omega) hl') v.L.length (fuel0+7) 0 ([]++[3]++ini++[UInt8.ofNat y]) (by omega) (by rw[fu]; omega) (by rw[List.drop_zero]; simp; omega)
   rw[show ((0:Nat):Int)=0 from rfl,List.drop_zero] at this
   rw[this,e3]
   simp
def getN:Nat->List UInt8->Option (Nat×List UInt8)
 | _,[]=>none
 | c,b :: r=>if (0<c/\b.toNat=0)∨(9<=c/\1<b.toNat) then none else if b.toNat<128 then some (b.toNat,r) else match getN (c+1) r with
  | some (n,t)=>some (b.toNat - 128+128*n,t)
  | none=>none
theorem pw (c:Nat):2 ^ (7*(c+1))=128*2 ^ (7*c):=by rw[Nat.mul_add,Nat.pow_add]; omega
theorem u8n {n:Nat} (h:n<256):(UInt8.ofNat n).toNat=n:=by simp; omega
theorem getN_num:∀ (k n c:Nat) (t:List UInt8),n<128 ^ k->c<=9->2 ^ (7*c)*n<18446744073709551616->(0<c->n≠0)->getN c (num n++t)=some (n,t)
 | 0,n,c,t,h1,h2,h3,h4=>by
  have h1:n<1:=h1
  have h5:c=0:=by
   rcases Nat.eq_zero_or_pos c with h | h
   ·exact h
   ·have:=h4 h; omega
  subst h5
  rw[num_lt (by omega),List.singleton_append,getN,u8n (by omega),if_neg (by omega),if_pos (by omega)]
 | k+1,n,c,t,h1,h2,h3,h4=>by
  have h9:c=9->n<=1:=by
   intro h
   subst h
   have:2 ^ (7*9)=9223372036854775808:=by decide
   omega
  by_cases hn:n<128
  ·rw[num_lt hn,List.singleton_append,getN,u8n (by omega),if_neg (by
    rintro (⟨h5,h6⟩ | ⟨h5,h6⟩)
    ·exact h4 h5 h6
    ·have:=h9 (by omega); omega),if_pos hn]
  ·have h5:c≠9:=fun h=>by have:=h9 h; omega
   have h6:n / 128<128 ^ k:=by rw[Nat.div_lt_iff_lt_mul (by decide)]; rw[Nat.pow_succ] at h1; exact h1
   have h7:2 ^ (7*(c+1))*(n / 128)<=2 ^ (7*c)*n:=by
    rw[pw,Nat.mul_comm 128,Nat.mul_assoc]
    exact Nat.mul_le_mul_left _ (by omega)
   rw[num_ge hn,List.cons_append,getN,u8n (by omega),if_neg (by omega),if_neg (by omega),getN_num k (n / 128) (c+1) t h6 (by omega) (by omega) (by omega)]
   simp only
   congr 2
   omega
theorem getN_big {n:Nat} {t:List UInt8} (h:n<18446744073709551616):getN 0 (num n++t)=some (n,t):=getN_num 10 n 0 t (p10 h) (by omega) (by omega) (by omega)
theorem getN_inv:∀ (l:List UInt8) (c n:Nat) (r:List UInt8),getN c l=some (n,r)->c<=9->l=num n++r/\(0<c->n≠0)/\2 ^ (7*c)*n<18446744073709551616
 | [],c,n,r,h,_=>by rw[getN] at h; cases h
 | b :: l,c,n,r,h,hc=>by
  have hb:=b.toNat_lt
  rw[getN] at h
  split at h
  ·cases h
  rename_i h1
  split at h
  ·rename_i h2
   cases h
   refine⟨?_,fun h3 h4=>h1 (.inl ⟨h3,h4⟩),?_⟩
   ·rw[num_lt h2,UInt8.ofNat_toNat]; rfl
   ·have:2 ^ (7*9)=9223372036854775808:=by decide
    by_cases h9:c=9
    ·subst h9; omega
    ·have h8:2 ^ (7*c)<=2 ^ 56:=Nat.pow_le_pow_right (by decide) (by omega)
     have h7:2 ^ (7*c)*b.toNat<=2 ^ 56*127:=Nat.mul_le_mul h8 (by omega)
     omega
  ·rename_i h2
   split at h
   ·rename_i m t h3
    cases h
    have h9:c≠9:=fun h=>h1 (.inr ⟨by omega,by omega⟩)
    obtain ⟨h4,h5,h6⟩:=getN_inv l (c+1) m _ h3 (by omega)
    have h5:=h5 (by omega)
    refine⟨?_,fun _=>by omega,?_⟩
    ·rw[num_ge (by omega),show (b.toNat - 128+128*m) % 128+128=b.toNat by omega,show (b.toNat - 128+128*m) / 128=m by omega,UInt8.ofNat_toNat,h4]
     rfl
    ·rw[pw] at h6
     have h8:2 ^ (7*c)*(b.toNat - 128)+2 ^ (7*c)*(128*m)<18446744073709551616:=by
      have e:2 ^ (7*c)*(128*m)=128*2 ^ (7*c)*m:=by rw[Nat.mul_comm 128 (2 ^ (7*c)),Nat.mul_assoc]
      rw[e]
      have hlt:b.toNat - 128<128:=by omega
      have h10:2 ^ (7*c)*(b.toNat - 128)<2 ^ (7*c)*128:=Nat.mul_lt_mul_of_pos_left hlt (Nat.two_pow_pos _)
      have h11:2 ^ (7*c)*128*m<18446744073709551616:=by rw[Nat.mul_comm (2 ^ (7*c))]; exact h6
      have hd:18446744073709551616=2 ^ (7*c)*128*2 ^ (64 - (7*c+7)):=by
       rw[Nat.mul_assoc,show 128*2 ^ (64 - (7*c+7))=2 ^ (64 - 7*c) by
        rw[show 128=2 ^ 7 from rfl,<-Nat.pow_add]; congr 1; omega,<-Nat.pow_add,show 7*c+(64 - 7*c)=64 by omega]
      rw[hd] at h11
      have h12:m<2 ^ (64 - (7*c+7)):=Nat.lt_of_mul_lt_mul_left h11
      have h13:2 ^ (7*c)*128*(m+1)<=2 ^ (7*c)*128*2 ^ (64 - (7*c+7)):=Nat.mul_le_mul_left _ h12
      rw[<-hd,Nat.mul_add,Nat.mul_one] at h13
      rw[Nat.mul_comm 128 (2 ^ (7*c))]
      omega
     rw[Nat.mul_add]; exact h8
   ·cases h
theorem getN_len {l:List UInt8} {n:Nat} {r:List UInt8} (h:getN 0 l=some (n,r)):l=num n++r/\n<18446744073709551616/\r.length<l.length:=by
 obtain ⟨h1,_,h2⟩:=getN_inv l 0 n r h (by omega)
 refine⟨h1,by omega,?_⟩
 have:num n≠[]:=by
  rw[num]; split<;>simp
 have:=List.length_pos_iff.2 this
 rw[h1,List.length_append]; omega
theorem and127:∀ c:Fin 256,andI .u8 (c.val:Int) 127=((c.val % 128:Nat):Int):=by decide +kernel
theorem sh7 {b c:Nat} (hc:c<=9) (h:c=9->b<=1) (hb:b<128):shlI .u64 (wr .u64 (b:Int)) (wr .i64 (7*(c:Int)))=((2 ^ (7*c)*b:Nat):Int):=by
 rw[wr64 (by omega) (by omega),wun _ (by omega)]
 unfold shlI
 rw[show (7*(c:Int)).toNat=7*c by omega,show min (7*c) (IntKind.bits .u64)=7*c from Nat.min_eq_left (by show 7*c<=64; omega)]
 have e:((b:Int)*2 ^ (7*c))=((2 ^ (7*c)*b:Nat):Int):=by rw[Int.natCast_mul,Int.natCast_pow,Int.mul_comm]; rfl
 rw[e]
 have:=wun (2 ^ (7*c)*b) (by
  have h9:2 ^ (7*9)=9223372036854775808:=by decide
  by_cases h1:c=9
  ·have:=h h1; subst h1; rcases (show b=0∨b=1 by omega) with rfl | rfl<;>omega
  ·have h8:2 ^ (7*c)<=2 ^ 56:=Nat.pow_le_pow_right (by decide) (by omega)
   have:=Nat.mul_le_mul h8 (show b<=127 by omega)
   omega)
 exact this
theorem lt64 {a b c:Nat} (hc:c<=9) (h:c=9->b<=1) (hb:b<128) (ha:a<2 ^ (7*c)):a+2 ^ (7*c)*b<18446744073709551616:=by
 have h9:2 ^ (7*9)=9223372036854775808:=by decide
 by_cases h1:c=9
 ·have:=h h1; subst h1; rcases (show b=0∨b=1 by omega) with rfl | rfl<;>omega
 ·have h8:2 ^ (7*c)<=2 ^ 56:=Nat.pow_le_pow_right (by decide) (by omega)
  have:=Nat.mul_le_mul h8 (show b<=127 by omega)
  omega
theorem or7 {a b c:Nat} (hc:c<=9) (h:c=9->b<=1) (hb:b<128) (ha:a<2 ^ (7*c)):orI .u64 (a:Int) ((2 ^ (7*c)*b:Nat):Int)=((a+2 ^ (7*c)*b:Nat):Int):=by
 have h1:=lt64 hc h hb ha
 unfold orI
 show IntKind.wrap .u64 ((BitVec.ofInt 64 (a:Int) ||| BitVec.ofInt 64 ((2 ^ (7*c)*b:Nat):Int)).toNat:Int)=_
 rw[BitVec.toNat_or,BitVec.toNat_ofInt,BitVec.toNat_ofInt]
 have e1:((a:Int) % ((2 ^ 64:Nat):Int)).toNat=a:=by omega
 have e2:(((2 ^ (7*c)*b:Nat):Int) % ((2 ^ 64:Nat):Int)).toNat=2 ^ (7*c)*b:=by omega
 rw[e1,e2,Nat.or_comm,<-Nat.two_pow_add_eq_or_of_lt ha,Nat.add_comm]
 exact wun _ h1
theorem rdloop (G:Nat->Int->Int->List UInt8->Option ((List UInt8)⊕(Int×List UInt8))) (hG:∀ m v6 v7 v8,G (m+1) v6 v7 v8=bif (!(decide (1<=((v8.length:Int))))) then (some ((Sum.inl v8))) else (Option.bind (subI v8 0 1) fun y13=>Option.bind (subI v8 1 ((v8.length:Int))) fun y14=>Option.bind (getI y13 0) fun y15=>Option.bind (bif (v7==0) then (some true) else (some (((y15.toNat:Int)) != 0))) fun y17=>Option.bind (bif y17 then (Option.bind (bif (decide (v7<9)) then (some true) else (some (decide (((y15.toNat:Int))<=1)))) fun y22=>some y22) else (some false)) fun y25=>bif (!y25) then (some ((Sum.inl y14))) else (bif decide (0<=(wr .i64 (7*v7))) then (bif (decide (((y15.toNat:Int))<128)) then (some ((Sum.inr ((orI .u64 v6 (shlI .u64 (wr .u64 (andI .u8 ((y15.toNat:Int)) 127)) (wr .i64 (7*v7))),y14))))) else (G m (orI .u64 v6 (shlI .u64 (wr .u64 (andI .u8 ((y15.toNat:Int)) 127)) (wr .i64 (7*v7)))) (wr .i64 (v7+1)) y14)) else none))) :
  ∀ (l:List UInt8) (m a c:Nat),c<=9->10<=m+c->a<2 ^ (7*c)->match getN c l with
   | some (n,r)=>G m (a:Int) (c:Int) l=some (.inr (((a+2 ^ (7*c)*n:Nat):Int),r))
   | none=>∃ r,G m (a:Int) (c:Int) l=some (.inl r)
 | [],m,a,c,hc,hm,ha=>by
  obtain ⟨m,rfl⟩:∃ q,m=q+1:=⟨m - 1,by omega⟩
  rw[getN,hG]
  exact⟨_,rfl⟩
 | b :: l,m,a,c,hc,hm,ha=>by
  obtain ⟨m,rfl⟩:∃ q,m=q+1:=⟨m - 1,by omega⟩
  have hb:=b.toNat_lt
  have hs1:subI (b :: l) 0 1=some [b]:=by
   unfold subI
   rw[show decide ((1:Int)<=((b :: l).length:Int))=true from decide_eq_true (by rw[List.length_cons]; omega)]
   rfl
  have hs2:subI (b :: l) 1 ((b :: l).length:Int)=some l:=by
   unfold subI
   rw[show decide ((1:Int)<=((b :: l).length:Int))=true from decide_eq_true (by rw[List.length_cons]; omega),decide_eq_true (Int.le_refl _)]
   simp
  have hc1:(bif ((c:Int)==0) then (some true) else (some (((b.toNat:Int)) != 0)))=some (!decide (0<c/\b.toNat=0)):=by
   by_cases h:c=0
   ·subst h; simp
   ·rw[show ((c:Int)==0)=false by simp; omega]
    simp only[cond_false]
    congr 1
    rw[Bool.eq_iff_iff]
    simp
    omega
  have hc2:(bif (decide ((c:Int)<9)) then (some true) else (some (decide (((b.toNat:Int))<=1))))=some (!decide (9<=c/\1<b.toNat)):=by
   by_cases h:c<9
   ·rw[decide_eq_true (by omega)]
    simp only[cond_true]
    congr 1
    rw[Bool.eq_iff_iff]
    simp
    omega
   ·rw[decide_eq_false (by omega)]
    simp only[cond_false]
    congr 1
    rw[Bool.eq_iff_iff]
    simp
    omega
  have e127:andI .u8 ((b.toNat:Int)) 127=((b.toNat % 128:Nat):Int):=and127 ⟨b.toNat,hb⟩
  rw[getN,hG,hs1,hs2,decide_eq_true (show (1:Int)<=((b :: l).length:Int) by rw[List.length_cons]; omega)]
  simp only[Bool.not_true,cond_false,Option.bind_some,show getI [b] 0=some b from rfl,hc1,hc2]
  by_cases h:(0<c/\b.toNat=0)∨(9<=c/\1<b.toNat)
  ·rw[if_pos h]
   refine⟨l,?_⟩
   by_cases h5:0<c/\b.toNat=0
   ·rw[decide_eq_true h5]; rfl
   ·rw[decide_eq_false h5,decide_eq_true (show 9<=c/\1<b.toNat by omega)]; rfl
  ·rw[if_neg h,decide_eq_false (show ¬ (0<c/\b.toNat=0) by omega),decide_eq_false (show ¬ (9<=c/\1<b.toNat) by omega)]
   have hb9:c=9->b.toNat % 128<=1:=fun h9=>by omega
   rw[e127,sh7 hc hb9 (by omega),or7 hc hb9 (by omega) ha,decide_eq_true (show 0<=wr .i64 (7*(c:Int)) by rw[wr64 (by omega) (by omega)]; omega)]
   simp only[Bool.not_false,cond_true,Option.bind_some,Bool.not_true,cond_false]
   by_cases h8:b.toNat<128
   ·rw[if_pos h8,decide_eq_true (by omega),Nat.mod_eq_of_lt h8]
    rfl
   ·rw[if_neg h8,decide_eq_false (by omega),wr64 (n:=(c:Int)+1) (by omega) (by omega)]
    have hlt:a+2 ^ (7*c)*(b.toNat % 128)<2 ^ (7*(c+1)):=by
     rw[pw]
     have:=Nat.mul_le_mul_left (2 ^ (7*c)) (show b.toNat % 128<=127 by omega)
     omega
    have ih:=rdloop G hG l m (a+2 ^ (7*c)*(b.toNat % 128)) (c+1) (by omega) (by omega) hlt
    rw[show ((c+1:Nat):Int)=(c:Int)+1 by omega] at ih
    simp only[cond_false]
    cases hg:getN (c+1) l with
    | none=>rw[hg] at ih; exact ih
    | some p =>
     obtain ⟨n,r⟩:=p
     rw[hg] at ih
     simp only at ih ⊢
     rw[ih,pw]
     congr 4
     rw[Nat.mul_add,show b.toNat % 128=b.toNat - 128 by omega,Nat.add_assoc,Nat.mul_comm 128 (2 ^ (7*c)),Nat.mul_assoc]
theorem strEq_d (a b:ByteArray):strEq a b=decide (a=b):=by
 rw[Bool.eq_iff_iff]
 unfold strEq
 rw[ByteArray.toList_eq,ByteArray.toList_eq]
 cases a; cases b
 simp
theorem bstr_L (s:ByteArray):bstr (bstrL s)=s:=by cases s; simp[bstr,bstrL]
theorem bstrL_b (l:List UInt8):bstrL (bstr l)=l:=by simp[bstr,bstrL]
theorem bstr_size (l:List UInt8):(bstr l).size=l.length:=by rw[<-bstr_len,bstrL_b]
theorem emp_eq {s:ByteArray}:emp s=true↔s=ByteArray.empty:=by
 unfold emp
 rw[strEq_d,decide_eq_true_iff]
 rfl
def sg (u:Nat):Int:=if u % 2=1 then -((u / 2:Nat):Int) - 1 else ((u / 2:Nat):Int)
theorem sg_zig (n:Int):sg (zig n)=n:=by unfold sg zig; split<;>split<;>omega
theorem zig_sg (u:Nat):zig (sg u)=u:=by unfold sg; split<;>(unfold zig; split<;>omega)
theorem sg_in {u:Nat} (h:u<18446744073709551616):In64 (sg u):=by unfold sg In64; split<;>omega
theorem wi64 (z:Int):wr .i64 z=if 9223372036854775808<=z % 18446744073709551616 then z % 18446744073709551616 - 18446744073709551616 else z % 18446744073709551616:=by
 simp only[wr,IntKind.wrap,IntKind.bits,IntKind.signed]
 simp
theorem bv64 (z:Int) (h:-9223372036854775808<=z) (h':z<=9223372036854775807):wr .i64 ((BitVec.ofInt 64 z).toNat:Int)=z:=by
 rw[wi64,BitVec.toNat_ofInt]
 split<;>omega
theorem xor_zero_i (a:Int) (h:0<=a) (h':a<=9223372036854775807):xorI .i64 a 0=a:=by
 unfold xorI
 show wr .i64 ((BitVec.ofInt 64 a ^^^ BitVec.ofInt 64 0).toNat:Int)=a
 rw[show BitVec.ofInt 64 0=0#64 from rfl,BitVec.xor_zero]
 exact bv64 a (by omega) h'
theorem xor_ones_i (a:Int) (h:0<=a) (h':a<=9223372036854775807):xorI .i64 a (-1)=-a - 1:=by
 unfold xorI
 show wr .i64 ((BitVec.ofInt 64 a ^^^ BitVec.ofInt 64 (-1)).toNat:Int)=_
 rw[show BitVec.ofInt 64 (-1)=BitVec.allOnes 64 from rfl,BitVec.xor_allOnes,BitVec.toNat_not,wi64,BitVec.toNat_ofInt]
 split<;>omega
theorem and1 (u:Nat) (h:u<18446744073709551616):andI .u64 (u:Int) 1=((u % 2:Nat):Int):=by
 unfold andI
 show wr .u64 ((BitVec.ofInt 64 (u:Int) &&& BitVec.ofInt 64 1).toNat:Int)=_
 rw[BitVec.toNat_and,BitVec.toNat_ofInt,show (BitVec.ofInt 64 1).toNat=1 from rfl,Nat.and_one_is_mod,show ((u:Int) % ((2 ^ 64:Nat):Int)).toNat=u by omega,wun _ (by omega)]
theorem g45 (u:Nat) (h:u<18446744073709551616):G102 (u:Int)=some (sg u):=by
 unfold G102 F102
 have e1:shrI .u64 (u:Int) 1=((u / 2:Nat):Int):=by
  unfold shrI
  show Int.fdiv (u:Int) (2 ^ 1)=_
  rw[Int.fdiv_eq_ediv_of_nonneg _ (by decide)]
  rfl
 rw[e1,and1 u h,wr64 (n:=((u / 2:Nat):Int)) (by omega) (by omega),wr64 (n:=((u % 2:Nat):Int)) (by omega) (by omega),wr64 (by omega) (by omega)]
 congr 1
 unfold sg
 by_cases h2:u % 2=1
 ·rw[if_pos h2,h2,show (0:Int) - ((1:Nat):Int)=-1 from rfl,xor_ones_i _ (by omega) (by omega)]
 ·rw[if_neg h2,show u % 2=0 by omega,show (0:Int) - ((0:Nat):Int)=0 from rfl,xor_zero_i _ (by omega) (by omega)]
def getLs (f:List UInt8->Option (S_Value×List UInt8)):Nat->List UInt8->Option (List S_Value×List UInt8)
 | 0,l=>some ([],l)
 | n+1,l=>match f l with
  | none=>none
  | some (v,r)=>match getLs f n r with
   | none=>none
   | some (vs,t)=>some (v :: vs,t)
def getA (b:UInt8) (l:List UInt8) (h:Nat->List UInt8->Option (List S_Value×List UInt8)):Option (S_Value×List UInt8) :=
 if b.toNat=1 then (match getN 0 l with
  | none=>none
  | some (n,r)=>some (.mk 1 (sg n) ByteArray.empty [],r))
 else if b.toNat=2 then (match getN 0 l with
  | none=>none
  | some (n,r)=>if n<=r.length then some (.mk 2 0 (bstr (r.take n)) [],r.drop n) else none)
 else if b.toNat=3 then (match getN 0 l with
  | none=>none
  | some (n,r)=>if n<=r.length then (match h n r with
   | none=>none
   | some (vs,t)=>some (.mk 3 0 ByteArray.empty vs,t)) else none)
 else none
def getV:Nat->List UInt8->Option (S_Value×List UInt8)
 | _,[]=>none
 | 0,b :: l=>getA b l fun _ _=>none
 | k+1,b :: l=>getA b l (getLs (getV k))
def Got (k:Nat) (l:List UInt8) (v:S_Value) (r:List UInt8):Prop:=l=encV v++r/\frm v=true/\dep v<=k/\ok_S_Value v/\nod v<=(encV v).length
theorem getLs_inv {f:List UInt8->Option (S_Value×List UInt8)} {k:Nat} (hf:∀ l v r,l.length<=1000000->f l=some (v,r)->Got k l v r):∀ (n:Nat) (l:List UInt8) (vs:List S_Value) (r:List UInt8),l.length<=1000000->getLs f n l=some (vs,r) ->
  l=encs vs++r/\frms vs=true/\deps vs<=k/\(∀ e∈vs,ok_S_Value e)/\nods vs<=(encs vs).length/\vs.length=n
 | 0,l,vs,r,_,h=>by
  rw[getLs] at h; cases h
  refine⟨?_,frms_nil,by rw[deps_nil]; omega,fun _ h=>absurd h (List.not_mem_nil),by rw[nods_nil]; omega,rfl⟩
  rw[encs_nil]; rfl
 | n+1,l,vs,r,hl,h=>by
  rw[getLs] at h
  split at h
  ·cases h
  rename_i v t hv
  split at h
  ·cases h
  rename_i ws u hw
  cases h
  obtain ⟨h1,h2,h3,h4,h5⟩:=hf l v t hl hv
  rw[h1,List.length_append] at hl
  obtain ⟨g1,g2,g3,g4,g5,g6⟩:=getLs_inv hf n t ws r (by omega) hw
  refine⟨?_,?_,?_,?_,?_,?_⟩
  ·rw[h1,g1,encs_cons,List.append_assoc]
  ·rw[frms_cons,h2,g2]; rfl
  ·rw[deps_cons]; omega
  ·intro e he
   rcases List.mem_cons.1 he with rfl | he
   ·exact h4
   ·exact g4 e he
  ·rw[nods_cons,encs_cons,List.length_append]; omega
  ·rw[List.length_cons,g6]
theorem u8c {b:UInt8} {n:Nat} (h:b.toNat=n):b=UInt8.ofNat n:=by rw[<-h,UInt8.ofNat_toNat]
theorem getA_inv {h:Nat->List UInt8->Option (List S_Value×List UInt8)} {k:Nat} {b:UInt8} {l:List UInt8} {v:S_Value} {r:List UInt8} (hl:l.length<=1000000)
  (hh:∀ n t vs u,t.length<=1000000->h n t=some (vs,u)->t=encs vs++u/\frms vs=true/\deps vs+1<=k/\(∀ e∈vs,ok_S_Value e)/\nods vs<=(encs vs).length/\vs.length=n)
  (e:getA b l h=some (v,r)):Got k (b :: l) v r:=by
 have okm:maxL=9223372036854775807:=rfl
 unfold getA at e
 split at e
 ·rename_i h1
  split at e
  ·cases e
  rename_i n t hn
  obtain ⟨h2,h3,_⟩:=getN_len hn
  cases e
  refine⟨?_,?_,?_,?_,?_⟩
  ·rw[u8c h1,h2,encV_eq]
   simp only[show ((1:Int)==1)=true from rfl,cond_true,zig_sg]
   rfl
  ·rw[frm_eq]
   simp only[show ((1:Int)==1)=true from rfl,cond_true,emp_eq.2]
   rfl
  ·rw[dep_eq]
   simp only[show ((1:Int)==3)=false from rfl,cond_false]
   omega
  ·exact(okq_S_Value _).2 ⟨⟨by simp,by simp⟩,sg_in h3,by simp,by simp,fun _ h=>absurd h List.not_mem_nil⟩
  ·rw[nod_eq,encV_eq]
   simp only[show ((1:Int)==1)=true from rfl,cond_true,zig_sg,nods_nil,List.length_cons]
   have:(ByteArray.empty:ByteArray).size=0:=rfl
   omega
 split at e
 ·rename_i h1
  split at e
  ·cases e
  rename_i n t hn
  obtain ⟨h2,h3,h4⟩:=getN_len hn
  split at e
  ·rename_i h5
   cases e
   have hs:(bstr (t.take n)).size=n:=by rw[bstr_size,List.length_take]; omega
   refine⟨?_,?_,?_,?_,?_⟩
   ·rw[u8c h1,h2,encV_eq]
    simp only[show ((2:Int)==1)=false from rfl,show ((2:Int)==2)=true from rfl,cond_true,cond_false,hs,bstrL_b]
    rw[List.cons_append,List.append_assoc,List.take_append_drop]
    rfl
   ·rw[frm_eq]
    rfl
   ·rw[dep_eq]
    simp only[show ((2:Int)==3)=false from rfl,cond_false]
    omega
   ·refine(okq_S_Value _).2 ⟨⟨by simp,by simp⟩,⟨by simp,by simp⟩,?_,by simp,fun _ h=>absurd h List.not_mem_nil⟩
    show (bstr (t.take n)).size<=maxL
    rw[hs]; omega
   ·rw[nod_eq,encV_eq]
    simp only[show ((2:Int)==1)=false from rfl,show ((2:Int)==2)=true from rfl,cond_true,cond_false,nods_nil,List.length_cons,List.length_append,bstr_len,hs]
    omega
  ·cases e
 split at e
 ·rename_i h1
  split at e
  ·cases e
  rename_i n t hn
  obtain ⟨h2,h3,h4⟩:=getN_len hn
  split at e
  ·rename_i h5
   split at e
   ·cases e
   rename_i vs u hv
   cases e
   obtain ⟨g1,g2,g3,g4,g5,g6⟩:=hh n t vs r (by omega) hv
   refine⟨?_,?_,?_,?_,?_⟩
   ·rw[u8c h1,h2,encV_eq,g1]
    simp only[show ((3:Int)==1)=false from rfl,show ((3:Int)==2)=false from rfl,cond_false,g6]
    rw[List.cons_append,List.append_assoc]
    rfl
   ·rw[frm_eq]
    simp only[show ((3:Int)==1)=false from rfl,show ((3:Int)==2)=false from rfl,show ((3:Int)==3)=true from rfl,cond_true,cond_false,g2,emp_eq.2]
    rfl
   ·rw[dep_eq]
    simp only[show ((3:Int)==3)=true from rfl,cond_true]
    omega
   ·refine(okq_S_Value _).2 ⟨⟨by simp,by simp⟩,⟨by simp,by simp⟩,by simp,?_,g4⟩
    show vs.length<=maxL
    omega
   ·rw[nod_eq,encV_eq]
    simp only[show ((3:Int)==1)=false from rfl,show ((3:Int)==2)=false from rfl,cond_false,List.length_cons,List.length_append]
    have:(ByteArray.empty:ByteArray).size=0:=rfl
    omega
  ·cases e
 ·cases e
theorem getV_inv:∀ (k:Nat) (l:List UInt8) (v:S_Value) (r:List UInt8),l.length<=1000000->getV k l=some (v,r)->Got k l v r
 | 0,[],v,r,_,h=>by rw[getV] at h; cases h
 | k+1,[],v,r,_,h=>by rw[getV] at h; cases h
 | 0,b :: l,v,r,hl,h=>by
  rw[getV] at h
  rw[List.length_cons] at hl
  exact getA_inv (by omega) (fun _ _ _ _ _ h=>by cases h) h
 | k+1,b :: l,v,r,hl,h=>by
  rw[getV] at h
  rw[List.length_cons] at hl
  refine getA_inv (by omega) (fun n t vs u ht hv=>?_) h
  obtain ⟨g1,g2,g3,g4,g5,g6⟩:=getLs_inv (fun l v r hl h=>getV_inv k l v r hl h) n t vs u ht hv
  exact⟨g1,g2,by omega,g4,g5,g6⟩
theorem enc_pos (v:S_Value):1<=(encV v).length:=by
 rw[encV_eq]
 cases v.Kind==1 with
 | true=>simp
 | false=>cases v.Kind==2<;>simp
theorem encs_ge:∀ l:List S_Value,l.length<=(encs l).length
 | []=>by simp
 | x :: r=>by rw[encs_cons,List.length_append,List.length_cons]; have:=enc_pos x; have:=encs_ge r; omega
theorem getLs_enc {f:List UInt8->Option (S_Value×List UInt8)}:∀ (vs:List S_Value) (t:List UInt8),(∀ e∈vs,∀ t,f (encV e++t)=some (e,t))->getLs f vs.length (encs vs++t)=some (vs,t)
 | [],t,_=>by rw[encs_nil]; rfl
 | x :: r,t,h=>by
  rw[List.length_cons,getLs,encs_cons,List.append_assoc,h x (List.mem_cons_self ..)]
  simp only
  rw[getLs_enc r t fun e he=>h e (List.mem_cons_of_mem _ he)]
theorem deps_mem:∀ {l:List S_Value} {x:S_Value},x∈l->dep x<=deps l
 | y :: r,x,h=>by
  rw[deps_cons]
  rcases List.mem_cons.1 h with rfl | h
  ·omega
  ·have:=deps_mem h; omega
theorem getV_enc:∀ (k:Nat) (v:S_Value) (t:List UInt8),frm v=true->dep v<=k->ok_S_Value v->getV k (encV v++t)=some (v,t)
 | k,v,t,hf,hd,hv=>by
  obtain ⟨_,h2,h3,h4,h5⟩:=(okq_S_Value v).1 hv
  unfold maxL at h3 h4
  obtain ⟨K,N,S,L⟩:=v
  simp only at h2 h3 h4 h5
  have hf':=hf
  rw[frm_eq] at hf'
  simp only at hf'
  rw[encV_eq]
  rcases frm_kind hf with hk | hk | ⟨hk,hfs⟩
  ·simp only at hk
   subst hk
   simp only[show ((1:Int)==1)=true from rfl,cond_true,Bool.and_eq_true,emp_eq] at hf' ⊢
   have e:getV k ((1:UInt8) :: num (zig N)++t)=getA 1 (num (zig N)++t) (match k with | 0=>fun _ _=>none | k+1=>getLs (getV k)):=by
    rw[List.cons_append]
    cases k<;>rw[getV]
   rw[e]
   unfold getA
   rw[if_pos (by decide),getN_big (zig_lt h2)]
   simp only[sg_zig]
   obtain ⟨rfl,h6⟩:=hf'
   have:L=[]:=by
    cases L with
    | nil=>rfl
    | cons a r=>simp at h6; omega
   rw[this]
  ·simp only at hk
   subst hk
   simp only[show ((2:Int)==1)=false from rfl,show ((2:Int)==2)=true from rfl,cond_true,cond_false,Bool.and_eq_true] at hf' ⊢
   have e:getV k ((2:UInt8) :: (num S.size++bstrL S)++t)=getA 2 (num S.size++(bstrL S++t)) (match k with | 0=>fun _ _=>none | k+1=>getLs (getV k)):=by
    rw[List.cons_append,List.append_assoc]
    cases k<;>rw[getV]
   rw[e]
   unfold getA
   rw[if_neg (by decide),if_pos (by decide),getN_big (by omega)]
   simp only
   have hsz:=bstr_len S
   rw[if_pos (by rw[List.length_append]; omega),<-hsz,List.take_left,List.drop_left,bstr_L]
   obtain ⟨h7,h6⟩:=hf'
   have:L=[]:=by
    cases L with
    | nil=>rfl
    | cons a r=>simp at h6; omega
   have h8:N=0:=by simpa using h7
   rw[this,h8]
  ·simp only at hk hfs
   subst hk
   simp only[show ((3:Int)==1)=false from rfl,show ((3:Int)==2)=false from rfl,show ((3:Int)==3)=true from rfl,cond_true,cond_false,Bool.and_eq_true,emp_eq] at hf' ⊢
   rw[dep_eq] at hd
   simp only[show ((3:Int)==3)=true from rfl,cond_true] at hd
   obtain ⟨k,rfl⟩:∃ q,k=q+1:=⟨k - 1,by omega⟩
   rw[List.cons_append,List.append_assoc,getV]
   unfold getA
   have hlen:=encs_ge L
   rw[if_neg (by decide),if_neg (by decide),if_pos (by decide),getN_big (by omega)]
   simp only
   rw[if_pos (by rw[List.length_append]; omega),getLs_enc L t fun e he t=>getV_enc k e t (frms_mem hfs e he) (by have:=deps_mem he; omega) (h5 e he)]
   simp only
   obtain ⟨h7,h6,rfl⟩:=hf'
   have h8:N=0:=by simpa using h6
   rw[h8]
theorem app56 (l:List S_Value) (x:S_Value) (h:l.length<=1000000):appI 56 l [x]=some (l++[x]):=appI_some _ _ _ (by rw[lim]; simp; omega)
theorem getV_len {k:Nat} {l:List UInt8} {v:S_Value} {r:List UInt8} (hl:l.length<=1000000) (h:getV k l=some (v,r)):r.length<=l.length:=by
 have:=(getV_inv k l v r hl h).1
 rw[this,List.length_append]; omega
theorem loop32 (f:List UInt8->Option (S_Value×List UInt8)) (self:(List UInt8)->Int->Option (Bool×S_Value×(List UInt8))) (N d n:Nat) (z0 z1:Int) (z2:ByteArray) (hd:d<=16) (hn:n<=1000000)
  (hf:∀ l:List UInt8,l.length<=1000000->match f l with
   | some (v,r)=>self l ((d:Int)+1)=some (true,v,r)/\r.length<=l.length
   | none=>∃ v r,self l ((d:Int)+1)=some (false,v,r)) :
  ∀ (k m i:Nat) (l:List UInt8) (acc:List S_Value),i+k=n->k<m->l.length<=1000000->acc.length<=i->match getLs f k l with
   | some (vs,r)=>F82w_82_0 self N (d:Int) (n:Int) z0 z1 z2 m (i:Int) l acc=some (.inr (r,acc++vs))
   | none=>∃ x,F82w_82_0 self N (d:Int) (n:Int) z0 z1 z2 m (i:Int) l acc=some (.inl x)
 | 0,m,i,l,acc,h1,h2,h3,h4=>by
  obtain ⟨m,rfl⟩:∃ q,m=q+1:=⟨m - 1,by omega⟩
  rw[getLs,F82w_82_0,decide_eq_false (by omega)]
  simp
 | k+1,m,i,l,acc,h1,h2,h3,h4=>by
  obtain ⟨m,rfl⟩:∃ q,m=q+1:=⟨m - 1,by omega⟩
  have hl:=hf l h3
  rw[getLs,F82w_82_0,decide_eq_true (by omega),wr64 (n:=(d:Int)+1) (by omega) (by omega),wr64 (n:=(i:Int)+1) (by omega) (by omega)]
  simp only[cond_true]
  cases hv:f l with
  | none =>
   rw[hv] at hl
   obtain ⟨v,r,hl⟩:=hl
   simp only
   rw[hl]
   exact⟨_,rfl⟩
  | some p =>
   obtain ⟨v,r⟩:=p
   rw[hv] at hl
   simp only at hl ⊢
   rw[hl.1]
   simp only[Option.bind_some,cond_true]
   rw[app56 _ _ (by omega),Option.bind_some,show (i:Int)+1=((i+1:Nat):Int) by omega]
   have ih:=loop32 f self N d n z0 z1 z2 hd hn hf k m (i+1) r (acc++[v]) (by omega) (by omega) (by omega) (by simp; omega)
   cases hr:getLs f k r with
   | none=>rw[hr] at ih; exact ih
   | some p =>
    obtain ⟨vs,t⟩:=p
    rw[hr] at ih
    simp only at ih ⊢
    rw[ih]; simp
theorem b1 {b:UInt8} (n:Nat) (h:n<256):(wr .i64 ((b.toNat:Int))==(n:Int))=decide (b.toNat=n):=by
 have:=b.toNat_lt
 rw[wr64 (by omega) (by omega),Bool.eq_iff_iff]
 simp
 omega
theorem w32:∀ (k N d:Nat) (l:List UInt8),d+k=16->2000000+k<=N->l.length<=1000000->match getV k l with
  | some (v,r)=>W82 N l (d:Int)=some (true,v,r)
  | none=>∃ v r,W82 N l (d:Int)=some (false,v,r)
 | k,N,d,[],hd,hN,hl=>by
  obtain ⟨N,rfl⟩:∃ q,N=q+1:=⟨N - 1,by omega⟩
  have:getV k []=none:=by cases k<;>rw[getV]
  rw[this]
  show ∃ v r,(bif Nat.ble 8 N then F82w (W82 N) (N - 8) [] d else none)=_
  rw[Nat.ble_eq_true_of_le (by omega:8<=N)]
  exact⟨_,_,rfl⟩
 | k,N,d,b :: l,hd,hN,hl=>by
  obtain ⟨N,rfl⟩:∃ q,N=q+1:=⟨N - 1,by omega⟩
  rw[List.length_cons] at hl
  have hb:=b.toNat_lt
  have hs1:subI (b :: l) 0 1=some [b]:=by
   unfold subI
   rw[show decide ((1:Int)<=((b :: l).length:Int))=true from decide_eq_true (by rw[List.length_cons]; omega)]
   rfl
  have hs2:subI (b :: l) 1 ((b :: l).length:Int)=some l:=by
   unfold subI
   rw[show decide ((1:Int)<=((b :: l).length:Int))=true from decide_eq_true (by rw[List.length_cons]; omega),decide_eq_true (Int.le_refl _)]
   simp
  have eW:W82 (N+1) (b :: l) (d:Int)=F82w (W82 N) (N - 8) (b :: l) (d:Int):=by
   show (bif Nat.ble 8 N then F82w (W82 N) (N - 8) (b :: l) d else none)=_
   rw[Nat.ble_eq_true_of_le (by omega:8<=N)]; rfl
  have eg:getV k (b :: l)=getA b l (match k with | 0=>fun _ _=>none | k+1=>getLs (getV k)):=by cases k<;>rw[getV]
  rw[eW,eg]
  unfold F82w
  rw[hs1,hs2,decide_eq_true (show (1:Int)<=((b :: l).length:Int) by rw[List.length_cons]; omega)]
  simp only[Bool.not_true,cond_false,Option.bind_some,show getI [b] 0=some b from rfl]
  rw[show (wr .i64 ((b.toNat:Int))==1)=decide (b.toNat=1) from b1 1 (by omega),show (wr .i64 ((b.toNat:Int))==2)=decide (b.toNat=2) from b1 2 (by omega),show (wr .i64 ((b.toNat:Int))==3)=decide (b.toNat=3) from b1 3 (by omega),wr64 (n:=(b.toNat:Int)) (by omega) (by omega)]
  unfold getA
  by_cases h1:b.toNat=1
  ·rw[if_pos h1,decide_eq_true h1]
   have hr:=rdloop (fun m u i l=>F82w_103_0 (W82 N) (N - 8) (b.toNat:Int) 0 ByteArray.empty m u i l) (fun _ _ _ _=>rfl) l (N - 8+7) 0 0 (by omega) (by omega) (by decide)
   simp only[cond_true]
   cases hg:getN 0 l with
   | none =>
    rw[hg] at hr
    obtain ⟨r,hr⟩:=hr
    refine⟨default,r,?_⟩
    exact(congrArg (fun x=>Option.bind x _) hr).trans rfl
   | some p =>
    obtain ⟨n,r⟩:=p
    rw[hg] at hr
    obtain ⟨_,hn,_⟩:=getN_len hg
    simp only at hr ⊢
    refine(congrArg (fun x=>Option.bind x _) hr).trans ?_
    rw[show (0+2 ^ (7*0)*n:Nat)=n by omega]
    simp only[Option.bind_some,g45 n hn]
    rw[h1]; rfl
  rw[if_neg h1,decide_eq_false h1]
  simp only[cond_false]
  by_cases h2:b.toNat=2
  ·rw[if_pos h2,decide_eq_true h2]
   have hr:=rdloop (fun m u i l=>F82w_103_0a (W82 N) (N - 8) (b.toNat:Int) 0 ByteArray.empty m u i l) (fun _ _ _ _=>rfl) l (N - 8+6) 0 0 (by omega) (by omega) (by decide)
   simp only[cond_true]
   cases hg:getN 0 l with
   | none =>
    rw[hg] at hr
    obtain ⟨r,hr⟩:=hr
    refine⟨default,r,?_⟩
    exact(congrArg (fun x=>Option.bind x _) hr).trans rfl
   | some p =>
    obtain ⟨n,r⟩:=p
    rw[hg] at hr
    obtain ⟨_,hn,hrl⟩:=getN_len hg
    simp only at hr ⊢
    by_cases hnr:n<=r.length
    ·rw[if_pos hnr]
     refine(congrArg (fun x=>Option.bind x _) hr).trans ?_
     rw[show (0+2 ^ (7*0)*n:Nat)=n by omega]
     simp only[Option.bind_some]
     rw[wun _ (show r.length<18446744073709551616 by omega),wr64 (n:=(n:Int)) (by omega) (by omega),decide_eq_true (show (n:Int)<=(r.length:Int) by omega)]
     simp only[Bool.not_true,cond_false]
     unfold subI
     rw[decide_eq_true (show (n:Int)<=(r.length:Int) by omega),decide_eq_true (show (0:Int)<=(n:Int) by omega),decide_eq_true (Int.le_refl _)]
     simp[h2]
     exact List.take_of_length_le (by simp)
    ·rw[if_neg hnr]
     refine⟨default,r,?_⟩
     refine(congrArg (fun x=>Option.bind x _) hr).trans ?_
     rw[show (0+2 ^ (7*0)*n:Nat)=n by omega]
     simp only[Option.bind_some]
     rw[wun _ (show r.length<18446744073709551616 by omega),decide_eq_false (show ¬ (n:Int)<=(r.length:Int) by omega)]
     rfl
  rw[if_neg h2,decide_eq_false h2]
  simp only[cond_false]
  by_cases h3:b.toNat=3
  ·rw[if_pos h3,decide_eq_true h3]
   simp only[cond_true]
   cases k with
   | zero =>
    rw[decide_eq_false (show ¬ ((d:Int)<16) by omega)]
    have:∃ v r,(bif !false then some (false,(default:S_Value),l) else none)=some (false,v,r):=⟨_,_,rfl⟩
    cases hg:getN 0 l with
    | none=>exact⟨_,_,rfl⟩
    | some p =>
     obtain ⟨n,r⟩:=p
     simp only
     split<;>rename_i hx
     ·split at hx<;>cases hx
     ·exact⟨_,_,rfl⟩
   | succ k =>
    rw[decide_eq_true (show ((d:Int)<16) by omega)]
    have hr:=rdloop (fun m u i l=>F82w_103_0b (W82 N) (N - 8) (b.toNat:Int) 0 ByteArray.empty m u i l) (fun _ _ _ _=>rfl) l (N - 8+6) 0 0 (by omega) (by omega) (by decide)
    simp only[Bool.not_true,cond_false]
    cases hg:getN 0 l with
    | none =>
     rw[hg] at hr
     obtain ⟨r,hr⟩:=hr
     refine⟨default,r,?_⟩
     exact(congrArg (fun x=>Option.bind x _) hr).trans rfl
    | some p =>
     obtain ⟨n,r⟩:=p
     rw[hg] at hr
     obtain ⟨_,hn,hrl⟩:=getN_len hg
     simp only at hr ⊢
     by_cases hnr:n<=r.length
     ·rw[if_pos hnr]
      have hL:=loop32 (getV k) (W82 N) (N - 8) d n (b.toNat:Int) 0 ByteArray.empty (by omega) (by omega) (fun l hl=>by
       have:=w32 k N (d+1) l (by omega) (by omega) hl
       cases hgv:getV k l with
       | none=>rw[hgv] at this; exact this
       | some p =>
        obtain ⟨v,r⟩:=p
        rw[hgv] at this
        exact⟨this,getV_len hl hgv⟩) n (N - 8+8) 0 r [] (by omega) (by omega) (by omega) (by simp)
      cases hls:getLs (getV k) n r with
      | none =>
       rw[hls] at hL
       obtain ⟨x,hL⟩:=hL
       refine⟨default,x.1,?_⟩
       refine(congrArg (fun x=>Option.bind x _) hr).trans ?_
       rw[show (0+2 ^ (7*0)*n:Nat)=n by omega]
       simp only[Option.bind_some]
       rw[wun _ (show r.length<18446744073709551616 by omega),wr64 (n:=(n:Int)) (by omega) (by omega),decide_eq_true (show (n:Int)<=(r.length:Int) by omega)]
       simp only[Bool.not_true,cond_false]
       exact(congrArg (fun x=>Option.bind x _) hL).trans rfl
      | some p =>
       obtain ⟨vs,t⟩:=p
       rw[hls] at hL
       simp only at hL ⊢
       refine(congrArg (fun x=>Option.bind x _) hr).trans ?_
       rw[show (0+2 ^ (7*0)*n:Nat)=n by omega]
       simp only[Option.bind_some]
       rw[wun _ (show r.length<18446744073709551616 by omega),wr64 (n:=(n:Int)) (by omega) (by omega),decide_eq_true (show (n:Int)<=(r.length:Int) by omega)]
       simp only[Bool.not_true,cond_false]
       refine(congrArg (fun x=>Option.bind x _) hL).trans ?_
       rw[h3]; rfl
     ·rw[if_neg hnr]
      refine⟨default,r,?_⟩
      refine(congrArg (fun x=>Option.bind x _) hr).trans ?_
      rw[show (0+2 ^ (7*0)*n:Nat)=n by omega]
      simp only[Option.bind_some]
      rw[wun _ (show r.length<18446744073709551616 by omega),decide_eq_false (show ¬ (n:Int)<=(r.length:Int) by omega)]
      rfl
  ·rw[if_neg h3,decide_eq_false h3]
   exact⟨_,_,rfl⟩
def decR (bs:List UInt8):S_Value×Int:=match getV 16 bs with
 | some (v,[])=>(v,0)
 | _=>(.mk 0 0 ByteArray.empty [],10)
theorem g18 (bs:List UInt8) (h:bs.length<=1000000):G59 bs=some (decR bs):=by
 unfold G59 F59
 have hw:=w32 16 (fuel0+8) 0 bs (by omega) (by rw[fu]; omega) h
 rw[show ((0:Nat):Int)=0 from rfl] at hw
 unfold decR
 cases hg:getV 16 bs with
 | none =>
  rw[hg] at hw
  obtain ⟨v,r,hw⟩:=hw
  rw[hw]; rfl
 | some p =>
  obtain ⟨v,r⟩:=p
  rw[hg] at hw
  simp only at hw
  rw[hw]
  cases r with
  | nil=>rfl
  | cons a r =>
   have:(((a :: r).length:Int)==0)=false:=by simp; omega
   simp only[Option.bind_some,cond_true]
   rw[this]; rfl
theorem decR_enc {v:S_Value} (hc:chk v=0) (hv:ok_S_Value v):decR (encV v)=(v,0):=by
 have hf:=chk_frm hc
 have hd:dep v<=16:=by
  unfold chk at hc
  rw[hf] at hc
  simp only[cond_true] at hc
  rcases Nat.lt_or_ge 16 (dep v) with h | h
  ·rw[decide_eq_true h] at hc; cases hc
  ·exact h
 unfold decR
 have:=getV_enc 16 v [] hf hd hv
 rw[List.append_nil] at this
 rw[this]
end Go.Proofs.Ytdmgdjnadbakfaa
