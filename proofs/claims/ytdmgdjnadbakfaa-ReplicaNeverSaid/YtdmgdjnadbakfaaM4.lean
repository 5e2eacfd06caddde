/-
 Layer 53, in plain Lean: equality of leases, calls and replicas.
-/
import Derived.Test.YtdmgdjnadbakfaaL
import Derived.Test.YtdmgdjnadbakfaaPure
import Derived.KernelRfl
namespace Go.Proofs.Ytdmgdjnadbakfaa
set_option linter.unusedVariables false
set_option linter.unusedSimpArgs false
set_option maxRecDepth 100000
set_option maxHeartbeats 4000000
theorem L9:eM=140737488355328:=by kernel_rfl
theorem th {T:Type} (b:Nat) (l l2:List T) (hb:b<=1000) (h:l.length+l2.length<=10000000):dS b l l2=some (l++l2):=by
 have h1:(l.length+l2.length)*b<=10000000*1000:=Nat.mul_le_mul h hb
 unfold dS; rw[decide_eq_true (by rw[L9]; omega)]; rfl
theorem Bc {T:Type} (l:List T):et l 0 (l.length:Int)=some l:=by
 unfold et
 rw[show (decide ((0:Int)<=0)&&decide ((0:Int)<=(l.length:Int))&&decide ((l.length:Int)<=l.length))=true from by simp]
 simp
theorem qt {T:Type} (x:T) (l:List T):et (x :: l) 1 ((x :: l).length:Int)=some l:=by
 unfold et
 rw[show (decide ((0:Int)<=1)&&decide ((1:Int)<=((x :: l).length:Int))&&decide (((x :: l).length:Int)<=(x :: l).length))=true from by simp; omega]
 simp
theorem Ao (n:Nat) (h:n<=10000000):wr .i64 ((n:Int)+1)=((n+1:Nat):Int):=by rw[jP (by omega) (by omega)]; omega
theorem Am {T:Type} (l:List T) (h:l.length<=10000000) (hp:0<l.length):bX l (wr .i64 ((l.length:Int) - 1))=l.getLast?:=by
 rw[jP (by omega) (by omega),show ((l.length:Int) - 1)=((l.length - 1:Nat):Int) from by omega,bV,List.getLast?_eq_getElem?]
def mE (n lo hi:Int):Bool:=decide (lo<=n)&&decide (n<=hi)
theorem qC (a b c:Int):vR a b c=some (mE a b c):=by
 unfold vR JY mE
 cases decide (b<=a)<;>rfl
def A5 (l:List ak):Int:=match l.getLast? with | some x=>x.Until | none=>0
theorem LY (r:ah) (h:r.Leases.length<=10000000):Hy r=some (A5 r.Leases):=by
 unfold Hy J6 A5
 by_cases hp:0<r.Leases.length
 ·rw[decide_eq_true (by omega),Am _ h hp]
  cases hx:r.Leases.getLast? with
  | some x=>rfl
  | none=>rw[List.getLast?_eq_none_iff] at hx; rw[hx] at hp; simp at hp
 ·have:r.Leases=[]:=List.length_eq_zero_iff.1 (by omega)
  rw[this]; rfl
def mT (ls:List ak) (l:ak):Bool:=(l.No==(ls.length:Int))&&mE l.Holder 0 1&&decide (A5 ls<l.Until)&&decide (l.Until<=4096)
theorem GD (r:ah) (l:ak) (h:r.Leases.length<=10000000):Fa r l=some (mT r.Leases l):=by
 unfold Fa J1 mT
 rw[qC,LY r h]
 generalize (l.No==(r.Leases.length:Int))=a
 generalize mE l.Holder 0 1=b
 show (Option.bind (bif a then some b else some false) _)=_
 cases a<;>cases b<;>try rfl
 simp only[cond_true,Option.bind_some,Bool.true_and]
 cases decide (A5 r.Leases<l.Until)<;>rfl
def k9 (self:Int) (ls:List ak) (bar:Int):Bool:=decide (0<=bar)&&match ls.find? (fun l=>decide (bar<l.Until)) with | some l=>l.Holder==self | none=>false
theorem Ae (n:Nat) (L:List ak) (z:Int) (r:ah) (bar:Int) (hL:L.length<=10000000):∀ (l:List ak) (i m:Nat),L.drop i=l->i+l.length=L.length->l.length<m ->
  (∃ (j:Nat) (x:ak),iB n L z (L.length:Int) r bar m (i:Int)=some (.inl (j:Int))/\L[j]? = some x/\l.find? (fun l=>decide (bar<l.Until))=some x) ∨
  (iB n L z (L.length:Int) r bar m (i:Int)=some (.inr ())/\l.find? (fun l=>decide (bar<l.Until))=none)
 | l,i,0,_,_,h=>absurd h (Nat.not_lt_zero _)
 | [],i,m+1,hd,hi,h=>by
  right
  refine⟨?_,rfl⟩
  unfold iB
  rw[decide_eq_false (by simp at hi; omega)]; rfl
 | x :: l,i,m+1,hd,hi,h=>by
  have hx:L[i]? = some x:=by rw[<-List.head?_drop,hd]; rfl
  have hd':L.drop (i+1)=l:=by rw[<-List.drop_drop,hd]; rfl
  simp only[List.length_cons] at hi h
  unfold iB
  rw[decide_eq_true (by omega),bV,hx]
  show (_∨_)
  simp only[cond_true,Option.bind_some,List.find?_cons]
  cases hb:decide (bar<x.Until) with
  | true=>left; exact⟨i,x,rfl,hx,rfl⟩
  | false =>
   simp only[cond_false]
   rw[Ao i (by omega)]
   exact Ae n L z r bar hL l (i+1) m hd' (by omega) (by omega)
theorem LZ (r:ah) (bar:Int) (h:r.Leases.length<=10000000):Hz r bar=some (k9 r.Self r.Leases bar):=by
 unfold Hz J7 k9
 rcases Ae aH r.Leases 0 r bar h r.Leases 0 (aH+7) rfl (by omega) (by rw[show aH=1208925819614629174706176 from rfl]; omega) with ⟨j,x,h1,h2,h3⟩ | ⟨h1,h3⟩
 ·rw[show ((0:Nat):Int)=0 from rfl] at h1
  rw[h1,h3]
  show (Option.bind (bif decide (0<=bar) then some (decide (0<=(j:Int))) else some false) _)=_
  rw[decide_eq_true (show (0:Int)<=j by omega)]
  cases decide (0<=bar) with
  | false=>rfl
  | true =>
   show (Option.bind (bX r.Leases (j:Int)) _)=_
   rw[bV,h2]; rfl
 ·rw[show ((0:Nat):Int)=0 from rfl] at h1
  rw[h1,h3]
  cases decide (0<=bar)<;>rfl
def sa (self:Int) (ls:List ak) (cs:List av) (c:av):Bool:=k9 self ls c.Bar&&(match cs.getLast? with | some d=>decide (d.Bar<c.Bar) | none=>true)&&mE c.Program 1 8
theorem Jc (r:ah) (c:av) (h:r.Leases.length<=10000000) (h2:r.Calls.length<=10000000):FW r c=some (sa r.Self r.Leases r.Calls c):=by
 unfold FW J2 sa
 rw[LZ r _ h,qC]
 generalize k9 r.Self r.Leases c.Bar=a
 generalize mE c.Program 1 8=b
 cases a with
 | false=>rfl
 | true =>
  by_cases hp:0<r.Calls.length
  ·rw[show (((r.Calls.length:Int))==0)=false from by simp; intro hn; rw[hn] at hp; simp at hp,Am _ h2 hp]
   cases hx:r.Calls.getLast? with
   | some x =>
    simp only[cond_true,cond_false,Option.bind_some,Bool.true_and]
    cases decide (x.Bar<c.Bar)<;>rfl
   | none=>rw[List.getLast?_eq_none_iff] at hx; rw[hx] at hp; simp at hp
  ·have:r.Calls=[]:=List.length_eq_zero_iff.1 (by omega)
   rw[this]; rfl
def lM (r:ah) (l:ak):ah:=.mk r.Self (r.Leases++[l]) r.Calls (r.Order++[true])
def mK (r:ah) (c:av):ah:=.mk r.Self r.Leases (r.Calls++[c]) (r.Order++[false])
theorem Aa (r:ah) (l:ak) (c:av) (h:r.Leases.length<10000000) (h2:r.Order.length<10000000):xO r (.mk true l c)=some (lM r l):=by
 unfold xO Hp
 simp only[cond_true,Bc,Option.bind_some]
 rw[th _ _ _ (by omega) (by simp; omega)]
 simp only[Option.bind_some,Bc]
 rw[th _ _ _ (by omega) (by simp; omega)]
 rfl
theorem CX (r:ah) (l:ak) (c:av) (h:r.Calls.length<10000000) (h2:r.Order.length<10000000):xO r (.mk false l c)=some (mK r c):=by
 unfold xO Hp
 simp only[cond_false,Bc,Option.bind_some]
 rw[th _ _ _ (by omega) (by simp; omega)]
 simp only[Option.bind_some,Bc]
 rw[th _ _ _ (by omega) (by simp; omega)]
 rfl
def te (s:ah):List ak->List av->List Bool->Bool
 | _,_,[]=>true
 | l :: ls,cs,true :: o=>mT s.Leases l&&te (lM s l) ls cs o
 | [],_,true :: _=>false
 | ls,c :: cs,false :: o=>sa s.Self s.Leases s.Calls c&&te (mK s c) ls cs o
 | _,[],false :: _=>false
theorem Cy (s:ah) (l:ak) (ls:List ak) (cs:List av) (o:List Bool):te s (l :: ls) cs (true :: o)=(mT s.Leases l&&te (lM s l) ls cs o):=by rw[te]
theorem Cv (s:ah) (c:av) (ls:List ak) (cs:List av) (o:List Bool):te s ls (c :: cs) (false :: o)=(sa s.Self s.Leases s.Calls c&&te (mK s c) ls cs o):=by cases ls<;>rw[te]
theorem Cz (s:ah) (cs:List av) (o:List Bool):te s [] cs (true :: o)=false:=by rw[te]
theorem Cw (s:ah) (ls:List ak) (o:List Bool):te s ls [] (false :: o)=false:=by cases ls<;>rw[te]
theorem zQ (s:ah) (ls:List ak) (cs:List av):te s ls cs []=true:=by cases ls<;>cases cs<;>rw[te]
theorem vA (n:Nat) (O:List Bool) (r0 a0:ah) (z:Int) (hO:O.length<=1000000):∀ (o:List Bool) (i m:Nat) (ls:List ak) (cs:List av) (s:ah),O.drop i=o->i+o.length=O.length->o.length<m ->
  s.Leases.length<=i->s.Calls.length<=i->s.Order.length<=i->∃ x,gA n O (O.length:Int) r0 z a0 m ls cs (i:Int) s.Self s.Leases s.Calls s.Order (i:Int)=some x ∧
   match te s ls cs o with
   | true=>∃ t,x=.inr (.inr t)/\t=(O.length:Int)
   | false=>(∃ t,x=.inl t/\t.1=530)∨∃ t,x=.inr (.inl t)/\t≠(O.length:Int)
 | o,i,0,_,_,_,_,_,h,_,_,_=>absurd h (Nat.not_lt_zero _)
 | [],i,m+1,ls,cs,s,hd,hi,h,_,_,_=>by
  rw[zQ]
  unfold gA
  rw[decide_eq_false (by simp at hi; omega)]
  refine⟨_,rfl,_,rfl,?_⟩
  simp at hi
  show (i:Int)=_
  rw[hi]
 | true :: o,i,m+1,ls,cs,s,hd,hi,h,h1,h2,h3=>by
  have hx:O[i]? = some true:=by rw[<-List.head?_drop,hd]; rfl
  have hd':O.drop (i+1)=o:=by rw[<-List.drop_drop,hd]; rfl
  simp only[List.length_cons] at hi h
  unfold gA
  rw[decide_eq_true (by omega),bV,hx]
  simp only[cond_true,Option.bind_some]
  cases ls with
  | nil =>
   rw[Cz]
   simp only[List.length_nil,Int.natCast_zero,Int.lt_irrefl,decide_false,cond_false,Bool.not_true,Option.bind_some]
   exact⟨_,rfl,.inr ⟨_,rfl,by show (i:Int)≠_; omega⟩⟩
  | cons l ls =>
   rw[Cy,show decide ((0:Int)<((l :: ls).length:Int))=true from decide_eq_true (by simp)]
   simp only[cond_true]
   rw[show bX (l :: ls) 0=some l from rfl,qt]
   simp only[Option.bind_some,GD (ah.mk s.Self s.Leases s.Calls s.Order) l (show s.Leases.length<=10000000 by omega)]
   cases hf:mT s.Leases l with
   | false =>
    exact⟨_,rfl,.inl ⟨_,rfl,rfl⟩⟩
   | true =>
    simp only[Bool.not_true,cond_false,Option.bind_some,cond_true,Bool.true_and]
    rw[show ah.mk s.Self s.Leases s.Calls s.Order=s from rfl,Aa s l _ (by omega) (by omega)]
    simp only[Option.bind_some]
    rw[Ao i (by omega)]
    exact vA n O r0 a0 z hO o (i+1) m ls cs (lM s l) hd' (by omega) (by omega) (by simp[lM]; omega) (by simp[lM]; omega) (by simp[lM]; omega)
 | false :: o,i,m+1,ls,cs,s,hd,hi,h,h1,h2,h3=>by
  have hx:O[i]? = some false:=by rw[<-List.head?_drop,hd]; rfl
  have hd':O.drop (i+1)=o:=by rw[<-List.drop_drop,hd]; rfl
  simp only[List.length_cons] at hi h
  unfold gA
  rw[decide_eq_true (by omega),bV,hx]
  simp only[cond_true,cond_false,Option.bind_some,Bool.not_false]
  cases cs with
  | nil =>
   rw[Cw]
   simp only[List.length_nil,Int.natCast_zero,Int.lt_irrefl,decide_false,cond_false,Option.bind_some]
   exact⟨_,rfl,.inr ⟨_,rfl,by show (i:Int)≠_; omega⟩⟩
  | cons c cs =>
   rw[Cv,show decide ((0:Int)<((c :: cs).length:Int))=true from decide_eq_true (by simp)]
   simp only[cond_true]
   rw[show bX (c :: cs) 0=some c from rfl,qt]
   simp only[Option.bind_some,Jc (ah.mk s.Self s.Leases s.Calls s.Order) c (show s.Leases.length<=10000000 by omega) (show s.Calls.length<=10000000 by omega)]
   cases hf:sa s.Self s.Leases s.Calls c with
   | false =>
    exact⟨_,rfl,.inl ⟨_,rfl,rfl⟩⟩
   | true =>
    simp only[Bool.not_true,cond_false,Option.bind_some,cond_true,Bool.true_and]
    rw[show ah.mk s.Self s.Leases s.Calls s.Order=s from rfl,CX s _ c (by omega) (by omega)]
    simp only[Option.bind_some]
    rw[Ao i (by omega)]
    exact vA n O r0 a0 z hO o (i+1) m ls cs (mK s c) hd' (by omega) (by omega) (by simp[mK]; omega) (by simp[mK]; omega) (by simp[mK]; omega)
def oU (r:ah):Bool:=mE r.Self 0 1&&(r.Order.length != 0)&&(r.Order.length==r.Leases.length+r.Calls.length)&&decide (r.Leases.length<=256)&&te (.mk r.Self [] [] []) r.Leases r.Calls r.Order&&(r.Order.head?==some true)
theorem yO (r:ah) (hL:r.Leases.length<=1000000) (hC:r.Calls.length<=1000000) (hO:r.Order.length<=1000000):AB r=some (if oU r=true then 0 else 530):=by
 unfold AB JQ oU
 rw[qC]
 cases h1:mE r.Self 0 1 with
 | false=>rfl
 | true =>
 simp only[Bool.not_true,cond_false,Option.bind_some,Bool.true_and]
 cases h2:(r.Order.length != 0) with
 | false =>
  have:r.Order.length=0:=by simpa using h2
  rw[this]; rfl
 | true =>
 have h2':r.Order.length≠0:=by simpa using h2
 rw[show ((r.Order.length:Int)==0)=false from by simp; intro h; rw[h] at h2'; simp at h2']
 simp only[cond_false,Option.bind_some,Bool.true_and]
 rw[jP (by omega) (by omega)]
 cases h3:(r.Order.length==r.Leases.length+r.Calls.length) with
 | false =>
  rw[show ((r.Order.length:Int) != (r.Leases.length:Int)+(r.Calls.length:Int))=true from by simp at h3 ⊢; omega]
  rfl
 | true =>
 rw[show ((r.Order.length:Int) != (r.Leases.length:Int)+(r.Calls.length:Int))=false from by simp at h3 ⊢; omega]
 simp only[cond_false,Option.bind_some,Bool.true_and]
 by_cases h4:r.Leases.length<=256
 ·rw[decide_eq_false (show ¬ (256:Int)<(r.Leases.length:Int) by omega),decide_eq_true h4]
  simp only[cond_false,Option.bind_some,Bool.true_and]
  obtain ⟨x,hx,hm⟩:=vA aH r.Order r r 0 hO r.Order 0 (aH+7) r.Leases r.Calls (.mk r.Self [] [] []) rfl (by omega) (by rw[show aH=1208925819614629174706176 from rfl]; omega) (by simp) (by simp) (by simp)
  rw[show ((0:Nat):Int)=0 from rfl] at hx
  rw[hx]
  simp only[Option.bind_some]
  have hg:bX r.Order 0=r.Order.head?:=by rw[List.head?_eq_getElem?]; rfl
  cases hw:te (.mk r.Self [] [] []) r.Leases r.Calls r.Order with
  | true =>
   rw[hw] at hm
   obtain ⟨e,rfl,he⟩:=hm
   skip
   subst he
   simp only[bne_self_eq_false,cond_false,Bool.true_and]
   rw[hg]
   cases hh:r.Order.head? with
   | none=>rw[List.head?_eq_none_iff] at hh; rw[hh] at h2'; simp at h2'
   | some b=>cases b<;>rfl
  | false =>
   rw[hw] at hm
   rcases hm with ⟨⟨y120,y121⟩,rfl,he⟩ | ⟨y144,rfl,he⟩
   ·simp only[] at he
    subst he; rfl
   ·skip
    show (Option.bind (bif (y144 != (r.Order.length:Int)) then _ else _) _)=_
    rw[show (y144 != (r.Order.length:Int))=true from by simpa using he]
    rfl
 ·rw[decide_eq_true (show (256:Int)<(r.Leases.length:Int) by omega),decide_eq_false h4]
  rfl
def yE (L:List ak):Prop:=∀ k x,L[k]? = some x->mT (L.take k) x=true
def mc (self:Int) (L:List ak) (C:List av):Prop:=(∀ c∈C,k9 self L c.Bar=true/\mE c.Program 1 8=true)/\C.Pairwise (fun a b=>a.Bar<b.Bar)
theorem CI:yE []:=fun k x h=>by simp at h
theorem yW (self:Int) (L:List ak):mc self L []:=⟨fun c h=>absurd h List.not_mem_nil,.nil⟩
theorem CH {L:List ak} {l:ak} (h:yE L) (hl:mT L l=true):yE (L++[l]):=fun k x hx=>by
 by_cases hk:k<L.length
 ·rw[List.getElem?_append_left hk] at hx
  rw[List.take_append_of_le_length (by omega)]
  exact h k x hx
 ·rw[List.getElem?_append_right (by omega)] at hx
  have hk2:k - L.length=0:=by
   by_cases h0:k - L.length=0
   ·exact h0
   ·rw[List.getElem?_eq_none (by simp; omega)] at hx; cases hx
  rw[hk2] at hx
  have e:k=L.length:=by omega
  subst e
  cases hx
  rw[List.take_append_of_le_length (Nat.le_refl _),List.take_length]
  exact hl
theorem Cs {L:List ak} {p:ak->Bool} {x:ak} (h:L.find? p=some x) (R:List ak):(L++R).find? p=some x:=by rw[List.find?_append,h]; rfl
theorem pZ {self bar:Int} {L:List ak} (h:k9 self L bar=true) (R:List ak):k9 self (L++R) bar=true:=by
 unfold k9 at h ⊢
 rw[Bool.and_eq_true] at h ⊢
 refine⟨h.1,?_⟩
 cases hf:L.find? (fun l=>decide (bar<l.Until)) with
 | none=>rw[hf] at h; cases h.2
 | some x=>rw[Cs hf]; rw[hf] at h; exact h.2
theorem xo {self:Int} {L:List ak} {C:List av} (h:mc self L C) (R:List ak):mc self (L++R) C:=⟨fun c hc=>⟨pZ (h.1 c hc).1 R,(h.1 c hc).2⟩,h.2⟩
theorem CJ {C:List av} (h:C.Pairwise (fun a b=>a.Bar<b.Bar)) {d:av} (hd:C.getLast? = some d):∀ c∈C,c.Bar<=d.Bar:=by
 intro c hc
 obtain ⟨ys,hy⟩:∃ ys,C=ys++[d]:=by
  rw[List.getLast?_eq_some_iff] at hd; exact hd
 subst hy
 rw[List.pairwise_append] at h
 rcases List.mem_append.1 hc with h1 | h1
 ·have:=h.2.2 c h1 d (List.mem_singleton.2 rfl); omega
 ·rw[List.mem_singleton.1 h1]; exact Int.le_refl _
theorem xn {self:Int} {L:List ak} {C:List av} {c:av} (h:mc self L C) (hc:sa self L C c=true):mc self L (C++[c]):=by
 unfold sa at hc
 rw[Bool.and_eq_true,Bool.and_eq_true] at hc
 refine⟨fun x hx=>?_,?_⟩
 ·rcases List.mem_append.1 hx with h1 | h1
  ·exact h.1 x h1
  ·rw[List.mem_singleton.1 h1]; exact⟨hc.1.1,hc.2⟩
 ·rw[List.pairwise_append]
  refine⟨h.2,List.pairwise_singleton _ _,fun a ha b hb=>?_⟩
  rw[List.mem_singleton.1 hb]
  cases hl:C.getLast? with
  | none=>rw[List.getLast?_eq_none_iff] at hl; rw[hl] at ha; exact absurd ha List.not_mem_nil
  | some d =>
   have h1:=CJ h.2 hl a ha
   have h2:=hc.1.2
   rw[hl] at h2
   have h3:=of_decide_eq_true h2
   omega
theorem vk:∀ (o:List Bool) (ls:List ak) (cs:List av) (s:ah),te s ls cs o=true->o.length=ls.length+cs.length->yE s.Leases->mc s.Self s.Leases s.Calls->yE (s.Leases++ls)/\mc s.Self (s.Leases++ls) (s.Calls++cs)
 | [],ls,cs,s,h,hl,h1,h2=>by
  have e1:ls=[]:=List.length_eq_zero_iff.1 (by simp at hl; omega)
  have e2:cs=[]:=List.length_eq_zero_iff.1 (by simp at hl; omega)
  subst e1; subst e2
  rw[List.append_nil,List.append_nil]
  exact⟨h1,h2⟩
 | true :: o,[],cs,s,h,hl,h1,h2=>by rw[Cz] at h; cases h
 | true :: o,l :: ls,cs,s,h,hl,h1,h2=>by
  rw[Cy,Bool.and_eq_true] at h
  have:=vk o ls cs (lM s l) h.2 (by simp at hl ⊢; omega) (CH h1 h.1) (xo h2 [l])
  simpa [lM] using this
 | false :: o,ls,[],s,h,hl,h1,h2=>by rw[Cw] at h; cases h
 | false :: o,ls,c :: cs,s,h,hl,h1,h2=>by
  rw[Cv,Bool.and_eq_true] at h
  have:=vk o ls cs (mK s c) h.2 (by simp at hl ⊢; omega) h1 (xn h2 h.1)
  simpa [mK] using this
theorem wu {r:ah} (h:oU r=true):mE r.Self 0 1=true/\yE r.Leases/\mc r.Self r.Leases r.Calls/\r.Order.length=r.Leases.length+r.Calls.length/\r.Leases.length<=256/\r.Order.head? = some true:=by
 unfold oU at h
 simp only[Bool.and_eq_true,beq_iff_eq,decide_eq_true_eq] at h
 obtain ⟨⟨⟨⟨⟨h1,h2⟩,h3⟩,h4⟩,h5⟩,h6⟩:=h
 obtain ⟨h7,h8⟩:=vk r.Order r.Leases r.Calls _ h5 h3 CI (yW _ _)
 simp only[List.nil_append] at h7 h8
 exact⟨h1,h7,h8,h3,h4,h6⟩
theorem Dt {n:Int} (h:mE n 0 1=true):n=0∨n=1:=by
 unfold mE at h
 simp only[Bool.and_eq_true,decide_eq_true_eq] at h
 omega
theorem rF {L:List ak} {l:ak} (h:mT L l=true):l.No=(L.length:Int)/\(l.Holder=0∨l.Holder=1)/\A5 L<l.Until/\l.Until<=4096:=by
 unfold mT at h
 simp only[Bool.and_eq_true,beq_iff_eq,decide_eq_true_eq] at h
 obtain ⟨⟨⟨h1,h2⟩,h3⟩,h4⟩:=h
 exact⟨h1,Dt h2,h3,h4⟩
theorem Dv {T:Type} {P:List T->Prop} (h0:P []) (h1:∀ l x,P l->P (l++[x])) (l:List T):P l:=by
 have:∀ l:List T,P l.reverse:=fun l=>by
  induction l with
  | nil=>exact h0
  | cons x l ih=>rw[List.reverse_cons]; exact h1 _ _ ih
 have:=this l.reverse
 rwa [List.reverse_reverse] at this
def FV:ah:=.mk 0 [] [] []
theorem LQ (r:ah) (bar p:Int) (hL:r.Leases.length<=1000000) (hC:r.Calls.length<=1000000) (hO:r.Order.length<=1000000) :
  Hb r bar p=some (if oU r=true/\sa r.Self r.Leases r.Calls (.mk bar p)=true then (mK r (.mk bar p),0) else (FV,530)):=by
 unfold Hb JT
 rw[yO r hL hC hO]
 cases h1:oU r with
 | false=>rfl
 | true =>
  simp only[if_true,Option.bind_some]
  rw[show ((0:Int)==0)=true from rfl]
  simp only[cond_true]
  rw[Jc r _ (by omega) (by omega)]
  cases h2:sa r.Self r.Leases r.Calls (.mk bar p) with
  | false=>rfl
  | true =>
   simp only[Option.bind_some,Bool.not_true,cond_false]
   rw[CX r _ _ (by omega) (by omega)]
   rfl
theorem JC:G7=some true:=by kernel_rfl
theorem CR {T:Type} [DecidableEq T] (A B:List T) (hl:A.length=B.length) (hA:A.length<=1000000) (e:T->T->Bool) (he:∀ x y,e x y=decide (x=y)) (G:Nat->Int->Option ((Bool)⊕(Unit)))
  (hG:∀ m w,G (m+1) w=bif (decide (w<((A.length:Int)))) then (Option.bind (bX A w) fun y7=>Option.bind (bX B w) fun y8=>bif (!(e y7 y8)) then (some ((Sum.inl false))) else (G m (wr .i64 (w+1)))) else (some ((Sum.inr (()))))) :
  ∀ (a b:List T) (i m:Nat),A.drop i=a->B.drop i=b->i+a.length=A.length->a.length<m->G m (i:Int)=some (if a=b then .inr () else .inl false)
 | a,b,i,0,_,_,_,h=>absurd h (Nat.not_lt_zero _)
 | [],b,i,m+1,hd,hd2,hi,h=>by
  have:b=[]:=by rw[<-hd2]; exact List.drop_eq_nil_of_le (by simp at hi; omega)
  subst this
  rw[hG,decide_eq_false (by simp at hi; omega)]
  rfl
 | x :: a,b,i,m+1,hd,hd2,hi,h=>by
  simp only[List.length_cons] at hi h
  obtain ⟨y,b',rfl⟩:∃ y b',b=y :: b':=by
   cases b with
   | nil =>
    exfalso
    have:(B.drop i).length=0:=by rw[hd2]; rfl
    rw[List.length_drop] at this
    omega
   | cons y b'=>exact⟨y,b',rfl⟩
  have hx:A[i]? = some x:=by rw[<-List.head?_drop,hd]; rfl
  have hy:B[i]? = some y:=by rw[<-List.head?_drop,hd2]; rfl
  have hd':A.drop (i+1)=a:=by rw[<-List.drop_drop,hd]; rfl
  have hd2':B.drop (i+1)=b':=by rw[<-List.drop_drop,hd2]; rfl
  rw[hG,decide_eq_true (by omega),bV,bV,hx,hy]
  simp only[cond_true,Option.bind_some]
  rw[he]
  by_cases hxy:x=y
  ·subst hxy
   rw[decide_eq_true rfl,Ao i (by omega)]
   simp only[Bool.not_true,cond_false]
   rw[CR A B hl hA e he G hG a b' (i+1) m hd' hd2' (by omega) (by omega)]
   by_cases hab:a=b'
   ·rw[if_pos hab,if_pos (by rw[hab])]
   ·rw[if_neg hab,if_neg (fun h=>hab (List.cons.inj h).2)]
  ·rw[decide_eq_false hxy,if_neg (fun h=>hxy (List.cons.inj h).1)]
   rfl
theorem pj (x y:ak):((x.No==y.No)&&((x.Holder==y.Holder)&&(x.Until==y.Until)))=decide (x=y):=by
 obtain ⟨a,b,c⟩:=x; obtain ⟨d,e,f⟩:=y
 rw[Bool.eq_iff_iff]
 simp[ak.mk.injEq]
theorem uR (x y:av):((x.Bar==y.Bar)&&(x.Program==y.Program))=decide (x=y):=by
 obtain ⟨a,b⟩:=x; obtain ⟨d,e⟩:=y
 rw[Bool.eq_iff_iff]
 simp[av.mk.injEq]
theorem qB (n:Nat) (h:n<=1000000) (k:Nat):n<aH+k:=by rw[show aH=1208925819614629174706176 from rfl]; omega
theorem I5 (a b:List ak) (ha:a.length<=1000000) (hb:b.length<=1000000):DC a b=some (decide (a=b)):=by
 unfold DC JP
 by_cases h:a.length=b.length
 ·rw[h,bne_self_eq_false]
  simp only[cond_false]
  have:=CR a b h ha (fun x y=>(x.No==y.No)&&((x.Holder==y.Holder)&&(x.Until==y.Until))) pj (kC aH a b) (fun m w=>by rw[kC]) a b 0 (aH+8) rfl rfl (by omega) (qB _ ha _)
  rw[show ((0:Nat):Int)=0 from rfl] at this
  rw[this]
  by_cases hab:a=b
  ·rw[if_pos hab,decide_eq_true hab]; rfl
  ·rw[if_neg hab,decide_eq_false hab]; rfl
 ·rw[show ((a.length:Int) != (b.length:Int))=true from by simp; omega,decide_eq_false (fun e=>h (by rw[e]))]
  rfl
theorem LP (a b:List av) (ha:a.length<=1000000) (hb:b.length<=1000000):E8 a b=some (decide (a=b)):=by
 unfold E8 JR
 by_cases h:a.length=b.length
 ·rw[h,bne_self_eq_false]
  simp only[cond_false]
  have:=CR a b h ha (fun x y=>(x.Bar==y.Bar)&&(x.Program==y.Program)) uR (kD aH a b) (fun m w=>by rw[kD]) a b 0 (aH+8) rfl rfl (by omega) (qB _ ha _)
  rw[show ((0:Nat):Int)=0 from rfl] at this
  rw[this]
  by_cases hab:a=b
  ·rw[if_pos hab,decide_eq_true hab]; rfl
  ·rw[if_neg hab,decide_eq_false hab]; rfl
 ·rw[show ((a.length:Int) != (b.length:Int))=true from by simp; omega,decide_eq_false (fun e=>h (by rw[e]))]
  rfl
def sE (r:ah):Prop:=r.Leases.length<=1000000/\r.Calls.length<=1000000/\r.Order.length<=1000000
theorem Dj {T:Type} (l:List T) (n:Nat) (h:n<=l.length):et l 0 (n:Int)=some (l.take n):=by
 unfold et
 rw[show (decide ((0:Int)<=0)&&decide ((0:Int)<=(n:Int))&&decide ((n:Int)<=l.length))=true from by simp; omega]
 simp
theorem I6 (a b:List ak) (ha:a.length<=1000000) (hb:b.length<=1000000):Ha a b=some (decide (a <+: b)):=by
 unfold Ha JS
 by_cases h:a.length<=b.length
 ·rw[decide_eq_true (show (a.length:Int)<=b.length by omega),Dj b _ h]
  simp only[cond_true,Option.bind_some]
  rw[I5 _ _ ha (by rw[List.length_take]; omega)]
  simp only[Option.bind_some,Option.some.injEq,decide_eq_decide]
  rw[List.prefix_iff_eq_take]
 ·rw[decide_eq_false (show ¬ (a.length:Int)<=b.length by omega),decide_eq_false (fun e=>h e.length_le)]
  rfl
end Go.Proofs.Ytdmgdjnadbakfaa
