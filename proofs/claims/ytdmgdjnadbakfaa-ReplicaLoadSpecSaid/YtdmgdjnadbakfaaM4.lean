/-
 Layer 53, in plain Lean: equality of leases, calls and replicas.
-/
import Derived.Test.YtdmgdjnadbakfaaL
import Derived.Test.YtdmgdjnadbakfaaPure
import Derived.KernelRfl
namespace Go.Proofs.Ytdmgdjnadbakfaa
set_option linter.unusedVariables false
set_option linter.unusedSimpArgs false
set_option maxRecDepth 100000
set_option maxHeartbeats 4000000
theorem Ov:eG=140737488355328:=by kernel_rfl
theorem nY {T:Type} (b:Nat) (l l2:List T) (hb:b<=1000) (h:l.length+l2.length<=10000000):cQ b l l2=some (l++l2):=by
 have h1:(l.length+l2.length)*b<=10000000*1000:=Nat.mul_le_mul h hb
 unfold cQ; rw[decide_eq_true (by rw[Ov]; omega)]; rfl
theorem FI {T:Type} (l:List T):er l 0 (l.length:Int)=some l:=by
 unfold er
 rw[show (decide ((0:Int)<=0)&&decide ((0:Int)<=(l.length:Int))&&decide ((l.length:Int)<=l.length))=true from by simp]
 simp
theorem AM {T:Type} (x:T) (l:List T):er (x :: l) 1 ((x :: l).length:Int)=some l:=by
 unfold er
 rw[show (decide ((0:Int)<=1)&&decide ((1:Int)<=((x :: l).length:Int))&&decide (((x :: l).length:Int)<=(x :: l).length))=true from by simp; omega]
 simp
theorem qj (n:Nat) (h:n<=10000000):wr .i64 ((n:Int)+1)=((n+1:Nat):Int):=by rw[eu (by omega) (by omega)]; omega
theorem GV {T:Type} (l:List T) (h:l.length<=10000000) (hp:0<l.length):bw l (wr .i64 ((l.length:Int) - 1))=l.getLast?:=by
 rw[eu (by omega) (by omega),show ((l.length:Int) - 1)=((l.length - 1:Nat):Int) from by omega,bL,List.getLast?_eq_getElem?]
def tc (n lo hi:Int):Bool:=decide (lo<=n)&&decide (n<=hi)
theorem HA (a b c:Int):BO a b c=some (tc a b c):=by
 unfold BO Lm tc
 cases decide (b<=a)<;>rfl
def vy (l:List ak):Int:=match l.getLast? with | some x=>x.Until | none=>0
theorem N9 (r:aj) (h:r.Leases.length<=10000000):IZ r=some (vy r.Leases):=by
 unfold IZ Lz vy
 by_cases hp:0<r.Leases.length
 ·rw[decide_eq_true (by omega),GV _ h hp]
  cases hx:r.Leases.getLast? with
  | some x=>rfl
  | none=>rw[List.getLast?_eq_none_iff] at hx; rw[hx] at hp; simp at hp
 ·have:r.Leases=[]:=List.length_eq_zero_iff.1 (by omega)
  rw[this]; rfl
def qb (ls:List ak) (l:ak):Bool:=(l.No==(ls.length:Int))&&tc l.Holder 0 1&&decide (vy ls<l.Until)&&decide (l.Until<=4096)
theorem N4 (r:aj) (l:ak) (h:r.Leases.length<=10000000):Il r l=some (qb r.Leases l):=by
 unfold Il Ln qb
 rw[HA,N9 r h]
 generalize (l.No==(r.Leases.length:Int))=a
 generalize tc l.Holder 0 1=b
 show (Option.bind (bif a then some b else some false) _)=_
 cases a<;>cases b<;>try rfl
 simp only[cond_true,Option.bind_some,Bool.true_and]
 cases decide (vy r.Leases<l.Until)<;>rfl
def pK (self:Int) (ls:List ak) (bar:Int):Bool:=decide (0<=bar)&&match ls.find? (fun l=>decide (bar<l.Until)) with | some l=>l.Holder==self | none=>false
theorem AB (n:Nat) (L:List ak) (z:Int) (r:aj) (bar:Int) (hL:L.length<=10000000):∀ (l:List ak) (i m:Nat),L.drop i=l->i+l.length=L.length->l.length<m ->
  (∃ (j:Nat) (x:ak),ia n L z (L.length:Int) r bar m (i:Int)=some (.inl ((j:Int),x.No,x.Holder,x.Until))/\L[j]? = some x/\l.find? (fun l=>decide (bar<l.Until))=some x) ∨
  (ia n L z (L.length:Int) r bar m (i:Int)=some (.inr ())/\l.find? (fun l=>decide (bar<l.Until))=none)
 | l,i,0,_,_,h=>absurd h (Nat.not_lt_zero _)
 | [],i,m+1,hd,hi,h=>by
  right
  refine⟨?_,rfl⟩
  unfold ia
  rw[decide_eq_false (by simp at hi; omega)]; rfl
 | x :: l,i,m+1,hd,hi,h=>by
  have hx:L[i]? = some x:=by rw[<-List.head?_drop,hd]; rfl
  have hd':L.drop (i+1)=l:=by rw[<-List.drop_drop,hd]; rfl
  simp only[List.length_cons] at hi h
  unfold ia
  rw[decide_eq_true (by omega),bL,hx]
  show (_∨_)
  simp only[cond_true,Option.bind_some,List.find?_cons]
  cases hb:decide (bar<x.Until) with
  | true=>left; exact⟨i,x,rfl,hx,rfl⟩
  | false =>
   simp only[cond_false]
   rw[qj i (by omega)]
   exact AB n L z r bar hL l (i+1) m hd' (by omega) (by omega)
theorem Oa (r:aj) (bar:Int) (h:r.Leases.length<=10000000):I0 r bar=some (pK r.Self r.Leases bar):=by
 unfold I0 LA pK
 rcases AB aC r.Leases 0 r bar h r.Leases 0 (aC+7) rfl (by omega) (by rw[show aC=1208925819614629174706176 from rfl]; omega) with ⟨j,x,h1,h2,h3⟩ | ⟨h1,h3⟩
 ·rw[show ((0:Nat):Int)=0 from rfl] at h1
  rw[h1,h3]
  show (Option.bind (bif decide (0<=bar) then some (decide (0<=(j:Int))) else some false) _)=_
  rw[decide_eq_true (show (0:Int)<=j by omega)]
  cases decide (0<=bar) with
  | false=>rfl
  | true =>
   show (Option.bind (bw r.Leases (j:Int)) _)=_
   rw[bL,h2]; rfl
 ·rw[show ((0:Nat):Int)=0 from rfl] at h1
  rw[h1,h3]
  cases decide (0<=bar)<;>rfl
def oS (self:Int) (ls:List ak) (cs:List ar) (c:ar):Bool:=pK self ls c.Bar&&(match cs.getLast? with | some d=>decide (d.Bar<c.Bar) | none=>true)&&tc c.Program 1 8
theorem N5 (r:aj) (c:ar) (h:r.Leases.length<=10000000) (h2:r.Calls.length<=10000000):G2 r c=some (oS r.Self r.Leases r.Calls c):=by
 unfold G2 Lo oS
 rw[Oa r _ h,HA]
 generalize pK r.Self r.Leases c.Bar=a
 generalize tc c.Program 1 8=b
 cases a with
 | false=>rfl
 | true =>
  by_cases hp:0<r.Calls.length
  ·rw[show (((r.Calls.length:Int))==0)=false from by simp; intro hn; rw[hn] at hp; simp at hp,GV _ h2 hp]
   cases hx:r.Calls.getLast? with
   | some x =>
    simp only[cond_true,cond_false,Option.bind_some,Bool.true_and]
    cases decide (x.Bar<c.Bar)<;>rfl
   | none=>rw[List.getLast?_eq_none_iff] at hx; rw[hx] at hp; simp at hp
  ·have:r.Calls=[]:=List.length_eq_zero_iff.1 (by omega)
   rw[this]; rfl
def om (r:aj) (l:ak):aj:=.mk r.Self (r.Leases++[l]) r.Calls (r.Order++[true])
def oh (r:aj) (c:ar):aj:=.mk r.Self r.Leases (r.Calls++[c]) (r.Order++[false])
theorem GI (r:aj) (l:ak) (c:ar) (h:r.Leases.length<10000000) (h2:r.Order.length<10000000):BX r (.mk true l c)=some (om r l):=by
 unfold BX IH
 simp only[cond_true,FI,Option.bind_some]
 rw[nY _ _ _ (by omega) (by simp; omega)]
 simp only[Option.bind_some,FI]
 rw[nY _ _ _ (by omega) (by simp; omega)]
 rfl
theorem GH (r:aj) (l:ak) (c:ar) (h:r.Calls.length<10000000) (h2:r.Order.length<10000000):BX r (.mk false l c)=some (oh r c):=by
 unfold BX IH
 simp only[cond_false,FI,Option.bind_some]
 rw[nY _ _ _ (by omega) (by simp; omega)]
 simp only[Option.bind_some,FI]
 rw[nY _ _ _ (by omega) (by simp; omega)]
 rfl
def qL (s:aj):List ak->List ar->List Bool->Bool
 | _,_,[]=>true
 | l :: ls,cs,true :: o=>qb s.Leases l&&qL (om s l) ls cs o
 | [],_,true :: _=>false
 | ls,c :: cs,false :: o=>oS s.Self s.Leases s.Calls c&&qL (oh s c) ls cs o
 | _,[],false :: _=>false
theorem uf (s:aj) (l:ak) (ls:List ak) (cs:List ar) (o:List Bool):qL s (l :: ls) cs (true :: o)=(qb s.Leases l&&qL (om s l) ls cs o):=by rw[qL]
theorem ue (s:aj) (c:ar) (ls:List ak) (cs:List ar) (o:List Bool):qL s ls (c :: cs) (false :: o)=(oS s.Self s.Leases s.Calls c&&qL (oh s c) ls cs o):=by cases ls<;>rw[qL]
theorem rV (s:aj) (cs:List ar) (o:List Bool):qL s [] cs (true :: o)=false:=by rw[qL]
theorem vk (s:aj) (ls:List ak) (o:List Bool):qL s ls [] (false :: o)=false:=by cases ls<;>rw[qL]
theorem vm (s:aj) (ls:List ak) (cs:List ar):qL s ls cs []=true:=by cases ls<;>cases cs<;>rw[qL]
theorem vC (n:Nat) (O:List Bool) (r0 a0:aj) (z:Int) (hO:O.length<=1000000):∀ (o:List Bool) (i m:Nat) (ls:List ak) (cs:List ar) (s:aj),O.drop i=o->i+o.length=O.length->o.length<m ->
  s.Leases.length<=i->s.Calls.length<=i->s.Order.length<=i->∃ x,gh n O (O.length:Int) r0 z a0 m ls cs (i:Int) s.Self s.Leases s.Calls s.Order (i:Int)=some x ∧
   match qL s ls cs o with
   | true=>∃ t,x=.inr (.inr t)/\t.2.2.2.2=(O.length:Int)
   | false=>(∃ t,x=.inl t/\t.1=530)∨∃ t,x=.inr (.inl t)/\t.2.2.2.2.1≠(O.length:Int)
 | o,i,0,_,_,_,_,_,h,_,_,_=>absurd h (Nat.not_lt_zero _)
 | [],i,m+1,ls,cs,s,hd,hi,h,_,_,_=>by
  rw[vm]
  unfold gh
  rw[decide_eq_false (by simp at hi; omega)]
  refine⟨_,rfl,_,rfl,?_⟩
  simp at hi
  show (i:Int)=_
  rw[hi]
 | true :: o,i,m+1,ls,cs,s,hd,hi,h,h1,h2,h3=>by
  have hx:O[i]? = some true:=by rw[<-List.head?_drop,hd]; rfl
  have hd':O.drop (i+1)=o:=by rw[<-List.drop_drop,hd]; rfl
  simp only[List.length_cons] at hi h
  unfold gh
  rw[decide_eq_true (by omega),bL,hx]
  simp only[cond_true,Option.bind_some]
  cases ls with
  | nil =>
   rw[rV]
   simp only[List.length_nil,Int.natCast_zero,Int.lt_irrefl,decide_false,cond_false,Bool.not_true,Option.bind_some]
   exact⟨_,rfl,.inr ⟨_,rfl,by show (i:Int)≠_; omega⟩⟩
  | cons l ls =>
   rw[uf,show decide ((0:Int)<((l :: ls).length:Int))=true from decide_eq_true (by simp)]
   simp only[cond_true]
   rw[show bw (l :: ls) 0=some l from rfl,AM]
   simp only[Option.bind_some,N4 (aj.mk s.Self s.Leases s.Calls s.Order) l (show s.Leases.length<=10000000 by omega)]
   cases hf:qb s.Leases l with
   | false =>
    exact⟨_,rfl,.inl ⟨_,rfl,rfl⟩⟩
   | true =>
    simp only[Bool.not_true,cond_false,Option.bind_some,cond_true,Bool.true_and]
    rw[show aj.mk s.Self s.Leases s.Calls s.Order=s from rfl,GI s l _ (by omega) (by omega)]
    simp only[Option.bind_some]
    rw[qj i (by omega)]
    exact vC n O r0 a0 z hO o (i+1) m ls cs (om s l) hd' (by omega) (by omega) (by simp[om]; omega) (by simp[om]; omega) (by simp[om]; omega)
 | false :: o,i,m+1,ls,cs,s,hd,hi,h,h1,h2,h3=>by
  have hx:O[i]? = some false:=by rw[<-List.head?_drop,hd]; rfl
  have hd':O.drop (i+1)=o:=by rw[<-List.drop_drop,hd]; rfl
  simp only[List.length_cons] at hi h
  unfold gh
  rw[decide_eq_true (by omega),bL,hx]
  simp only[cond_true,cond_false,Option.bind_some,Bool.not_false]
  cases cs with
  | nil =>
   rw[vk]
   simp only[List.length_nil,Int.natCast_zero,Int.lt_irrefl,decide_false,cond_false,Option.bind_some]
   exact⟨_,rfl,.inr ⟨_,rfl,by show (i:Int)≠_; omega⟩⟩
  | cons c cs =>
   rw[ue,show decide ((0:Int)<((c :: cs).length:Int))=true from decide_eq_true (by simp)]
   simp only[cond_true]
   rw[show bw (c :: cs) 0=some c from rfl,AM]
   simp only[Option.bind_some,N5 (aj.mk s.Self s.Leases s.Calls s.Order) c (show s.Leases.length<=10000000 by omega) (show s.Calls.length<=10000000 by omega)]
   cases hf:oS s.Self s.Leases s.Calls c with
   | false =>
    exact⟨_,rfl,.inl ⟨_,rfl,rfl⟩⟩
   | true =>
    simp only[Bool.not_true,cond_false,Option.bind_some,cond_true,Bool.true_and]
    rw[show aj.mk s.Self s.Leases s.Calls s.Order=s from rfl,GH s _ c (by omega) (by omega)]
    simp only[Option.bind_some]
    rw[qj i (by omega)]
    exact vC n O r0 a0 z hO o (i+1) m ls cs (oh s c) hd' (by omega) (by omega) (by simp[oh]; omega) (by simp[oh]; omega) (by simp[oh]; omega)
def ir (r:aj):Bool:=tc r.Self 0 1&&(r.Order.length != 0)&&(r.Order.length==r.Leases.length+r.Calls.length)&&decide (r.Leases.length<=256)&&qL (.mk r.Self [] [] []) r.Leases r.Calls r.Order&&(r.Order.head?==some true)
theorem Hz (r:aj) (hL:r.Leases.length<=1000000) (hC:r.Calls.length<=1000000) (hO:r.Order.length<=1000000):Eu r=some (if ir r=true then 0 else 530):=by
 unfold Eu Lf ir
 rw[HA]
 cases h1:tc r.Self 0 1 with
 | false=>rfl
 | true =>
 simp only[Bool.not_true,cond_false,Option.bind_some,Bool.true_and]
 cases h2:(r.Order.length != 0) with
 | false =>
  have:r.Order.length=0:=by simpa using h2
  rw[this]; rfl
 | true =>
 have h2':r.Order.length≠0:=by simpa using h2
 rw[show ((r.Order.length:Int)==0)=false from by simp; intro h; rw[h] at h2'; simp at h2']
 simp only[cond_false,Option.bind_some,Bool.true_and]
 rw[eu (by omega) (by omega)]
 cases h3:(r.Order.length==r.Leases.length+r.Calls.length) with
 | false =>
  rw[show ((r.Order.length:Int) != (r.Leases.length:Int)+(r.Calls.length:Int))=true from by simp at h3 ⊢; omega]
  rfl
 | true =>
 rw[show ((r.Order.length:Int) != (r.Leases.length:Int)+(r.Calls.length:Int))=false from by simp at h3 ⊢; omega]
 simp only[cond_false,Option.bind_some,Bool.true_and]
 by_cases h4:r.Leases.length<=256
 ·rw[decide_eq_false (show ¬ (256:Int)<(r.Leases.length:Int) by omega),decide_eq_true h4]
  simp only[cond_false,Option.bind_some,Bool.true_and]
  obtain ⟨x,hx,hm⟩:=vC aC r.Order r r 0 hO r.Order 0 (aC+7) r.Leases r.Calls (.mk r.Self [] [] []) rfl (by omega) (by rw[show aC=1208925819614629174706176 from rfl]; omega) (by simp) (by simp) (by simp)
  rw[show ((0:Nat):Int)=0 from rfl] at hx
  rw[hx]
  simp only[Option.bind_some]
  have hg:bw r.Order 0=r.Order.head?:=by rw[List.head?_eq_getElem?]; rfl
  cases hw:qL (.mk r.Self [] [] []) r.Leases r.Calls r.Order with
  | true =>
   rw[hw] at hm
   obtain ⟨⟨a,b,c,d,e⟩,rfl,he⟩:=hm
   simp only[] at he
   subst he
   simp only[bne_self_eq_false,cond_false,Bool.true_and]
   rw[hg]
   cases hh:r.Order.head? with
   | none=>rw[List.head?_eq_none_iff] at hh; rw[hh] at h2'; simp at h2'
   | some b=>cases b<;>rfl
  | false =>
   rw[hw] at hm
   rcases hm with ⟨⟨y120,y121,y122,y123,y124,y125,y126,y127,y128,y129,y130,y131,y132,y133,y134,y135,y136,y137⟩,rfl,he⟩ | ⟨⟨y144,y145,y146,y147,y148,y149,y150,y151,y152,y153,y154⟩,rfl,he⟩
   ·simp only[] at he
    subst he; rfl
   ·simp only[] at he
    show (Option.bind (bif (y148 != (r.Order.length:Int)) then _ else _) _)=_
    rw[show (y148 != (r.Order.length:Int))=true from by simpa using he]
    rfl
 ·rw[decide_eq_true (show (256:Int)<(r.Leases.length:Int) by omega),decide_eq_false h4]
  rfl
def BC (L:List ak):Prop:=∀ k x,L[k]? = some x->qb (L.take k) x=true
def np (self:Int) (L:List ak) (C:List ar):Prop:=(∀ c∈C,pK self L c.Bar=true/\tc c.Program 1 8=true)/\C.Pairwise (fun a b=>a.Bar<b.Bar)
theorem Dp:BC []:=fun k x h=>by simp at h
theorem zt (self:Int) (L:List ak):np self L []:=⟨fun c h=>absurd h List.not_mem_nil,.nil⟩
theorem Dn {L:List ak} {l:ak} (h:BC L) (hl:qb L l=true):BC (L++[l]):=fun k x hx=>by
 by_cases hk:k<L.length
 ·rw[List.getElem?_append_left hk] at hx
  rw[List.take_append_of_le_length (by omega)]
  exact h k x hx
 ·rw[List.getElem?_append_right (by omega)] at hx
  have hk2:k - L.length=0:=by
   by_cases h0:k - L.length=0
   ·exact h0
   ·rw[List.getElem?_eq_none (by simp; omega)] at hx; cases hx
  rw[hk2] at hx
  have e:k=L.length:=by omega
  subst e
  cases hx
  rw[List.take_append_of_le_length (Nat.le_refl _),List.take_length]
  exact hl
theorem De {L:List ak} {p:ak->Bool} {x:ak} (h:L.find? p=some x) (R:List ak):(L++R).find? p=some x:=by rw[List.find?_append,h]; rfl
theorem BG {self bar:Int} {L:List ak} (h:pK self L bar=true) (R:List ak):pK self (L++R) bar=true:=by
 unfold pK at h ⊢
 rw[Bool.and_eq_true] at h ⊢
 refine⟨h.1,?_⟩
 cases hf:L.find? (fun l=>decide (bar<l.Until)) with
 | none=>rw[hf] at h; cases h.2
 | some x=>rw[De hf]; rw[hf] at h; exact h.2
theorem xu {self:Int} {L:List ak} {C:List ar} (h:np self L C) (R:List ak):np self (L++R) C:=⟨fun c hc=>⟨BG (h.1 c hc).1 R,(h.1 c hc).2⟩,h.2⟩
theorem Dr {C:List ar} (h:C.Pairwise (fun a b=>a.Bar<b.Bar)) {d:ar} (hd:C.getLast? = some d):∀ c∈C,c.Bar<=d.Bar:=by
 intro c hc
 obtain ⟨ys,hy⟩:∃ ys,C=ys++[d]:=by
  rw[List.getLast?_eq_some_iff] at hd; exact hd
 subst hy
 rw[List.pairwise_append] at h
 rcases List.mem_append.1 hc with h1 | h1
 ·have:=h.2.2 c h1 d (List.mem_singleton.2 rfl); omega
 ·rw[List.mem_singleton.1 h1]; exact Int.le_refl _
theorem xr {self:Int} {L:List ak} {C:List ar} {c:ar} (h:np self L C) (hc:oS self L C c=true):np self L (C++[c]):=by
 unfold oS at hc
 rw[Bool.and_eq_true,Bool.and_eq_true] at hc
 refine⟨fun x hx=>?_,?_⟩
 ·rcases List.mem_append.1 hx with h1 | h1
  ·exact h.1 x h1
  ·rw[List.mem_singleton.1 h1]; exact⟨hc.1.1,hc.2⟩
 ·rw[List.pairwise_append]
  refine⟨h.2,List.pairwise_singleton _ _,fun a ha b hb=>?_⟩
  rw[List.mem_singleton.1 hb]
  cases hl:C.getLast? with
  | none=>rw[List.getLast?_eq_none_iff] at hl; rw[hl] at ha; exact absurd ha List.not_mem_nil
  | some d =>
   have h1:=Dr h.2 hl a ha
   have h2:=hc.1.2
   rw[hl] at h2
   have h3:=of_decide_eq_true h2
   omega
theorem vl:∀ (o:List Bool) (ls:List ak) (cs:List ar) (s:aj),qL s ls cs o=true->o.length=ls.length+cs.length->BC s.Leases->np s.Self s.Leases s.Calls->BC (s.Leases++ls)/\np s.Self (s.Leases++ls) (s.Calls++cs)
 | [],ls,cs,s,h,hl,h1,h2=>by
  have e1:ls=[]:=List.length_eq_zero_iff.1 (by simp at hl; omega)
  have e2:cs=[]:=List.length_eq_zero_iff.1 (by simp at hl; omega)
  subst e1; subst e2
  rw[List.append_nil,List.append_nil]
  exact⟨h1,h2⟩
 | true :: o,[],cs,s,h,hl,h1,h2=>by rw[rV] at h; cases h
 | true :: o,l :: ls,cs,s,h,hl,h1,h2=>by
  rw[uf,Bool.and_eq_true] at h
  have:=vl o ls cs (om s l) h.2 (by simp at hl ⊢; omega) (Dn h1 h.1) (xu h2 [l])
  simpa [om] using this
 | false :: o,ls,[],s,h,hl,h1,h2=>by rw[vk] at h; cases h
 | false :: o,ls,c :: cs,s,h,hl,h1,h2=>by
  rw[ue,Bool.and_eq_true] at h
  have:=vl o ls cs (oh s c) h.2 (by simp at hl ⊢; omega) h1 (xr h2 h.1)
  simpa [oh] using this
theorem pr {r:aj} (h:ir r=true):tc r.Self 0 1=true/\BC r.Leases/\np r.Self r.Leases r.Calls/\r.Order.length=r.Leases.length+r.Calls.length/\r.Leases.length<=256/\r.Order.head? = some true:=by
 unfold ir at h
 simp only[Bool.and_eq_true,beq_iff_eq,decide_eq_true_eq] at h
 obtain ⟨⟨⟨⟨⟨h1,h2⟩,h3⟩,h4⟩,h5⟩,h6⟩:=h
 obtain ⟨h7,h8⟩:=vl r.Order r.Leases r.Calls _ h5 h3 Dp (zt _ _)
 simp only[List.nil_append] at h7 h8
 exact⟨h1,h7,h8,h3,h4,h6⟩
theorem BE (L:List ak) (l:ak):vy (L++[l])=l.Until:=by unfold vy; rw[List.getLast?_append]; rfl
def qH:aj:=.mk 0 [] [] []
theorem KX:G7=some true:=by kernel_rfl
def Dd (r:aj):Bool:=decide (r.Leases.length<=300)&&decide (r.Calls.length<=60)&&decide (r.Order.length<=360)
theorem R3 (r:aj):G8 r=some (Dd r):=by
 unfold G8 F8 Dd
 rw[show decide ((r.Leases.length:Int)<=300)=decide (r.Leases.length<=300) from by rw[decide_eq_decide]; omega,
  show decide ((r.Calls.length:Int)<=60)=decide (r.Calls.length<=60) from by rw[decide_eq_decide]; omega,
  show decide ((r.Order.length:Int)<=360)=decide (r.Order.length<=360) from by rw[decide_eq_decide]; omega]
 cases decide (r.Leases.length<=300)<;>cases decide (r.Calls.length<=60)<;>rfl
theorem EK {r:aj} (h:Dd r=true):r.Leases.length<=300/\r.Calls.length<=60/\r.Order.length<=360:=by
 unfold Dd at h
 simp only[Bool.and_eq_true,decide_eq_true_eq] at h
 omega
theorem xf {T:Type} [DecidableEq T] (A B:List T) (hl:A.length=B.length) (hA:A.length<=1000000) (e:T->T->Bool) (he:∀ x y,e x y=decide (x=y)) (G:Nat->Int->Option ((Bool)⊕(Unit)))
  (hG:∀ m w,G (m+1) w=bif (decide (w<((A.length:Int)))) then (Option.bind (bw A w) fun y7=>Option.bind (bw B w) fun y8=>bif (!(e y7 y8)) then (some ((Sum.inl false))) else (G m (wr .i64 (w+1)))) else (some ((Sum.inr (()))))) :
  ∀ (a b:List T) (i m:Nat),A.drop i=a->B.drop i=b->i+a.length=A.length->a.length<m->G m (i:Int)=some (if a=b then .inr () else .inl false)
 | a,b,i,0,_,_,_,h=>absurd h (Nat.not_lt_zero _)
 | [],b,i,m+1,hd,hd2,hi,h=>by
  have:b=[]:=by rw[<-hd2]; exact List.drop_eq_nil_of_le (by simp at hi; omega)
  subst this
  rw[hG,decide_eq_false (by simp at hi; omega)]
  rfl
 | x :: a,b,i,m+1,hd,hd2,hi,h=>by
  simp only[List.length_cons] at hi h
  obtain ⟨y,b',rfl⟩:∃ y b',b=y :: b':=by
   cases b with
   | nil =>
    exfalso
    have:(B.drop i).length=0:=by rw[hd2]; rfl
    rw[List.length_drop] at this
    omega
   | cons y b'=>exact⟨y,b',rfl⟩
  have hx:A[i]? = some x:=by rw[<-List.head?_drop,hd]; rfl
  have hy:B[i]? = some y:=by rw[<-List.head?_drop,hd2]; rfl
  have hd':A.drop (i+1)=a:=by rw[<-List.drop_drop,hd]; rfl
  have hd2':B.drop (i+1)=b':=by rw[<-List.drop_drop,hd2]; rfl
  rw[hG,decide_eq_true (by omega),bL,bL,hx,hy]
  simp only[cond_true,Option.bind_some]
  rw[he]
  by_cases hxy:x=y
  ·subst hxy
   rw[decide_eq_true rfl,qj i (by omega)]
   simp only[Bool.not_true,cond_false]
   rw[xf A B hl hA e he G hG a b' (i+1) m hd' hd2' (by omega) (by omega)]
   by_cases hab:a=b'
   ·rw[if_pos hab,if_pos (by rw[hab])]
   ·rw[if_neg hab,if_neg (fun h=>hab (List.cons.inj h).2)]
  ·rw[decide_eq_false hxy,if_neg (fun h=>hxy (List.cons.inj h).1)]
   rfl
theorem Dt (x y:ak):((x.No==y.No)&&((x.Holder==y.Holder)&&(x.Until==y.Until)))=decide (x=y):=by
 obtain ⟨a,b,c⟩:=x; obtain ⟨d,e,f⟩:=y
 rw[Bool.eq_iff_iff]
 simp[ak.mk.injEq]
theorem ED (x y:ar):((x.Bar==y.Bar)&&(x.Program==y.Program))=decide (x=y):=by
 obtain ⟨a,b⟩:=x; obtain ⟨d,e⟩:=y
 rw[Bool.eq_iff_iff]
 simp[ar.mk.injEq]
theorem lX (n:Nat) (h:n<=1000000) (k:Nat):n<aC+k:=by rw[show aC=1208925819614629174706176 from rfl]; omega
theorem NZ (a b:List ak) (ha:a.length<=1000000) (hb:b.length<=1000000):Ih a b=some (decide (a=b)):=by
 unfold Ih Le
 by_cases h:a.length=b.length
 ·rw[h,bne_self_eq_false]
  simp only[cond_false]
  have:=xf a b h ha (fun x y=>(x.No==y.No)&&((x.Holder==y.Holder)&&(x.Until==y.Until))) Dt (kl aC a b false) (fun m w=>by rw[kl]) a b 0 (aC+8) rfl rfl (by omega) (lX _ ha _)
  rw[show ((0:Nat):Int)=0 from rfl] at this
  rw[this]
  by_cases hab:a=b
  ·rw[if_pos hab,decide_eq_true hab]; rfl
  ·rw[if_neg hab,decide_eq_false hab]; rfl
 ·rw[show ((a.length:Int) != (b.length:Int))=true from by simp; omega,decide_eq_false (fun e=>h (by rw[e]))]
  rfl
theorem N0 (a b:List ar) (ha:a.length<=1000000) (hb:b.length<=1000000):Ii a b=some (decide (a=b)):=by
 unfold Ii Lg
 by_cases h:a.length=b.length
 ·rw[h,bne_self_eq_false]
  simp only[cond_false]
  have:=xf a b h ha (fun x y=>(x.Bar==y.Bar)&&(x.Program==y.Program)) ED (km aC a b false) (fun m w=>by rw[km]) a b 0 (aC+8) rfl rfl (by omega) (lX _ ha _)
  rw[show ((0:Nat):Int)=0 from rfl] at this
  rw[this]
  by_cases hab:a=b
  ·rw[if_pos hab,decide_eq_true hab]; rfl
  ·rw[if_neg hab,decide_eq_false hab]; rfl
 ·rw[show ((a.length:Int) != (b.length:Int))=true from by simp; omega,decide_eq_false (fun e=>h (by rw[e]))]
  rfl
def ke (r:aj):Prop:=r.Leases.length<=1000000/\r.Calls.length<=1000000/\r.Order.length<=1000000
theorem EC (x y:Bool):(!(x != y))=decide (x=y):=by cases x<;>cases y<;>rfl
theorem NY (a b:aj) (ha:ke a) (hb:ke b):Ed a b=some (decide (a=b)):=by
 obtain ⟨a1,a2,a3⟩:=ha
 obtain ⟨b1,b2,b3⟩:=hb
 unfold Ed Ld
 rw[NZ _ _ a1 b1,N0 _ _ a2 b2]
 obtain ⟨sa,la,ca,oa⟩:=a
 obtain ⟨sb,lb,cb,ob⟩:=b
 simp only[] at a1 a2 a3 b1 b2 b3 ⊢
 have key:decide (aj.mk sa la ca oa=aj.mk sb lb cb ob)=(decide (sa=sb)&&decide (la=lb)&&decide (ca=cb)&&decide (oa=ob)):=by
  rw[Bool.eq_iff_iff]
  simp[aj.mk.injEq,and_assoc]
 rw[key]
 by_cases h1:sa=sb
 ·rw[show (sa != sb)=false from by rw[h1]; exact bne_self_eq_false _,decide_eq_true h1]
  simp only[cond_false,Option.bind_some,Bool.true_and]
  cases decide (la=lb) with
  | false=>rfl
  | true =>
   simp only[Bool.not_true,cond_false,Option.bind_some,Bool.true_and]
   cases decide (ca=cb) with
   | false=>rfl
   | true =>
    simp only[Bool.not_true,cond_false,Option.bind_some,Bool.true_and]
    by_cases h:oa.length=ob.length
    ·rw[h,bne_self_eq_false]
     simp only[cond_false]
     have:=xf oa ob h a3 (fun x y=>!(x != y)) EC (kj aC false (.mk sa la ca oa) (.mk sb lb cb ob)) (fun m w=>by rw[kj]; simp only[Bool.not_not]) oa ob 0 (aC+8) rfl rfl (by omega) (lX _ a3 _)
     rw[show ((0:Nat):Int)=0 from rfl] at this
     rw[this]
     by_cases hab:oa=ob
     ·rw[if_pos hab,decide_eq_true hab]; rfl
     ·rw[if_neg hab,decide_eq_false hab]; rfl
    ·rw[show ((oa.length:Int) != (ob.length:Int))=true from by simp; omega,decide_eq_false (fun e=>h (by rw[e]))]
     rfl
 ·rw[show (sa != sb)=true from by simpa using h1,decide_eq_false h1]
  rfl
end Go.Proofs.Ytdmgdjnadbakfaa
