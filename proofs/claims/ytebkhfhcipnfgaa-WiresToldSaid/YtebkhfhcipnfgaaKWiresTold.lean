/-
 WiresTold: the statement holds.
-/
import Derived.Test.YtebkhfhcipnfgaaH3
import Derived.Test.YtebkhfhcipnfgaaChecked
import Derived.Test.YtebkhfhcipnfgaaRows
namespace Go.Proofs.Ytebkhfhcipnfgaa
set_option linter.unusedVariables false
set_option linter.unusedSimpArgs false
set_option maxRecDepth 100000
set_option maxHeartbeats 4000000
set_option linter.defProp false
def qdX:=@List.getElem_replicate
theorem gj {T:Type} {l:List T} {i:Nat} {x:T} (h:l[i]? = some x):bG l (i:Int)=some x:=by rw[bE,h]
theorem bne_eq {a b:Int} (h:a=b):(a != b)=false:=by simp[h]
theorem MM (g:List Int) (V:Nat->Int) {n j:Nat} (hj:j<n):((∀ k,k<n->gr g k=gr g j->V k=V j)->Cc g V n j=V j)/\(¬ (∀ k,k<n->gr g k=gr g j->V k=V j)->Cc g V n j=0):=by
 unfold Cc;rw[(uh g V n).2 j hj,qbS];exact⟨λh=>qaf h,λh=>qah h⟩
theorem E1 {w:ay} (h:okW w) {deaf:List Int} {j:Nat} (hj:j<w.Ears.length) {arr:List aE} (ht:told w.Ears[j].Cues arr w.Bar):b8 w deaf j=bif decide ((j:Int)∈deaf) then 0 else (B5 arr w.Bar).Program:=by
 obtain ⟨_,_,_,e4⟩:=dJ (h.2.2.2.1 j hj);have hb:=h.2.1;obtain ⟨⟨c1,_⟩,c2,_⟩:=lN e4 hb.1 o3;rw[CN ht c1 c2];unfold b8;rw[Z7 hj];simp only
 cases w.Ears[j].Cues with
 | nil=>cases decide ((j:Int)∈deaf)<;>rfl
 | cons c l=>
  show (bif (c.Bar==w.Bar)&&!decide ((j:Int)∈deaf) then c.Program else 0)=bif decide ((j:Int)∈deaf) then 0 else bif c.Bar==w.Bar then c.Program else 0
  cases decide ((j:Int)∈deaf)<;>cases (c.Bar==w.Bar)<;>rfl
theorem DS (N:Nat) {w:ay} (h:okW w) {b:Nat} (hbar:w.Bar=(b:Int)) (hb:b<=4095) {n:Nat} (hn:w.Ears.length=n) (hn4:n<=4) {g:List Int} {mv:aJ} {a0 a1 a2 a3:List aE} (ht:∀ j (hj:j<w.Ears.length),told w.Ears[j].Cues (four j a0 a1 a2 a3) w.Bar) (hl:∀ j,(four j a0 a1 a2 a3).length<=1000)
  (z1:Bool):∀ (m i:Nat),i<=n->n - i<m ->
  nN N z1 g w.Bar (cN w g (b8 w (gp mv n)) w.Ears.length) (n:Int) n w n a0 a1 a2 a3 mv m (i:Int)=some (.inr ())
 | 0,i,_,hm=>absurd hm (qaF _)
 | m+1,i,hi,hm=>by
  have ih:=DS N h hbar hb hn hn4 (g:=g) (mv:=mv) ht hl z1 m (i+1);rw[nN];by_cases hlt:i<n
  ·have hj:i<w.Ears.length:=by omega
   obtain ⟨e1,e2,_,_⟩:=dJ (h.2.2.2.1 i hj);have hg:bG (cN w g (b8 w (gp mv n)) w.Ears.length) (i:Int)=_:=gj (jg g (b8 w (gp mv n)) hj);have hg0:bG w.Ears (i:Int)=_:=gj (Z7 hj);have hw:wr .i64 (w.Bar+1)=((b+1:Nat):Int):=by rw[hbar,rh o3]
   have hG:w.Ears[i].Got.length=b:=o3;have hD:w.Ears[i].Did.length=b:=o3;have hgot:bG (w.Ears[i].Got++[b8 w (gp mv n) i]) w.Bar=some (b8 w (gp mv n) i):=by
    rw[hbar]; exact gj (by rw[qay o3,hG,qc4]; rfl)
   have sub:∀ (l:List Int) (v:Int),l.length=b->gv (l++[v]) 0 w.Bar=some l:=λl v hv=>by
    rw[hbar,xO _ b r9,qcK o3,qaK o3]
   have hV:=E1 h (deaf:=gp mv n) hj (ht i hj);rw[xe mv hlt] at hV;have c1:(((w.Ears[i].Got++[b8 w (gp mv n) i]).length:Int) != ((b+1:Nat):Int))=false:=bne_eq r9;have c2:(((w.Ears[i].Did++[Cc g (b8 w (gp mv n)) w.Ears.length i]).length:Int) != ((b+1:Nat):Int))=false:=bne_eq r9;rw[show decide ((i:Int)<(n:Int))=true by simpa using hlt];simp only[qaa,hg,hg0,Z6,hw,c1,c2,Z8,sub _ _ hG,sub _ _ hD,Eo _ (show w.Ears[i].Got.length<=_ by omega),Eo _ (show w.Ears[i].Did.length<=_ by omega),qau]
   rw[p8 hlt,Z6,show (decide (i<n)&&decide (i<4))=true by simp; omega,qaa,VV _ _ (qaC (hl i) (by decide)),Z6,show decide ((0:Int)<=(i:Int))=true by simp,qaa,show ((nQ .u16 (jJ .u16 mv.Deaf (i:Int)) 1)==1)=qs mv i from rfl];simp only[hgot,Z6,rh (show i<=4611686018427387904 by omega)]
   rw[hV];cases qs mv i with
   | true=>
    simp only[qaa,qaP,Z8]
    exact ih o3 o3
   | false=>
    simp only[Z8,qaP]
    exact ih o3 o3
  ·rw[show decide ((i:Int)<(n:Int))=false by simpa using hlt,Z8]
theorem DU (N:Nat) {w:ay} (h:okW w) {b:Nat} (hbar:w.Bar=(b:Int)) {n:Nat} (hn:w.Ears.length=n) (hn4:n<=4) {g:List Int} (hgl:g.length=n) {V:Nat->Int} {i:Nat} (hi:i<n) {e:aR} (he:(cN w g V w.Ears.length)[i]? = some e)
  (z1:Bool) (z2 z3:Int) (z4:List aR):∀ (m k:Nat) (r:Bool),k<=n->n - k<m ->
  ∃ q:Bool,pU N z1 g w.Bar (i:Int) z4 z2 z3 (cN w g V w.Ears.length) (n:Int) e m r (k:Int)=some q/\(q=true↔r=true/\∀ j,k<=j->j<n->gr g j=gr g i->V j=V i)
 | 0,k,r,_,hm=>absurd hm (qaF _)
 | m+1,k,r,hk,hm=>by
  rw[pU];by_cases hlt:k<n
  ·have ih:=λr=>DU N h hbar hn hn4 hgl hi he z1 z2 z3 z4 m (k+1) r o3 o3;have hj:k<w.Ears.length:=o3;have hji:i<w.Ears.length:=o3;have hg:bG (cN w g V w.Ears.length) (k:Int)=_:=gj (jg g V hj);have hgi:bG g (i:Int)=some (gr g i):=by rw[bE]; unfold gr; rw[Z7 o3]; rfl
   have hgk:bG g (k:Int)=some (gr g k):=by rw[bE]; unfold gr; rw[Z7 o3]; rfl
   obtain ⟨e1,_,_,_⟩:=dJ (h.2.2.2.1 k hj);obtain ⟨e2,_,_,_⟩:=dJ (h.2.2.2.1 i hji);rw[jg g V hji,qaG] at he;subst he;have hVk:bG (w.Ears[k].Got++[V k]) w.Bar=some (V k):=by
    rw[hbar]; exact gj (by rw[qay o3,show b - w.Ears[k].Got.length=0 by omega]; rfl)
   have hVi:bG (w.Ears[i].Got++[V i]) w.Bar=some (V i):=by
    rw[hbar]; exact gj (by rw[qay o3,show b - w.Ears[i].Got.length=0 by omega]; rfl)
   rw[show decide ((k:Int)<(n:Int))=true by simpa using hlt];simp only[qaa,hg,hgi,hgk,Z6,hVk,hVi,rh (show k<=4611686018427387904 by omega)]
   cases r with
   | false=>
    simp only[Z8,Z6]
    obtain ⟨q,q1,q2⟩:=ih false;refine⟨q,q1,q2.trans ?_⟩;simp
   | true=>
    simp only[qaa]
    by_cases hq:gr g i=gr g k
    ·rw[bne_eq hq];simp only[Z8,Z6]
     obtain ⟨q,q1,q2⟩:=ih (V k==V i);refine⟨q,q1,q2.trans ⟨λ⟨h1,h2⟩=>⟨trivial,λj hkj hjn hgj=>?_⟩,λ⟨_,h2⟩=>⟨by simpa using h2 k (qab _) hlt hq.symm,λj hkj hjn hgj=>h2 j o3 hjn hgj⟩⟩⟩;rcases qc6 hkj with rfl | hkj
     ·simpa using h1
     ·exact h2 j hkj hjn hgj
    ·rw[sE hq];simp only[qaa,Z6]
     obtain ⟨q,q1,q2⟩:=ih true;refine⟨q,q1,q2.trans ⟨λ⟨_,h2⟩=>⟨trivial,λj hkj hjn hgj=>?_⟩,λ⟨_,h2⟩=>⟨rfl,λj hkj hjn hgj=>h2 j o3 hjn hgj⟩⟩⟩;rcases qc6 hkj with rfl | hkj
     ·exact absurd hgj.symm hq
     ·exact h2 j hkj hjn hgj
  ·rw[show decide ((k:Int)<(n:Int))=false by simpa using hlt,Z8];refine⟨r,rfl,λhr=>⟨hr,λj h1 h2=>?_⟩,λhr=>hr.1⟩;omega
theorem DT (N:Nat) (hN:1000<=N) {w:ay} (h:okW w) {b:Nat} (hbar:w.Bar=(b:Int)) {n:Nat} (hn:w.Ears.length=n) (hn4:n<=4) {g:List Int} (hgl:g.length=n) {V:Nat->Int} {x:ay} (hx:x.Ears=cN w g V w.Ears.length)
  (z1:Bool):∀ (m i:Nat),i<=n->n - i<m ->
  pT N z1 g w.Bar (cN w g V w.Ears.length) (n:Int) x m (i:Int)=some (.inr ())
 | 0,i,_,hm=>absurd hm (qaF _)
 | m+1,i,hi,hm=>by
  have ih:=DT N hN h hbar hn hn4 hgl hx z1 m (i+1);rw[pT];by_cases hlt:i<n
  ·have hj:i<w.Ears.length:=by omega
   have hg:bG (cN w g V w.Ears.length) (i:Int)=_:=gj (jg g V hj);obtain ⟨e1,e2,_,_⟩:=dJ (h.2.2.2.1 i hj);have hxl:(x.Ears.length:Int)=(n:Int):=by rw[hx,fC,hn]
   obtain ⟨q,q1,q2⟩:=DU N h hbar hn hn4 hgl hlt (jg g V hj) z1 (n:Int) (i:Int) (cN w g V w.Ears.length) (N+6) 0 true (qav _) o3;rw[show ((0:Nat):Int)=0 from rfl] at q1;have hG:bG (w.Ears[i].Got++[V i]) w.Bar=some (V i):=by
    rw[hbar]; exact gj (by rw[qay o3,show b - w.Ears[i].Got.length=0 by omega]; rfl)
   have hD:bG (w.Ears[i].Did++[Cc g V w.Ears.length i]) w.Bar=some (Cc g V w.Ears.length i):=by
    rw[hbar]; exact gj (by rw[qay o3,show b - w.Ears[i].Did.length=0 by omega]; rfl)
   obtain ⟨d1,d2⟩:=MM g V hj;rw[show decide ((i:Int)<(n:Int))=true by simpa using hlt];simp only[qaa,hg,Z6,hxl]
   rw[hx,q1];simp only[Z6,hG,hD,rh (show i<=4611686018427387904 by omega)]
   cases q with
   | true=>
    obtain ⟨_,q3⟩:=q2.1 rfl;rw[d1 (λk hk=>q3 k (qav _) o3)];simp only[qaa,qaP,qau,Z8,Z6]
    exact ih o3 o3
   | false=>
    rw[d2 (λhall=>by have:=q2.2 ⟨rfl,λk _ hk=>hall k o3⟩; cases this)];simp only[Z8,qbN,qaa,qaP,Z6]
    exact ih o3 o3
  ·rw[show decide ((i:Int)<(n:Int))=false by simpa using hlt,Z8]
def BK (E E':List aR):Prop:=∀ j,j<E.length->∃ e f,E'[j]? = some e/\E[j]? = some f/\e.Got=f.Got/\e.Did=f.Did/\f.Got.length<=4096/\f.Did.length<=4096
theorem DQ (N:Nat) {w x:ay} {n:Nat} (hn:w.Ears.length=n) (hn4:n<=12) (hs:BK w.Ears x.Ears) (z:Nat):∀ (m i:Nat),i<=n->n - i<m ->
  pS N (n:Int) w z x m (i:Int)=some (.inr ())
 | 0,i,_,hm=>absurd hm (qaF _)
 | m+1,i,hi,hm=>by
  rw[pS];by_cases hlt:i<n
  ·obtain ⟨e,f,h1,h2,h3,h4,h5,h6⟩:=hs i o3;rw[show decide ((i:Int)<(n:Int))=true by simpa using hlt,qaa];simp only[gj h1,gj h2,Z6,h3,h4,Eo _ (show f.Got.length<=_ by omega),Eo _ (show f.Did.length<=_ by omega),qau,Z8,rh (show i<=4611686018427387904 by omega)]
   exact DQ N hn hn4 hs z m (i+1) o3 o3
  ·rw[show decide ((i:Int)<(n:Int))=false by simpa using hlt,Z8]
section
theorem pL {a:Int} (h:0<=a) {q:Nat} (hq:0<q):∃ r:Nat,Int.tmod a (q:Int)=(r:Int)/\r<q:=by
 obtain ⟨b,rfl⟩:∃ b:Nat,a=b:=⟨a.toNat,o3⟩
 exact⟨b % q,(Int.ofNat_tmod b q).symm,qcu _ hq⟩
theorem VG (a:Int):-4<Int.tmod a 4/\Int.tmod a 4<4:=by
 have h:=Int.natAbs_tmod a 4;have h2:a.natAbs % (4:Int).natAbs<4:=qcu _ (by decide);omega
theorem Oc {a:Int} (h:wB a):wr .i64 a=a:=dy (by have:=h.1; omega) (by have:=h.2; omega)
theorem O1 {a:Int} (h:wB a) (L:Nat):∃ k:Nat,Int.tmod (wr .i64 a) (if 1<(L:Int) then (L:Int) else 1)=(k:Int)/\(k<L∨(L=0/\k=0)):=by
 rw[Oc h];by_cases hL:1<(L:Int)
 ·rw[qaf hL];obtain ⟨r,h1,h2⟩:=pL h.1 (q:=L) o3;exact⟨r,h1,.inl h2⟩
 ·rw[qah hL];obtain ⟨r,h1,h2⟩:=pL h.1 (q:=1) o3;refine⟨r,h1,?_⟩;by_cases h0:L=0
  ·exact .inr ⟨h0,o3⟩
  ·exact .inl o3
structure Inv (n k:Nat) (w:ay) (a0 a1 a2 a3:List aE):Prop where
 ok:okW w
 ap:w.Net.Apart=[]
 len:w.Ears.length=n
 bar:w.Bar<=k
 qu:w.Net.Queue.length<=50*k
 arr:∀ j,(four j a0 a1 a2 a3).length<=k
 tl:∀ j (hj:j<w.Ears.length),told w.Ears[j].Cues (four j a0 a1 a2 a3) w.Bar
variable {n k:Nat} {w:ay} {a0 a1 a2 a3:List aE}
theorem Inv.more (h:Inv n k w a0 a1 a2 a3):Inv n (k+1) w a0 a1 a2 a3:=⟨h.ok,h.ap,h.len,by have:=h.bar; omega,by have:=h.qu; omega,λj=>qcM (h.arr j),h.tl⟩
theorem Inv.N7 (h:Inv n k w a0 a1 a2 a3) {q:List aC} (hq:q.length<=50*(k+1)) (hw:okW ⟨⟨q,w.Net.Apart⟩,w.Ears,w.Bar⟩):Inv n (k+1) ⟨⟨q,w.Net.Apart⟩,w.Ears,w.Bar⟩ a0 a1 a2 a3:=⟨hw,h.ap,h.len,by have:=h.bar; show w.Bar<=_; omega,hq,λj=>qcM (h.arr j),h.tl⟩
theorem zk (h:okW w) (ha:w.Net.Apart=[]):Fit w:=by
 refine⟨by rw[ha]; exact qav _,λx hx=>?_⟩;obtain ⟨j,hj,rfl⟩:=qa2 hx;obtain ⟨e1,_,_,e4⟩:=dJ (h.2.2.2.1 j hj);have hb:=h.2.1;obtain ⟨_,_,_,c⟩:=lN e4 hb.1 o3;exact⟨o3,o3⟩
theorem D3 (h:okW w) (ha:w.Net.Apart=[]) (hq:w.Net.Queue.length<=4000):S6 w:=by
 refine⟨⟨hq,by rw[ha]; exact qav _,by have:=h.1.2; omega,λx hx=>?_⟩,Nq h ha⟩;obtain ⟨j,hj,rfl⟩:=qa2 hx;obtain ⟨e1,e2,_,e4⟩:=dJ (h.2.2.2.1 j hj);have hb:=h.2.1;obtain ⟨_,_,_,c⟩:=lN e4 hb.1 o3;exact⟨o3,o3,o3⟩
theorem ou (h:okW w) {E:List aR} (he:∀ j:Nat,(E[j]?).map (λy=>(y.Got,y.Did))=(w.Ears[j]?).map λy=>(y.Got,y.Did)):BK w.Ears E:=λj hj=>by
 have h1:=he j;rw[Z7 hj,qaY] at h1;obtain ⟨e1,e2,_,_⟩:=dJ (h.2.2.2.1 j hj);have hb:=h.2.1;cases hE:E[j]? with
 | none=>rw[hE] at h1; cases h1
 | some e=>
  rw[hE,qaY,qaG,qcU] at h1;exact⟨e,_,rfl,Z7 hj,h1.1,h1.2,o3,o3⟩
def SZ (n k:Nat) (S:ay) (V:Bool×Bool×Nat×ay×List aE×List aE×List aE×List aE×ay):Prop:=
 V.2.2.1=n/\((V.1=true/\V.2.2.2.1=S/\V.2.2.2.2.2.2.2.2.Bar=S.Bar/\BK S.Ears V.2.2.2.2.2.2.2.2.Ears/\Inv n (k+1) V.2.2.2.2.2.2.2.2 V.2.2.2.2.1 V.2.2.2.2.2.1 V.2.2.2.2.2.2.1 V.2.2.2.2.2.2.2.1) ∨
  (V.1=false/\V.2.1=true/\Inv n (k+1) V.2.2.2.1 V.2.2.2.2.1 V.2.2.2.2.2.1 V.2.2.2.2.2.2.1 V.2.2.2.2.2.2.2.1))
def S0 (n k:Nat) (V:Bool×Nat×ay×List aE×List aE×List aE×List aE):Prop:=
 V.1=true/\V.2.1=n/\Inv n (k+1) V.2.2.1 V.2.2.2.1 V.2.2.2.2.1 V.2.2.2.2.2.1 V.2.2.2.2.2.2
theorem O5 {α β γ:Type} {x:Option α} {f:α->Option β} {g:β->Option γ} {P:α->Prop} {Q:β->Prop} {r:Option γ} (h:∃ v,x=some v/\P v) (hf:∀ v,P v->∃ u,f v=some u/\Q u) (hg:∀ u,Q u->g u=r):(x.bind f).bind g=r:=by
 obtain ⟨v,rfl,hv⟩:=h;obtain ⟨u,hu,hq⟩:=hf v hv;rw[Z6,hu,Z6];exact hg u hq
theorem VQ (h:okW w) (hf:Fit w) (a:Int):Oy w a=some (if (qz w.Net a).2=0 then (⟨(qz w.Net a).1,w.Ears,w.Bar⟩,0) else (zW,(qz w.Net a).2)):=by
 unfold Oy Rm;rw[Bu w hf,Z6,fG h,UN _ _ hf.1,Z6];by_cases h0:(qz w.Net a).2=0
 ·rw[qaf h0,h0]; rfl
 ·rw[qah h0,sE h0]; rfl
theorem VS (h:okW w) (hf:Fit w) (hq:w.Net.Queue.length<=4095) (a:Int):Oz w a=some (if (wN w.Net a).2=0 then (⟨(wN w.Net a).1,w.Ears,w.Bar⟩,0) else (zW,(wN w.Net a).2)):=by
 unfold Oz Rn;rw[Bu w hf,Z6,fG h,UO _ _ hq hf.1,Z6];by_cases h0:(wN w.Net a).2=0
 ·rw[qaf h0,h0]; rfl
 ·rw[qah h0,sE h0]; rfl
theorem B1 {x:aP} (h:rR x=true) (hq:x.Queue=[]):atR x 0=(mL,1):=by
 unfold atR;rw[qaf h,hq];rfl
theorem zq {x:aP} (ha:x.Apart=[]) {k:Nat} (hk:k<x.Queue.length):CE x k=x.Queue[k]:=by
 unfold CE;rw[Z7 hk,ha];rfl
theorem ML (h:okW w) (hq:w.Net.Queue=[]):Ak w 0=(zW,zR,false,1):=by
 have h1:kD w.Net 0=(mL,xP,1):=by
  unfold kD;rw[B1 h.2.2.1 hq];rfl
 unfold Ak;rw[fG h,h1];rfl
theorem Jy (h:okW w) (ha:w.Net.Apart=[]) {k:Nat} (hk:k<w.Net.Queue.length) {c:aE} (hm:msg w.Net.Queue[k].Data=some (.inl c)):Ak w (k:Int)=(⟨dN w.Net k,if w.Bar<=c.Bar then mG w.Ears c else w.Ears,w.Bar⟩,zR,false,0):=by
 unfold Ak;rw[fG h,qaf rfl,Dt h.2.2.1 hk,qaf rfl,zq ha hk];unfold JM;simp only[hm]
theorem Jz (h:okW w) (ha:w.Net.Apart=[]) {k:Nat} (hk:k<w.Net.Queue.length) {r:bH} (hm:msg w.Net.Queue[k].Data=some (.inr r)):Ak w (k:Int)=(⟨dN w.Net k,w.Ears,w.Bar⟩,r,true,0):=by
 unfold Ak;rw[fG h,qaf rfl,Dt h.2.2.1 hk,qaf rfl,zq ha hk];unfold JM;simp only[hm]
theorem AD {j r:Nat} (hj:j<4) (hr:r<4) (y b0 b1 b2 b3:List aE):four j (eV r 0 y b0) (eV r 1 y b1) (eV r 2 y b2) (eV r 3 y b3)=if j=r then y else four j b0 b1 b2 b3:=by
 match j,hj,r,hr with
 | 0,_,0,_=>rfl
 | 0,_,1,_=>rfl
 | 0,_,2,_=>rfl
 | 0,_,3,_=>rfl
 | 1,_,0,_=>rfl
 | 1,_,1,_=>rfl
 | 1,_,2,_=>rfl
 | 1,_,3,_=>rfl
 | 2,_,0,_=>rfl
 | 2,_,1,_=>rfl
 | 2,_,2,_=>rfl
 | 2,_,3,_=>rfl
 | 3,_,0,_=>rfl
 | 3,_,1,_=>rfl
 | 3,_,2,_=>rfl
 | 3,_,3,_=>rfl
theorem vj (j:Nat) (b0 b1 b2 b3:List aE):∃ i,i<4/\four j b0 b1 b2 b3=four i b0 b1 b2 b3/\(j<4->i=j):=by
 match j with
 | 0=>exact⟨0,by decide,rfl,λ_=>rfl⟩
 | 1=>exact⟨1,by decide,rfl,λ_=>rfl⟩
 | 2=>exact⟨2,by decide,rfl,λ_=>rfl⟩
 | j+3=>exact⟨3,by decide,rfl,λh=>o3⟩
theorem Inv.TR (h:Inv n k w a0 a1 a2 a3) (hn4:n<=4) {q:Nat} (hq:q<w.Net.Queue.length) {c:aE} (hm:msg w.Net.Queue[q].Data=some (.inl c)) (hc:w.Bar<=c.Bar) {r:Nat} (hr:c.Role=(r:Int)) (hrn:r<n) :
  Inv n (k+1) ⟨dN w.Net q,mG w.Ears c,w.Bar⟩ (eV r 0 (four r a0 a1 a2 a3++[c]) a0) (eV r 1 (four r a0 a1 a2 a3++[c]) a1) (eV r 2 (four r a0 a1 a2 a3++[c]) a2) (eV r 3 (four r a0 a1 a2 a3++[c]) a3):=by
 have hw:=Fa h.ok hq;rw[zq h.ap hq] at hw;unfold rG at hw;rw[hm] at hw;simp only[hc,qb4] at hw;have hsz:=oz w.Net q hq;have hlen:(mG w.Ears c).length=n:=by rw[sP]; exact h.len
 refine⟨hw,h.ap,hlen,by have:=h.bar; show w.Bar<=_; omega,by have:=h.qu; show (dN w.Net q).Queue.length<=_; omega,λj=>?_,λj hj=>?_⟩
 ·obtain ⟨i,h1,h2,_⟩:=vj j (eV r 0 (four r a0 a1 a2 a3++[c]) a0) (eV r 1 (four r a0 a1 a2 a3++[c]) a1) (eV r 2 (four r a0 a1 a2 a3++[c]) a2) (eV r 3 (four r a0 a1 a2 a3++[c]) a3);rw[h2,AD h1 o3];split
  ·rw[qar,qb7]; have:=h.arr r; omega
  ·exact qcM (h.arr i)
 ·have hj':j<w.Ears.length:=by rw[<-sP w.Ears c]; exact hj
  have hjn:j<n:=by rw[<-h.len]; exact hj'
  rw[AD o3 o3];have hg:=sO w.Ears c j;rw[Z7 (show j<(mG w.Ears c).length from hj),Z7 hj',show c.Role.toNat=r by omega] at hg;show told (mG w.Ears c)[j].Cues _ w.Bar;by_cases hjr:j=r
  ·rw[qaf hjr,qaY,qaG] at hg;rw[hg,qaf hjr];subst hjr;obtain ⟨_,_,_,e4⟩:=dJ (h.ok.2.2.2.1 j hj');have hb:=h.ok.2.1;obtain ⟨⟨c1,_⟩,_⟩:=lN e4 hb.1 o3;obtain ⟨hcr,_⟩:=zs (vN h.ok (qaB hq)) hm;refine Fo (h.tl j hj') c1 ?_;unfold et jo at hcr;simp only[Z9,qag] at hcr;exact hcr.1.1.1.1
  ·rw[qah hjr,qaG] at hg;rw[hg,qah hjr];exact h.tl j hj'
theorem Inv.begin (h:Inv n k w a0 a1 a2 a3) (hn4:n<=4) (hk:k<=40) {g deaf:List Int} {q:List aC} (hq:q.length=w.Ears.length) (hw:okW ⟨⟨w.Net.Queue++q,w.Net.Apart⟩,cN w g (b8 w deaf) w.Ears.length,w.Bar+1⟩) :
  Inv n (k+1) ⟨⟨w.Net.Queue++q,w.Net.Apart⟩,cN w g (b8 w deaf) w.Ears.length,w.Bar+1⟩ a0 a1 a2 a3:=by
 have hl:=h.len;refine⟨hw,h.ap,by show (cN w g (b8 w deaf) w.Ears.length).length=n; rw[fC]; exact h.len,by have:=h.bar; show w.Bar+1<=_; omega,by have:=h.qu; show (w.Net.Queue++q).length<=_; rw[qar]; omega,λj=>qcM (h.arr j),λj hj=>?_⟩;have hj':j<w.Ears.length:=by have e:=hj; rw[show (ay.mk ⟨w.Net.Queue++q,w.Net.Apart⟩ (cN w g (b8 w deaf) w.Ears.length) (w.Bar+1)).Ears.length=w.Ears.length from fC] at e; exact e
 have key:=jg g (b8 w deaf) hj';rw[Z7 (show j<(cN w g (b8 w deaf) w.Ears.length).length from hj),qaG] at key;show told (cN w g (b8 w deaf) w.Ears.length)[j].Cues _ (w.Bar+1);rw[key];exact Fp (h.tl j hj')
end
theorem Zo:((1:Int)==0)=false:=rfl
theorem i11:((1:Int)==1)=true:=rfl
theorem TS:((0:Int)==0)=true:=rfl
theorem LQ:((0:Int) != 0)=false:=rfl
theorem tC:((1:Int) != 0)=true:=rfl
theorem LU (N:Nat) (hN:10000<=N) {n:Nat} (h1:1<=n) (h4:n<=4) (l:List aJ) (hl:∀ z∈l,fz z) (hlen:l.length<=40) (z1:Bool):∀ (m i:Nat) (w:ay) (a0 a1 a2 a3:List aE),i<=l.length->l.length - i<m->Inv n i w a0 a1 a2 a3 ->
  ss N z1 l (l.length:Int) n m (i:Int) n w a0 a1 a2 a3=some (.inr ())
 | 0,i,_,_,_,_,_,_,hm,_=>absurd hm (qaF _)
 | m+1,i,w,a0,a1,a2,a3,hi,hm,h=>by
  rw[ss];by_cases hlt:i<l.length
  ·have hmv:=hl _ (qaB hlt);rw[show decide ((i:Int)<(l.length:Int))=true by simpa using hlt,qaa,bE,Z7 hlt,Z6];generalize l[i]=mv at hmv ⊢;have hlen':=h.len;have hbar:=h.bar;have hqu:=h.qu;have hok:=h.ok;have hf:=zk h.ok h.ap;have hb0:=h.ok.2.1.1;obtain ⟨m1,m2,m3,m4,m5,m6,m7,m8⟩:=hmv;rw[show decide (((w.Ears.length:Int))≠0)=true by rw[qbU,h.len]; omega,qaa,show decide ((if 1<(w.Net.Queue.length:Int) then (w.Net.Queue.length:Int) else 1)≠0)=true by rw[qbU]; split<;>omega,qaa];refine O5 (P:=SZ n i w) (Q:=S0 n i) ?_ ?_ ?_
   ·obtain ⟨K,hK,hK8⟩:=pL m1.1 (q:=8) (by decide);replace hK:Int.tmod mv.Kind 8=(K:Int):=hK;obtain ⟨at_,hat,hatL⟩:=O1 m2 w.Net.Queue.length;rw[hK];by_cases k01:K=0∨K=1
    ·rw[show (bif ((K:Int)==0) then (some ((K:Int)==0)) else (some ((K:Int)==1)))=some true by rcases k01 with rfl | rfl<;>rfl,Z6,qaa];obtain ⟨r,hr,hrn⟩:=pL m3.1 (q:=n) o3;obtain ⟨no,hno,hno8⟩:=pL m5.1 (q:=8) (by decide);obtain ⟨pr,hpr,hpr3⟩:=pL m4.1 (q:=3) (by decide);have hd:=VG mv.Bar;have eR:Int.tmod (wr .i64 mv.Role) (w.Ears.length:Int)=(r:Int):=by rw[Oc m3,h.len]; exact hr
     have eN:Int.tmod (wr .i64 mv.No) 8=(no:Int):=by rw[Oc m5]; exact hno
     have eP:wr .i64 (1+Int.tmod (wr .i64 mv.Program) 3)=1+(pr:Int):=by rw[Oc m4,show Int.tmod mv.Program 3=(pr:Int) from hpr,dy o3 o3]
     have eB:wr .i64 (w.Bar+Int.tmod (wr .i64 mv.Bar) 4)=w.Bar+Int.tmod mv.Bar 4:=by
      rw[dy (n:=mv.Bar) (by have:=m6.1; omega) (by have:=m6.2; omega),dy o3 o3]
     rw[eN,eR,eP,eB];generalize Int.tmod mv.Bar 4=d at hd;have hci:jG ⟨(no:Int),(r:Int),w.Bar+d,1+(pr:Int)⟩:=⟨jN (by show _<=((no:Nat):Int); omega) (by show ((no:Nat):Int)<=_; omega),jN (by show _<=((r:Nat):Int); omega) (by show ((r:Nat):Int)<=_; omega),jN (by show _<=w.Bar+d; omega) (by show w.Bar+d<=_; omega),jN (by show _<=1+((pr:Nat):Int); omega) (by show 1+((pr:Nat):Int)<=_; omega)⟩
     have hwn:wr .i64 ((w.Ears.length:Int) - 1)=(n:Int) - 1:=by rw[h.len,dy o3 o3]
     rw[ZK w _ hf o3 hci,Z6];by_cases hneg:w.Bar+d<0
     ·have hrb:et ⟨(no:Int),(r:Int),w.Bar+d,1+(pr:Int)⟩ (w.Ears.length:Int)=false:=by
       rw[qce];intro hh;have:=(om hh).1;exact absurd hneg (by show ¬ w.Bar+d<0; exact Int.not_lt.2 this)
      rw[KW h.ok hrb];simp only[Zo,Z8,Z6,tC,qaa,qac hneg,i11]
      exact⟨_,rfl,rfl,.inr ⟨rfl,rfl,h.more⟩⟩
     ·have hrb:et ⟨(no:Int),(r:Int),w.Bar+d,1+(pr:Int)⟩ (w.Ears.length:Int)=true:=by
       unfold et jo;rw[hwn];simp only[Z9,qag]
       omega
      obtain ⟨s1,s2⟩:=KX h.ok hrb hci o3;rw[s1];have f1:∀ p:aC,(((w.Net.Queue++[p]).length:Int) != wr .i64 ((w.Net.Queue.length:Int)+1))=false:=λp=>by rw[rh o3]; exact bne_eq r8
      have f2:∀ p:aC,wr .i64 (((w.Net.Queue++[p]).length:Int) - 1)=(w.Net.Queue.length:Int):=λp=>by rw[qar,qb7,dy o3 o3]; omega
      have f3:∀ p:aC,bG (w.Net.Queue++[p]) (w.Net.Queue.length:Int)=some p:=λp=>gj (by rw[qay (qab _),qc4]; rfl);simp only[TS,qaa,f1,Z8,f2,f3,Z6,VM hci,CM,qau,LQ]
      exact⟨_,rfl,rfl,.inl ⟨rfl,rfl,rfl,ou h.ok (λ_=>rfl),h.N7 r9 s2⟩⟩
    ·rw[show (bif ((K:Int)==0) then (some ((K:Int)==0)) else (some ((K:Int)==1)))=some false by
      rw[show ((K:Int)==0)=false by rw[qa6]; omega,show ((K:Int)==1)=false by rw[qa6]; omega]; rfl,Z6,Z8]
     by_cases k23:K=2∨K=3
     ·rw[show (bif ((K:Int)==2) then (some ((K:Int)==2)) else (some ((K:Int)==3)))=some true by rcases k23 with rfl | rfl<;>rfl,Z6,qaa,hat,VL w _ hf,Z6];rcases hatL with hatL | ⟨hL0,rfl⟩
      ·have hp:=vN h.ok (qaB hatL);have hdl:=(rS h.ok.2.2.1).2 _ (qaB hatL);have hq0:((w.Net.Queue.length:Int)==0)=false:=by rw[qa6]; omega
       have hg:bG w.Net.Queue (at_:Int)=_:=gj (Z7 hatL);have hsz:=oz w.Net at_ hatL;cases hm':msg w.Net.Queue[at_].Data with
       | none=>
        unfold zp at hp;rw[hm'] at hp;cases hp
       | some mm=>cases mm with
        | inl c=>
         obtain ⟨hc1,hc2,hc3⟩:=zs hp hm';obtain ⟨hr0,hr1⟩:=ot hc1 h.ok.1.2 h.ok.1.1;have hto:(w.Net.Queue[at_].To==0)=false:=by
          have h12:=h.ok.1.2;rw[hc3,dy o3 o3,qa6];omega
         rw[Jy h.ok h.ap hatL hm'];simp only[LQ,Z8,Z6,hq0,hg,hto,qaP,qbN,qaa,zR,TS,qbm,qau,QV _ hdl,hm']
         by_cases hle:w.Bar<=c.Bar
         ·rw[qac hle];simp only[qaa,Z6,qac hr0,qac (show c.Role<(w.Ears.length:Int) by omega),qaf hle]
          have hrn:c.Role.toNat<n:=o3;have ex:gO n c.Role=some c.Role.toNat:=by
           have:=p8 hrn;rwa [show ((c.Role.toNat:Nat):Int)=c.Role by omega] at this
          have ha:cU 32 (four c.Role.toNat a0 a1 a2 a3) [c]=some (four c.Role.toNat a0 a1 a2 a3++[c]):=OY _ _ (by have:=h.arr c.Role.toNat; omega);rw[ex,Z6,show (decide (c.Role.toNat<n)&&decide (c.Role.toNat<4))=true by simp; omega,qaa,ha,Z6];refine⟨_,rfl,rfl,.inl ⟨rfl,rfl,rfl,ou h.ok (AP _ _),h.TR h4 hatL hm' hle o3 hrn⟩⟩
         ·rw[qal hle];simp only[Z8,Z6,qah hle]
          exact⟨_,rfl,rfl,.inl ⟨rfl,rfl,rfl,ou h.ok (λ_=>rfl),h.N7 (by show (dN w.Net at_).Queue.length<=_; omega) (pG h.ok at_)⟩⟩
        | inr r=>
         have hp':=hp;unfold zp at hp';rw[hm'] at hp';simp only[Z9,qa5] at hp';obtain ⟨⟨⟨⟨r1,r2⟩,r3⟩,r4⟩,r5⟩:=hp';unfold jo at r1 r2;simp only[Z9,qag] at r1 r2;have hrn:r.Role.toNat<w.Ears.length:=o3;have er:bG w.Ears r.Role=some w.Ears[r.Role.toNat]:=by
          have:=gj (Z7 hrn);rwa [show ((r.Role.toNat:Nat):Int)=r.Role by omega] at this
         obtain ⟨_,e2,_,_⟩:=dJ (h.ok.2.2.2.1 _ hrn);have hbd:r.Bar.toNat<w.Ears[r.Role.toNat].Did.length:=o3;have ed:bG w.Ears[r.Role.toNat].Did r.Bar=some w.Ears[r.Role.toNat].Did[r.Bar.toNat]:=by
          have:=gj (Z7 hbd);rwa [show ((r.Bar.toNat:Nat):Int)=r.Bar by omega] at this
         have hd:(w.Ears[r.Role.toNat].Did[r.Bar.toNat] != r.Program)=false:=by
          unfold uS at r5;rw[er] at r5;simp only[ed] at r5;rw[bne,r5];rfl
         rw[Jz h.ok h.ap hatL hm'];simp only[LQ,Z8,Z6,hq0,hg,r4,TS,qaP,qau,qaa,qal (show ¬ r.Role<0 by omega),qal (show ¬ (w.Ears.length:Int)<=r.Role by omega),qal (show ¬ r.Bar<0 by omega),er,qal (show ¬ (w.Ears[r.Role.toNat].Did.length:Int)<=r.Bar by omega),ed,hd,QV _ hdl,hm']
         exact⟨_,rfl,rfl,.inl ⟨rfl,rfl,rfl,ou h.ok (λ_=>rfl),h.N7 (by show (dN w.Net at_).Queue.length<=_; omega) (pG h.ok at_)⟩⟩
      ·rw[show ((0:Nat):Int)=0 from rfl,ML h.ok (qaw hL0)];simp only[tC,qaa,Z6,hL0,show (((0:Nat):Int)==0)=true from rfl,i11]
       exact⟨_,rfl,rfl,.inr ⟨rfl,rfl,h.more⟩⟩
     ·rw[show (bif ((K:Int)==2) then (some ((K:Int)==2)) else (some ((K:Int)==3)))=some false by
       rw[show ((K:Int)==2)=false by rw[qa6]; omega,show ((K:Int)==3)=false by rw[qa6]; omega]; rfl,Z6,Z8]
      by_cases k4:K=4
      ·rw[show ((K:Int)==4)=true by rw[k4]; rfl,qaa,hat,VQ h.ok hf,Z6];rcases hatL with hatL | ⟨hL0,rfl⟩
       ·have hsz:=oz w.Net at_ hatL;have e:qz w.Net (at_:Int)=(dN w.Net at_,0):=by unfold qz; rw[BZ h.ok.2.2.1 hatL]; rfl
        rw[e];simp only[qb4,LQ,Z8]
        exact⟨_,rfl,rfl,.inl ⟨rfl,rfl,rfl,ou h.ok (λ_=>rfl),h.N7 (by show (dN w.Net at_).Queue.length<=_; omega) (pG h.ok at_)⟩⟩
       ·have e:qz w.Net ((0:Nat):Int)=(xP,1):=by unfold qz; rw[show ((0:Nat):Int)=0 from rfl,B1 h.ok.2.2.1 (qaw hL0)]; rfl
        rw[e];simp only[show ¬ ((1:Int)=0) by decide,qcq,tC,qaa,hL0,show (((0:Nat):Int)==0)=true from rfl,i11,Z6]
        exact⟨_,rfl,rfl,.inr ⟨rfl,rfl,h.more⟩⟩
      ·rw[show ((K:Int)==4)=false by rw[qa6]; omega,Z8];by_cases k5:K=5
       ·rw[show ((K:Int)==5)=true by rw[k5]; rfl,qaa,hat,VS h.ok hf o3,Z6];rcases hatL with hatL | ⟨hL0,rfl⟩
        ·have hk:=(rT _).1 h.ok.2.2.1;have hpk:=hk.2.1 _ (qaB hatL);have e:wN w.Net (at_:Int)=(⟨w.Net.Queue++[w.Net.Queue[at_]],w.Net.Apart⟩,0):=by unfold wN; rw[BZ h.ok.2.2.1 hatL,qaf rfl]; exact Bm h.ok.2.2.1 hpk
         rw[e];simp only[qb4,LQ,Z8]
         exact⟨_,rfl,rfl,.inl ⟨rfl,rfl,rfl,ou h.ok (λ_=>rfl),h.N7 r9 (vP h.ok (vN h.ok (qaB hatL)) hpk o3)⟩⟩
        ·have e:wN w.Net ((0:Nat):Int)=(xP,1):=by unfold wN; rw[show ((0:Nat):Int)=0 from rfl,B1 h.ok.2.2.1 (qaw hL0)]; rfl
         rw[e];simp only[show ¬ ((1:Int)=0) by decide,qcq,tC,qaa,hL0,show (((0:Nat):Int)==0)=true from rfl,i11,Z6]
         exact⟨_,rfl,rfl,.inr ⟨rfl,rfl,h.more⟩⟩
       ·rw[show ((K:Int)==5)=false by rw[qa6]; omega,Z8];by_cases k6:K=6
        ·rw[show ((K:Int)==6)=true by rw[k6]; rfl,qaa];obtain ⟨g,hg1,hg2⟩:=VU mv.Groups (k:=n) o3;have hd0:=DR N n mv o3 (N+6) 0 (qav _) o3;rw[show ((0:Nat):Int)=0 from rfl,show gp mv 0=[] from rfl] at hd0;have hdl:=(oZ mv n).2;obtain ⟨q,q1,q2,q3⟩:=GK h.ok o3 (g:=g) (deaf:=gp mv n) (by rw[h.len]; exact tu mv (qab _)) (by rw[h.len]; exact hg2) o3;have hE:(cN w g (b8 w (gp mv n)) w.Ears.length).length=n:=by rw[fC]; exact h.len
         have hfx:=zk q3 (show w.Net.Apart=[] from h.ap);have ebar:w.Bar=((w.Bar.toNat:Nat):Int):=o3;have l1:=DS N h.ok ebar o3 h.len h4 (g:=g) (mv:=mv) h.tl (λj=>by have:=h.arr j; omega) false (N+6) 0 (qav _) o3;have l2:=DT N o3 h.ok ebar h.len h4 hg2.1 (V:=b8 w (gp mv n)) (x:=⟨⟨w.Net.Queue++q,w.Net.Apart⟩,cN w g (b8 w (gp mv n)) w.Ears.length,w.Bar+1⟩) rfl false (N+6) 0 (qav _) o3;rw[show ((0:Nat):Int)=0 from rfl] at l1 l2;have hq1:wr .i64 ((w.Net.Queue.length:Int)+(n:Int))=((w.Net.Queue.length+n:Nat):Int):=by rw[dy o3 o3]; omega
         have hq2:(((w.Net.Queue++q).length:Int) != ((w.Net.Queue.length+n:Nat):Int))=false:=bne_eq ZO;have hb1:wr .i64 (w.Bar+1)=w.Bar+1:=dy o3 o3;have hbb:=Inv.begin h h4 o3 q1 q3;rw[show (w.Ears.length:Int)=(n:Int) by rw[h.len]];simp only[hg1,Z6,hd0]
         rw[ZJ w _ _ (D3 h.ok h.ap o3) o3 (by rw[hg2.1]; omega),Z6,q2];simp only[LQ,Z8,hb1,qaP,Z6,hE,Bu _ hfx,fG q3,hq1,hq2]
         rw[l1];simp only[Z6]
         rw[l2];simp only[Z6]
         exact⟨_,rfl,rfl,.inr ⟨rfl,rfl,hbb⟩⟩
        ·rw[show ((K:Int)==6)=false by rw[qa6]; omega,Z8];obtain ⟨r,hr,hrn⟩:=pL m3.1 (q:=n) o3;have eR:Int.tmod (wr .i64 mv.Role) (w.Ears.length:Int)=(r:Int):=by rw[Oc m3,h.len]; exact hr
         rw[eR,VW w _ (D3 h.ok h.ap o3),Z6];by_cases hb:w.Bar=0
         ·rw[GG h.ok hb];simp only[tC,qaa,show (w.Bar==0)=true by simpa using hb,i11,Z6]
          exact⟨_,rfl,rfl,.inr ⟨rfl,rfl,h.more⟩⟩
         ·obtain ⟨q,q1,q2,q3⟩:=GH h.ok (r:=r) o3 hb o3;rw[q2];have hq1:wr .i64 ((w.Net.Queue.length:Int)+w.Bar)=(w.Net.Queue.length:Int)+w.Bar:=dy o3 o3;have hq2:(((w.Net.Queue++q).length:Int) != (w.Net.Queue.length:Int)+w.Bar)=false:=bne_eq ZO;simp only[LQ,Z8,hq1,hq2]
          exact⟨_,rfl,rfl,.inl ⟨rfl,rfl,rfl,ou h.ok (λ_=>rfl),h.N7 ZO q3⟩⟩
   ·rintro ⟨tag,res,M,w',b0,b1,b2,b3,x⟩ ⟨hM,hV⟩
    simp only at hM hV;subst hM;rcases hV with ⟨rfl,rfl,hb,hgd,hI⟩ | ⟨rfl,rfl,hI⟩
    ·have hloop:=DQ N h.len o3 hgd M (N+7) 0 (qav _) o3;rw[show ((0:Nat):Int)=0 from rfl] at hloop;have hxl:(x.Ears.length:Int)=(M:Int):=by rw[hI.len]
     have hwl:(w'.Ears.length:Int)=(M:Int):=by rw[h.len]
     refine⟨(true,M,x,b0,b1,b2,b3),?_,rfl,rfl,hI⟩;simp only[qaa,bne_eq hb,Z8,hxl,hwl,qaP,Z6,Bu x (zk hI.ok hI.ap),fG hI.ok,hloop]
    ·refine⟨(true,M,w',b0,b1,b2,b3),?_,rfl,rfl,hI⟩;simp only[Z8]
   ·rintro ⟨o,M,w',b0,b1,b2,b3⟩ ⟨h1',h2',hI⟩
    simp only at h1' h2' hI;subst h1' h2';simp only[qau,Z8,rh (show i<=4611686018427387904 by omega)]
    exact LU N hN h1 h4 l hl hlen z1 m (i+1) w' b0 b1 b2 b3 o3 o3 hI
  ·rw[show decide ((i:Int)<(l.length:Int))=false by simpa using hlt,Z8]
theorem Qw:Lw:=by
 intro a l ha hl;unfold G6 F6;rw[VB,Z6];simp only[qau,Z8]
 by_cases h40:40<(l.length:Int)
 ·rw[qac h40,qaa]
 ·rw[qal h40,Z8];obtain ⟨r,hr,hr4⟩:=pL ha.1 (q:=4) (by decide);have e:wr .i64 (1+Int.tmod (wr .i64 a) 4)=((r+1:Nat):Int):=by
   rw[Oc ha,show Int.tmod a 4=(r:Int) from hr,dy o3 o3]; omega
  rw[e,VK,Z6];have hn:Nc ((r+1:Nat):Int)=(⟨⟨[],[]⟩,List.replicate (r+1) (aR.mk [] [] []),0⟩,0):=qaf ⟨o3,o3⟩;rw[hn];have hle:((List.replicate (r+1) (aR.mk [] [] [])).length:Int)=((r+1:Nat):Int):=by rw[qb5]
  have hok:okW ⟨⟨[],[]⟩,List.replicate (r+1) (aR.mk [] [] []),0⟩:=by
   refine⟨by show 1<=(List.replicate (r+1) (aR.mk [] [] [])).length/\_; simp; omega,⟨qb9 0,show (0:Int)<=4096 by decide⟩,rfl,λj hj=>?_,rfl⟩;have hj':(List.replicate (r+1) (aR.mk [] [] []))[j]'hj=aR.mk [] [] []:=qdX _;show nX ((List.replicate (r+1) (aR.mk [] [] []))[j]'hj) _ _ _=true;rw[hj'];rfl
  have hI:Inv (r+1) 0 ⟨⟨[],[]⟩,List.replicate (r+1) (aR.mk [] [] []),0⟩ [] [] [] []:=by
   refine⟨hok,rfl,qb5,qb9 _,qav _,λj=>?_,λj hj=>?_⟩
   ·obtain ⟨i,h1,h2,_⟩:=vj j [] [] [] [];rw[h2]
    match i,h1 with
    | 0,_=>exact qab _
    | 1,_=>exact qab _
    | 2,_=>exact qab _
    | 3,_=>exact qab _
   ·have hj':(List.replicate (r+1) (aR.mk [] [] []))[j]'hj=aR.mk [] [] []:=qdX _;show told ((List.replicate (r+1) (aR.mk [] [] []))[j]'hj).Cues _ _;rw[hj'];have:four j ([]:List aE) [] [] []=[]:=by
     obtain ⟨i,h1,h2,_⟩:=vj j [] [] [] [];rw[h2]
     match i,h1 with
     | 0,_=>rfl
     | 1,_=>rfl
     | 2,_=>rfl
     | 3,_=>rfl
    rw[this];exact I0 _
  have hw:=LU aD u3 (n:=r+1) o3 o3 l hl.2 o3 false (aD+8) 0 _ [] [] [] [] (qav _) u3 hI;rw[show ((0:Nat):Int)=0 from rfl] at hw;simp only[LQ,Z8,hle,qaP,Z6,qbu,show decide ((0:Int)<=((r+1:Nat):Int))=true by rw[qbU]; omega,show decide (((r+1:Nat):Int)<=4)=true by rw[qbU]; omega,qbm,qaa,show decide (r+1<=4)=true by rw[qbU]; omega,hw]
section
open Go.RowKit Go.Deep
theorem own:ownKnob Try.prog.godebug=none:=r7
theorem laidOut:laidOutB Try.prog=true:=r7
end
section
open Go.RowKit Go.ChangeShapes Go.WideShapes Go.ChangeAt Go.Deep
theorem tg (os:Os) (started:os.Started) (H:Type) (enc:TypeId×Value->H) :
  ReturnsInHanded {} Try.checked os 6 .any (Rows.wiresToldSpec.pre6 enc Try.prog Try.f6 Rows.wiresToldRow.domain false) (Rows.wiresToldSpec.post enc Try.prog Try.f6 false true false false):=by
 refine returnsInHanded_of_change (C:=Try.checked) own started r7 Try.func6
  (ChangeSpec.witness6 (enc:=enc) (C:=Try.checked) false ⟨#[],#[.int .u8 0,.slice none 0 0],[]⟩ 8 r7 r7 r7 r7) ?_
 intro W base args ds gs before hval hW _ _;exact zb rfl rfl Try.underlying4 laidOut r7 (λds h=>(by match ds,h with | [_,_],_=>rfl)) W base args ds gs before hval hW (λhg=>QZ Qw W base args hg (λG vs h=>by cases h))
theorem wiresTold_holds:Rows.WiresToldSaid:=
 OpenClaim.holds_of_wide 6 Try.f6 rfl rfl rfl rfl rfl rfl rfl ⟨rfl,rfl,rfl,rfl,rfl⟩ rfl rfl rfl rfl rfl r7 Try.func6 r7
  (qai r7) (by unfold Func.isWrapper; first | (rw[qaf (by decide +kernel)]; kernel_rfl) | (rw[qah (by decide +kernel)]; exact⟨rfl,rfl⟩))
  (λos started H enc _=>tg os started H enc)
#print axioms wiresTold_holds
end
end Go.Proofs.Ytebkhfhcipnfgaa
