/-
 From what the interpreter answers to a law's statement: how arguments that came in are read as the interpreter's data.
-/
import Derived.Test.YtdmgdjnadbakfaaEvTyped
import Derived.Test.YtdmgdjnadbakfaaFrame
namespace Go.Proofs.Ytdmgdjnadbakfaa
set_option linter.unusedVariables false
set_option linter.unusedSimpArgs false
open Go.RowKit Go.ChangeShapes Go.WideShapes Go.ChangeAt Go.Deep
theorem xE (k o:Nat):eX [] (G0 fun _ _=>True) k o:=⟨trivial,fun b hb=>by cases hb⟩
def qO (P:Program) (t:TypeId) (T:List A->Prop):Prop :=
 ∀ {H:Type} (enc:TypeId×Value->H) (w:World) (held:Bool) (fuel:Nat) (cs:List Value) (x:DataW H×List MemPlace),DataW.trod enc P w 0 (fun _=>true) held fuel t cs=some x->∃ as,T as/\bp [] (G0 fun _ _=>True) w as cs
def KW (as:List A):Prop:=∃ n:Int,as=[.v (.int .i64 n)]/\-9223372036854775808<=n/\n<=9223372036854775807
theorem DX {H:ay} {g:Gh} {w:World} (x:Value):bp H g w [.v x] [x]:=by rw[bp]; exact⟨x,[],rfl,by rw[VR],by rw[bp]⟩
theorem yX {P:Program} {t:TypeId} (ht:P.underlying t=some (.int .i64)):qO P t KW:=by
 intro H enc w held fuel cs x h
 obtain ⟨n,rfl,_,hw⟩:=DataW.trod_int ht h
 exact⟨_,⟨n,rfl,(bounds_i64 hw).1,(bounds_i64 hw).2⟩,DX _⟩
theorem qS {H:ay} {g:Gh} {w:World} {a:A} {as:List A} {c:Value} {cs:List Value} (h:VR H g w a c) (k:bp H g w as cs):bp H g w (a :: as) (c :: cs):=by rw[bp]; exact⟨c,cs,rfl,h,k⟩
def F8:List (List A->Prop)->List A->Prop
 | [],as=>as=[]
 | T :: Ts,as=>∃ a b,as=a++b/\T a/\F8 Ts b
def CK (P:Program) (N:Nat):List Field->Nat->Bool
 | [],o=>Nat.beq o N
 | f :: fs,o=>Nat.beq f.offset o&&CK P N fs (o+P.cellsOf f.type)
def ReadsAll (P:Program):List Field->List (List A->Prop)->Prop
 | [],[]=>True
 | f :: fs,T :: Ts=>qO P f.type T/\ReadsAll P fs Ts
 | _,_=>False
theorem qR {H:ay} {g:Gh} {w:World}:∀ {a:List A} {c:List Value} {b:List A} {d:List Value},bp H g w a c->bp H g w b d->bp H g w (a++b) (c++d)
 | [],c,b,d,h,k=>by rw[bp] at h; subst h; exact k
 | x :: a,c,b,d,h,k=>by
  rw[bp] at h
  obtain ⟨y,c',rfl,h1,h2⟩:=h
  rw[List.cons_append,List.cons_append,bp]
  exact⟨y,_,rfl,h1,qR h2 k⟩
theorem pr {P:Program} {H:Type} (enc:TypeId×Value->H) (w:World) (held:Bool) (cs:List Value) {N:Nat} (hN:cs.length=N):∀ (fs:List Field) (Ts:List (List A->Prop)) (o:Nat),CK P N fs o=true->ReadsAll P fs Ts ->
  (∀ (i:Nat) f,fs[i]? = some f->∃ n x,DataW.trod enc P w 0 (fun _=>true) held n f.type ((cs.drop f.offset).take (P.cellsOf f.type))=some x)->∃ as,F8 Ts as/\bp [] (G0 fun _ _=>True) w as (cs.drop o)
 | [],[],o,hl,_,_=>by
  rw[CK] at hl
  have:o=N:=Nat.eq_of_beq_eq_true hl
  refine⟨[],rfl,?_⟩
  rw[bp,List.drop_eq_nil_iff.2 (by omega)]
 | f :: fs,T :: Ts,o,hl,hr,hx=>by
  rw[CK,Bool.and_eq_true] at hl
  obtain ⟨hl1,hl⟩:=hl
  have ho:f.offset=o:=Nat.eq_of_beq_eq_true hl1
  obtain ⟨n,x,h0⟩:=hx 0 f rfl
  obtain ⟨a,ha,hv⟩:=hr.1 enc w held n _ x h0
  obtain ⟨b,hb,hvb⟩:=pr enc w held cs hN fs Ts (o+P.cellsOf f.type) hl hr.2 fun i f' hf'=>hx (i+1) f' (by simpa using hf')
  refine⟨a++b,⟨a,b,rfl,ha,hb⟩,?_⟩
  have e:cs.drop o=(cs.drop o).take (P.cellsOf f.type)++cs.drop (o+P.cellsOf f.type):=by
   rw[<-List.drop_drop]; exact(List.take_append_drop _ _).symm
  rw[e,<-ho]
  rw[<-ho] at hvb
  exact qR hv hvb
 | [],_ :: _,_,_,hr,_=>hr.elim
 | _ :: _,[],_,_,hr,_=>hr.elim
theorem ti {P:Program} {t:TypeId} {fs:Array Field} {Ts:List (List A->Prop)} (ht:P.underlying t=some (.struct fs)) (hl:CK P (P.cellsOf t) fs.toList 0=true) (hr:ReadsAll P fs.toList Ts):qO P t (F8 Ts):=by
 intro H enc w held fuel cs x h
 obtain ⟨xs,n,_,rfl,hlen,hxs,hf⟩:=DataW.trod_struct ht h
 obtain ⟨as,h1,h2⟩:=pr enc w held cs hlen fs.toList Ts 0 hl hr fun i f hi=>by
  have hi':i<xs.length:=by
   have:=(List.getElem?_eq_some_iff.1 hi).1
   simp at this; omega
  exact⟨n,xs[i],by rw[hf i f (by simpa using hi)]; exact List.getElem?_eq_getElem hi'⟩
 exact⟨as,h1,by simpa using h2⟩
theorem yD {H:Type} {enc:TypeId×Value->H} {P:Program} {W:World} {base:Nat} {ts:Array TypeId} {args:Array Value} (h:tu enc P W base ts args) (j:Nat) {t:TypeId} {v:Value} (hj:ts[j]? = some t) (hv:args[j]? = some v) (ht:P.underlying t=some (.int .i64)) :
  ∃ n:Int,(-9223372036854775808<=n/\n<=9223372036854775807)/\VR [] (G0 fun _ _=>True) W (.v (.int .i64 n)) v:=by
 obtain ⟨n,rfl,h1,h2⟩:=A3 h j hj hv ht
 exact⟨n,⟨h1,h2⟩,by rw[VR]⟩
def Fq (P:Program) (t:TypeId) {T:Type} (c:T->List A) (ok:T->Prop):Prop:=qO P t fun as=>∃ x,as=c x/\ok x
def fS (n:Int):Prop:=-9223372036854775808<=n/\n<=9223372036854775807
theorem vL {P:Program} {t:TypeId} (ht:P.underlying t=some (.int .i64)):Fq P t (cI .i64) fS:=fun enc w held fuel cs x h=>by
 obtain ⟨as,⟨n,rfl,h1⟩,h2⟩:=yX ht enc w held fuel cs x h
 exact⟨_,⟨n,rfl,h1⟩,h2⟩
theorem Fq.of {P:Program} {t:TypeId} {T:Type} {c:T->List A} {ok:T->Prop} {S:List A->Prop} (h:qO P t S) (hs:∀ as,S as->∃ x,as=c x/\ok x):Fq P t c ok:=fun enc w held fuel cs x h0=>by
 obtain ⟨as,h1,h2⟩:=h enc w held fuel cs x h0
 exact⟨as,hs as h1,h2⟩
theorem CE {H:Type} {enc:TypeId×Value->H} {P:Program} {W:World} {base:Nat} {ts:Array TypeId} {args:Array Value} (h:tu enc P W base ts args) (j:Nat) {t:TypeId} {v:Value} (hj:ts[j]? = some t) (hv:args[j]? = some v) (ht:P.underlying t=some (.int .i64)) :
  ∃ n:Int,fS n/\VR [] (G0 fun _ _=>True) W (.v (.int .i64 n)) v:=yD h j hj hv ht
def m8:Nat:=9223372036854775807
section
variable {P:Program} {t e:TypeId} {T:Type} {c:T->List A} {ok:T->Prop}
theorem Dk {es:Nat} (ht:P.underlying t=some (.slice e)) (hk:P.cellsOf e=es) (hpos:0<es) (hlen:∀ x,(c x).length=es) (hL:Fq P e c ok):Fq P t (cL c) (fun l=>l.length<=m8/\∀ z∈l,ok z):=by
 intro H enc w held fuel cs x h
 rcases open_slice ht h with ⟨rfl,_⟩ | ⟨a,len,cap,m,n,D,Pl,rfl,_,hle,hcap,hm,hxd,hel⟩
 ·refine⟨_,⟨[],rfl,Nat.zero_le _,fun z hz=>(by cases hz)⟩,?_⟩
  rw[cL,bp]
  refine⟨_,[],rfl,?_,by rw[bp]⟩
  rw[VR]
  exact⟨none,0,[],es,rfl,Nat.le_refl _,fun h=>(by cases h),fun d hd=>(by cases hd),fun h=>absurd h (Nat.lt_irrefl 0),by rw[List.map_nil,bn]⟩
 ·simp only[if_true] at hm
  have each:∀ i,i<len->∃ y:T,ok y/\∃ vs,bp [] (G0 fun _ _=>True) w (c y) vs/\vs.length=es/\∀ j,j<es->w.cell? (a.add (i*es+j))=vs[j]?:=fun i hi=>by
   obtain ⟨cs',h1,h2⟩:=hel i (by omega)
   obtain ⟨as,⟨y,rfl,hok⟩,hv⟩:=hL enc w held n cs' _ h2
   obtain ⟨_,hl,hc⟩:=World.cells?_some h1
   have hvl:=hv.length
   rw[hlen] at hvl
   refine⟨y,hok,cs',hv,hvl,fun j hj=>?_⟩
   have:=hc j (by omega)
   rw[hk,add_add] at this
   exact this
  obtain ⟨l,ds,hl,hdl,hall⟩:∃ (l:List T) (ds:List (List Value)),l.length=len/\ds.length=len/\∀ i y d,l[i]? = some y->ds[i]? = some d->ok y/\bp [] (G0 fun _ _=>True) w (c y) d/\d.length=es/\∀ j,j<es->w.cell? (a.add (i*es+j))=d[j]?:=by
   clear hel hm hle hcap hxd h
   induction len with
   | zero=>exact⟨[],[],rfl,rfl,fun i y d h=>by simp at h⟩
   | succ len ih =>
    obtain ⟨l,ds,hl,hdl,hall⟩:=ih (fun i hi=>each i (by omega))
    obtain ⟨y,hok,d,hd⟩:=each len (by omega)
    refine⟨l++[y],ds++[d],by simp[hl],by simp[hdl],fun i y' d' hy' hd'=>?_⟩
    by_cases e:i<len
    ·rw[List.getElem?_append_left (by omega)] at hy' hd'
     exact hall i y' d' hy' hd'
    ·have hi:i<(l++[y]).length:=(List.getElem?_eq_some_iff.1 hy').1
     have e2:i=len:=by simp at hi; omega
     subst e2
     rw[List.getElem?_append_right (by omega)] at hy' hd'
     simp[hl,hdl] at hy' hd'
     subst hy'; subst hd'
     exact⟨hok,hd⟩
  have hds:∀ d∈ds,d.length=es:=fun d hd=>by
   obtain ⟨i,hi,rfl⟩:=List.getElem_of_mem hd
   exact(hall i l[i] ds[i] (List.getElem?_eq_getElem (by omega)) (List.getElem?_eq_getElem hi)).2.2.1
  have hcapL:cap<=m8:=hcap
  refine⟨_,⟨l,rfl,by omega,fun z hz=>?_⟩,?_⟩
  ·obtain ⟨i,hi,rfl⟩:=List.getElem_of_mem hz
   exact(hall i l[i] ds[i] (List.getElem?_eq_getElem hi) (List.getElem?_eq_getElem (by omega))).1
  ·rw[cL,bp]
   refine⟨_,[],rfl,?_,by rw[bp]⟩
   rw[VR]
   refine⟨some a,cap,ds,es,by simp[hl],by simp[hl]; exact hle,fun h=>(by cases h),hds,fun hp=>?_,?_⟩
   ·have hp:0<len:=by simpa [hl] using hp
    obtain ⟨ab,ao,asp⟩:=a
    obtain ⟨_,_,h0l,h0⟩:=hall 0 l[0] ds[0] (List.getElem?_eq_getElem (by omega)) (List.getElem?_eq_getElem (by omega))
    have h4:=h0 0 hpos
    rw[List.getElem?_eq_getElem (by omega)] at h4
    have hsp:asp=none:=by simpa [Addr.add] using World.cell?_spot h4
    subst hsp
    refine⟨ab,ao,rfl,fun j v hj=>⟨?_,xE _ _⟩⟩
    have hjl:j<ds.flatten.length:=(List.getElem?_eq_some_iff.1 hj).1
    rw[b6 hds] at hjl
    have hi:j / es<len:=by
     rw[Nat.div_lt_iff_lt_mul hpos]; rw[hdl] at hjl; exact hjl
    obtain ⟨_,_,hil,hi2⟩:=hall (j / es) l[j / es] ds[j / es] (List.getElem?_eq_getElem (by omega)) (List.getElem?_eq_getElem (by omega))
    have h5:=hi2 (j % es) (Nat.mod_lt _ hpos)
    have e1:j / es*es+j % es=j:=by rw[Nat.mul_comm]; exact Nat.div_add_mod j es
    have h6:=jK hds (List.getElem?_eq_getElem (show j / es<ds.length by omega)) (j % es) (Nat.mod_lt _ hpos)
    rw[e1] at h5 h6
    rw[add_plain] at h5
    rw[h5,<-h6]
    exact hj
   ·refine cV.2 ⟨by simp[hl,hdl],fun i y d hy hd=>?_⟩
    rw[List.getElem?_map] at hy
    cases hx:l[i]? with
    | none=>rw[hx] at hy; cases hy
    | some z =>
     rw[hx] at hy; cases hy
     exact(hall i z d hx hd).2.1
variable {H:Type} {enc:TypeId×Value->H} {W:World} {base:Nat} {ts:Array TypeId} {args:Array Value}
theorem A4 {l:List T->Prop} (h:tu enc P W base ts args) (j:Nat) {t:TypeId} {v:Value} (hj:ts[j]? = some t) (hv:args[j]? = some v) (ht:P.underlying t=some (.slice e)) (hT:Fq P t (cL c) l) :
  ∃ x,l x/\VR [] (G0 fun _ _=>True) W (.imm (x.map c) false) v:=by
 obtain ⟨okw,d,p,fuel,htr⟩:=h.2 j t v hj hv
 obtain ⟨a0,len,cap,rfl⟩:=okWide_slice ht okw
 obtain ⟨as,⟨x,rfl,hx⟩,hvr⟩:=hT enc W _ _ _ _ htr
 rw[cL,bp] at hvr
 obtain ⟨d0,ds,e0,h1,h2⟩:=hvr
 simp[Value.cells] at e0
 obtain ⟨rfl,_⟩:=e0
 exact⟨x,hx,h1⟩
end
theorem Gy {P:Program} {glob:Nat->Option (List Value)} {k:Nat} {as:List A} {args:Array Value} {W:World} (h:iU P glob k as (.v (.bool true))) (hg:∀ (G:Nat) (vs:List Value),glob G=some vs->∀ (j:Nat) (v:Value),vs[j]? = some v->W.cell? ⟨G,j,none⟩=some v)
  (hv:bp [] (G0 fun _ _=>True) W as args.toList):Calls P k args W fun e W'=>e=.returned (.bool true)/\Below W.heap.size W W':=by
 refine(h (fun _ _=>True) W args.toList (fun _ _ _=>trivial) (fun G vs hG j v hj=>⟨by rw[Nat.zero_add]; exact hg G vs hG j v hj,xE _ _⟩) hv).mono ?_
 rintro e W' ⟨c,rfl,hb,hc⟩
 rw[VR] at hc
 subst hc
 exact⟨rfl,hb⟩
end Go.Proofs.Ytdmgdjnadbakfaa
