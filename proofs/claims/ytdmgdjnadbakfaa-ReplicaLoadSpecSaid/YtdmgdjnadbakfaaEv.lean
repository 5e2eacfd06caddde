/-
 An interpreter over plain data: what a call of the program answers, in one order, slices being lists. Its answers are shown to be the model's in EvSound.
-/
import Derived.Test.YtdmgdjnadbakfaaGrow
namespace Go.Proofs.Ytdmgdjnadbakfaa
set_option linter.unusedSimpArgs false
inductive A where
 | any
 | v (x:Value)
 | ptr (b o:Nat)
 | ep (b i o:Nat)
 | ip (cs:List A)
 | imm (els:List (List A)) (clip:Bool)
 | sl (b o n:Nat) (clip:Bool)
 | agg (cs:List A)
 | tup (cs:List A)
 | fn (f:Fn) (first cap:List A)
 | ifc (t:TypeId) (x:A)
 | yld (b:Nat)
 | nq (els:List (List A))
 | mr (b:Nat)
 | mv (k:IntKind) (ks:List Int) (vs:List A)
 deriving Inhabited
inductive I6 where
 | exit (id:Nat)
 | goto (l:Nat)
 | ret
inductive dv where
 | ready
 | busy
 | done (j:I6)
inductive aA where
 | box (cs:List A)
 | row (wr:Bool) (es:Nat) (els:List (List A))
 | rng (st:dv)
 | dead
 | hole
 | mp (k:IntKind) (ks:List Int) (vs:List A)
 deriving Inhabited
abbrev ay:=List aA
inductive E where
 | normal
 | exit (id:Nat)
 | goto (l:Nat)
 | ret
 | pan (v:A)
inductive Out where
 | ret (a:A)
 | pan (a:A)
abbrev R:=Out×ay
structure St where
 fr:List (Nat×A)
 H:ay
structure Cx where
 P:Program
 glob:Nat->Option (List Value)
 isOrc:Nat->Bool
 isOrcV:Nat->Bool
 C:Nat->List A->Option A
 keep:Nat->Nat->List Nat
 wrAt:Nat->Nat->Bool
 acts:Nat->Nat->List (Nat×Nat×Nat)
 loud:Nat->Nat->Bool
 arr:Nat->Nat->Bool
 join:Nat->Nat->List Nat:=fun _ _=>[]
 cut:Nat->Nat:=fun _=>0
 fre:Nat->Bool:=fun _=>false
 deep:Nat->Bool:=fun _=>false
def vw (f r:Nat):List ((Nat×Nat)×List Nat)->List Nat
 | []=>[]
 | p :: l=>bif Nat.beq p.1.1 f then bif Nat.beq p.1.2 r then p.2 else vw f r l else vw f r l
def CN (f r:Nat):List ((Nat×Nat)×List (Nat×Nat×Nat))->List (Nat×Nat×Nat)
 | []=>[]
 | p :: l=>bif Nat.beq p.1.1 f then bif Nat.beq p.1.2 r then p.2 else CN f r l else CN f r l
def Gm (k:Nat):List (Nat×Nat)->Nat
 | []=>0
 | p :: l=>bif Nat.beq p.1 k then p.2 else Gm k l
def w6 (f r:Nat):List (Nat×Nat)->Bool
 | []=>false
 | p :: l=>bif Nat.beq p.1 f&&Nat.beq p.2 r then true else w6 f r l
def DK (k:Nat):List Nat->Bool
 | []=>true
 | x :: l=>bif Nat.beq x k then false else DK k l
def look:List (Nat×A)->Nat->A
 | [],_=>.any
 | (s,a) :: r,t=>bif Nat.beq s t then a else look r t
def St.put (s:St) (dst:Option Nat) (a:A):St:=match dst with | some d=>{ s with fr:=(d,a) :: s.fr } | none=>s
def cN {α:Type} (P:Program):Sem α->Option α
 | .pure a=>some a
 | .program k=>cN P (k P)
 | .mark _ k=>cN P k
 | _=>none
mutual
def A.qq:A->Option Value
 | .v x=>some x
 | .agg cs=>(BN cs).map fun l=>.agg l.toArray
 | .ifc t x=>(A.qq x).map (.iface t)
 | .fn (.func f) [] []=>some (.func (.func f) #[] #[])
 | _=>none
def BN:List A->Option (List Value)
 | []=>some []
 | a :: as=>(A.qq a).bind fun x=>(BN as).map (x :: ·)
end
def zp:Value->A
 | .slice none 0 0=>.imm [] true
 | x=>.v x
def xk:Value->A
 | .agg cs=>.agg (cs.toList.map zp)
 | x=>zp x
def mc (P:Program) (t:TypeId):Bool:=match P.underlying t with | some (.struct _) | some (.array _ _)=>true | _=>false
def de (P:Program) (t:TypeId):Option Nat:=(P.underlying t).bind fun _=>(P.info? t).map (·.size)
def lP (P:Program) (t:TypeId):Option Nat:=(P.info? t).map (·.bytes)
def gH (P:Program) (t:TypeId):Option (List A):=(P.info? t).bind fun i=>i.zero.map fun z=>z.cells.toList.map zp
def mE (P:Program) (t:TypeId):Option TypeId:=match P.underlying t with | some (.slice e)=>some e | _=>none
def A.cell:A->Bool
 | .any | .agg _ | .tup _ | .nq _=>false
 | .v x=>x.oneCell'
 | _=>true
def A.cells?:A->Option (List A)
 | .agg cs=>bif cs.all A.cell then some cs else none
 | .v x=>bif x.oneCell' then some [.v x] else none
 | .any | .tup _ | .nq _=>none
 | a=>some [a]
def join (P:Program) (t:TypeId) (cs:List A):Option A:=bif mc P t then some (.agg cs) else match cs with | [c]=>some c | _=>none
def chunk {α:Type} (es:Nat):Nat->List α->List (List α)
 | 0,_=>[]
 | q+1,xs=>xs.take es :: chunk es q (xs.drop es)
def iJ (P:Program) (t:TypeId) (a:A) (H:ay):Option A :=
 (de P t).bind fun n=>bif n==0 then none else
 match a with
 | .ptr b o=>match H[b]? with
  | some (.box cs)=>bif decide (o+n<=cs.length) then join P t ((cs.drop o).take n) else none
  | _=>none
 | .ep b i o=>match H[b]? with
  | some (.row true _ els)=>match els[i]? with
   | some cs=>bif decide (o+n<=cs.length) then join P t ((cs.drop o).take n) else
    bif Nat.beq o 0&&Nat.beq ((els.drop i).take (n / cs.length)).flatten.length n then join P t ((els.drop i).take (n / cs.length)).flatten else none
   | none=>none
  | _=>none
 | .ip cs=>bif decide (n<=cs.length) then join P t (cs.take n) else none
 | _=>none
def bk {α:Type} (cs:List α) (o:Nat) (xs:List α):List α:=cs.take o++xs++cs.drop (o+xs.length)
def jX (P:Program) (t:TypeId) (a x:A) (H:ay) (lo:Nat):Option ay :=
 (de P t).bind fun n=>x.cells?.bind fun xs=>bif n==0 || !(xs.length==n) then none else
 match a with
 | .ptr b o=>match H[b]? with
  | some (.box cs)=>bif decide (lo<=b)&&decide (o+n<=cs.length) then some (H.set b (.box (bk cs o xs))) else none
  | _=>none
 | .ep b i o=>match H[b]? with
  | some (.row true es els)=>match els[i]? with
   | some cs=>bif decide (lo<=b)&&decide (o+n<=cs.length) then some (H.set b (.row true es (els.set i (bk cs o xs)))) else
    bif decide (lo<=b)&&Nat.beq o 0&&Nat.beq (n / es*es) n&&decide (i+n / es<=els.length) then some (H.set b (.row true es (bk els i (chunk es (n / es) xs)))) else none
   | none=>none
  | _=>none
 | _=>none
def lK (P:Program) (t:TypeId) (H:ay):Option (A×ay):=(gH P t).map fun cs=>(.ptr H.length 0,H++[.box cs])
def ef (x:A) (H:ay):Option (A×ay):=x.cells?.map fun cs=>(.ptr H.length 0,H++[.box cs])
def rowOf (P:Program) (t:TypeId) (cs:List A) (H:ay):Option (A×ay):=match P.underlying t with
 | some (.array n e)=>(de P e).bind fun es=>bif Nat.beq es 0 || Nat.beq n 0 || !Nat.beq cs.length (n*es) then none else some (.ep H.length 0 0,H++[.row true es (chunk es n cs)])
 | _=>none
def nD (P:Program) (t:TypeId) (H:ay):Option (A×ay):=(gH P t).bind fun cs=>rowOf P t cs H
def tH (P:Program) (t:TypeId) (x:A) (H:ay):Option (A×ay):=x.cells?.bind fun cs=>rowOf P t cs H
def ou (b:Bool) (P:Program) (t:TypeId) (H:ay):Option (A×ay):=bif b then nD P t H else lK P t H
def yx (b:Bool) (P:Program) (t:TypeId) (x:A) (H:ay):Option (A×ay):=bif b then tH P t x H else ef x H
def rep (c:Bool):Operand:=if c then .const .nilIface else .tmp 0
def Iz:Operand->Bool | .const _=>true | _=>false
def rE (P:Program) (q:TypeId->Value->Value->Option Bool) (xs ys:Array Value):List Field->Option Bool
 | []=>some true
 | [f]=>bif f.name == "_" then some true else (cN P (part f.type xs f.offset)).bind fun a=>(cN P (part f.type ys f.offset)).bind fun b=>q f.type a b
 | f :: fs=>bif f.name == "_" then rE P q xs ys fs else (cN P (part f.type xs f.offset)).bind fun a=>(cN P (part f.type ys f.offset)).bind fun b=>(q f.type a b).bind fun r=>(rE P q xs ys fs).map fun r'=>r&&r'
def tQ (P:Program) (q:TypeId->Value->Value->Option Bool) (e:TypeId) (c:Nat) (xs ys:Array Value):List Nat->Option Bool
 | []=>some true
 | [i]=>(cN P (part e xs (i*c))).bind fun a=>(cN P (part e ys (i*c))).bind fun b=>q e a b
 | i :: is=>(cN P (part e xs (i*c))).bind fun a=>(cN P (part e ys (i*c))).bind fun b=>(q e a b).bind fun r=>(tQ P q e c xs ys is).map fun r'=>r&&r'
def JJ (P:Program):Nat->TypeId->Value->Value->Option Bool
 | 0,_,_,_=>none
 | d+1,t,x,y=>match P.underlying t,x,y with
  | some (.int _),.int k a,.int k' b=>bif decide (k=k') then some (a==b) else none
  | some .bool,.bool a,.bool b=>some (a==b)
  | some .string,.string a,.string b=>some (a==b)
  | some (.struct _),.agg xs,.agg ys=>bif P.stoodInHeld t then none else rE P (JJ P d) xs ys (P.fieldsOf t).toList
  | some (.array n e),.agg xs,.agg ys=>(P.info? e).bind fun _=>tQ P (JJ P d) e (P.cellsOf e) xs ys (List.range n)
  | _,_,_=>none
def tS (P:Program) (t:TypeId) (x y:A):Option Bool:=bif P.eqGuardType P.depth t then none else x.qq.bind fun a=>y.qq.bind fun b=>JJ P 20 t a b
def jN (P:Program) (op:BinOp) (t:TypeId) (c d:Bool) (x y:A):Option A :=
 match op,x,y with
 | .eql,.agg _,.agg _=>(tS P t x y).map fun r=>.v (.bool r)
 | .neq,.agg _,.agg _=>(tS P t x y).map fun r=>.v (.bool (!r))
 | _,_,_=>x.qq.bind fun a=>y.qq.bind fun b=>(cN P (do eqGuard op t (rep c) (rep d) a b; binOp op t a b)).map xk
def jz (P:Program) (op:UnOp) (x:A):Option A:=x.qq.bind fun a=>(cN P (Op.unary op a)).map xk
def zW (mn:Bool) (x y:A):Option A:=match x,y with
 | .v (.int k a),.v (.int l b)=>bif k==l then some (.v (.int k (if mn then (if b<a then b else a) else (if a<b then b else a)))) else none
 | _,_=>none
def Gj (mn:Bool):A->List A->Option A
 | x,[]=>some x
 | x,y :: r=>(zW mn x y).bind fun z=>Gj mn z r
def BD (P:Program) (t:TypeId):Option (IntKind×TypeId):=match P.underlying t with
 | some (.map kt vt)=>match P.underlying kt with | some (.int k)=>some (k,vt) | _=>none
 | _=>none
def keyOf (k:IntKind):A->Option Int
 | .v (.int j n)=>bif decide (j=k) then some n else none
 | _=>none
def ov (a:Int):List Int->List A->Option A
 | x :: ks,v :: vs=>bif decide (a=x) then some v else ov a ks vs
 | _,_=>none
def BK (a:Int) (y:A):List Int->List A->List Int×List A
 | x :: ks,v :: vs=>bif decide (a=x) then (x :: ks,y :: vs) else (x :: (BK a y ks vs).1,v :: (BK a y ks vs).2)
 | _,_=>([a],[y])
def rj (P:Program) (t:TypeId) (H:ay):Option (A×ay):=(BD P t).map fun p=>(.mr H.length,H++[.mp p.1 [] []])
def qP (P:Program) (t:TypeId) (m i x:A) (H:ay) (lo:Nat):Option ay:=(BD P t).bind fun p=>(keyOf p.1 i).bind fun a=>match m with
 | .mr b=>match H[b]? with
  | some (.mp k ks vs)=>bif decide (lo<=b)&&decide (k=p.1) then some (H.set b (.mp k (BK a x ks vs).1 (BK a x ks vs).2)) else none
  | _=>none
 | _=>none
def IB (P:Program) (vt:TypeId) (c:Bool) (r:Option A):Option A:=match r with
 | some y=>some (bif c then .tup [y,.v (.bool true)] else y)
 | none=>(P.info? vt).bind fun i=>i.zero.map fun z=>bif c then .tup [xk z,.v (.bool false)] else xk z
def lN (P:Program) (t:TypeId) (m i:A) (c:Bool) (H:ay):Option A:=(BD P t).bind fun p=>(keyOf p.1 i).bind fun a=>match m with
 | .mv k ks vs=>bif decide (k=p.1) then IB P p.2 c (ov a ks vs) else none
 | .mr b=>match H[b]? with
  | some (.mp k ks vs)=>bif decide (k=p.1) then IB P p.2 c (ov a ks vs) else none
  | _=>none
 | _=>none
def aL (x:A) (i:Nat):Option A:=match x with | .tup cs=>cs[i]? | _=>none
def yp (P:Program) (t:TypeId) (x:A) (i:Nat):Option A :=
 match P.underlying t,x with
 | some (.struct fs),.agg cs=>fs[i]?.bind fun f=>(de P f.type).bind fun n=>bif decide (f.offset+n<=cs.length) then join P f.type ((cs.drop f.offset).take n) else none
 | _,_=>none
def idx:A->Option Nat
 | .v (.int _ n)=>bif decide (0<=n) then some n.toNat else none
 | _=>none
def yt (P:Program) (t:TypeId) (x i:A):Option A :=
 (idx i).bind fun j =>
 match P.underlying t,x with
 | some (.array len e),.agg cs=>(de P e).bind fun n=>bif decide (j<len)&&decide (j*n+n<=cs.length) then join P e ((cs.drop (j*n)).take n) else none
 | some .string,.v (.string s)=>s[j]?.map fun b=>.v (.int .u8 b.toNat)
 | _,_=>none
def fD (H:ay):A->Bool
 | .ptr b _=>match H[b]? with | some (.box _)=>true | _=>false
 | .ep b _ _=>match H[b]? with | some (.row true _ _)=>true | _=>false
 | .sl b _ _ _=>match H[b]? with | some (.row ..)=>true | _=>false
 | .mr b=>match H[b]? with | some (.mp ..)=>true | _=>false
 | _=>true
def fh (P:Program) (t:TypeId) (x:A) (i:Nat) (H:ay):Option A :=
 bif fD H x then
 match P.underlying t with
 | some (.struct fs)=>fs[i]?.bind fun f=>(de P f.type).bind fun n=>bif n==0 then none else
  match x with
  | .ptr b o=>some (.ptr b (o+f.offset))
  | .ep b j o=>some (.ep b j (o+f.offset))
  | .ip cs=>some (.ip (cs.drop f.offset))
  | _=>none
 | _=>none
 else none
def ax (P:Program) (t:TypeId) (x i:A) (H:ay):Option A :=
 (idx i).bind fun j=>bif fD H x then
 match P.underlying t with
 | some (.slice e)=>(de P e).bind fun n=>match x with
  | .imm els _=>els[j]?.bind fun cs=>bif cs.length==n then some (.ip cs) else none
  | .sl b o m _=>bif decide (j<m) then match H[b]? with
   | some (.row true es _)=>bif es==n then some (.ep b (o+j) 0) else none
   | some (.row false es els)=>bif es==n then els[o+j]?.map .ip else none
   | _=>none else none
  | _=>none
 | some (.array len e)=>(de P e).bind fun n=>bif !decide (j<len) then none else match x with
  | .ptr b o=>some (.ptr b (o+j*n))
  | .ep b k o=>match H[b]? with
   | some (.row _ es els)=>bif Nat.beq es n&&Nat.beq o 0&&decide (k+j<els.length) then some (.ep b (k+j) 0) else some (.ep b k (o+j*n))
   | _=>none
  | .ip cs=>some (.ip (cs.drop (j*n)))
  | _=>none
 | _=>none
 else none
def bU (P:Program) (t:TypeId) (x:A) (H:ay):Option A :=
 bif fD H x then
 match P.underlying t,x with
 | some .string,.v (.string s)=>some (.v (.int .i64 s.size))
 | some (.slice _),.imm els _=>some (.v (.int .i64 els.length))
 | some (.slice _),.sl _ _ n _=>some (.v (.int .i64 n))
 | _,_=>none
 else none
def qf (H:ay):A->Bool
 | .ptr b o=>fD H (.ptr b o)
 | .ep b i o=>fD H (.ep b i o)
 | .ip _=>true
 | .fn (.func _) _ _=>true
 | _=>false
def ez (a:A) (H:ay):Option A:=bif qf H a then some a else none
def kb (d:Nat):Option A->Option Nat
 | none=>some d
 | some a=>idx a
def eK (P:Program) (t:TypeId) (x:A) (lo hi mx:Option A) (H:ay):Option A :=
 match P.underlying t,x with
 | some .string,.v (.string s)=>bif mx.isSome then none else
  (kb s.size hi).bind fun h=>(kb 0 lo).bind fun l=>bif decide (l<=h)&&decide (h<=s.size) then some (.v (.string (s.extract l h))) else none
 | some (.slice e),.imm els c=>(de P e).bind fun n=>(kb els.length hi).bind fun h=>(kb 0 lo).bind fun l =>
  bif decide (l<=h)&&decide (h<=els.length)&&(l==0 || match els[l]? with | some cs=>cs.length==n | none=>true) then match mx with
   | none=>some (.imm ((els.drop l).take (h - l)) (c&&h==els.length))
   | some m=>(idx m).bind fun m=>bif m==h then some (.imm ((els.drop l).take (h - l)) true) else none
  else none
 | some (.slice e),.sl b o n c=>(de P e).bind fun z=>(kb n hi).bind fun h=>(kb 0 lo).bind fun l =>
  bif decide (l<=h)&&decide (h<=n)&&(match H[b]? with | some (.row _ es _)=>es==z | _=>false) then match mx with
   | none=>some (.sl b (o+l) (h - l) (c&&h==n))
   | some m=>(idx m).bind fun m=>bif m==h then some (.sl b (o+l) (h - l) true) else none
  else none
 | some (.array n e),.ip cs=>(de P e).bind fun z=>(kb n hi).bind fun h=>(kb 0 lo).bind fun l =>
  bif decide (l<=h)&&decide (h<=n)&&decide (n*z<=cs.length)&&mx.isNone&&!Nat.beq z 0 then some (.imm (((chunk z n cs).drop l).take (h - l)) (Nat.beq h n)) else none
 | some (.array n e),.ep b k o=>(de P e).bind fun z=>(kb n hi).bind fun h=>(kb 0 lo).bind fun l =>
  bif decide (l<=h)&&decide (h<=n)&&mx.isNone&&Nat.beq o 0&&(match H[b]? with | some (.row true es els)=>Nat.beq es z&&decide (k+n<=els.length) | _=>false) then some (.sl b (k+l) (h - l) (Nat.beq h n)) else none
 | _,_=>none
def els? (H:ay):A->Option (List (List A))
 | .imm els _=>some els
 | .sl b o n _=>match H[b]? with
  | some (.row _ _ els)=>some ((els.drop o).take n)
  | _=>none
 | .v (.string s)=>some (s.data.toList.map fun c=>[.v (.int .u8 c.toNat)])
 | _=>none
def wB (H:ay):A->Option (List (List A))
 | .v _=>none
 | x=>els? H x
def eG:Nat:=140737488355328
def nk (P:Program) (t:TypeId):Bool:=match P.underlying t with | some (.slice _) | some .string=>true | _=>false
def vq (P:Program) (t:TypeId):Bool:=match P.underlying t with | some (.int _)=>true | _=>false
def xG:A->A
 | .imm els _=>.imm els false
 | a=>a
def yJ (P:Program) (H:ay) (t2:TypeId) (by_:Nat) (z:List A) (y:A):Option (List (List A)):=bif nk P t2 then els? H y else match y with
 | .v (.int .i64 n)=>bif vq P t2&&decide (0<=n)&&decide (n*by_<=eG)&&decide (n<=eG) then some (List.replicate n.toNat (z.map xG)) else none
 | _=>none
def bF (P:Program) (t t2:TypeId) (wr:Bool) (x y:A) (H:ay) (lo:Nat):Option (A×ay) :=
 (mE P t).bind fun e=>(de P e).bind fun es=>(lP P e).bind fun by_=>(gH P e).bind fun z=>(yJ P H t2 by_ z y).bind fun ys =>
 bif es==0 || by_==0 || !(z.length==es) || !(ys.all fun cs=>cs.length==es&&cs.all A.cell) then none else
 match x with
 | .imm xs true =>
  bif !decide ((xs.length+ys.length)*by_<=eG) then none else
  bif wr&&xs.isEmpty then some (.sl H.length 0 ys.length false,H++[.row true es ys]) else
  bif xs.all (fun cs=>cs.length==es&&cs.all A.cell) then some (.sl H.length 0 (xs.length+ys.length) false,H++[.row false es (xs++ys)]) else none
 | .sl b o n c=>match H[b]? with
  | some (.row false es' els) =>
   bif !decide ((n+ys.length)*by_<=eG) || !(es'==es) || !decide (o+n<=els.length) then none else
   bif c then some (.sl H.length 0 (n+ys.length) false,H++[.row false es ((els.drop o).take n++ys)]) else
   bif decide (lo<=b)&&o==0&&n==els.length then some (.sl b 0 (n+ys.length) false,H.set b (.row false es (els++ys))) else none
  | _=>none
 | _=>none
def fV (ck:Bool) (P:Program) (t:TypeId) (n c:A) (H:ay):Option (A×ay) :=
 (mE P t).bind fun e=>(de P e).bind fun es=>(lP P e).bind fun by_=>(gH P e).bind fun z=>(idx n).bind fun n=>(idx c).bind fun c =>
 bif es==0 || !(z.length==es) || !decide (c*by_<=eG) || !decide (c<=eG) || !decide (n<=c) then none else
 bif n==c then some (.sl H.length 0 n ck,H++[.row true es (List.replicate n (z.map xG))]) else
 bif n==0 then some (.sl H.length 0 0 false,H++[.row false es []]) else none
def gJ (P:Program) (t:TypeId) (n c:A) (H:ay):Option (A×ay):=fV false P t n c H
def mP (P:Program) (t:TypeId) (n c:A) (H:ay):Option (A×ay) :=
 (mE P t).bind fun e=>(de P e).bind fun es=>(lP P e).bind fun by_=>(gH P e).bind fun z=>(idx n).bind fun n=>(idx c).bind fun c =>
 bif es==0 || !(z.length==es) || !decide (c*by_<=eG) || !decide (c<=eG) || !(n==c) then none else some (.imm (List.replicate n (z.map xG)) false,H)
def uk (b:Bool) (P:Program) (t:TypeId) (n c:A) (H:ay):Option (A×ay):=bif b then mP P t n c H else gJ P t n c H
def tX (place:Nat->Option (Nat×Nat)) (cs:List A):List (Nat×A)->Option (List A)
 | []=>some cs
 | (i,x) :: r=>(place i).bind fun p=>x.cells?.bind fun xs=>bif xs.length==p.2&&decide (p.1+p.2<=cs.length) then tX place (bk cs p.1 xs) r else none
def AJ (P:Program) (t:TypeId):Option (Nat->Option (Nat×Nat)):=match P.underlying t with
 | some (.struct fs)=>(fs.toList.mapM fun f=>(P.info? f.type).map fun i=>(f.offset,i.size)).map fun places=>(places.toArray[·]?)
 | some (.array _ e)=>(P.info? e).map fun i=>fun j=>some (j*i.size,i.size)
 | _=>none
def bo (P:Program) (t:TypeId) (parts:List (Nat×A)):Option A :=
 (gH P t).bind fun z=>(AJ P t).bind fun place=>(tX place z parts).map .agg
def mw (els:List (List A)):List (Nat×A)->Option (List (List A))
 | []=>some els
 | (i,x) :: r=>x.cells?.bind fun xs=>mw (els.set i xs) r
def aJ (P:Program) (t:TypeId) (len:Nat) (parts:List (Nat×A)):Option A :=
 (mE P t).bind fun e=>(de P e).bind fun es=>(gH P e).bind fun z=>bif es==0 || !(z.length==es) || !decide (len*es<=16777216) then none else
 bif parts.all (fun p=>decide (p.1<len)&&(match p.2.cells? with | some xs=>xs.length==es | none=>false)) then (mw (List.replicate len z) parts).map fun els=>.imm els true else none
def pX (P:Program) (t:TypeId) (len:Nat) (parts:List (Nat×A)) (H:ay):Option (A×ay) :=
 (mE P t).bind fun e=>(de P e).bind fun es=>(aJ P t len parts).bind fun a=>match a with
  | .imm els true=>some (.sl H.length 0 els.length true,H++[.row true es els])
  | _=>none
def qx (P:Program) (t:TypeId) (x y:A) (H:ay) (lo:Nat):Option (A×ay) :=
 (mE P t).bind fun e=>(de P e).bind fun es=>(els? H y).bind fun ys=>bif es==0 || !(ys.all fun cs=>cs.length==es&&cs.all A.cell) then none else
 match x with
 | .sl b o n _=>match H[b]? with
  | some (.row true es' els)=>bif decide (lo<=b)&&es'==es then some (.v (.int .i64 (min ys.length n:Nat)),H.set b (.row true es (bk els o (ys.take n)))) else none
  | _=>none
 | _=>none
def bytesOf:List (List A)->Option (List UInt8)
 | []=>some []
 | [.v (.int .u8 n)] :: r=>(bytesOf r).map (n.toNat.toUInt8 :: ·)
 | _=>none
def bc (P:Program) (s d:TypeId) (x:A) (H:ay):Option A :=
 match P.underlying s,P.underlying d,x with
 | some (.slice e),some .string,x=>match P.underlying e,de P e with
  | some (.int .u8),some 1=>(wB H x).bind fun els=>(bytesOf els).map fun l=>.v (.string ⟨l.toArray⟩)
  | _,_=>none
 | some .string,some (.slice e),.v (.string s)=>match P.underlying e with
  | some (.int .u8)=>some (.imm (s.data.toList.map fun c=>[.v (.int .u8 c.toNat)]) false)
  | _=>none
 | _,_,x=>x.qq.bind fun a=>(cN P (convert s d a)).map xk
def CJ (P:Program) (t:TypeId) (x:A):Option A:=match P.underlying t with | some (.interface _)=>none | none=>none | some _=>some (.ifc t x)
def vG (P:Program) (t:TypeId) (c:Bool):Option A:=bif c then (P.info? t).bind fun i=>i.zero.map fun z=>.tup [xk z,.v (.bool false)] else none
def lL (P:Program) (x:A) (t:TypeId) (c:Bool):Option A:=match P.underlying t with
 | none=>none
 | some (.interface _)=>none
 | some _=>match x with
  | .ifc t' y=>bif Nat.beq t' t then some (bif c then .tup [y,.v (.bool true)] else y) else vG P t c
  | .v .nilIface=>vG P t c
  | _=>none
mutual
def cA (g:Nat->Nat->Nat->A):A->A
 | .sl b o m _=>g b o m
 | .imm els _=>.imm (dj g els) false
 | .agg cs=>.agg (aU g cs)
 | .tup cs=>.tup (aU g cs)
 | .ifc t x=>.ifc t (cA g x)
 | .mv k ks vs=>.mv k ks (aU g vs)
 | .v x=>.v x
 | .fn f [] []=>.fn f [] []
 | _=>.any
def aU (g:Nat->Nat->Nat->A):List A->List A
 | []=>[]
 | a :: as=>cA g a :: aU g as
def dj (g:Nat->Nat->Nat->A):List (List A)->List (List A)
 | []=>[]
 | a :: as=>aU g a :: dj g as
end
def gG:Nat->ay->Nat->Nat->Nat->A
 | 0,_,_,_,_=>.any
 | n+1,H,b,o,m=>match H[b]? with
  | some (.row false _ els)=>.imm (dj (gG n H) ((els.drop o).take m)) false
  | _=>.any
def snap (H:ay) (a:A):A:=cA (gG 4 H) a
def jM:Nat->ay->Nat->Nat->Nat->A
 | 0,_,_,_,_=>.any
 | n+1,H,b,o,m=>match H[b]? with
  | some (.row _ _ els)=>.imm (dj (jM n H) ((els.drop o).take m)) false
  | _=>.any
def aE (H:ay) (a:A):A:=match a with
 | .mr b=>match H[b]? with
  | some (.mp k ks vs)=>.mv k ks (aU (jM 4 H) vs)
  | _=>.any
 | a=>cA (jM 4 H) a
def tI (lo:Nat) (a:A) (H:ay):Option (A×ay):=match a with
 | .sl b o n _=>match H[b]? with
  | some (.row true _ els)=>bif decide (lo<=b) then some (.imm (dj (gG 4 H) ((els.drop o).take n)) false,H.set b .dead) else none
  | some (.row false _ els)=>some (.imm (dj (gG 4 H) ((els.drop o).take n)) false,H)
  | _=>none
 | .ptr b o=>match H[b]? with
  | some (.box cs)=>bif decide (lo<=b)&&Nat.beq o 0 then some (.ip cs,H.set b .dead) else none
  | _=>none
 | _=>none
def CK (P:Program) (s t:TypeId) (x:A) (H:ay) (lo:Nat):Option (A×ay) :=
 match P.underlying s with
 | some (.slice e)=>match P.underlying e with
  | some (.int .u8)=>match x with
   | .sl b _ n _=>match H[b]? with
    | some (.row true _ _)=>bif Nat.beq s t&&decide (0<n) then tI lo x H else none
    | _=>none
   | _=>none
  | _=>none
 | _=>none
def Bv (H:ay) (a:A):A:=match a with | .sl b o n c=>snap H (.sl b o n c) | .imm els _=>.imm els false | a=>a
def cE (H:ay) (a:A):A:=match a with | .sl b o n c=>snap H (.sl b o n c) | .agg cs=>.agg (cs.map (Bv H)) | a=>a
def cH (a:A) (H:ay) (x:A):A:=match a with | .ep ..=>cE H x | _=>x
mutual
def A.under (L:Nat):A->Bool
 | .any | .v _ | .nq _=>true
 | .ptr b _ | .ep b _ _ | .sl b _ _ _ | .yld b | .mr b=>decide (b<L)
 | .mv _ _ vs=>bl L vs
 | .ip cs | .agg cs | .tup cs=>bl L cs
 | .imm els _=>au L els
 | .fn _ a b=>bl L a&&bl L b
 | .ifc _ x=>A.under L x
def bl (L:Nat):List A->Bool
 | []=>true
 | a :: as=>A.under L a&&bl L as
def au (L:Nat):List (List A)->Bool
 | []=>true
 | a :: as=>bl L a&&au L as
end
def aA.under (L:Nat):aA->Bool
 | .box cs=>bl L cs
 | .row _ _ els=>au L els
 | .rng _=>true
 | .dead=>true
 | .hole=>true
 | .mp _ _ vs=>bl L vs
def trim (L:Nat) (H:ay):Option ay:=bif H.length==L then some H else bif (H.take L).all (aA.under L) then some (H.take L) else none
def cg (cx:Cx) (s:St):Operand->A
 | .tmp t=>look s.fr t
 | .const x=>xk x
 | .global g=>match cx.glob g with | some vs=>.ip (vs.map .v) | none=>.any
 | .func f=>.fn (.func f) [] []
def dI {β:Type} (a:A) (x y:Option β):Option β:=match a with | .v (.bool b)=>bif b then x else y | _=>none
noncomputable def both {β:Type} (x y:Option β):Option β:=open Classical in if x=y then y else none
noncomputable def Jc {β:Type} (els:List (List A)) (x y:Option β):Option β:=match els with | []=>both x y | _ :: _=>y
noncomputable def bj {β:Type} (a:A) (x y:Option β):Option β:=match a with | .nq els=>Jc els x y | a=>dI a x y
def MU (P:Program) (t:TypeId) (x:A):Option A:=match P.underlying t,x with | some (.slice _),.imm els _=>some (.nq els) | _,_=>none
def HC (op:BinOp) (y:Operand):Bool:=match op,y with | .eql,.const (.slice none 0 0)=>true | _,_=>false
def Jd (b:Bool) (P:Program) (op:BinOp) (t:TypeId) (c d:Bool) (x y:A):Option A:=bif b then MU P t x else jN P op t c d x y
abbrev aW:=Nat->List A->ay->Nat->Option R
def pA {β:Type} (cx:Cx) (f lo:Nat) (dst:Option Nat) (c:Call) (s:St) (k:A->ay->Option β):Option β :=
 match c.callee,c.args.toList,c.argTypes.toList with
 | .builtin .len,[x],[t]=>(bU cx.P t (cg cx s x) s.H).bind fun a=>k a s.H
 | .builtin .append,[x,y],[t,t2]=>(bF cx.P t t2 (cx.wrAt f (dst.getD 0)) (cg cx s x) (cg cx s y) s.H lo).bind fun r=>k r.1 r.2
 | .builtin .copy,[x,y],[t,_]=>(qx cx.P t (cg cx s x) (cg cx s y) s.H lo).bind fun r=>k r.1 r.2
 | .builtin .min,x :: r,_=>(Gj true (cg cx s x) (r.map (cg cx s))).bind fun a=>k a s.H
 | .builtin .max,x :: r,_=>(Gj false (cg cx s x) (r.map (cg cx s))).bind fun a=>k a s.H
 | _,_,_=>none
def bI {β:Type} (cx:Cx) (f:Nat) (lo:Nat) (o:Oper) (s:St) (k:A->ay->Option β):Option β :=
 match o.op with
 | .move x | .assign x=>k (cg cx s x) s.H
 | .alloc t=>(ou (cx.arr f t) cx.P t s.H).bind fun r=>k r.1 r.2
 | .box t x=>(yx (cx.arr f t) cx.P t (cg cx s x) s.H).bind fun r=>k r.1 r.2
 | .build t parts=>(bo cx.P t (parts.toList.map fun p=>(p.1,cg cx s p.2))).bind fun a=>k a s.H
 | .buildSlice t n parts=>(aJ cx.P t n (parts.toList.map fun p=>(p.1,cE s.H (cg cx s p.2)))).bind fun a=>k a s.H
 | .load t a=>(iJ cx.P t (cg cx s a) s.H).bind fun a=>k a s.H
 | .store t a x=>(jX cx.P t (cg cx s a) (cH (cg cx s a) s.H (cg cx s x)) s.H lo).bind fun H=>k .any H
 | .binOp op t x y _=>(Jd (HC op y) cx.P op t (Iz x) (Iz y) (cg cx s x) (cg cx s y)).bind fun a=>k a s.H
 | .unOp op _ x=>(jz cx.P op (cg cx s x)).bind fun a=>k a s.H
 | .convert a b x=>(bc cx.P a b (cg cx s x) s.H).bind fun a=>k a s.H
 | .makeInterface t x=>(CJ cx.P t (cg cx s x)).bind fun a=>k a s.H
 | .makeFunc fn a b=>k (.fn fn (a.toList.map (cg cx s)) (b.toList.map (cg cx s))) s.H
 | .makeSlice t n c=>(uk (cx.loud f (o.dst.getD 0)) cx.P t (cg cx s n) (cg cx s c) s.H).bind fun r=>k r.1 r.2
 | .slice t x lo hi mx=>(bif mx.isNone || hi.isSome then eK cx.P t (cg cx s x) (lo.map (cg cx s)) (hi.map (cg cx s)) (mx.map (cg cx s)) s.H else none).bind fun a=>k a s.H
 | .fieldAddr t x i=>(fh cx.P t (cg cx s x) i s.H).bind fun a=>k a s.H
 | .field t x i=>(yp cx.P t (cg cx s x) i).bind fun a=>k a s.H
 | .indexAddr t x i=>(ax cx.P t (cg cx s x) (cg cx s i) s.H).bind fun a=>k a s.H
 | .index t x i=>(yt cx.P t (cg cx s x) (cg cx s i)).bind fun a=>k a s.H
 | .extract x i=>(aL (cg cx s x) i).bind fun a=>k a s.H
 | .nilCheck x=>(ez (cg cx s x) s.H).bind fun a=>k a s.H
 | .makeMap t none=>(rj cx.P t s.H).bind fun r=>k r.1 r.2
 | .insert t m i x=>(qP cx.P t (cg cx s m) (cg cx s i) (cg cx s x) s.H lo).bind fun H=>k .any H
 | .mapUpdate t m i x=>(qP cx.P t (cg cx s m) (cg cx s i) (cg cx s x) s.H lo).bind fun H=>k .any H
 | .lookup t m i c=>(lN cx.P t (cg cx s m) (cg cx s i) c s.H).bind fun a=>k a s.H
 | .typeAssert x _ t c=>(lL cx.P (cg cx s x) t c).bind fun a=>k a s.H
 | .call c=>pA cx f lo o.dst c s k
 | _=>none
def da (P:Program) (k:Nat):Bool:=match P.funcs[k]? with | some fn=>fn.body.isSome&&!(fn.name == "runtime.NumGoroutine") | none=>false
def callee? (cx:Cx) (s:St):Op->Option (Nat×List A)
 | .call c=>match c.callee with
  | .value g=>match cg cx s g with
   | .fn (.func k) first cap=>bif da cx.P k then some (k,first++c.args.toList.map (cg cx s)++cap) else none
   | _=>none
  | _=>none
 | _=>none
def yldOf? (cx:Cx) (s:St):Op->Option (Nat×List A)
 | .call c=>match c.callee with
  | .value g=>match cg cx s g with
   | .yld b=>some (b,c.args.toList.map (cg cx s))
   | _=>none
  | _=>none
 | _=>none
def xa (H:ay) (b:Nat):Bool:=match H[b]? with | some (.rng _)=>true | _=>false
def GS {α β:Type} (x:Option α) (k:α->Option β) (e:Option β):Option β:=match x with | some a=>k a | none=>e
def gP:Op->Bool
 | .call c=>match c.callee with | .value _=>true | _=>false
 | _=>false
def dA (x:Out) (k:A->Option R) (pan:A->Option R):Option R:=match x with | .ret a=>k a | .pan a=>pan a
def D0 (L:Nat) (r:R):Option A:=match r.1 with
 | .ret a=>bif A.under L a then some a else none
 | .pan _=>none
def iv (cx:Cx) (s:St):Op->A
 | .call c=>match c.callee with | .value g=>cg cx s g | _=>.any
 | _=>.any
def eM (cx:Cx) (s:St):Op->List A
 | .call c=>c.args.toList.map (cg cx s)
 | _=>[]
def dK (cx:Cx) (call:aW) (fv:A) (args:List A) (H:ay) (lo:Nat) (k:A->ay->Option R) (pan:A->ay->Option R):Option R :=
 match fv with
 | .yld b=>bif xa H b then (call (cx.P.funcs.size+b) args H lo).bind fun r=>dA r.1 (fun a=>k a r.2) (fun _=>none) else none
 | .fn (.func q) first cap=>bif da cx.P q then
   bif cx.isOrc q then (cx.C q ((first++args++cap).map (snap H))).bind fun a=>k a H
   else (call q (first++args++cap) H lo).bind fun r=>dA r.1 (fun a=>k a r.2) (fun a=>pan a r.2)
  else none
 | _=>none
theorem rB {cx:Cx} {call:aW} {s:St} {op:Op} {lo:Nat} {k:A->ay->Option R} {pan:A->ay->Option R}:dK cx call (iv cx s op) (eM cx s op) s.H lo k pan =
   GS (yldOf? cx s op) (fun p=>bif xa s.H p.1 then (call (cx.P.funcs.size+p.1) p.2 s.H lo).bind fun r=>dA r.1 (fun a=>k a r.2) (fun _=>none) else none)
   ((callee? cx s op).bind fun p=>bif cx.isOrc p.1 then (cx.C p.1 (p.2.map (snap s.H))).bind fun a=>k a s.H
    else (call p.1 p.2 s.H lo).bind fun r=>dA r.1 (fun a=>k a r.2) (fun a=>pan a r.2)):=by
 cases op with
 | call c =>
  cases hc:c.callee with
  | value g =>
   cases hf:cg cx s g with
   | fn f first cap=>cases f with
    | func q =>
     simp only[dK,iv,eM,yldOf?,callee?,GS,hc,hf]
     cases da cx.P q<;>rfl
    | _=>simp only[dK,iv,eM,yldOf?,callee?,GS,hc,hf]; rfl
   | yld b=>simp only[dK,iv,eM,yldOf?,callee?,GS,hc,hf]
   | _=>simp only[dK,iv,eM,yldOf?,callee?,GS,hc,hf]; rfl
  | _=>simp only[dK,iv,eM,yldOf?,callee?,GS,hc]; rfl
 | _=>rfl
def uW {β:Type} (cx:Cx) (call:aW) (fv:A) (args:List A) (H:ay) (k:A->Option β):Option β :=
 match fv with
 | .fn (.func q) first cap=>bif da cx.P q then
   bif cx.isOrcV q then (cx.C q ((first++args++cap).map (snap H))).bind k
   else ((call q (first++args++cap) H H.length).bind fun r=>D0 H.length r).bind k
  else none
 | _=>none
def BJ {β:Type} (x:A) (k:A->Option β):Option β:=match x with | .ifc t y=>k (.ifc t y) | _=>none
def rF (cx:Cx) (call:aW) (f lo:Nat) (o:Oper) (s:St) (k:St->Option R) (pan:A->St->Option R):Option R :=
 match o.op with
 | .pick c a b=>(dI (cg cx s c) (some (cg cx s a)) (some (cg cx s b))).bind fun x=>k (s.put o.dst x)
 | .panic x=>BJ (cg cx s x) fun a=>pan a s
 | .buildSlice t n parts=>bif cx.wrAt f (o.dst.getD 0) then (pX cx.P t n (parts.toList.map fun p=>(p.1,cE s.H (cg cx s p.2))) s.H).bind fun r=>k ({ s with H:=r.2 }.put o.dst r.1) else bI cx f lo o s fun a H=>k ({ s with H:=H }.put o.dst a)
 | .makeSlice t n c=>bif cx.wrAt f (o.dst.getD 0) then (fV true cx.P t (cg cx s n) (cg cx s c) s.H).bind fun r=>k ({ s with H:=r.2 }.put o.dst r.1) else bI cx f lo o s fun a H=>k ({ s with H:=H }.put o.dst a)
 | .convert t t' x=>bif Nat.beq t t' then (CK cx.P t t' (cg cx s x) s.H lo).bind fun r=>k ({ s with H:=r.2 }.put o.dst r.1) else bI cx f lo o s fun a H=>k ({ s with H:=H }.put o.dst a)
 | .call _=>bif gP o.op then
   dK cx call (iv cx s o.op) (eM cx s o.op) s.H lo (fun a H=>k ({ s with H:=H }.put o.dst a)) (fun a H=>pan a { s with H:=H })
  else bI cx f lo o s fun a H=>k ({ s with H:=H }.put o.dst a)
 | _=>bI cx f lo o s fun a H=>k ({ s with H:=H }.put o.dst a)
def b9 (ops:Array Oper) (o:Oper):Option (Nat×Bool):=match o.guard with
 | some (j,want)=>match ops[j]? with
  | some q=>match q.dst with
   | some t=>some (t,want)
   | none=>none
  | none=>none
 | none=>none
theorem iW (ops:Array Oper) (o:Oper):b9 ops o=match o.guard with | some (j,want)=>((ops[j]?).bind (·.dst)).map (·,want) | none=>none:=by
 unfold b9
 split
 ·rename_i j want h
  cases ops[j]? with
  | none=>rfl
  | some q=>show _=(Option.bind (some q) (·.dst)).map _; cases h:q.dst<;>simp[h]
 ·rfl
def m8 {β:Type} (g:A) (want:Bool) (run skip:Option β):Option β:=match g with
 | .v (.bool b)=>bif b then bif want then run else skip else bif want then skip else run
 | .v (.tuple _)=>skip
 | _=>none
theorem uX {β:Type} {cx:Cx} {call:aW} {s:St} {op:Op} {k:A->Option β}:uW cx call (iv cx s op) (eM cx s op) s.H k =
   ((callee? cx s op).bind fun p=>bif cx.isOrcV p.1 then cx.C p.1 (p.2.map (snap s.H))
    else (call p.1 p.2 s.H s.H.length).bind fun r=>D0 s.H.length r).bind k:=by
 cases op with
 | call c =>
  cases hc:c.callee with
  | value g =>
   cases hf:cg cx s g with
   | fn f first cap=>cases f with
    | func q =>
     simp only[uW,iv,eM,callee?,hc,hf]
     cases da cx.P q with
     | false=>rfl
     | true =>
      simp only[cond_true,Option.bind_some]
      cases cx.isOrcV q<;>rfl
    | _=>simp only[uW,iv,eM,callee?,hc,hf]; rfl
   | _=>simp only[uW,iv,eM,callee?,hc,hf]; rfl
  | _=>simp only[uW,iv,eM,callee?,hc]; rfl
 | _=>rfl
def fZ (cx:Cx) (call:aW) (f:Nat) (o:Oper) (s:St):Option A :=
 match o.op with
 | .pick c a b=>dI (cg cx s c) (some (cg cx s a)) (some (cg cx s b))
 | .alloc _ | .box .. | .store .. | .makeSlice .. | .panic _ | .makeMap .. | .insert .. | .mapUpdate ..=>none
 | .call c=>bif gP o.op then
   uW cx call (iv cx s o.op) (eM cx s o.op) s.H some
  else match c.callee with
   | .builtin .len=>bI cx f 0 o s fun a _=>some a
   | _=>none
 | _=>bI cx f 0 o s fun a _=>some a
def rM {β:Type} (cx:Cx) (call:aW) (f:Nat) (o:Oper) (s:St) (k:A->Option β):Option β :=
 match o.op with
 | .pick c a b=>(dI (cg cx s c) (some (cg cx s a)) (some (cg cx s b))).bind k
 | .alloc _ | .box .. | .store .. | .makeSlice .. | .panic _ | .makeMap .. | .insert .. | .mapUpdate ..=>none
 | .call c=>bif gP o.op then
   uW cx call (iv cx s o.op) (eM cx s o.op) s.H k
  else match c.callee with
   | .builtin .len=>bI cx f 0 o s fun a _=>k a
   | _=>none
 | _=>bI cx f 0 o s fun a _=>k a
def quiet (cx:Cx) (f:Nat) (o:Oper):Bool :=
 match o.op with
 | .alloc _ | .box .. | .store .. | .makeSlice .. | .panic _ | .makeMap .. | .insert .. | .mapUpdate ..=>false
 | .call c=>match c.callee with
  | .value (.func k)=>cx.isOrc k
  | .value _=>match o.dst with | some d=>!cx.loud f d | none=>true
  | .builtin .len=>true
  | _=>false
 | _=>true
def g9 {β:Type} (l:List A) (k:A->List A->Option β):Option β:=match l with | a :: r=>k a r | []=>none
def FO {β:Type}:List Nat->List A->(List (Nat×A)->Option β)->Option β
 | [],_,k=>k []
 | d :: ds,l,k=>g9 l fun a r=>FO ds r fun fr=>k ((d,a) :: fr)
def iI (t:Nat):List Nat->Bool
 | []=>false
 | x :: l=>bif Nat.beq x t then true else iI t l
def jZ (o:Oper):List Nat:=match o.dst with | some d=>[d] | none=>[]
def rZ (ops:Array Oper) (g:Nat) (w:Bool) (ds:List Nat) (o:Oper):Bool :=
 match o.guard with
 | none=>false
 | some _=>match b9 ops o with
  | none=>false
  | some (t,w')=>bif iI g (jZ o) then false else bif Nat.beq t g then (bif w then w' else !w') else iI t ds
def bZ (ops:Array Oper) (g:Nat) (w:Bool):List Nat->List Oper->List Oper×List Oper
 | _,[]=>([],[])
 | ds,o :: os=>bif rZ ops g w ds o then (o :: (bZ ops g w (jZ o++ds) os).1,(bZ ops g w (jZ o++ds) os).2) else ([],o :: os)
def gC:List Oper->List Nat
 | []=>[]
 | o :: os=>gC os++jZ o
def pg (cx:Cx) (f:Nat):List Oper->Bool
 | []=>true
 | o :: os=>bif quiet cx f o then pg cx f os else false
def sD (ops:Array Oper) (asm:Option (Nat×Bool)) (o:Oper):Bool :=
 match o.guard with
 | none=>true
 | some _=>match asm,b9 ops o with
  | some (g,w),some (t,w')=>bif Nat.beq t g then (bif w then w' else !w') else false
  | _,_=>false
def u0 (ops:Array Oper) (asm:Option (Nat×Bool)) (g:Nat):List Oper->Option (Nat×Operand×Operand)
 | o :: _=>bif sD ops asm o then (match o.op,o.dst with
  | .pick (.tmp t) a b,some d=>bif Nat.beq t g then some (d,a,b) else none
  | _,_=>none) else none
 | []=>none
def yG (d:Option Nat) (x:A) (dl:List (Nat×A)):List (Nat×A):=match d with | some d=>(d,x) :: dl | none=>dl
def ee (dl:List (Nat×A)) (s:St):St:=⟨dl++s.fr,s.H⟩
def qs (ds:List Nat):List (Nat×A):=ds.map fun d=>(d,.v undef)
def wN (cx:Cx) (fin:Option (Nat×Operand)) (dl:List (Nat×A)) (s:St):List (Nat×A):=match fin with | some (d,x)=>(d,cg cx (ee dl s) x) :: dl | none=>dl
def JY {β:Type} (ops:Array Oper) (asm:Option (Nat×Bool)) (g:Nat) (w:Bool) (os:List Oper) (s:St) (vals:Option (Nat×Operand)->List Oper->Option (List A)) (ud:Option (Nat×Operand)->List Oper->Option (List A)) (k:List Oper->List (Nat×A)->Option β):Option β :=
 match u0 ops asm g (bZ ops g w [] os).2 with
 | some (d,a,b)=>(dI (look s.fr g) (bif w then vals (some (d,a)) (bZ ops g w [] os).1 else ud (some (d,a)) (bZ ops g w [] os).1) (bif w then ud (some (d,b)) (bZ ops g w [] os).1 else vals (some (d,b)) (bZ ops g w [] os).1)).bind fun l =>
   FO (d :: gC (bZ ops g w [] os).1) l fun fr=>k (bZ ops g w [] os).2.tail fr
 | none=>(m8 (look s.fr g) w (vals none (bZ ops g w [] os).1) (ud none (bZ ops g w [] os).1)).bind fun l =>
   FO (gC (bZ ops g w [] os).1) l fun fr=>k (bZ ops g w [] os).2 fr
def LU (cx:Cx) (s:St) (fin:Option (Nat×Operand)) (run:List Oper):Option (List A):=some ((wN cx fin (qs (gC run)) s).map (·.2))
def oB (cx:Cx) (call:aW) (f:Nat) (ops:Array Oper):Nat->Option (Nat×Bool)->Option (Nat×Operand)->List Oper->List (Nat×A)->St->Option (List A)
 | 0,_,_,_,_,_=>none
 | _+1,_,fin,[],dl,s=>some ((wN cx fin dl s).map (·.2))
 | q+1,asm,fin,o :: os,dl,s=>bif sD ops asm o then rM cx call f o (ee dl s) fun x=>oB cx call f ops q asm fin os (yG o.dst x dl) s
  else match b9 ops o with
   | none=>none
   | some (t,w)=>bif rZ ops t w [] o then JY ops asm t w (o :: os) (ee dl s) (fun fin' run=>oB cx call f ops q (some (t,w)) fin' run [] (ee dl s)) (LU cx (ee dl s)) (fun rest fr=>oB cx call f ops q asm fin rest (fr++dl) s) else none
def fi (cx:Cx) (call:aW) (f lo:Nat) (ops:Array Oper):List Oper->St->(E->St->Option R)->Option R
 | [],s,k=>k .normal s
 | o :: os,s,k=>match o.guard with
  | none=>rF cx call f lo o s (fun s=>fi cx call f lo ops os s k) (fun a s=>k (.pan a) s)
  | some _=>match b9 ops o with
   | none=>none
   | some (g,want)=>bif quiet cx f o then (m8 (look s.fr g) want (fZ cx call f o s) (some (.v undef))).bind fun x=>fi cx call f lo ops os (s.put o.dst x) k
    else m8 (look s.fr g) want (rF cx call f lo o s (fun s=>fi cx call f lo ops os s k) (fun a s=>k (.pan a) s)) (fi cx call f lo ops os (s.put o.dst (.v undef)) k)
def fO (cx:Cx) (call:aW) (f lo:Nat) (ops:Array Oper):Nat->List Oper->St->(E->St->Option R)->Option R
 | 0,_,_,_=>none
 | _+1,[],s,k=>k .normal s
 | q+1,o :: os,s,k=>match o.guard with
  | none=>rF cx call f lo o s (fun s=>fO cx call f lo ops q os s k) (fun a s=>k (.pan a) s)
  | some _=>match b9 ops o with
   | none=>none
   | some (t,w)=>bif rZ ops t w [] o&&pg cx f (bZ ops t w [] (o :: os)).1 then
     JY ops none t w (o :: os) s (fun fin run=>oB cx call f ops q (some (t,w)) fin run [] s) (LU cx s) (fun rest fr=>fO cx call f lo ops q rest (ee fr s) k)
    else bif quiet cx f o then (m8 (look s.fr t) w (fZ cx call f o s) (some (.v undef))).bind fun x=>fO cx call f lo ops q os (s.put o.dst x) k
    else m8 (look s.fr t) w (rF cx call f lo o s (fun s=>fO cx call f lo ops q os s k) (fun a s=>k (.pan a) s)) (fO cx call f lo ops q os (s.put o.dst (.v undef)) k)
def iK (cx:Cx) (call:aW) (f:Nat) (ops:Array Oper):List Oper->St->(St->Option R)->Option R
 | [],s,k=>k s
 | o :: os,s,k=>match o.guard with
  | none=>(fZ cx call f o s).bind fun x=>iK cx call f ops os (s.put o.dst x) k
  | some _=>match b9 ops o with
   | none=>none
   | some (g,want)=>(m8 (look s.fr g) want (fZ cx call f o s) (some (.v undef))).bind fun x=>iK cx call f ops os (s.put o.dst x) k
def p9 (cx:Cx) (call:aW) (f:Nat) (ops:Array Oper):Nat->List Oper->St->(St->Option R)->Option R
 | 0,_,_,_=>none
 | _+1,[],s,k=>k s
 | q+1,o :: os,s,k=>match o.guard with
  | none=>rM cx call f o s fun x=>p9 cx call f ops q os (s.put o.dst x) k
  | some _=>match b9 ops o with
   | none=>none
   | some (t,w)=>bif rZ ops t w [] o then
     JY ops none t w (o :: os) s (fun fin run=>oB cx call f ops q (some (t,w)) fin run [] s) (LU cx s) (fun rest fr=>p9 cx call f ops q rest (ee fr s) k)
    else none
def dG (o:Oper):Bool:=match o.op with
 | .store .. | .alloc _ | .box .. | .makeSlice ..=>true
 | .call c=>match c.callee with | .builtin .append | .builtin .copy=>true | _=>false
 | _=>false
def du (ops:Array Oper) (i:Nat):Bool:=match ops[i]? with | some o=>dG o | none=>false
def blk?:A->Option Nat
 | .ptr b _ | .ep b _ _ | .sl b _ _ _ | .mr b=>some b
 | _=>none
def apart (a e:A):Bool:=match blk? a with
 | none=>true
 | some b=>match blk? e with | some c=>!Nat.beq b c | none=>true
def dt (cx:Cx) (s:St):Op->A
 | .store _ a _=>cg cx s a
 | .call c=>match c.args.toList with | x :: _=>cg cx s x | []=>.any
 | _=>.any
def addrOf (cx:Cx) (s:St):Op->A
 | .load _ a=>cg cx s a
 | .fieldAddr _ x _=>cg cx s x
 | .indexAddr _ x _=>cg cx s x
 | .slice _ x _ _ _=>cg cx s x
 | .nilCheck x=>cg cx s x
 | .convert _ _ x=>cg cx s x
 | .lookup _ x _ _=>cg cx s x
 | .call c=>match c.args.toList with | x :: _=>cg cx s x | []=>.any
 | _=>.any
def bP (o:Oper):Nat:=match o.op with
 | .pick .. | .move _ | .assign _ | .extract .. | .field .. | .unOp .. | .binOp .. | .index .. | .build .. | .makeFunc .. | .makeInterface .. | .typeAssert ..=>0
 | .load .. | .fieldAddr .. | .indexAddr .. | .slice .. | .nilCheck ..=>1
 | .convert .. | .lookup ..=>1
 | .call c=>match c.callee with | .builtin .len=>1 | .value (.func _)=>4 | _=>3
 | .buildSlice ..=>2
 | _=>3
def yy (o:Oper):Bool:=match o.op with
 | .store .. | .alloc _ | .box ..=>true
 | .call c=>match c.callee with | .builtin .copy=>true | _=>false
 | _=>false
def uR (ops:Array Oper) (i:Nat):Bool:=match ops[i]? with | some o=>yy o | none=>false
def uu (cx:Cx) (o:Oper):Bool:=match o.op with
 | .call c=>match c.callee with | .value (.func q)=>da cx.P q&&cx.isOrcV q | _=>false
 | _=>false
def Gt:A->Bool
 | .sl ..=>false
 | _=>true
def od:A->Bool
 | .sl ..=>false
 | .agg cs=>cs.all Gt
 | _=>true
def partsOf (cx:Cx) (s:St):Op->List A
 | .buildSlice _ _ parts=>parts.toList.map fun p=>cg cx s p.2
 | _=>[]
def pF:List A->Bool
 | []=>true
 | a :: l=>bif od a then pF l else false
def kC (ops:Array Oper) (i:Nat) (a:A):List (Nat×A)->Bool
 | []=>true
 | p :: l=>bif fe ops i p.1 || fe ops p.1 i then kC ops i a l else bif apart a p.2 then kC ops i a l else false
def jW (ops:Array Oper) (i:Nat) (e:A):List (Nat×A)->Bool
 | []=>true
 | p :: l=>bif fe ops i p.1 || fe ops p.1 i then jW ops i e l else bif apart p.2 e then jW ops i e l else false
def uT (ops:Array Oper) (m:Nat):Bool:=(List.range m).all fun i=>(List.range m).all fun j=>!(du ops i&&du ops j&&decide (i<j)) || fe ops j i
def Dl (ops:Array Oper) (m:Nat):Bool:=(List.range m).any (du ops)
def Gk (ops:Array Oper) (m i:Nat):Bool:=(List.range m).all fun e=>!du ops e || uR ops e || e==i || fe ops i e || fe ops e i
def vh (cx:Cx) (f:Nat) (o:Oper):Option TypeId:=match o.op with
 | .alloc t=>bif cx.arr f t then none else some t
 | _=>none
def sd (cx:Cx) (f:Nat) (ops:Array Oper) (i:Nat):Bool:=match ops[i]? with | some o=>(vh cx f o).isSome | none=>false
def rz (cx:Cx) (f:Nat) (ops:Array Oper) (m:Nat):Bool:=(List.range m).all fun i=>(List.range m).all fun j=>!(du ops i&&du ops j&&decide (i<j)&&!sd cx f ops i&&!sd cx f ops j) || fe ops j i
def cY (i:Nat):List (Nat×A)->Option A
 | []=>none
 | p :: l=>bif Nat.beq p.1 i then some p.2 else cY i l
def ahead {β:Type} (cx:Cx) (f:Nat):Nat->List Oper->ay->(List (Nat×A)->ay->Option β)->Option β
 | _,[],H,k=>k [] H
 | i,o :: os,H,k=>match vh cx f o with
  | some t=>(lK cx.P t H).bind fun r=>ahead cx f (i+1) os r.2 fun fl H=>k ((i,r.1) :: fl) H
  | none=>ahead cx f (i+1) os H k
def jd (fl:List (Nat×A)) (ops:Array Oper) (m i:Nat):Bool:=(List.range m).all fun e=>!du ops e || (cY e fl).isSome || e==i || fe ops i e || fe ops e i
def oQ (cx:Cx) (o:Oper):Bool:=Nat.beq (bP o) 0 || Nat.beq (bP o) 1 || Nat.beq (bP o) 2 || (Nat.beq (bP o) 4&&uu cx o)
def wO (ops:Array Oper) (i:Nat):List (Nat×A)->Bool
 | []=>true
 | p :: l=>bif fe ops i p.1 then wO ops i l else false
def E4 (cx:Cx) (s:St) (o:Oper):Bool:=match o.op with
 | .call c=>bif gP (.call c) then match iv cx s (.call c) with | .fn (.func q) _ _=>da cx.P q&&cx.isOrcV q | _=>false else false
 | _=>false
def rH (cx:Cx) (call:aW) (f lo:Nat) (ops:Array Oper) (m:Nat) (fl:List (Nat×A)) (i:Nat) (o:Oper) (effs seen:List (Nat×A)) (s:St) (rec:List (Nat×A)->List (Nat×A)->St->Option R):Option R :=
 match cY i fl with
 | some a=>rec effs seen (s.put o.dst a)
 | none=>bif dG o then bif jW ops i (dt cx s o.op) seen then bI cx f lo o s fun a H=>rec ((i,dt cx s o.op) :: effs) seen ({ s with H:=H }.put o.dst a) else none
  else bif jd fl ops m i&&(oQ cx o || wO ops i fl || E4 cx s o) then rM cx call f o s fun x=>rec effs seen (s.put o.dst x)
  else bif Nat.beq (bP o) 0 then rM cx call f o s fun x=>rec effs seen (s.put o.dst x)
  else bif Nat.beq (bP o) 1 then bif kC ops i (addrOf cx s o.op) effs then rM cx call f o s fun x=>rec effs ((i,addrOf cx s o.op) :: seen) (s.put o.dst x) else none
  else bif (Nat.beq (bP o) 2 || (Nat.beq (bP o) 4&&uu cx o))&&Gk ops m i then rM cx call f o s fun x=>rec effs seen (s.put o.dst x)
  else bif Nat.beq (bP o) 2 then bif pF (partsOf cx s o.op) then rM cx call f o s fun x=>rec effs seen (s.put o.dst x) else none
  else none
def vc (cx:Cx) (ops:Array Oper) (m:Nat) (fl:List (Nat×A)) (i:Nat) (o:Oper) (effs seen:List (Nat×A)) (s:St) (rec:List (Nat×A)->List (Nat×A)->St->Option R):Option R :=
 bif dG o then bif jW ops i (dt cx s o.op) seen then rec ((i,dt cx s o.op) :: effs) seen (s.put o.dst (.v undef)) else none
 else bif Nat.beq (bP o) 1 then bif jd fl ops m i then rec effs seen (s.put o.dst (.v undef)) else bif kC ops i (addrOf cx s o.op) effs then rec effs ((i,addrOf cx s o.op) :: seen) (s.put o.dst (.v undef)) else none
 else rec effs seen (s.put o.dst (.v undef))
def fk (cx:Cx) (call:aW) (f lo:Nat) (ops:Array Oper) (m:Nat) (fl:List (Nat×A)):Nat->List Oper->List (Nat×A)->List (Nat×A)->St->(St->Option R)->Option R
 | _,[],_,_,s,k=>k s
 | i,o :: os,effs,seen,s,k=>match o.guard with
  | some _=>match b9 ops o with
   | none=>none
   | some (t,w)=>bif Nat.beq (bP o) 0&&!dG o&&(cY i fl).isNone then (m8 (look s.fr t) w (fZ cx call f o s) (some (.v undef))).bind fun x=>fk cx call f lo ops m fl (i+1) os effs seen (s.put o.dst x) k
    else bif (cY i fl).isNone then dI (look s.fr t)
     (bif w then rH cx call f lo ops m fl i o effs seen (s.put (some t) (.v (.bool true))) (fun effs seen s=>fk cx call f lo ops m fl (i+1) os effs seen s k) else vc cx ops m fl i o effs seen (s.put (some t) (.v (.bool true))) (fun effs seen s=>fk cx call f lo ops m fl (i+1) os effs seen s k))
     (bif w then vc cx ops m fl i o effs seen (s.put (some t) (.v (.bool false))) (fun effs seen s=>fk cx call f lo ops m fl (i+1) os effs seen s k) else rH cx call f lo ops m fl i o effs seen (s.put (some t) (.v (.bool false))) (fun effs seen s=>fk cx call f lo ops m fl (i+1) os effs seen s k))
    else none
  | none=>rH cx call f lo ops m fl i o effs seen s fun effs seen s=>fk cx call f lo ops m fl (i+1) os effs seen s k
def vo:Op->Bool
 | .alloc _ | .box .. | .store .. | .makeSlice .. | .call _ | .makeMap .. | .insert .. | .mapUpdate ..=>true
 | _=>false
def qp (ops:Array Oper):Option Nat:=(List.range (ops.size+1)).find? (fa ops)
def Ag (ops:Array Oper) (N:Nat):Bool:=ops.toList.all fun o=>match o.dst with | some d=>decide (d<N) | none=>true
def vp (cx:Cx) (o:Oper):Bool:=match o.op with
 | .call c=>match c.callee with | .value (.func q)=>da cx.P q&&!cx.isOrc q&&(!Nat.beq (cx.cut q) 0 || cx.fre q) | _=>false
 | _=>false
def EG (cx:Cx) (o:Oper):Nat:=match o.op with
 | .call c=>match c.callee with | .value (.func q)=>cx.cut q | _=>0
 | _=>0
def Eg (cx:Cx) (o:Oper) (lo:Nat) (H:ay):Nat:=match o.op with
 | .call c=>match c.callee with | .value (.func q)=>bif cx.fre q then H.length else lo | _=>lo
 | _=>lo
def CT (cx:Cx):Nat->List Oper->Option Nat
 | _,[]=>none
 | i,o :: os=>bif vp cx o then some i else CT cx (i+1) os
def KD (ops:Array Oper) (c m:Nat):List Nat:=(List.range m).filter fun i=>fe ops c i&&(du ops i || (List.range m).any fun e=>du ops e&&fe ops i e)
def p5 (ops:Array Oper) (c m:Nat):List Nat:=KD ops c m++c :: (List.range m).filter fun i=>fe ops i c
def AO (ops:Array Oper) (c m:Nat):List Nat:=(List.range m).filter fun i=>(p5 ops c m).all fun j=>!Nat.beq i j
def uU (ops:Array Oper):List Nat->List Nat->Bool
 | _,[]=>true
 | ps,i :: is=>bif ps.all (fun p=>fe ops i p) then uU ops (i :: ps) is else false
def Ji (ops:Array Oper) (L T:List Nat):Bool:=L.all fun i=>T.all fun j=>!fe ops i j
def tt (o:Oper):Bool:=match o.guard with | none=>true | some _=>false
def P7 (o:Oper):Bool:=tt o&&(Nat.beq (bP o) 0 || Nat.beq (bP o) 1 || Nat.beq (bP o) 2)
def P9 (o:Oper):Bool:=tt o&&(dG o || !vo o.op)&&!gP o.op
def LN (cx:Cx) (call:aW) (f:Nat) (ops:Array Oper):List Nat->List (Nat×A)->St->(List (Nat×A)->St->Option R)->Option R
 | [],seen,s,k=>k seen s
 | i :: is,seen,s,k=>match ops[i]? with
  | none=>none
  | some o=>bif P7 o then bif (bif Nat.beq (bP o) 2 then pF (partsOf cx s o.op) else true) then rM cx call f o s fun x=>LN cx call f ops is (bif Nat.beq (bP o) 1 then (i,addrOf cx s o.op) :: seen else seen) (s.put o.dst x) k else none else none
def eL (m:Nat) (a:A):Bool:=match blk? a with | none=>true | some b=>Nat.ble m b
def uG (ops:Array Oper) (c m:Nat):List (Nat×A)->Bool
 | []=>true
 | p :: l=>bif fe ops c p.1 then uG ops c m l else bif eL m p.2 then uG ops c m l else false
def Iw (cx:Cx) (call:aW) (f lo:Nat) (ops:Array Oper) (c:Nat) (kp:A->ay->Option R):List Nat->List (Nat×A)->St->(St->Option R)->Option R
 | [],_,s,k=>k s
 | i :: is,seen,s,k=>match ops[i]? with
  | none=>none
  | some o=>bif Nat.beq i c then bif uG ops c (EG cx o) seen then dK cx call (iv cx s o.op) (eM cx s o.op) s.H (Eg cx o lo s.H) (fun a H=>Iw cx call f lo ops c kp is seen ({ s with H:=H }.put o.dst a) k) kp else none
   else bif P9 o then bif (bif dG o then jW ops i (dt cx s o.op) seen else true) then bI cx f lo o s fun a H=>Iw cx call f lo ops c kp is seen ({ s with H:=H }.put o.dst a) k else none else none
def GY (cx:Cx) (N:Nat) (ops:Array Oper) (c m:Nat) (o:Oper):Bool:=(ops.toList.take m).all tt&&vp cx o&&tu ops N&&uU ops [] (p5 ops c m)&&Ji ops (AO ops c m) (p5 ops c m)&&(p5 ops c m).all fun i=>Nat.blt i m
def Hk (cx:Cx) (ops:Array Oper):Option Nat:=match qp ops with | none=>none | some m=>CT cx 0 (ops.toList.take m)
def Al (cx:Cx) (call:aW) (f lo N:Nat) (ops:Array Oper) (c:Nat) (s:St) (k:E->St->Option R):Option R :=
 match ops[c]? with
 | none=>none
 | some o=>(qp ops).bind fun m=>bif GY cx N ops c m o then LN cx call f ops (AO ops c m) [] s fun seen s1 =>
   Iw cx call f lo ops c (fun a H=>k (.pan a) ⟨[],H⟩) (p5 ops c m) seen s1 fun s=>fO cx call f lo ops (ops.size+1) (ops.toList.drop m) s k
  else none
def cf:Code->Nat
 | .region id _ _=>id
 | .seq a _=>cf a
 | .block _ c=>cf c
 | .scope c=>cf c
 | .loop c=>cf c
 | _=>0
def EM (H:ay) (a:A):A:=match a with | .sl b o n c=>snap H (.sl b o n c) | .imm els _=>.imm els false | a=>a
def Gu (H:ay) (a:A):A:=match a with | .sl b o n c=>snap H (.sl b o n c) | .imm els _=>.imm els false | .agg cs=>.agg (cs.map (EM H)) | a=>a
def dX (es:Nat) (H:ay):A->A×ay
 | .imm els true=>bif els.all (fun cs=>Nat.beq cs.length es) then (.sl H.length 0 els.length false,H++[.row false es els]) else (.imm els true,H)
 | a=>(a,H)
def lu (es:Nat) (H:ay):A->A×ay
 | .imm [] true=>(.sl H.length 0 0 false,H++[.row true es []])
 | a=>(a,H)
def lz (es:Nat) (H:ay):A->A×ay
 | .imm els true=>bif els.all (fun cs=>Nat.beq cs.length es) then (.sl H.length 0 els.length false,H++[.row false es els]) else (.imm els true,H++[.dead])
 | a=>(a,H++[.dead])
def bD (lo off m:Nat) (a:A) (H:ay):ay :=
 match a with
 | .ptr b o=>match H[b]? with
  | some (.box cs)=>match cs[o+off]? with
   | some c=>bif decide (lo<=b) then match m with
    | 0=>H.set b (.box (cs.set (o+off) (Gu H c)))
    | es+1=>(dX es H c).2.set b (.box (cs.set (o+off) (dX es H c).1))
    else H
   | none=>H
  | _=>H
 | _=>H
def og (lo:Nat) (p:Nat×Nat×Nat) (s:St):St :=
 match p.2.1 with
 | 0=>match p.2.2 with
  | 0=>⟨(p.1,Gu s.H (look s.fr p.1)) :: s.fr,s.H⟩
  | es+1=>bif Nat.ble 500000 es then (bif Nat.ble 1000000 es then ⟨(p.1,(lz (es - 1000000) s.H (look s.fr p.1)).1) :: s.fr,(lz (es - 1000000) s.H (look s.fr p.1)).2⟩ else ⟨(p.1,(lu (es - 500000) s.H (look s.fr p.1)).1) :: s.fr,(lu (es - 500000) s.H (look s.fr p.1)).2⟩) else ⟨(p.1,(dX es s.H (look s.fr p.1)).1) :: s.fr,(dX es s.H (look s.fr p.1)).2⟩
 | off+1=>⟨s.fr,bD lo off p.2.2 (look s.fr p.1) s.H⟩
def dT (lo:Nat):List (Nat×Nat×Nat)->St->St
 | [],s=>s
 | p :: ps,s=>dT lo ps (og lo p s)
def qV (lo:Nat):List (Nat×Nat×Nat)->St->(St->Option R)->Option R
 | [],s,k=>k s
 | p :: ps,s,k=>(tI lo (look s.fr p.1) s.H).bind fun r=>qV lo ps ⟨(p.1,r.1) :: s.fr,r.2⟩ k
def yU:List (Nat×Nat×Nat)->List (Nat×Nat×Nat)
 | []=>[]
 | p :: ps=>match p.2.2 with | 0=>p :: yU ps | _+1=>yU ps
def dE (keep:List Nat) (s:St):St:=⟨keep.map fun t=>(t,look s.fr t),s.H⟩
def aR (L:Nat) (fr:List (Nat×A)):List Nat->Bool
 | []=>true
 | t :: ts=>bif A.under L (look fr t) then aR L fr ts else false
theorem nd (L:Nat) (fr:List (Nat×A)):∀ keep:List Nat,aR L fr keep=true->keep.all (fun t=>A.under L (look fr t))=true
 | [],_=>rfl
 | t :: ts,h=>by
  rw[aR] at h
  cases hu:A.under L (look fr t) with
  | false=>rw[hu] at h; cases h
  | true =>
   rw[hu] at h
   rw[List.all_cons,hu,Bool.true_and]
   exact nd L fr ts h
def xi (keep:List Nat) (L:Nat) (s:St) (k:St->Option R):Option R :=
 (trim L s.H).bind fun H=>bif (bif Nat.beq s.H.length L then true else aR L s.fr keep) then k ⟨keep.map fun t=>(t,look s.fr t),H⟩ else none
def xC:List (Nat×Nat×Nat)->Option (Nat×Nat×Nat)
 | []=>none
 | p :: ps=>match ps with
  | []=>match p.2.1 with
   | 0=>bif Nat.ble 1000001 p.2.2 then some p else none
   | _+1=>none
  | _ :: _=>xC ps
def KE (n:Nat):Nat:=n - 1
def Hv:A->Bool | .imm _ true=>true | _=>false
def GK (lo:Nat) (keep:List Nat) (p:Nat×Nat×Nat) (L:Nat) (s:St) (k:St->Option R):Option R :=
 bif Hv (look s.fr p.1) then xi keep (KE L) s fun s=>bif Nat.beq (og lo p s).H.length L then k (dE keep (og lo p s)) else none else xi keep L s k
def DI (lo:Nat) (keep:List Nat) (acts:List (Nat×Nat×Nat)) (L:Nat) (s:St) (k:St->Option R):Option R :=
 match xC acts with
 | none=>xi keep L (dT lo (yU acts) s) k
 | some p=>GK lo keep p L (dT lo (yU acts) s) k
def D7 (s:St) (keep:List Nat) (k:Nat->St->Option R):Option R:=k s.H.length (dE keep s)
def iter (lo:Nat) (keep:List Nat) (acts:List (Nat×Nat×Nat)) (L:Nat) (f:St->(E->St->Option R)->Option R) (kx kg:Nat->St->Option R) (kr:St->Option R) (kp:A->St->Option R):Nat->St->Option R
 | 0,_=>none
 | n+1,s=>f s fun e s'=>match e with
  | .normal=>DI lo keep acts L s' fun s'=>iter lo keep acts L f kx kg kr kp n s'
  | .exit i=>kx i (dE keep s')
  | .goto l=>kg l (dE keep s')
  | .ret=>kr (dE keep s')
  | .pan a=>kp a (dE keep s')
def iM:Code->Bool
 | .seq a b=>iM a&&iM b
 | .cond _ a b=>iM a&&iM b
 | .block _ c=>iM c
 | .loop c=>iM c
 | .rangeFunc .. | .scope _=>false
 | _=>true
def AK:List Nat->List A->List (Nat×A)->List (Nat×A)
 | p :: ps,a :: as,fr=>AK ps as ((p,a) :: fr)
 | _,_,fr=>fr
def Ei {β:Type} (H:ay) (b:Nat) (x:Option β):Option β:=match H[b]? with | some (.rng .ready)=>x | _=>none
def BQ {β:Type} (H:ay) (b:Nat) (x:Option β):Option β:=match H[b]? with | some (.rng .busy)=>x | _=>none
def HX (b:Nat) (e:E) (H:ay):Option R :=
 match e with
 | .normal=>BQ H b (some (.ret (.v (.bool true)),H.set b (.rng .ready)))
 | .exit i=>BQ H b (some (.ret (.v (.bool false)),H.set b (.rng (.done (.exit i)))))
 | .goto l=>BQ H b (some (.ret (.v (.bool false)),H.set b (.rng (.done (.goto l)))))
 | .ret=>BQ H b (some (.ret (.v (.bool false)),H.set b (.rng (.done .ret))))
 | .pan _=>none
def roundOf (F1 F2:St->(E->St->Option R)->Option R) (lo b:Nat) (ps:List Nat) (fr:List (Nat×A)) (args:List A) (H:ay) (lo':Nat):Option R :=
 bif Nat.beq args.length ps.length&&Nat.ble lo' lo then
  Ei H b (F1 ⟨AK ps args fr,H⟩ fun e s=>match e with
   | .normal=>Ei s.H b (F2 ⟨s.fr,s.H.set b (.rng .busy)⟩ fun e s=>HX b e s.H)
   | _=>none)
 else none
def sZ (q:Nat) (call:aW) (b:Nat) (rnd:List A->ay->Nat->Option R):aW:=fun k args H lo=>bif Nat.beq k (q+b) then rnd args H lo else call k args H lo
def nv {β:Type} (b:Nat) (H:ay) (kn:ay->Option β) (kx kg:Nat->ay->Option β) (kr:ay->Option β):Option β :=
 match H[b]? with
 | some (.rng .ready)=>kn (H.set b .dead)
 | some (.rng (.done (.exit i)))=>kx i (H.set b .dead)
 | some (.rng (.done (.goto l)))=>kg l (H.set b .dead)
 | some (.rng (.done .ret))=>kr (H.set b .dead)
 | _=>none
def zy (b:Nat) (H:ay) (k:E->ay->Option R):Option R:=nv b H (fun H=>k .normal H) (fun i H=>k (.exit i) H) (fun l H=>k (.goto l) H) (fun H=>k .ret H)
def ny (s:St) (k:St->Option R):Option R:=k s
def Df (P:Program):A->Option (Nat×List A)
 | .fn (.func gf) [] cap=>bif da P gf then some (gf,cap) else none
 | _=>none
def wj (N:Nat):List Nat->Bool
 | []=>true
 | p :: ps=>bif Nat.blt p N then wj N ps else false
def zx (body:Code):Nat:=1000000+cf body
def oD:Code->Nat
 | .region id _ _=>id
 | .seq a _=>oD a
 | .block _ c=>oD c
 | .scope c=>oD c
 | .loop c=>oD c
 | .cond _ a _=>oD a
 | _=>0
def Gw (keep:List Nat) (e:E) (s:St):Option R:=match e with
 | .normal=>some (.ret (.tup (keep.map (look s.fr))),s.H)
 | _=>none
def KK {β:Type} (r:R) (k:List A->ay->Option β):Option β:=match r with
 | (.ret (.tup l),H)=>k l H
 | _=>none
theorem AY {β:Type} (fr:List (Nat×A)):∀ (keep:List Nat) (k:List (Nat×A)->Option β),FO keep (keep.map (look fr)) k=k (keep.map fun t=>(t,look fr t))
 | [],_=>rfl
 | d :: ds,k=>by
  show FO ds (ds.map (look fr)) (fun r=>k ((d,look fr d) :: r))=_
  rw[AY fr ds]; rfl
def vu:Code->Nat
 | .block _ c=>oD c
 | .cond _ a _=>500000+oD a
 | .seq _ b=>vu b
 | _=>999999
def O5 (js:List Nat) (X:(E->St->Option R)->Option R) (Y:St->Option R) (k:E->St->Option R):Option R:=match js with
 | []=>X fun e s'=>match e with | .normal=>Y s' | e=>k e s'
 | j :: js=>(X (Gw (j :: js))).bind fun r=>KK r fun l H=>FO (j :: js) l fun fr=>Y ⟨fr,H⟩
noncomputable def n9 (cx:Cx) (call:aW) (rg:aW->aW) (n f lo N:Nat):Code->St->(E->St->Option R)->Option R
 | .skip,s,k=>k .normal s
 | .label _,s,k=>k .normal s
 | .region id ops draw,s,k=>qV lo (cx.acts f (2000000+id)) s fun s=>bif Ag ops N then
  bif draw then match Hk cx ops with | some c=>Al cx call f lo N ops c s k | none=>bif tu ops N then (qp ops).bind fun m=>bif Dl ops m then bif uT ops m then fk cx call f lo ops m [] 0 (ops.toList.take m) [] [] s fun s=>fO cx call f lo ops (ops.size+1) (ops.toList.drop m) s k else bif rz cx f ops m then ahead cx f 0 (ops.toList.take m) s.H fun fl H=>fk cx call f lo ops m fl 0 (ops.toList.take m) [] [] ⟨s.fr,H⟩ fun s=>fO cx call f lo ops (ops.size+1) (ops.toList.drop m) s k else none else p9 cx call f ops (ops.size+1) (ops.toList.take m) s fun s=>fO cx call f lo ops (ops.size+1) (ops.toList.drop m) s k else none
  else fO cx call f lo ops (ops.size+1) ops.toList s k
  else none
 | .seq a b,s,k=>O5 (cx.join f (vu a)) (fun k=>n9 cx call rg n f lo N a s k) (fun s=>n9 cx call rg n f lo N b s k) k
 | .cond c a b,s,k=>bj (cg cx s c) (n9 cx call rg n f lo N a s k) (n9 cx call rg n f lo N b s k)
 | .block id c,s,k=>n9 cx call rg n f lo N c s fun e s'=>match e with | .exit j=>bif Nat.beq j id then k .normal s' else k (.exit j) s' | e=>k e s'
 | .scope c,s,k=>n9 cx call rg n f lo N c s fun e s'=>match e with | .goto _=>none | e=>k e s'
 | .loop c,s,k=>D7 (dT lo (cx.acts f (cf c)) (dE (cx.keep f (cf c)) s)) (cx.keep f (cf c)) fun L s=>iter lo (cx.keep f (cf c)) (cx.acts f (cf c)) L (fun s k=>n9 cx call rg n f lo N c s k) (fun i s=>k (.exit i) s) (fun l s=>k (.goto l) s) (fun s=>k .ret s) (fun a s=>k (.pan a) s) n s
 | .exit id,s,k=>k (.exit id) s
 | .goto l,s,k=>k (.goto l) s
 | .ret,s,k=>k .ret s
 | .rangeFunc g ps asg body,s,k=>ny (dT lo (cx.acts f (zx body)) s) fun s=>(Df cx.P (cg cx s g)).bind fun p=>bif wj N ps.toList&&iM asg&&iM body&&Nat.ble lo s.H.length then
   (rg (sZ cx.P.funcs.size call s.H.length (roundOf (fun s k=>n9 cx call rg n f lo N asg s k) (fun s k=>n9 cx call rg n f lo N body s k) lo s.H.length ps.toList (dE (cx.keep f (zx body)) s).fr)) p.1 (.yld s.H.length :: p.2) (s.H++[.rng .ready]) lo).bind fun r =>
    dA r.1 (fun _=>zy s.H.length r.2 fun e H=>k e ⟨s.fr,H⟩) (fun _=>none)
  else none
 | _,_,_=>none
def gZ:Code->List Code
 | .loop c=>c :: gZ c
 | .seq a b=>gZ a++gZ b
 | .cond _ a b=>gZ a++gZ b
 | .block _ c=>gZ c
 | .scope c=>gZ c
 | .rangeFunc _ _ a b=>gZ a++gZ b
 | _=>[]
def ze (cx:Cx) (f i:Nat):Code:=match (cx.P.funcs[f]?).bind (·.body) with | some c=>(gZ c).getD i .skip | none=>.skip
def Od (cx:Cx) (f:Nat):Nat:=match cx.P.funcs[f]? with | some fn=>fn.ntmps | none=>0
def iy:Code->List (List Nat×Code×Code)
 | .loop c=>iy c
 | .seq a b=>iy a++iy b
 | .cond _ a b=>iy a++iy b
 | .block _ c=>iy c
 | .scope c=>iy c
 | .rangeFunc _ ps a b=>[(ps.toList,a,b)]
 | _=>[]
def rangeAt (cx:Cx) (f i:Nat):List Nat×Code×Code:=match (cx.P.funcs[f]?).bind (·.body) with | some c=>(iy c).getD i ([],.skip,.skip) | none=>([],.skip,.skip)
noncomputable def nw (cx:Cx) (call:aW) (rg:aW->aW) (n f lo i b:Nat) (fr:List (Nat×A)) (args:List A) (H:ay) (lo':Nat):Option R :=
 roundOf (fun s k=>n9 cx call rg n f lo (Od cx f) (rangeAt cx f i).2.1 s k) (fun s k=>n9 cx call rg n f lo (Od cx f) (rangeAt cx f i).2.2 s k) lo b (rangeAt cx f i).1 fr args H lo'
noncomputable def aH (cx:Cx) (call:aW) (rg:aW->aW) (n f lo i L:Nat) (kx kg:Nat->St->Option R) (kr:St->Option R) (kp:A->St->Option R) (m:Nat) (s:St):Option R :=
 iter lo (cx.keep f (cf (ze cx f i))) (cx.acts f (cf (ze cx f i))) L (fun s k=>n9 cx call rg n f lo (Od cx f) (ze cx f i) s k) kx kg kr kp m s
def rJ (cx:Cx) (s:St):ResultVar->Option A
 | .tmp t=>some (look s.fr t)
 | .cell a t=>iJ cx.P t (look s.fr a) s.H
def oA (cx:Cx) (s:St):List ResultVar->Option (List A)
 | []=>some []
 | r :: rs=>(rJ cx s r).bind fun a=>(oA cx s rs).bind fun l=>some (a :: l)
def Ak (cx:Cx) (fn:Func) (s:St):Option A:=match fn.results.toList with
 | [r]=>rJ cx s r
 | rs=>(oA cx s rs).bind fun l=>some (.tup l)
def ve (cx:Cx) (s:St):List ResultVar->(List A->Option R)->Option R
 | [],k=>k []
 | r :: rs,k=>(rJ cx s r).bind fun a=>ve cx s rs fun l=>k (a :: l)
def lW (cx:Cx) (fn:Func) (s:St):Option R:=match fn.results.toList with
 | [r]=>(rJ cx s r).bind fun a=>some (.ret a,s.H)
 | rs=>ve cx s rs fun l=>some (.ret (.tup l),s.H)
theorem tV (cx:Cx) (s:St):∀ (rs:List ResultVar) (k:List A->Option R),ve cx s rs k=(oA cx s rs).bind k
 | [],_=>rfl
 | r :: rs,k=>by
  rw[ve,oA,Option.bind_assoc]
  congr 1; funext a
  rw[tV cx s rs,Option.bind_assoc]
  rfl
theorem Bp (cx:Cx) (fn:Func) (s:St):lW cx fn s=(Ak cx fn s).bind fun a=>some (.ret a,s.H):=by
 unfold lW Ak
 split
 ·rename_i h; rfl
 ·rw[tV,Option.bind_assoc]
  rfl
def frame (args:List A):List (Nat×A):=args.zipIdx.map fun p=>(p.2,p.1)
noncomputable def Hq (cx:Cx) (call:aW) (rg:aW->aW) (n f lo:Nat) (fn:Func) (c:Code) (args:List A) (H:ay):Option R :=
 n9 cx call rg n f lo fn.ntmps c ⟨frame args,H⟩ fun e s=>match e with
  | .normal | .ret=>ny (dT lo (cx.acts f 3000000) s) fun s=>lW cx fn s
  | .pan a=>some (.pan a,s.H)
  | _=>none
def ES (o:Oper):Bool:=match o.op with | .defer _=>true | _=>false
def xc:List Oper->Option (List Oper×Oper)
 | []=>none
 | o :: os=>match os with
  | []=>some ([],o)
  | _ :: _=>(xc os).map fun p=>(o :: p.1,p.2)
def w5:Code->Bool
 | .seq _ (.seq (.region _ ops false) _)=>ops.toList.any ES
 | _=>false
def P5 (cx:Cx) (q:Nat) (o:Oper):Bool:=da cx.P q&&tt o&&o.dst.isNone
def CV (cx:Cx) (s:St) (o:Oper):Option (Nat×List A):=match o.op with
 | .defer c=>match c.callee,c.args.toList with
  | .value g,[]=>match cg cx s g with
   | .fn (.func q) [] cap=>bif P5 cx q o then some (q,cap) else none
   | _=>none
  | _,_=>none
 | _=>none
def ml (o:Oper):Option Nat:=match o.op with
 | .call c=>match c.callee,c.args.toList with
  | .builtin .recover,[]=>bif tt o then o.dst else none
  | _,_=>none
 | _=>none
def recAt:Nat->List Oper->Option (Nat×Nat)
 | _,[]=>none
 | i,o :: os=>match ml o with | some d=>some (i,d) | none=>recAt (i+1) os
def jU (ops:Array Oper) (i d:Nat):Array Oper:=match ops[i]? with | some o=>ops.setIfInBounds i { o with op:=.move (.tmp d) } | none=>ops
def iZ (d:Nat) (o:Oper):Bool:=tt o&&(match o.op with | .load _ (.tmp t)=>!Nat.beq t d | _=>false)&&(match o.dst with | some e=>!Nat.beq e d | none=>false)
def w9 (d:Nat) (ops:Array Oper) (j:Nat):Bool:=match ops[j]? with | some o=>iZ d o | none=>true
def GX (ops:Array Oper) (i d:Nat):Bool:=(List.range ops.size).all fun j=>Nat.beq j i || match ops[j]? with | some o=>iZ d o || o.after.any fun e=>Region.binds .any e&&!w9 d ops e.on | none=>false
def P8 (cap:List A) (ops:Array Oper) (fn:Func) (rest:Code):Bool:=decide (cap.length<=fn.ntmps)&&Ag ops fn.ntmps&&iM rest&&fn.results.toList.isEmpty
def P6 (ops:Array Oper) (N:Nat) (a:Code):Bool:=Ag ops N&&iM a
def vd (cx:Cx) (call:aW) (f lo N:Nat) (ops:Array Oper) (s:St) (k:E->St->Option R):Option R :=
 bif Ag ops N then
  match Hk cx ops with | some c=>Al cx call f lo N ops c s k | none=>bif tu ops N then (qp ops).bind fun m=>bif Dl ops m then bif uT ops m then fk cx call f lo ops m [] 0 (ops.toList.take m) [] [] s fun s=>fO cx call f lo ops (ops.size+1) (ops.toList.drop m) s k else bif rz cx f ops m then ahead cx f 0 (ops.toList.take m) s.H fun fl H=>fk cx call f lo ops m fl 0 (ops.toList.take m) [] [] ⟨s.fr,H⟩ fun s=>fO cx call f lo ops (ops.size+1) (ops.toList.drop m) s k else none else p9 cx call f ops (ops.size+1) (ops.toList.take m) s fun s=>fO cx call f lo ops (ops.size+1) (ops.toList.drop m) s k else none
 else none
def Qa (cap:List A) (ops:Array Oper) (fn:Func) (p:Nat×Nat):Bool:=decide (cap.length<=fn.ntmps)&&decide (p.2<fn.ntmps)&&GX ops p.1 p.2&&(match ops[p.1]? with | some o=>o.after.toList.isEmpty | none=>false)&&fn.results.toList.isEmpty
noncomputable def wF (cx:Cx) (call:aW) (rg:aW->aW) (n lo q:Nat) (cap:List A) (v:A) (H:ay) (k:ay->Option R):Option R :=
 (cx.P.funcs[q]?).bind fun fn=>fn.body.bind fun c=>match c with
  | .seq (.region _ ops false) rest=>match ops.toList with
   | o :: os=>(ml o).bind fun d=>bif P8 cap ops fn rest then fi cx call q lo ops os ⟨(d,v) :: frame cap,H⟩ fun e s=>match e with
     | .normal=>n9 cx call rg n q lo fn.ntmps rest s fun e s=>match e with
      | .normal | .ret=>k s.H
      | _=>none
     | _=>none
    else none
   | []=>none
  | .region _ ops true=>(recAt 0 ops.toList).bind fun p=>bif Qa cap ops fn p then vd cx call q lo fn.ntmps (jU ops p.1 p.2) ⟨(p.2,v) :: frame cap,H⟩ fun e s=>match e with
    | .normal=>k s.H
    | _=>none
   else none
  | _=>none
noncomputable def va (cx:Cx) (call:aW) (rg:aW->aW) (n f lo:Nat) (fn:Func) (c:Code) (args:List A) (H:ay):Option R:=match c with
 | .seq a (.seq (.region _ ops false) rest)=>bif P6 ops fn.ntmps a then n9 cx call rg n f lo fn.ntmps a ⟨frame args,H⟩ fun e s=>match e with
  | .normal=>(xc ops.toList).bind fun p=>fi cx call f lo ops p.1 s fun e s=>match e with
   | .normal=>(CV cx s p.2).bind fun z=>n9 cx call rg n f lo fn.ntmps rest s fun e s=>match e with
    | .normal | .ret=>wF cx call rg n lo z.1 z.2 (.v .nilIface) s.H fun H=>ny (dT lo (cx.acts f 3000000) ⟨s.fr,H⟩) fun s=>lW cx fn s
    | .pan x=>wF cx call rg n lo z.1 z.2 x s.H fun H=>ny (dT lo (cx.acts f 3000000) ⟨s.fr,H⟩) fun s=>lW cx fn s
    | _=>none
   | _=>none
  | _=>none
  else none
 | _=>none
noncomputable def av (cx:Cx) (call:aW) (rg:aW->aW) (n f:Nat) (args:List A) (H:ay) (lo:Nat):Option R :=
 (cx.P.funcs[f]?).bind fun fn=>fn.body.bind fun c=>bif decide (args.length<=fn.ntmps) then bif w5 c then va cx call rg n f lo fn c args H else Hq cx call rg n f lo fn c args H else none
def GJ:aW:=fun _ _ _ _=>none
def lC:Nat->ay->A->A
 | 0,_,_=>.any
 | n+1,H,.ptr b o=>match H[b]? with | some (.box cs)=>.ip ((cs.drop o).map (lC n H)) | _=>.any
 | n+1,H,.fn f p q=>.fn f (p.map (lC n H)) (q.map (lC n H))
 | n+1,H,.agg cs=>.agg (cs.map (lC n H))
 | _+1,H,a=>cA (jM 4 H) a
def RY:A->Bool | .v _=>true | _=>false
def gu (cx:Cx) (k:Nat) (H:ay):Bool:=bif cx.deep k then bif Nat.beq H.length 0 then false else true else false
def mS (cx:Cx) (k:Nat) (args:List A) (H:ay):Option R:=(cx.C k (args.map (lC 6 H))).bind fun r=>bif RY r then some (.ret r,H) else none
def fM (cx:Cx) (k:Nat) (H:ay):Bool:=bif Nat.beq (cx.cut k) 0 then false else bif Nat.ble (cx.cut k) H.length then true else bif Nat.beq H.length 0 then false else Nat.beq (cx.cut k) 999999999
def cutAt (cx:Cx) (k:Nat) (H:ay):Nat:=bif Nat.ble (cx.cut k) H.length then cx.cut k else H.length
def pL (m:Nat):Out->Bool
 | .ret a=>A.under m a
 | .pan a=>A.under m a
def nG (m:Nat) (f:ay->Option R) (args:List A) (H:ay):Option R :=
 bif bl m args&&(H.take m).all (aA.under m) then (f (H.take m)).bind fun r=>bif Nat.ble m r.2.length&&(r.2.take m).all (aA.under m)&&pL m r.1 then some (r.1,r.2.take m++H.drop m) else none else none
noncomputable def aI (cx:Cx):Nat->aW->aW
 | 0,base,k,args,H,lo=>bif Nat.ble cx.P.funcs.size k then base k args H lo else none
 | n+1,base,k,args,H,lo=>bif Nat.ble cx.P.funcs.size k then base k args H lo else bif fM cx k H then nG (cutAt cx k H) (fun H=>av cx (aI cx n GJ) (aI cx n) n k args H lo) args H else bif gu cx k H then mS cx k args H else av cx (aI cx n base) (aI cx n) n k args H lo
noncomputable def br (cx:Cx) (n:Nat):aW:=aI cx n GJ
end Go.Proofs.Ytdmgdjnadbakfaa
