/-
 An interpreter over plain data: what a call of the program answers, in one order, slices being lists. Its answers are shown to be the model's in EvSound.
-/
import Derived.Test.YtdmgdjnadbakfaaGrow
namespace Go.Proofs.Ytdmgdjnadbakfaa
set_option linter.unusedSimpArgs false
inductive A where
 | any
 | v (x:Value)
 | ptr (b o:Nat)
 | ep (b i o:Nat)
 | ip (cs:List A)
 | imm (els:List (List A)) (clip:Bool)
 | sl (b o n:Nat) (clip:Bool)
 | agg (cs:List A)
 | tup (cs:List A)
 | fn (f:Fn) (first cap:List A)
 | ifc (t:TypeId) (x:A)
 | yld (b:Nat)
 | nq (els:List (List A))
 | mr (b:Nat)
 | mv (k:IntKind) (ks:List Int) (vs:List A)
 deriving Inhabited
inductive Fb where
 | exit (id:Nat)
 | goto (l:Nat)
 | ret
inductive cp where
 | ready
 | busy
 | done (j:Fb)
inductive aD where
 | box (cs:List A)
 | row (wr:Bool) (es:Nat) (els:List (List A))
 | rng (st:cp)
 | dead
 | hole
 | mp (k:IntKind) (ks:List Int) (vs:List A)
 deriving Inhabited
abbrev ay:=List aD
inductive E where
 | normal
 | exit (id:Nat)
 | goto (l:Nat)
 | ret
 | pan (v:A)
inductive Out where
 | ret (a:A)
 | pan (a:A)
abbrev R:=Out×ay
structure St where
 fr:List (Nat×A)
 H:ay
structure Cx where
 P:Program
 glob:Nat->Option (List Value)
 isOrc:Nat->Bool
 isOrcV:Nat->Bool
 C:Nat->List A->Option A
 keep:Nat->Nat->List Nat
 wrAt:Nat->Nat->Bool
 acts:Nat->Nat->List (Nat×Nat×Nat)
 loud:Nat->Nat->Bool
 arr:Nat->Nat->Bool
 join:Nat->Nat->List Nat:=fun _ _=>[]
 cut:Nat->Nat:=fun _=>0
 fre:Nat->Bool:=fun _=>false
 deep:Nat->Bool:=fun _=>false
def vv (f r:Nat):List ((Nat×Nat)×List Nat)->List Nat
 | []=>[]
 | p :: l=>bif Nat.beq p.1.1 f then bif Nat.beq p.1.2 r then p.2 else vv f r l else vv f r l
def Ce (f r:Nat):List ((Nat×Nat)×List (Nat×Nat×Nat))->List (Nat×Nat×Nat)
 | []=>[]
 | p :: l=>bif Nat.beq p.1.1 f then bif Nat.beq p.1.2 r then p.2 else Ce f r l else Ce f r l
def Fu (k:Nat):List (Nat×Nat)->Nat
 | []=>0
 | p :: l=>bif Nat.beq p.1 k then p.2 else Fu k l
def w5 (f r:Nat):List (Nat×Nat)->Bool
 | []=>false
 | p :: l=>bif Nat.beq p.1 f&&Nat.beq p.2 r then true else w5 f r l
def Db (k:Nat):List Nat->Bool
 | []=>true
 | x :: l=>bif Nat.beq x k then false else Db k l
def look:List (Nat×A)->Nat->A
 | [],_=>.any
 | (s,a) :: r,t=>bif Nat.beq s t then a else look r t
def St.put (s:St) (dst:Option Nat) (a:A):St:=match dst with | some d=>{ s with fr:=(d,a) :: s.fr } | none=>s
def dh {α:Type} (P:Program):Sem α->Option α
 | .pure a=>some a
 | .program k=>dh P (k P)
 | .mark _ k=>dh P k
 | _=>none
mutual
def A.qd:A->Option Value
 | .v x=>some x
 | .agg cs=>(Bg cs).map fun l=>.agg l.toArray
 | .ifc t x=>(A.qd x).map (.iface t)
 | .fn (.func f) [] []=>some (.func (.func f) #[] #[])
 | _=>none
def Bg:List A->Option (List Value)
 | []=>some []
 | a :: as=>(A.qd a).bind fun x=>(Bg as).map (x :: ·)
end
def yT:Value->A
 | .slice none 0 0=>.imm [] true
 | x=>.v x
def yU:Value->A
 | .agg cs=>.agg (cs.toList.map yT)
 | x=>yT x
def lY (P:Program) (t:TypeId):Bool:=match P.underlying t with | some (.struct _) | some (.array _ _)=>true | _=>false
def db (P:Program) (t:TypeId):Option Nat:=(P.underlying t).bind fun _=>(P.info? t).map (·.size)
def lO (P:Program) (t:TypeId):Option Nat:=(P.info? t).map (·.bytes)
def gT (P:Program) (t:TypeId):Option (List A):=(P.info? t).bind fun i=>i.zero.map fun z=>z.cells.toList.map yT
def mz (P:Program) (t:TypeId):Option TypeId:=match P.underlying t with | some (.slice e)=>some e | _=>none
def A.cell:A->Bool
 | .any | .agg _ | .tup _ | .nq _=>false
 | .v x=>x.oneCell'
 | _=>true
def A.cells?:A->Option (List A)
 | .agg cs=>bif cs.all A.cell then some cs else none
 | .v x=>bif x.oneCell' then some [.v x] else none
 | .any | .tup _ | .nq _=>none
 | a=>some [a]
def join (P:Program) (t:TypeId) (cs:List A):Option A:=bif lY P t then some (.agg cs) else match cs with | [c]=>some c | _=>none
def chunk {α:Type} (es:Nat):Nat->List α->List (List α)
 | 0,_=>[]
 | q+1,xs=>xs.take es :: chunk es q (xs.drop es)
def nQ (P:Program) (t:TypeId) (a:A) (H:ay):Option A :=
 (db P t).bind fun n=>bif n==0 then none else
 match a with
 | .ptr b o=>match H[b]? with
  | some (.box cs)=>bif decide (o+n<=cs.length) then join P t ((cs.drop o).take n) else none
  | _=>none
 | .ep b i o=>match H[b]? with
  | some (.row true _ els)=>match els[i]? with
   | some cs=>bif decide (o+n<=cs.length) then join P t ((cs.drop o).take n) else
    bif Nat.beq o 0&&Nat.beq ((els.drop i).take (n / cs.length)).flatten.length n then join P t ((els.drop i).take (n / cs.length)).flatten else none
   | none=>none
  | _=>none
 | .ip cs=>bif decide (n<=cs.length) then join P t (cs.take n) else none
 | _=>none
def bo {α:Type} (cs:List α) (o:Nat) (xs:List α):List α:=cs.take o++xs++cs.drop (o+xs.length)
def kf (P:Program) (t:TypeId) (a x:A) (H:ay) (lo:Nat):Option ay :=
 (db P t).bind fun n=>x.cells?.bind fun xs=>bif n==0 || !(xs.length==n) then none else
 match a with
 | .ptr b o=>match H[b]? with
  | some (.box cs)=>bif decide (lo<=b)&&decide (o+n<=cs.length) then some (H.set b (.box (bo cs o xs))) else none
  | _=>none
 | .ep b i o=>match H[b]? with
  | some (.row true es els)=>match els[i]? with
   | some cs=>bif decide (lo<=b)&&decide (o+n<=cs.length) then some (H.set b (.row true es (els.set i (bo cs o xs)))) else
    bif decide (lo<=b)&&Nat.beq o 0&&Nat.beq (n / es*es) n&&decide (i+n / es<=els.length) then some (H.set b (.row true es (bo els i (chunk es (n / es) xs)))) else none
   | none=>none
  | _=>none
 | _=>none
def lJ (P:Program) (t:TypeId) (H:ay):Option (A×ay):=(gT P t).map fun cs=>(.ptr H.length 0,H++[.box cs])
def dq (x:A) (H:ay):Option (A×ay):=x.cells?.map fun cs=>(.ptr H.length 0,H++[.box cs])
def rowOf (P:Program) (t:TypeId) (cs:List A) (H:ay):Option (A×ay):=match P.underlying t with
 | some (.array n e)=>(db P e).bind fun es=>bif Nat.beq es 0 || Nat.beq n 0 || !Nat.beq cs.length (n*es) then none else some (.ep H.length 0 0,H++[.row true es (chunk es n cs)])
 | _=>none
def nu (P:Program) (t:TypeId) (H:ay):Option (A×ay):=(gT P t).bind fun cs=>rowOf P t cs H
def tD (P:Program) (t:TypeId) (x:A) (H:ay):Option (A×ay):=x.cells?.bind fun cs=>rowOf P t cs H
def n0 (b:Bool) (P:Program) (t:TypeId) (H:ay):Option (A×ay):=bif b then nu P t H else lJ P t H
def yd (b:Bool) (P:Program) (t:TypeId) (x:A) (H:ay):Option (A×ay):=bif b then tD P t x H else dq x H
def rep (c:Bool):Operand:=if c then .const .nilIface else .tmp 0
def Hm:Operand->Bool | .const _=>true | _=>false
def rm (P:Program) (q:TypeId->Value->Value->Option Bool) (xs ys:Array Value):List Field->Option Bool
 | []=>some true
 | [f]=>bif f.name == "_" then some true else (dh P (part f.type xs f.offset)).bind fun a=>(dh P (part f.type ys f.offset)).bind fun b=>q f.type a b
 | f :: fs=>bif f.name == "_" then rm P q xs ys fs else (dh P (part f.type xs f.offset)).bind fun a=>(dh P (part f.type ys f.offset)).bind fun b=>(q f.type a b).bind fun r=>(rm P q xs ys fs).map fun r'=>r&&r'
def tM (P:Program) (q:TypeId->Value->Value->Option Bool) (e:TypeId) (c:Nat) (xs ys:Array Value):List Nat->Option Bool
 | []=>some true
 | [i]=>(dh P (part e xs (i*c))).bind fun a=>(dh P (part e ys (i*c))).bind fun b=>q e a b
 | i :: is=>(dh P (part e xs (i*c))).bind fun a=>(dh P (part e ys (i*c))).bind fun b=>(q e a b).bind fun r=>(tM P q e c xs ys is).map fun r'=>r&&r'
def IA (P:Program):Nat->TypeId->Value->Value->Option Bool
 | 0,_,_,_=>none
 | d+1,t,x,y=>match P.underlying t,x,y with
  | some (.int _),.int k a,.int k' b=>bif decide (k=k') then some (a==b) else none
  | some .bool,.bool a,.bool b=>some (a==b)
  | some .string,.string a,.string b=>some (a==b)
  | some (.struct _),.agg xs,.agg ys=>bif P.stoodInHeld t then none else rm P (IA P d) xs ys (P.fieldsOf t).toList
  | some (.array n e),.agg xs,.agg ys=>(P.info? e).bind fun _=>tM P (IA P d) e (P.cellsOf e) xs ys (List.range n)
  | _,_,_=>none
def tP (P:Program) (t:TypeId) (x y:A):Option Bool:=bif P.eqGuardType P.depth t then none else x.qd.bind fun a=>y.qd.bind fun b=>IA P 20 t a b
def lL (P:Program) (op:BinOp) (t:TypeId) (c d:Bool) (x y:A):Option A :=
 match op,x,y with
 | .eql,.agg _,.agg _=>(tP P t x y).map fun r=>.v (.bool r)
 | .neq,.agg _,.agg _=>(tP P t x y).map fun r=>.v (.bool (!r))
 | _,_,_=>x.qd.bind fun a=>y.qd.bind fun b=>(dh P (do eqGuard op t (rep c) (rep d) a b; binOp op t a b)).map yU
def jS (P:Program) (op:UnOp) (x:A):Option A:=x.qd.bind fun a=>(dh P (Op.unary op a)).map yU
def zs (mn:Bool) (x y:A):Option A:=match x,y with
 | .v (.int k a),.v (.int l b)=>bif k==l then some (.v (.int k (if mn then (if b<a then b else a) else (if a<b then b else a)))) else none
 | _,_=>none
def Gb (mn:Bool):A->List A->Option A
 | x,[]=>some x
 | x,y :: r=>(zs mn x y).bind fun z=>Gb mn z r
def vw (P:Program) (t:TypeId):Option (IntKind×TypeId):=match P.underlying t with
 | some (.map kt vt)=>match P.underlying kt with | some (.int k)=>some (k,vt) | _=>none
 | _=>none
def keyOf (k:IntKind):A->Option Int
 | .v (.int j n)=>bif decide (j=k) then some n else none
 | _=>none
def gG (a:Int):List Int->List A->Option A
 | x :: ks,v :: vs=>bif decide (a=x) then some v else gG a ks vs
 | _,_=>none
def Bb (a:Int) (y:A):List Int->List A->List Int×List A
 | x :: ks,v :: vs=>bif decide (a=x) then (x :: ks,y :: vs) else (x :: (Bb a y ks vs).1,v :: (Bb a y ks vs).2)
 | _,_=>([a],[y])
def oK (P:Program) (t:TypeId) (H:ay):Option (A×ay):=(vw P t).map fun p=>(.mr H.length,H++[.mp p.1 [] []])
def gF (P:Program) (t:TypeId) (m i x:A) (H:ay) (lo:Nat):Option ay:=(vw P t).bind fun p=>(keyOf p.1 i).bind fun a=>match m with
 | .mr b=>match H[b]? with
  | some (.mp k ks vs)=>bif decide (lo<=b)&&decide (k=p.1) then some (H.set b (.mp k (Bb a x ks vs).1 (Bb a x ks vs).2)) else none
  | _=>none
 | _=>none
def DF (P:Program) (vt:TypeId) (c:Bool) (r:Option A):Option A:=match r with
 | some y=>some (bif c then .tup [y,.v (.bool true)] else y)
 | none=>(P.info? vt).bind fun i=>i.zero.map fun z=>bif c then .tup [yU z,.v (.bool false)] else yU z
def fY (P:Program) (t:TypeId) (m i:A) (c:Bool) (H:ay):Option A:=(vw P t).bind fun p=>(keyOf p.1 i).bind fun a=>match m with
 | .mv k ks vs=>bif decide (k=p.1) then DF P p.2 c (gG a ks vs) else none
 | .mr b=>match H[b]? with
  | some (.mp k ks vs)=>bif decide (k=p.1) then DF P p.2 c (gG a ks vs) else none
  | _=>none
 | _=>none
def aI (x:A) (i:Nat):Option A:=match x with | .tup cs=>cs[i]? | _=>none
def xX (P:Program) (t:TypeId) (x:A) (i:Nat):Option A :=
 match P.underlying t,x with
 | some (.struct fs),.agg cs=>fs[i]?.bind fun f=>(db P f.type).bind fun n=>bif decide (f.offset+n<=cs.length) then join P f.type ((cs.drop f.offset).take n) else none
 | _,_=>none
def idx:A->Option Nat
 | .v (.int _ n)=>bif decide (0<=n) then some n.toNat else none
 | _=>none
def uM (P:Program) (t:TypeId) (x i:A):Option A :=
 (idx i).bind fun j =>
 match P.underlying t,x with
 | some (.array len e),.agg cs=>(db P e).bind fun n=>bif decide (j<len)&&decide (j*n+n<=cs.length) then join P e ((cs.drop (j*n)).take n) else none
 | some .string,.v (.string s)=>s[j]?.map fun b=>.v (.int .u8 b.toNat)
 | _,_=>none
def fo (H:ay):A->Bool
 | .ptr b _=>match H[b]? with | some (.box _)=>true | _=>false
 | .ep b _ _=>match H[b]? with | some (.row true _ _)=>true | _=>false
 | .sl b _ _ _=>match H[b]? with | some (.row ..)=>true | _=>false
 | .mr b=>match H[b]? with | some (.mp ..)=>true | _=>false
 | _=>true
def fy (P:Program) (t:TypeId) (x:A) (i:Nat) (H:ay):Option A :=
 bif fo H x then
 match P.underlying t with
 | some (.struct fs)=>fs[i]?.bind fun f=>(db P f.type).bind fun n=>bif n==0 then none else
  match x with
  | .ptr b o=>some (.ptr b (o+f.offset))
  | .ep b j o=>some (.ep b j (o+f.offset))
  | .ip cs=>some (.ip (cs.drop f.offset))
  | _=>none
 | _=>none
 else none
def ax (P:Program) (t:TypeId) (x i:A) (H:ay):Option A :=
 (idx i).bind fun j=>bif fo H x then
 match P.underlying t with
 | some (.slice e)=>(db P e).bind fun n=>match x with
  | .imm els _=>els[j]?.bind fun cs=>bif cs.length==n then some (.ip cs) else none
  | .sl b o m _=>bif decide (j<m) then match H[b]? with
   | some (.row true es _)=>bif es==n then some (.ep b (o+j) 0) else none
   | some (.row false es els)=>bif es==n then els[o+j]?.map .ip else none
   | _=>none else none
  | _=>none
 | some (.array len e)=>(db P e).bind fun n=>bif !decide (j<len) then none else match x with
  | .ptr b o=>some (.ptr b (o+j*n))
  | .ep b k o=>match H[b]? with
   | some (.row _ es els)=>bif Nat.beq es n&&Nat.beq o 0&&decide (k+j<els.length) then some (.ep b (k+j) 0) else some (.ep b k (o+j*n))
   | _=>none
  | .ip cs=>some (.ip (cs.drop (j*n)))
  | _=>none
 | _=>none
 else none
def bM (P:Program) (t:TypeId) (x:A) (H:ay):Option A :=
 bif fo H x then
 match P.underlying t,x with
 | some .string,.v (.string s)=>some (.v (.int .i64 s.size))
 | some (.slice _),.imm els _=>some (.v (.int .i64 els.length))
 | some (.slice _),.sl _ _ n _=>some (.v (.int .i64 n))
 | _,_=>none
 else none
def p5 (H:ay):A->Bool
 | .ptr b o=>fo H (.ptr b o)
 | .ep b i o=>fo H (.ep b i o)
 | .ip _=>true
 | .fn (.func _) _ _=>true
 | _=>false
def dF (a:A) (H:ay):Option A:=bif p5 H a then some a else none
def ku (d:Nat):Option A->Option Nat
 | none=>some d
 | some a=>idx a
def ef (P:Program) (t:TypeId) (x:A) (lo hi mx:Option A) (H:ay):Option A :=
 match P.underlying t,x with
 | some .string,.v (.string s)=>bif mx.isSome then none else
  (ku s.size hi).bind fun h=>(ku 0 lo).bind fun l=>bif decide (l<=h)&&decide (h<=s.size) then some (.v (.string (s.extract l h))) else none
 | some (.slice e),.imm els c=>(db P e).bind fun n=>(ku els.length hi).bind fun h=>(ku 0 lo).bind fun l =>
  bif decide (l<=h)&&decide (h<=els.length)&&(l==0 || match els[l]? with | some cs=>cs.length==n | none=>true) then match mx with
   | none=>some (.imm ((els.drop l).take (h - l)) (c&&h==els.length))
   | some m=>(idx m).bind fun m=>bif m==h then some (.imm ((els.drop l).take (h - l)) true) else none
  else none
 | some (.slice e),.sl b o n c=>(db P e).bind fun z=>(ku n hi).bind fun h=>(ku 0 lo).bind fun l =>
  bif decide (l<=h)&&decide (h<=n)&&(match H[b]? with | some (.row _ es _)=>es==z | _=>false) then match mx with
   | none=>some (.sl b (o+l) (h - l) (c&&h==n))
   | some m=>(idx m).bind fun m=>bif m==h then some (.sl b (o+l) (h - l) true) else none
  else none
 | some (.array n e),.ip cs=>(db P e).bind fun z=>(ku n hi).bind fun h=>(ku 0 lo).bind fun l =>
  bif decide (l<=h)&&decide (h<=n)&&decide (n*z<=cs.length)&&mx.isNone&&!Nat.beq z 0 then some (.imm (((chunk z n cs).drop l).take (h - l)) (Nat.beq h n)) else none
 | some (.array n e),.ep b k o=>(db P e).bind fun z=>(ku n hi).bind fun h=>(ku 0 lo).bind fun l =>
  bif decide (l<=h)&&decide (h<=n)&&mx.isNone&&Nat.beq o 0&&(match H[b]? with | some (.row true es els)=>Nat.beq es z&&decide (k+n<=els.length) | _=>false) then some (.sl b (k+l) (h - l) (Nat.beq h n)) else none
 | _,_=>none
def els? (H:ay):A->Option (List (List A))
 | .imm els _=>some els
 | .sl b o n _=>match H[b]? with
  | some (.row _ _ els)=>some ((els.drop o).take n)
  | _=>none
 | .v (.string s)=>some (s.data.toList.map fun c=>[.v (.int .u8 c.toNat)])
 | _=>none
def wz (H:ay):A->Option (List (List A))
 | .v _=>none
 | x=>els? H x
def eM:Nat:=140737488355328
def na (P:Program) (t:TypeId):Bool:=match P.underlying t with | some (.slice _) | some .string=>true | _=>false
def vp (P:Program) (t:TypeId):Bool:=match P.underlying t with | some (.int _)=>true | _=>false
def xH:A->A
 | .imm els _=>.imm els false
 | a=>a
def ym (P:Program) (H:ay) (t2:TypeId) (by_:Nat) (z:List A) (y:A):Option (List (List A)):=bif na P t2 then els? H y else match y with
 | .v (.int .i64 n)=>bif vp P t2&&decide (0<=n)&&decide (n*by_<=eM)&&decide (n<=eM) then some (List.replicate n.toNat (z.map xH)) else none
 | _=>none
def cK (P:Program) (t t2:TypeId) (wr:Bool) (x y:A) (H:ay) (lo:Nat):Option (A×ay) :=
 (mz P t).bind fun e=>(db P e).bind fun es=>(lO P e).bind fun by_=>(gT P e).bind fun z=>(ym P H t2 by_ z y).bind fun ys =>
 bif es==0 || by_==0 || !(z.length==es) || !(ys.all fun cs=>cs.length==es&&cs.all A.cell) then none else
 match x with
 | .imm xs true =>
  bif !decide ((xs.length+ys.length)*by_<=eM) then none else
  bif wr&&xs.isEmpty then some (.sl H.length 0 ys.length false,H++[.row true es ys]) else
  bif xs.all (fun cs=>cs.length==es&&cs.all A.cell) then some (.sl H.length 0 (xs.length+ys.length) false,H++[.row false es (xs++ys)]) else none
 | .sl b o n c=>match H[b]? with
  | some (.row false es' els) =>
   bif !decide ((n+ys.length)*by_<=eM) || !(es'==es) || !decide (o+n<=els.length) then none else
   bif c then some (.sl H.length 0 (n+ys.length) false,H++[.row false es ((els.drop o).take n++ys)]) else
   bif decide (lo<=b)&&o==0&&n==els.length then some (.sl b 0 (n+ys.length) false,H.set b (.row false es (els++ys))) else none
  | _=>none
 | _=>none
def gr (ck:Bool) (P:Program) (t:TypeId) (n c:A) (H:ay):Option (A×ay) :=
 (mz P t).bind fun e=>(db P e).bind fun es=>(lO P e).bind fun by_=>(gT P e).bind fun z=>(idx n).bind fun n=>(idx c).bind fun c =>
 bif es==0 || !(z.length==es) || !decide (c*by_<=eM) || !decide (c<=eM) || !decide (n<=c) then none else
 bif n==c then some (.sl H.length 0 n ck,H++[.row true es (List.replicate n (z.map xH))]) else
 bif n==0 then some (.sl H.length 0 0 false,H++[.row false es []]) else none
def gX (P:Program) (t:TypeId) (n c:A) (H:ay):Option (A×ay):=gr false P t n c H
def mJ (P:Program) (t:TypeId) (n c:A) (H:ay):Option (A×ay) :=
 (mz P t).bind fun e=>(db P e).bind fun es=>(lO P e).bind fun by_=>(gT P e).bind fun z=>(idx n).bind fun n=>(idx c).bind fun c =>
 bif es==0 || !(z.length==es) || !decide (c*by_<=eM) || !decide (c<=eM) || !(n==c) then none else some (.imm (List.replicate n (z.map xH)) false,H)
def ug (b:Bool) (P:Program) (t:TypeId) (n c:A) (H:ay):Option (A×ay):=bif b then mJ P t n c H else gX P t n c H
def tU (place:Nat->Option (Nat×Nat)) (cs:List A):List (Nat×A)->Option (List A)
 | []=>some cs
 | (i,x) :: r=>(place i).bind fun p=>x.cells?.bind fun xs=>bif xs.length==p.2&&decide (p.1+p.2<=cs.length) then tU place (bo cs p.1 xs) r else none
def Aj (P:Program) (t:TypeId):Option (Nat->Option (Nat×Nat)):=match P.underlying t with
 | some (.struct fs)=>(fs.toList.mapM fun f=>(P.info? f.type).map fun i=>(f.offset,i.size)).map fun places=>(places.toArray[·]?)
 | some (.array _ e)=>(P.info? e).map fun i=>fun j=>some (j*i.size,i.size)
 | _=>none
def bE (P:Program) (t:TypeId) (parts:List (Nat×A)):Option A :=
 (gT P t).bind fun z=>(Aj P t).bind fun place=>(tU place z parts).map .agg
def mi (els:List (List A)):List (Nat×A)->Option (List (List A))
 | []=>some els
 | (i,x) :: r=>x.cells?.bind fun xs=>mi (els.set i xs) r
def ba (P:Program) (t:TypeId) (len:Nat) (parts:List (Nat×A)):Option A :=
 (mz P t).bind fun e=>(db P e).bind fun es=>(gT P e).bind fun z=>bif es==0 || !(z.length==es) || !decide (len*es<=16777216) then none else
 bif parts.all (fun p=>decide (p.1<len)&&(match p.2.cells? with | some xs=>xs.length==es | none=>false)) then (mi (List.replicate len z) parts).map fun els=>.imm els true else none
def pG (P:Program) (t:TypeId) (len:Nat) (parts:List (Nat×A)) (H:ay):Option (A×ay) :=
 (mz P t).bind fun e=>(db P e).bind fun es=>(ba P t len parts).bind fun a=>match a with
  | .imm els true=>some (.sl H.length 0 els.length true,H++[.row true es els])
  | _=>none
def ql (P:Program) (t:TypeId) (x y:A) (H:ay) (lo:Nat):Option (A×ay) :=
 (mz P t).bind fun e=>(db P e).bind fun es=>(els? H y).bind fun ys=>bif es==0 || !(ys.all fun cs=>cs.length==es&&cs.all A.cell) then none else
 match x with
 | .sl b o n _=>match H[b]? with
  | some (.row true es' els)=>bif decide (lo<=b)&&es'==es then some (.v (.int .i64 (min ys.length n:Nat)),H.set b (.row true es (bo els o (ys.take n)))) else none
  | _=>none
 | _=>none
def bytesOf:List (List A)->Option (List UInt8)
 | []=>some []
 | [.v (.int .u8 n)] :: r=>(bytesOf r).map (n.toNat.toUInt8 :: ·)
 | _=>none
def cd (P:Program) (s d:TypeId) (x:A) (H:ay):Option A :=
 match P.underlying s,P.underlying d,x with
 | some (.slice e),some .string,x=>match P.underlying e,db P e with
  | some (.int .u8),some 1=>(wz H x).bind fun els=>(bytesOf els).map fun l=>.v (.string ⟨l.toArray⟩)
  | _,_=>none
 | some .string,some (.slice e),.v (.string s)=>match P.underlying e with
  | some (.int .u8)=>some (.imm (s.data.toList.map fun c=>[.v (.int .u8 c.toNat)]) false)
  | _=>none
 | _,_,x=>x.qd.bind fun a=>(dh P (convert s d a)).map yU
def B9 (P:Program) (t:TypeId) (x:A):Option A:=match P.underlying t with | some (.interface _)=>none | none=>none | some _=>some (.ifc t x)
def vD (P:Program) (t:TypeId) (c:Bool):Option A:=bif c then (P.info? t).bind fun i=>i.zero.map fun z=>.tup [yU z,.v (.bool false)] else none
def lK (P:Program) (x:A) (t:TypeId) (c:Bool):Option A:=match P.underlying t with
 | none=>none
 | some (.interface _)=>none
 | some _=>match x with
  | .ifc t' y=>bif Nat.beq t' t then some (bif c then .tup [y,.v (.bool true)] else y) else vD P t c
  | .v .nilIface=>vD P t c
  | _=>none
mutual
def cG (g:Nat->Nat->Nat->A):A->A
 | .sl b o m _=>g b o m
 | .imm els _=>.imm (dm g els) false
 | .agg cs=>.agg (aU g cs)
 | .tup cs=>.tup (aU g cs)
 | .ifc t x=>.ifc t (cG g x)
 | .mv k ks vs=>.mv k ks (aU g vs)
 | .v x=>.v x
 | .fn f [] []=>.fn f [] []
 | _=>.any
def aU (g:Nat->Nat->Nat->A):List A->List A
 | []=>[]
 | a :: as=>cG g a :: aU g as
def dm (g:Nat->Nat->Nat->A):List (List A)->List (List A)
 | []=>[]
 | a :: as=>aU g a :: dm g as
end
def gS:Nat->ay->Nat->Nat->Nat->A
 | 0,_,_,_,_=>.any
 | n+1,H,b,o,m=>match H[b]? with
  | some (.row false _ els)=>.imm (dm (gS n H) ((els.drop o).take m)) false
  | _=>.any
def snap (H:ay) (a:A):A:=cG (gS 4 H) a
def iZ:Nat->ay->Nat->Nat->Nat->A
 | 0,_,_,_,_=>.any
 | n+1,H,b,o,m=>match H[b]? with
  | some (.row _ _ els)=>.imm (dm (iZ n H) ((els.drop o).take m)) false
  | _=>.any
def aF (H:ay) (a:A):A:=match a with
 | .mr b=>match H[b]? with
  | some (.mp k ks vs)=>.mv k ks (aU (iZ 4 H) vs)
  | _=>.any
 | a=>cG (iZ 4 H) a
def tE (lo:Nat) (a:A) (H:ay):Option (A×ay):=match a with
 | .sl b o n _=>match H[b]? with
  | some (.row true _ els)=>bif decide (lo<=b) then some (.imm (dm (gS 4 H) ((els.drop o).take n)) false,H.set b .dead) else none
  | some (.row false _ els)=>some (.imm (dm (gS 4 H) ((els.drop o).take n)) false,H)
  | _=>none
 | .ptr b o=>match H[b]? with
  | some (.box cs)=>bif decide (lo<=b)&&Nat.beq o 0 then some (.ip cs,H.set b .dead) else none
  | _=>none
 | _=>none
def Ca (P:Program) (s t:TypeId) (x:A) (H:ay) (lo:Nat):Option (A×ay) :=
 match P.underlying s with
 | some (.slice e)=>match P.underlying e with
  | some (.int .u8)=>match x with
   | .sl b _ n _=>match H[b]? with
    | some (.row true _ _)=>bif Nat.beq s t&&decide (0<n) then tE lo x H else none
    | _=>none
   | _=>none
  | _=>none
 | _=>none
def A1 (H:ay) (a:A):A:=match a with | .sl b o n c=>snap H (.sl b o n c) | .imm els _=>.imm els false | a=>a
def dz (H:ay) (a:A):A:=match a with | .sl b o n c=>snap H (.sl b o n c) | .agg cs=>.agg (cs.map (A1 H)) | a=>a
def b9 (a:A) (H:ay) (x:A):A:=match a with | .ep ..=>dz H x | _=>x
mutual
def A.under (L:Nat):A->Bool
 | .any | .v _ | .nq _=>true
 | .ptr b _ | .ep b _ _ | .sl b _ _ _ | .yld b | .mr b=>decide (b<L)
 | .mv _ _ vs=>aZ L vs
 | .ip cs | .agg cs | .tup cs=>aZ L cs
 | .imm els _=>aG L els
 | .fn _ a b=>aZ L a&&aZ L b
 | .ifc _ x=>A.under L x
def aZ (L:Nat):List A->Bool
 | []=>true
 | a :: as=>A.under L a&&aZ L as
def aG (L:Nat):List (List A)->Bool
 | []=>true
 | a :: as=>aZ L a&&aG L as
end
def aD.under (L:Nat):aD->Bool
 | .box cs=>aZ L cs
 | .row _ _ els=>aG L els
 | .rng _=>true
 | .dead=>true
 | .hole=>true
 | .mp _ _ vs=>aZ L vs
def trim (L:Nat) (H:ay):Option ay:=bif H.length==L then some H else bif (H.take L).all (aD.under L) then some (H.take L) else none
def bW (cx:Cx) (s:St):Operand->A
 | .tmp t=>look s.fr t
 | .const x=>yU x
 | .global g=>match cx.glob g with | some vs=>.ip (vs.map .v) | none=>.any
 | .func f=>.fn (.func f) [] []
def ew {β:Type} (a:A) (x y:Option β):Option β:=match a with | .v (.bool b)=>bif b then x else y | _=>none
noncomputable def both {β:Type} (x y:Option β):Option β:=open Classical in if x=y then y else none
noncomputable def HL {β:Type} (els:List (List A)) (x y:Option β):Option β:=match els with | []=>both x y | _ :: _=>y
noncomputable def bD {β:Type} (a:A) (x y:Option β):Option β:=match a with | .nq els=>HL els x y | a=>ew a x y
def KX (P:Program) (t:TypeId) (x:A):Option A:=match P.underlying t,x with | some (.slice _),.imm els _=>some (.nq els) | _,_=>none
def GG (op:BinOp) (y:Operand):Bool:=match op,y with | .eql,.const (.slice none 0 0)=>true | _,_=>false
def HM (b:Bool) (P:Program) (op:BinOp) (t:TypeId) (c d:Bool) (x y:A):Option A:=bif b then KX P t x else lL P op t c d x y
abbrev aS:=Nat->List A->ay->Nat->Option R
def oY {β:Type} (cx:Cx) (f lo:Nat) (dst:Option Nat) (c:Call) (s:St) (k:A->ay->Option β):Option β :=
 match c.callee,c.args.toList,c.argTypes.toList with
 | .builtin .len,[x],[t]=>(bM cx.P t (bW cx s x) s.H).bind fun a=>k a s.H
 | .builtin .append,[x,y],[t,t2]=>(cK cx.P t t2 (cx.wrAt f (dst.getD 0)) (bW cx s x) (bW cx s y) s.H lo).bind fun r=>k r.1 r.2
 | .builtin .copy,[x,y],[t,_]=>(ql cx.P t (bW cx s x) (bW cx s y) s.H lo).bind fun r=>k r.1 r.2
 | .builtin .min,x :: r,_=>(Gb true (bW cx s x) (r.map (bW cx s))).bind fun a=>k a s.H
 | .builtin .max,x :: r,_=>(Gb false (bW cx s x) (r.map (bW cx s))).bind fun a=>k a s.H
 | _,_,_=>none
def bF {β:Type} (cx:Cx) (f:Nat) (lo:Nat) (o:Oper) (s:St) (k:A->ay->Option β):Option β :=
 match o.op with
 | .move x | .assign x=>k (bW cx s x) s.H
 | .alloc t=>(n0 (cx.arr f t) cx.P t s.H).bind fun r=>k r.1 r.2
 | .box t x=>(yd (cx.arr f t) cx.P t (bW cx s x) s.H).bind fun r=>k r.1 r.2
 | .build t parts=>(bE cx.P t (parts.toList.map fun p=>(p.1,bW cx s p.2))).bind fun a=>k a s.H
 | .buildSlice t n parts=>(ba cx.P t n (parts.toList.map fun p=>(p.1,dz s.H (bW cx s p.2)))).bind fun a=>k a s.H
 | .load t a=>(nQ cx.P t (bW cx s a) s.H).bind fun a=>k a s.H
 | .store t a x=>(kf cx.P t (bW cx s a) (b9 (bW cx s a) s.H (bW cx s x)) s.H lo).bind fun H=>k .any H
 | .binOp op t x y _=>(HM (GG op y) cx.P op t (Hm x) (Hm y) (bW cx s x) (bW cx s y)).bind fun a=>k a s.H
 | .unOp op _ x=>(jS cx.P op (bW cx s x)).bind fun a=>k a s.H
 | .convert a b x=>(cd cx.P a b (bW cx s x) s.H).bind fun a=>k a s.H
 | .makeInterface t x=>(B9 cx.P t (bW cx s x)).bind fun a=>k a s.H
 | .makeFunc fn a b=>k (.fn fn (a.toList.map (bW cx s)) (b.toList.map (bW cx s))) s.H
 | .makeSlice t n c=>(ug (cx.loud f (o.dst.getD 0)) cx.P t (bW cx s n) (bW cx s c) s.H).bind fun r=>k r.1 r.2
 | .slice t x lo hi mx=>(bif mx.isNone || hi.isSome then ef cx.P t (bW cx s x) (lo.map (bW cx s)) (hi.map (bW cx s)) (mx.map (bW cx s)) s.H else none).bind fun a=>k a s.H
 | .fieldAddr t x i=>(fy cx.P t (bW cx s x) i s.H).bind fun a=>k a s.H
 | .field t x i=>(xX cx.P t (bW cx s x) i).bind fun a=>k a s.H
 | .indexAddr t x i=>(ax cx.P t (bW cx s x) (bW cx s i) s.H).bind fun a=>k a s.H
 | .index t x i=>(uM cx.P t (bW cx s x) (bW cx s i)).bind fun a=>k a s.H
 | .extract x i=>(aI (bW cx s x) i).bind fun a=>k a s.H
 | .nilCheck x=>(dF (bW cx s x) s.H).bind fun a=>k a s.H
 | .makeMap t none=>(oK cx.P t s.H).bind fun r=>k r.1 r.2
 | .insert t m i x=>(gF cx.P t (bW cx s m) (bW cx s i) (bW cx s x) s.H lo).bind fun H=>k .any H
 | .mapUpdate t m i x=>(gF cx.P t (bW cx s m) (bW cx s i) (bW cx s x) s.H lo).bind fun H=>k .any H
 | .lookup t m i c=>(fY cx.P t (bW cx s m) (bW cx s i) c s.H).bind fun a=>k a s.H
 | .typeAssert x _ t c=>(lK cx.P (bW cx s x) t c).bind fun a=>k a s.H
 | .call c=>oY cx f lo o.dst c s k
 | _=>none
def cW (P:Program) (k:Nat):Bool:=match P.funcs[k]? with | some fn=>fn.body.isSome&&!(fn.name == "runtime.NumGoroutine") | none=>false
def callee? (cx:Cx) (s:St):Op->Option (Nat×List A)
 | .call c=>match c.callee with
  | .value g=>match bW cx s g with
   | .fn (.func k) first cap=>bif cW cx.P k then some (k,first++c.args.toList.map (bW cx s)++cap) else none
   | _=>none
  | _=>none
 | _=>none
def yldOf? (cx:Cx) (s:St):Op->Option (Nat×List A)
 | .call c=>match c.callee with
  | .value g=>match bW cx s g with
   | .yld b=>some (b,c.args.toList.map (bW cx s))
   | _=>none
  | _=>none
 | _=>none
def w9 (H:ay) (b:Nat):Bool:=match H[b]? with | some (.rng _)=>true | _=>false
def FQ {α β:Type} (x:Option α) (k:α->Option β) (e:Option β):Option β:=match x with | some a=>k a | none=>e
def g8:Op->Bool
 | .call c=>match c.callee with | .value _=>true | _=>false
 | _=>false
def bJ (x:Out) (k:A->Option R) (pan:A->Option R):Option R:=match x with | .ret a=>k a | .pan a=>pan a
def nd (L:Nat) (r:R):Option A:=match r.1 with
 | .ret a=>bif A.under L a then some a else none
 | .pan _=>none
def iH (cx:Cx) (s:St):Op->A
 | .call c=>match c.callee with | .value g=>bW cx s g | _=>.any
 | _=>.any
def eR (cx:Cx) (s:St):Op->List A
 | .call c=>c.args.toList.map (bW cx s)
 | _=>[]
def dA (cx:Cx) (call:aS) (fv:A) (args:List A) (H:ay) (lo:Nat) (k:A->ay->Option R) (pan:A->ay->Option R):Option R :=
 match fv with
 | .yld b=>bif w9 H b then (call (cx.P.funcs.size+b) args H lo).bind fun r=>bJ r.1 (fun a=>k a r.2) (fun _=>none) else none
 | .fn (.func q) first cap=>bif cW cx.P q then
   bif cx.isOrc q then (cx.C q ((first++args++cap).map (snap H))).bind fun a=>k a H
   else (call q (first++args++cap) H lo).bind fun r=>bJ r.1 (fun a=>k a r.2) (fun a=>pan a r.2)
  else none
 | _=>none
theorem rk {cx:Cx} {call:aS} {s:St} {op:Op} {lo:Nat} {k:A->ay->Option R} {pan:A->ay->Option R}:dA cx call (iH cx s op) (eR cx s op) s.H lo k pan =
   FQ (yldOf? cx s op) (fun p=>bif w9 s.H p.1 then (call (cx.P.funcs.size+p.1) p.2 s.H lo).bind fun r=>bJ r.1 (fun a=>k a r.2) (fun _=>none) else none)
   ((callee? cx s op).bind fun p=>bif cx.isOrc p.1 then (cx.C p.1 (p.2.map (snap s.H))).bind fun a=>k a s.H
    else (call p.1 p.2 s.H lo).bind fun r=>bJ r.1 (fun a=>k a r.2) (fun a=>pan a r.2)):=by
 cases op with
 | call c =>
  cases hc:c.callee with
  | value g =>
   cases hf:bW cx s g with
   | fn f first cap=>cases f with
    | func q =>
     simp only[dA,iH,eR,yldOf?,callee?,FQ,hc,hf]
     cases cW cx.P q<;>rfl
    | _=>simp only[dA,iH,eR,yldOf?,callee?,FQ,hc,hf]; rfl
   | yld b=>simp only[dA,iH,eR,yldOf?,callee?,FQ,hc,hf]
   | _=>simp only[dA,iH,eR,yldOf?,callee?,FQ,hc,hf]; rfl
  | _=>simp only[dA,iH,eR,yldOf?,callee?,FQ,hc]; rfl
 | _=>rfl
def qA {β:Type} (cx:Cx) (call:aS) (fv:A) (args:List A) (H:ay) (k:A->Option β):Option β :=
 match fv with
 | .fn (.func q) first cap=>bif cW cx.P q then
   bif cx.isOrcV q then (cx.C q ((first++args++cap).map (snap H))).bind k
   else ((call q (first++args++cap) H H.length).bind fun r=>nd H.length r).bind k
  else none
 | _=>none
def Ba {β:Type} (x:A) (k:A->Option β):Option β:=match x with | .ifc t y=>k (.ifc t y) | _=>none
def rn (cx:Cx) (call:aS) (f lo:Nat) (o:Oper) (s:St) (k:St->Option R) (pan:A->St->Option R):Option R :=
 match o.op with
 | .pick c a b=>(ew (bW cx s c) (some (bW cx s a)) (some (bW cx s b))).bind fun x=>k (s.put o.dst x)
 | .panic x=>Ba (bW cx s x) fun a=>pan a s
 | .buildSlice t n parts=>bif cx.wrAt f (o.dst.getD 0) then (pG cx.P t n (parts.toList.map fun p=>(p.1,dz s.H (bW cx s p.2))) s.H).bind fun r=>k ({ s with H:=r.2 }.put o.dst r.1) else bF cx f lo o s fun a H=>k ({ s with H:=H }.put o.dst a)
 | .makeSlice t n c=>bif cx.wrAt f (o.dst.getD 0) then (gr true cx.P t (bW cx s n) (bW cx s c) s.H).bind fun r=>k ({ s with H:=r.2 }.put o.dst r.1) else bF cx f lo o s fun a H=>k ({ s with H:=H }.put o.dst a)
 | .convert t t' x=>bif Nat.beq t t' then (Ca cx.P t t' (bW cx s x) s.H lo).bind fun r=>k ({ s with H:=r.2 }.put o.dst r.1) else bF cx f lo o s fun a H=>k ({ s with H:=H }.put o.dst a)
 | .call _=>bif g8 o.op then
   dA cx call (iH cx s o.op) (eR cx s o.op) s.H lo (fun a H=>k ({ s with H:=H }.put o.dst a)) (fun a H=>pan a { s with H:=H })
  else bF cx f lo o s fun a H=>k ({ s with H:=H }.put o.dst a)
 | _=>bF cx f lo o s fun a H=>k ({ s with H:=H }.put o.dst a)
def bT (ops:Array Oper) (o:Oper):Option (Nat×Bool):=match o.guard with
 | some (j,want)=>match ops[j]? with
  | some q=>match q.dst with
   | some t=>some (t,want)
   | none=>none
  | none=>none
 | none=>none
theorem je (ops:Array Oper) (o:Oper):bT ops o=match o.guard with | some (j,want)=>((ops[j]?).bind (·.dst)).map (·,want) | none=>none:=by
 unfold bT
 split
 ·rename_i j want h
  cases ops[j]? with
  | none=>rfl
  | some q=>show _=(Option.bind (some q) (·.dst)).map _; cases h:q.dst<;>simp[h]
 ·rfl
def ky {β:Type} (g:A) (want:Bool) (run skip:Option β):Option β:=match g with
 | .v (.bool b)=>bif b then bif want then run else skip else bif want then skip else run
 | .v (.tuple _)=>skip
 | _=>none
theorem uX {β:Type} {cx:Cx} {call:aS} {s:St} {op:Op} {k:A->Option β}:qA cx call (iH cx s op) (eR cx s op) s.H k =
   ((callee? cx s op).bind fun p=>bif cx.isOrcV p.1 then cx.C p.1 (p.2.map (snap s.H))
    else (call p.1 p.2 s.H s.H.length).bind fun r=>nd s.H.length r).bind k:=by
 cases op with
 | call c =>
  cases hc:c.callee with
  | value g =>
   cases hf:bW cx s g with
   | fn f first cap=>cases f with
    | func q =>
     simp only[qA,iH,eR,callee?,hc,hf]
     cases cW cx.P q with
     | false=>rfl
     | true =>
      simp only[cond_true,Option.bind_some]
      cases cx.isOrcV q<;>rfl
    | _=>simp only[qA,iH,eR,callee?,hc,hf]; rfl
   | _=>simp only[qA,iH,eR,callee?,hc,hf]; rfl
  | _=>simp only[qA,iH,eR,callee?,hc]; rfl
 | _=>rfl
def gv (cx:Cx) (call:aS) (f:Nat) (o:Oper) (s:St):Option A :=
 match o.op with
 | .pick c a b=>ew (bW cx s c) (some (bW cx s a)) (some (bW cx s b))
 | .alloc _ | .box .. | .store .. | .makeSlice .. | .panic _ | .makeMap .. | .insert .. | .mapUpdate ..=>none
 | .call c=>bif g8 o.op then
   qA cx call (iH cx s o.op) (eR cx s o.op) s.H some
  else match c.callee with
   | .builtin .len=>bF cx f 0 o s fun a _=>some a
   | _=>none
 | _=>bF cx f 0 o s fun a _=>some a
def rz {β:Type} (cx:Cx) (call:aS) (f:Nat) (o:Oper) (s:St) (k:A->Option β):Option β :=
 match o.op with
 | .pick c a b=>(ew (bW cx s c) (some (bW cx s a)) (some (bW cx s b))).bind k
 | .alloc _ | .box .. | .store .. | .makeSlice .. | .panic _ | .makeMap .. | .insert .. | .mapUpdate ..=>none
 | .call c=>bif g8 o.op then
   qA cx call (iH cx s o.op) (eR cx s o.op) s.H k
  else match c.callee with
   | .builtin .len=>bF cx f 0 o s fun a _=>k a
   | _=>none
 | _=>bF cx f 0 o s fun a _=>k a
def quiet (cx:Cx) (f:Nat) (o:Oper):Bool :=
 match o.op with
 | .alloc _ | .box .. | .store .. | .makeSlice .. | .panic _ | .makeMap .. | .insert .. | .mapUpdate ..=>false
 | .call c=>match c.callee with
  | .value (.func k)=>cx.isOrc k
  | .value _=>match o.dst with | some d=>!cx.loud f d | none=>true
  | .builtin .len=>true
  | _=>false
 | _=>true
def jR {β:Type} (l:List A) (k:A->List A->Option β):Option β:=match l with | a :: r=>k a r | []=>none
def E3 {β:Type}:List Nat->List A->(List (Nat×A)->Option β)->Option β
 | [],_,k=>k []
 | d :: ds,l,k=>jR l fun a r=>E3 ds r fun fr=>k ((d,a) :: fr)
def iX (t:Nat):List Nat->Bool
 | []=>false
 | x :: l=>bif Nat.beq x t then true else iX t l
def ki (o:Oper):List Nat:=match o.dst with | some d=>[d] | none=>[]
def rQ (ops:Array Oper) (g:Nat) (w:Bool) (ds:List Nat) (o:Oper):Bool :=
 match o.guard with
 | none=>false
 | some _=>match bT ops o with
  | none=>false
  | some (t,w')=>bif iX g (ki o) then false else bif Nat.beq t g then (bif w then w' else !w') else iX t ds
def bP (ops:Array Oper) (g:Nat) (w:Bool):List Nat->List Oper->List Oper×List Oper
 | _,[]=>([],[])
 | ds,o :: os=>bif rQ ops g w ds o then (o :: (bP ops g w (ki o++ds) os).1,(bP ops g w (ki o++ds) os).2) else ([],o :: os)
def gQ:List Oper->List Nat
 | []=>[]
 | o :: os=>gQ os++ki o
def oM (cx:Cx) (f:Nat):List Oper->Bool
 | []=>true
 | o :: os=>bif quiet cx f o then oM cx f os else false
def su (ops:Array Oper) (asm:Option (Nat×Bool)) (o:Oper):Bool :=
 match o.guard with
 | none=>true
 | some _=>match asm,bT ops o with
  | some (g,w),some (t,w')=>bif Nat.beq t g then (bif w then w' else !w') else false
  | _,_=>false
def u1 (ops:Array Oper) (asm:Option (Nat×Bool)) (g:Nat):List Oper->Option (Nat×Operand×Operand)
 | o :: _=>bif su ops asm o then (match o.op,o.dst with
  | .pick (.tmp t) a b,some d=>bif Nat.beq t g then some (d,a,b) else none
  | _,_=>none) else none
 | []=>none
def yk (d:Option Nat) (x:A) (dl:List (Nat×A)):List (Nat×A):=match d with | some d=>(d,x) :: dl | none=>dl
def ez (dl:List (Nat×A)) (s:St):St:=⟨dl++s.fr,s.H⟩
def qe (ds:List Nat):List (Nat×A):=ds.map fun d=>(d,.v undef)
def wM (cx:Cx) (fin:Option (Nat×Operand)) (dl:List (Nat×A)) (s:St):List (Nat×A):=match fin with | some (d,x)=>(d,bW cx (ez dl s) x) :: dl | none=>dl
def IE {β:Type} (ops:Array Oper) (asm:Option (Nat×Bool)) (g:Nat) (w:Bool) (os:List Oper) (s:St) (vals:Option (Nat×Operand)->List Oper->Option (List A)) (ud:Option (Nat×Operand)->List Oper->Option (List A)) (k:List Oper->List (Nat×A)->Option β):Option β :=
 match u1 ops asm g (bP ops g w [] os).2 with
 | some (d,a,b)=>(ew (look s.fr g) (bif w then vals (some (d,a)) (bP ops g w [] os).1 else ud (some (d,a)) (bP ops g w [] os).1) (bif w then ud (some (d,b)) (bP ops g w [] os).1 else vals (some (d,b)) (bP ops g w [] os).1)).bind fun l =>
   E3 (d :: gQ (bP ops g w [] os).1) l fun fr=>k (bP ops g w [] os).2.tail fr
 | none=>(ky (look s.fr g) w (vals none (bP ops g w [] os).1) (ud none (bP ops g w [] os).1)).bind fun l =>
   E3 (gQ (bP ops g w [] os).1) l fun fr=>k (bP ops g w [] os).2 fr
def Kl (cx:Cx) (s:St) (fin:Option (Nat×Operand)) (run:List Oper):Option (List A):=some ((wM cx fin (qe (gQ run)) s).map (·.2))
def n7 (cx:Cx) (call:aS) (f:Nat) (ops:Array Oper):Nat->Option (Nat×Bool)->Option (Nat×Operand)->List Oper->List (Nat×A)->St->Option (List A)
 | 0,_,_,_,_,_=>none
 | _+1,_,fin,[],dl,s=>some ((wM cx fin dl s).map (·.2))
 | q+1,asm,fin,o :: os,dl,s=>bif su ops asm o then rz cx call f o (ez dl s) fun x=>n7 cx call f ops q asm fin os (yk o.dst x dl) s
  else match bT ops o with
   | none=>none
   | some (t,w)=>bif rQ ops t w [] o then IE ops asm t w (o :: os) (ez dl s) (fun fin' run=>n7 cx call f ops q (some (t,w)) fin' run [] (ez dl s)) (Kl cx (ez dl s)) (fun rest fr=>n7 cx call f ops q asm fin rest (fr++dl) s) else none
def fA (cx:Cx) (call:aS) (f lo:Nat) (ops:Array Oper):List Oper->St->(E->St->Option R)->Option R
 | [],s,k=>k .normal s
 | o :: os,s,k=>match o.guard with
  | none=>rn cx call f lo o s (fun s=>fA cx call f lo ops os s k) (fun a s=>k (.pan a) s)
  | some _=>match bT ops o with
   | none=>none
   | some (g,want)=>bif quiet cx f o then (ky (look s.fr g) want (gv cx call f o s) (some (.v undef))).bind fun x=>fA cx call f lo ops os (s.put o.dst x) k
    else ky (look s.fr g) want (rn cx call f lo o s (fun s=>fA cx call f lo ops os s k) (fun a s=>k (.pan a) s)) (fA cx call f lo ops os (s.put o.dst (.v undef)) k)
def gj (cx:Cx) (call:aS) (f lo:Nat) (ops:Array Oper):Nat->List Oper->St->(E->St->Option R)->Option R
 | 0,_,_,_=>none
 | _+1,[],s,k=>k .normal s
 | q+1,o :: os,s,k=>match o.guard with
  | none=>rn cx call f lo o s (fun s=>gj cx call f lo ops q os s k) (fun a s=>k (.pan a) s)
  | some _=>match bT ops o with
   | none=>none
   | some (t,w)=>bif rQ ops t w [] o&&oM cx f (bP ops t w [] (o :: os)).1 then
     IE ops none t w (o :: os) s (fun fin run=>n7 cx call f ops q (some (t,w)) fin run [] s) (Kl cx s) (fun rest fr=>gj cx call f lo ops q rest (ez fr s) k)
    else bif quiet cx f o then (ky (look s.fr t) w (gv cx call f o s) (some (.v undef))).bind fun x=>gj cx call f lo ops q os (s.put o.dst x) k
    else ky (look s.fr t) w (rn cx call f lo o s (fun s=>gj cx call f lo ops q os s k) (fun a s=>k (.pan a) s)) (gj cx call f lo ops q os (s.put o.dst (.v undef)) k)
def ja (cx:Cx) (call:aS) (f:Nat) (ops:Array Oper):List Oper->St->(St->Option R)->Option R
 | [],s,k=>k s
 | o :: os,s,k=>match o.guard with
  | none=>(gv cx call f o s).bind fun x=>ja cx call f ops os (s.put o.dst x) k
  | some _=>match bT ops o with
   | none=>none
   | some (g,want)=>(ky (look s.fr g) want (gv cx call f o s) (some (.v undef))).bind fun x=>ja cx call f ops os (s.put o.dst x) k
def pT (cx:Cx) (call:aS) (f:Nat) (ops:Array Oper):Nat->List Oper->St->(St->Option R)->Option R
 | 0,_,_,_=>none
 | _+1,[],s,k=>k s
 | q+1,o :: os,s,k=>match o.guard with
  | none=>rz cx call f o s fun x=>pT cx call f ops q os (s.put o.dst x) k
  | some _=>match bT ops o with
   | none=>none
   | some (t,w)=>bif rQ ops t w [] o then
     IE ops none t w (o :: os) s (fun fin run=>n7 cx call f ops q (some (t,w)) fin run [] s) (Kl cx s) (fun rest fr=>pT cx call f ops q rest (ez fr s) k)
    else none
def dP (o:Oper):Bool:=match o.op with
 | .store .. | .alloc _ | .box .. | .makeSlice ..=>true
 | .call c=>match c.callee with | .builtin .append | .builtin .copy=>true | _=>false
 | _=>false
def dx (ops:Array Oper) (i:Nat):Bool:=match ops[i]? with | some o=>dP o | none=>false
def blk?:A->Option Nat
 | .ptr b _ | .ep b _ _ | .sl b _ _ _ | .mr b=>some b
 | _=>none
def apart (a e:A):Bool:=match blk? a with
 | none=>true
 | some b=>match blk? e with | some c=>!Nat.beq b c | none=>true
def dv (cx:Cx) (s:St):Op->A
 | .store _ a _=>bW cx s a
 | .call c=>match c.args.toList with | x :: _=>bW cx s x | []=>.any
 | _=>.any
def addrOf (cx:Cx) (s:St):Op->A
 | .load _ a=>bW cx s a
 | .fieldAddr _ x _=>bW cx s x
 | .indexAddr _ x _=>bW cx s x
 | .slice _ x _ _ _=>bW cx s x
 | .nilCheck x=>bW cx s x
 | .convert _ _ x=>bW cx s x
 | .lookup _ x _ _=>bW cx s x
 | .call c=>match c.args.toList with | x :: _=>bW cx s x | []=>.any
 | _=>.any
def bG (o:Oper):Nat:=match o.op with
 | .pick .. | .move _ | .assign _ | .extract .. | .field .. | .unOp .. | .binOp .. | .index .. | .build .. | .makeFunc .. | .makeInterface .. | .typeAssert ..=>0
 | .load .. | .fieldAddr .. | .indexAddr .. | .slice .. | .nilCheck ..=>1
 | .convert .. | .lookup ..=>1
 | .call c=>match c.callee with | .builtin .len=>1 | .value (.func _)=>4 | _=>3
 | .buildSlice ..=>2
 | _=>3
def ye (o:Oper):Bool:=match o.op with
 | .store .. | .alloc _ | .box ..=>true
 | .call c=>match c.callee with | .builtin .copy=>true | _=>false
 | _=>false
def uS (ops:Array Oper) (i:Nat):Bool:=match ops[i]? with | some o=>ye o | none=>false
def uo (cx:Cx) (o:Oper):Bool:=match o.op with
 | .call c=>match c.callee with | .value (.func q)=>cW cx.P q&&cx.isOrcV q | _=>false
 | _=>false
def FB:A->Bool
 | .sl ..=>false
 | _=>true
def mA:A->Bool
 | .sl ..=>false
 | .agg cs=>cs.all FB
 | _=>true
def partsOf (cx:Cx) (s:St):Op->List A
 | .buildSlice _ _ parts=>parts.toList.map fun p=>bW cx s p.2
 | _=>[]
def pe:List A->Bool
 | []=>true
 | a :: l=>bif mA a then pe l else false
def kH (ops:Array Oper) (i:Nat) (a:A):List (Nat×A)->Bool
 | []=>true
 | p :: l=>bif fp ops i p.1 || fp ops p.1 i then kH ops i a l else bif apart a p.2 then kH ops i a l else false
def ka (ops:Array Oper) (i:Nat) (e:A):List (Nat×A)->Bool
 | []=>true
 | p :: l=>bif fp ops i p.1 || fp ops p.1 i then ka ops i e l else bif apart p.2 e then ka ops i e l else false
def uU (ops:Array Oper) (m:Nat):Bool:=(List.range m).all fun i=>(List.range m).all fun j=>!(dx ops i&&dx ops j&&decide (i<j)) || fp ops j i
def CF (ops:Array Oper) (m:Nat):Bool:=(List.range m).any (dx ops)
def Fs (ops:Array Oper) (m i:Nat):Bool:=(List.range m).all fun e=>!dx ops e || uS ops e || e==i || fp ops i e || fp ops e i
def vi (cx:Cx) (f:Nat) (o:Oper):Option TypeId:=match o.op with
 | .alloc t=>bif cx.arr f t then none else some t
 | _=>none
def rT (cx:Cx) (f:Nat) (ops:Array Oper) (i:Nat):Bool:=match ops[i]? with | some o=>(vi cx f o).isSome | none=>false
def ri (cx:Cx) (f:Nat) (ops:Array Oper) (m:Nat):Bool:=(List.range m).all fun i=>(List.range m).all fun j=>!(dx ops i&&dx ops j&&decide (i<j)&&!rT cx f ops i&&!rT cx f ops j) || fp ops j i
def cX (i:Nat):List (Nat×A)->Option A
 | []=>none
 | p :: l=>bif Nat.beq p.1 i then some p.2 else cX i l
def ahead {β:Type} (cx:Cx) (f:Nat):Nat->List Oper->ay->(List (Nat×A)->ay->Option β)->Option β
 | _,[],H,k=>k [] H
 | i,o :: os,H,k=>match vi cx f o with
  | some t=>(lJ cx.P t H).bind fun r=>ahead cx f (i+1) os r.2 fun fl H=>k ((i,r.1) :: fl) H
  | none=>ahead cx f (i+1) os H k
def ji (fl:List (Nat×A)) (ops:Array Oper) (m i:Nat):Bool:=(List.range m).all fun e=>!dx ops e || (cX e fl).isSome || e==i || fp ops i e || fp ops e i
def om (cx:Cx) (o:Oper):Bool:=Nat.beq (bG o) 0 || Nat.beq (bG o) 1 || Nat.beq (bG o) 2 || (Nat.beq (bG o) 4&&uo cx o)
def wN (ops:Array Oper) (i:Nat):List (Nat×A)->Bool
 | []=>true
 | p :: l=>bif fp ops i p.1 then wN ops i l else false
def Eu (cx:Cx) (s:St) (o:Oper):Bool:=match o.op with
 | .call c=>bif g8 (.call c) then match iH cx s (.call c) with | .fn (.func q) _ _=>cW cx.P q&&cx.isOrcV q | _=>false else false
 | _=>false
def rq (cx:Cx) (call:aS) (f lo:Nat) (ops:Array Oper) (m:Nat) (fl:List (Nat×A)) (i:Nat) (o:Oper) (effs seen:List (Nat×A)) (s:St) (rec:List (Nat×A)->List (Nat×A)->St->Option R):Option R :=
 match cX i fl with
 | some a=>rec effs seen (s.put o.dst a)
 | none=>bif dP o then bif ka ops i (dv cx s o.op) seen then bF cx f lo o s fun a H=>rec ((i,dv cx s o.op) :: effs) seen ({ s with H:=H }.put o.dst a) else none
  else bif ji fl ops m i&&(om cx o || wN ops i fl || Eu cx s o) then rz cx call f o s fun x=>rec effs seen (s.put o.dst x)
  else bif Nat.beq (bG o) 0 then rz cx call f o s fun x=>rec effs seen (s.put o.dst x)
  else bif Nat.beq (bG o) 1 then bif kH ops i (addrOf cx s o.op) effs then rz cx call f o s fun x=>rec effs ((i,addrOf cx s o.op) :: seen) (s.put o.dst x) else none
  else bif (Nat.beq (bG o) 2 || (Nat.beq (bG o) 4&&uo cx o))&&Fs ops m i then rz cx call f o s fun x=>rec effs seen (s.put o.dst x)
  else bif Nat.beq (bG o) 2 then bif pe (partsOf cx s o.op) then rz cx call f o s fun x=>rec effs seen (s.put o.dst x) else none
  else none
def vd (cx:Cx) (ops:Array Oper) (m:Nat) (fl:List (Nat×A)) (i:Nat) (o:Oper) (effs seen:List (Nat×A)) (s:St) (rec:List (Nat×A)->List (Nat×A)->St->Option R):Option R :=
 bif dP o then bif ka ops i (dv cx s o.op) seen then rec ((i,dv cx s o.op) :: effs) seen (s.put o.dst (.v undef)) else none
 else bif Nat.beq (bG o) 1 then bif ji fl ops m i then rec effs seen (s.put o.dst (.v undef)) else bif kH ops i (addrOf cx s o.op) effs then rec effs ((i,addrOf cx s o.op) :: seen) (s.put o.dst (.v undef)) else none
 else rec effs seen (s.put o.dst (.v undef))
def fC (cx:Cx) (call:aS) (f lo:Nat) (ops:Array Oper) (m:Nat) (fl:List (Nat×A)):Nat->List Oper->List (Nat×A)->List (Nat×A)->St->(St->Option R)->Option R
 | _,[],_,_,s,k=>k s
 | i,o :: os,effs,seen,s,k=>match o.guard with
  | some _=>match bT ops o with
   | none=>none
   | some (t,w)=>bif Nat.beq (bG o) 0&&!dP o&&(cX i fl).isNone then (ky (look s.fr t) w (gv cx call f o s) (some (.v undef))).bind fun x=>fC cx call f lo ops m fl (i+1) os effs seen (s.put o.dst x) k
    else bif (cX i fl).isNone then ew (look s.fr t)
     (bif w then rq cx call f lo ops m fl i o effs seen (s.put (some t) (.v (.bool true))) (fun effs seen s=>fC cx call f lo ops m fl (i+1) os effs seen s k) else vd cx ops m fl i o effs seen (s.put (some t) (.v (.bool true))) (fun effs seen s=>fC cx call f lo ops m fl (i+1) os effs seen s k))
     (bif w then vd cx ops m fl i o effs seen (s.put (some t) (.v (.bool false))) (fun effs seen s=>fC cx call f lo ops m fl (i+1) os effs seen s k) else rq cx call f lo ops m fl i o effs seen (s.put (some t) (.v (.bool false))) (fun effs seen s=>fC cx call f lo ops m fl (i+1) os effs seen s k))
    else none
  | none=>rq cx call f lo ops m fl i o effs seen s fun effs seen s=>fC cx call f lo ops m fl (i+1) os effs seen s k
def vm:Op->Bool
 | .alloc _ | .box .. | .store .. | .makeSlice .. | .call _ | .makeMap .. | .insert .. | .mapUpdate ..=>true
 | _=>false
def qc (ops:Array Oper):Option Nat:=(List.range (ops.size+1)).find? (fm ops)
def zF (ops:Array Oper) (N:Nat):Bool:=ops.toList.all fun o=>match o.dst with | some d=>decide (d<N) | none=>true
def vo (cx:Cx) (o:Oper):Bool:=match o.op with
 | .call c=>match c.callee with | .value (.func q)=>cW cx.P q&&!cx.isOrc q&&(!Nat.beq (cx.cut q) 0 || cx.fre q) | _=>false
 | _=>false
def D5 (cx:Cx) (o:Oper):Nat:=match o.op with
 | .call c=>match c.callee with | .value (.func q)=>cx.cut q | _=>0
 | _=>0
def DD (cx:Cx) (o:Oper) (lo:Nat) (H:ay):Nat:=match o.op with
 | .call c=>match c.callee with | .value (.func q)=>bif cx.fre q then H.length else lo | _=>lo
 | _=>lo
def Cj (cx:Cx):Nat->List Oper->Option Nat
 | _,[]=>none
 | i,o :: os=>bif vo cx o then some i else Cj cx (i+1) os
def Jn (ops:Array Oper) (c m:Nat):List Nat:=(List.range m).filter fun i=>fp ops c i&&(dx ops i || (List.range m).any fun e=>dx ops e&&fp ops i e)
def pP (ops:Array Oper) (c m:Nat):List Nat:=Jn ops c m++c :: (List.range m).filter fun i=>fp ops i c
def Aq (ops:Array Oper) (c m:Nat):List Nat:=(List.range m).filter fun i=>(pP ops c m).all fun j=>!Nat.beq i j
def uV (ops:Array Oper):List Nat->List Nat->Bool
 | _,[]=>true
 | ps,i :: is=>bif ps.all (fun p=>fp ops i p) then uV ops (i :: ps) is else false
def HR (ops:Array Oper) (L T:List Nat):Bool:=L.all fun i=>T.all fun j=>!fp ops i j
def tg (o:Oper):Bool:=match o.guard with | none=>true | some _=>false
def Ny (o:Oper):Bool:=tg o&&(Nat.beq (bG o) 0 || Nat.beq (bG o) 1 || Nat.beq (bG o) 2)
def NA (o:Oper):Bool:=tg o&&(dP o || !vm o.op)&&!g8 o.op
def Kj (cx:Cx) (call:aS) (f:Nat) (ops:Array Oper):List Nat->List (Nat×A)->St->(List (Nat×A)->St->Option R)->Option R
 | [],seen,s,k=>k seen s
 | i :: is,seen,s,k=>match ops[i]? with
  | none=>none
  | some o=>bif Ny o then bif (bif Nat.beq (bG o) 2 then pe (partsOf cx s o.op) else true) then rz cx call f o s fun x=>Kj cx call f ops is (bif Nat.beq (bG o) 1 then (i,addrOf cx s o.op) :: seen else seen) (s.put o.dst x) k else none else none
def cJ (m:Nat) (a:A):Bool:=match blk? a with | none=>true | some b=>Nat.ble m b
def uC (ops:Array Oper) (c m:Nat):List (Nat×A)->Bool
 | []=>true
 | p :: l=>bif fp ops c p.1 then uC ops c m l else bif cJ m p.2 then uC ops c m l else false
def Hi (cx:Cx) (call:aS) (f lo:Nat) (ops:Array Oper) (c:Nat) (kp:A->ay->Option R):List Nat->List (Nat×A)->St->(St->Option R)->Option R
 | [],_,s,k=>k s
 | i :: is,seen,s,k=>match ops[i]? with
  | none=>none
  | some o=>bif Nat.beq i c then bif uC ops c (D5 cx o) seen then dA cx call (iH cx s o.op) (eR cx s o.op) s.H (DD cx o lo s.H) (fun a H=>Hi cx call f lo ops c kp is seen ({ s with H:=H }.put o.dst a) k) kp else none
   else bif NA o then bif (bif dP o then ka ops i (dv cx s o.op) seen else true) then bF cx f lo o s fun a H=>Hi cx call f lo ops c kp is seen ({ s with H:=H }.put o.dst a) k else none else none
def FU (cx:Cx) (N:Nat) (ops:Array Oper) (c m:Nat) (o:Oper):Bool:=(ops.toList.take m).all tg&&vo cx o&&tj ops N&&uV ops [] (pP ops c m)&&HR ops (Aq ops c m) (pP ops c m)&&(pP ops c m).all fun i=>Nat.blt i m
def Gi (cx:Cx) (ops:Array Oper):Option Nat:=match qc ops with | none=>none | some m=>Cj cx 0 (ops.toList.take m)
def zN (cx:Cx) (call:aS) (f lo N:Nat) (ops:Array Oper) (c:Nat) (s:St) (k:E->St->Option R):Option R :=
 match ops[c]? with
 | none=>none
 | some o=>(qc ops).bind fun m=>bif FU cx N ops c m o then Kj cx call f ops (Aq ops c m) [] s fun seen s1 =>
   Hi cx call f lo ops c (fun a H=>k (.pan a) ⟨[],H⟩) (pP ops c m) seen s1 fun s=>gj cx call f lo ops (ops.size+1) (ops.toList.drop m) s k
  else none
def bU:Code->Nat
 | .region id _ _=>id
 | .seq a _=>bU a
 | .block _ c=>bU c
 | .scope c=>bU c
 | .loop c=>bU c
 | _=>0
def Ec (H:ay) (a:A):A:=match a with | .sl b o n c=>snap H (.sl b o n c) | .imm els _=>.imm els false | a=>a
def FC (H:ay) (a:A):A:=match a with | .sl b o n c=>snap H (.sl b o n c) | .imm els _=>.imm els false | .agg cs=>.agg (cs.map (Ec H)) | a=>a
def fb (es:Nat) (H:ay):A->A×ay
 | .imm els true=>bif els.all (fun cs=>Nat.beq cs.length es) then (.sl H.length 0 els.length false,H++[.row false es els]) else (.imm els true,H)
 | a=>(a,H)
def lz (es:Nat) (H:ay):A->A×ay
 | .imm [] true=>(.sl H.length 0 0 false,H++[.row true es []])
 | a=>(a,H)
def lA (es:Nat) (H:ay):A->A×ay
 | .imm els true=>bif els.all (fun cs=>Nat.beq cs.length es) then (.sl H.length 0 els.length false,H++[.row false es els]) else (.imm els true,H++[.dead])
 | a=>(a,H++[.dead])
def aX (lo off m:Nat) (a:A) (H:ay):ay :=
 match a with
 | .ptr b o=>match H[b]? with
  | some (.box cs)=>match cs[o+off]? with
   | some c=>bif decide (lo<=b) then match m with
    | 0=>H.set b (.box (cs.set (o+off) (FC H c)))
    | es+1=>(fb es H c).2.set b (.box (cs.set (o+off) (fb es H c).1))
    else H
   | none=>H
  | _=>H
 | _=>H
def nY (lo:Nat) (p:Nat×Nat×Nat) (s:St):St :=
 match p.2.1 with
 | 0=>match p.2.2 with
  | 0=>⟨(p.1,FC s.H (look s.fr p.1)) :: s.fr,s.H⟩
  | es+1=>bif Nat.ble 500000 es then (bif Nat.ble 1000000 es then ⟨(p.1,(lA (es - 1000000) s.H (look s.fr p.1)).1) :: s.fr,(lA (es - 1000000) s.H (look s.fr p.1)).2⟩ else ⟨(p.1,(lz (es - 500000) s.H (look s.fr p.1)).1) :: s.fr,(lz (es - 500000) s.H (look s.fr p.1)).2⟩) else ⟨(p.1,(fb es s.H (look s.fr p.1)).1) :: s.fr,(fb es s.H (look s.fr p.1)).2⟩
 | off+1=>⟨s.fr,aX lo off p.2.2 (look s.fr p.1) s.H⟩
def eh (lo:Nat):List (Nat×Nat×Nat)->St->St
 | [],s=>s
 | p :: ps,s=>eh lo ps (nY lo p s)
def qJ (lo:Nat):List (Nat×Nat×Nat)->St->(St->Option R)->Option R
 | [],s,k=>k s
 | p :: ps,s,k=>(tE lo (look s.fr p.1) s.H).bind fun r=>qJ lo ps ⟨(p.1,r.1) :: s.fr,r.2⟩ k
def yw:List (Nat×Nat×Nat)->List (Nat×Nat×Nat)
 | []=>[]
 | p :: ps=>match p.2.2 with | 0=>p :: yw ps | _+1=>yw ps
def dK (keep:List Nat) (s:St):St:=⟨keep.map fun t=>(t,look s.fr t),s.H⟩
def aL (L:Nat) (fr:List (Nat×A)):List Nat->Bool
 | []=>true
 | t :: ts=>bif A.under L (look fr t) then aL L fr ts else false
theorem m0 (L:Nat) (fr:List (Nat×A)):∀ keep:List Nat,aL L fr keep=true->keep.all (fun t=>A.under L (look fr t))=true
 | [],_=>rfl
 | t :: ts,h=>by
  rw[aL] at h
  cases hu:A.under L (look fr t) with
  | false=>rw[hu] at h; cases h
  | true =>
   rw[hu] at h
   rw[List.all_cons,hu,Bool.true_and]
   exact m0 L fr ts h
def xh (keep:List Nat) (L:Nat) (s:St) (k:St->Option R):Option R :=
 (trim L s.H).bind fun H=>bif (bif Nat.beq s.H.length L then true else aL L s.fr keep) then k ⟨keep.map fun t=>(t,look s.fr t),H⟩ else none
def xx:List (Nat×Nat×Nat)->Option (Nat×Nat×Nat)
 | []=>none
 | p :: ps=>match ps with
  | []=>match p.2.1 with
   | 0=>bif Nat.ble 1000001 p.2.2 then some p else none
   | _+1=>none
  | _ :: _=>xx ps
def Jo (n:Nat):Nat:=n - 1
def Gw:A->Bool | .imm _ true=>true | _=>false
def FN (lo:Nat) (keep:List Nat) (p:Nat×Nat×Nat) (L:Nat) (s:St) (k:St->Option R):Option R :=
 bif Gw (look s.fr p.1) then xh keep (Jo L) s fun s=>bif Nat.beq (nY lo p s).H.length L then k (dK keep (nY lo p s)) else none else xh keep L s k
def CZ (lo:Nat) (keep:List Nat) (acts:List (Nat×Nat×Nat)) (L:Nat) (s:St) (k:St->Option R):Option R :=
 match xx acts with
 | none=>xh keep L (eh lo (yw acts) s) k
 | some p=>FN lo keep p L (eh lo (yw acts) s) k
def Dx (s:St) (keep:List Nat) (k:Nat->St->Option R):Option R:=k s.H.length (dK keep s)
def iter (lo:Nat) (keep:List Nat) (acts:List (Nat×Nat×Nat)) (L:Nat) (f:St->(E->St->Option R)->Option R) (kx kg:Nat->St->Option R) (kr:St->Option R) (kp:A->St->Option R):Nat->St->Option R
 | 0,_=>none
 | n+1,s=>f s fun e s'=>match e with
  | .normal=>CZ lo keep acts L s' fun s'=>iter lo keep acts L f kx kg kr kp n s'
  | .exit i=>kx i (dK keep s')
  | .goto l=>kg l (dK keep s')
  | .ret=>kr (dK keep s')
  | .pan a=>kp a (dK keep s')
def jb:Code->Bool
 | .seq a b=>jb a&&jb b
 | .cond _ a b=>jb a&&jb b
 | .block _ c=>jb c
 | .loop c=>jb c
 | .rangeFunc .. | .scope _=>false
 | _=>true
def Ak:List Nat->List A->List (Nat×A)->List (Nat×A)
 | p :: ps,a :: as,fr=>Ak ps as ((p,a) :: fr)
 | _,_,fr=>fr
def Bm {β:Type} (H:ay) (b:Nat) (x:Option β):Option β:=match H[b]? with | some (.rng .ready)=>x | _=>none
def zA {β:Type} (H:ay) (b:Nat) (x:Option β):Option β:=match H[b]? with | some (.rng .busy)=>x | _=>none
def GU (b:Nat) (e:E) (H:ay):Option R :=
 match e with
 | .normal=>zA H b (some (.ret (.v (.bool true)),H.set b (.rng .ready)))
 | .exit i=>zA H b (some (.ret (.v (.bool false)),H.set b (.rng (.done (.exit i)))))
 | .goto l=>zA H b (some (.ret (.v (.bool false)),H.set b (.rng (.done (.goto l)))))
 | .ret=>zA H b (some (.ret (.v (.bool false)),H.set b (.rng (.done .ret))))
 | .pan _=>none
def roundOf (F1 F2:St->(E->St->Option R)->Option R) (lo b:Nat) (ps:List Nat) (fr:List (Nat×A)) (args:List A) (H:ay) (lo':Nat):Option R :=
 bif Nat.beq args.length ps.length&&Nat.ble lo' lo then
  Bm H b (F1 ⟨Ak ps args fr,H⟩ fun e s=>match e with
   | .normal=>Bm s.H b (F2 ⟨s.fr,s.H.set b (.rng .busy)⟩ fun e s=>GU b e s.H)
   | _=>none)
 else none
def nM (q:Nat) (call:aS) (b:Nat) (rnd:List A->ay->Nat->Option R):aS:=fun k args H lo=>bif Nat.beq k (q+b) then rnd args H lo else call k args H lo
def mg {β:Type} (b:Nat) (H:ay) (kn:ay->Option β) (kx kg:Nat->ay->Option β) (kr:ay->Option β):Option β :=
 match H[b]? with
 | some (.rng .ready)=>kn (H.set b .dead)
 | some (.rng (.done (.exit i)))=>kx i (H.set b .dead)
 | some (.rng (.done (.goto l)))=>kg l (H.set b .dead)
 | some (.rng (.done .ret))=>kr (H.set b .dead)
 | _=>none
def zb (b:Nat) (H:ay) (k:E->ay->Option R):Option R:=mg b H (fun H=>k .normal H) (fun i H=>k (.exit i) H) (fun l H=>k (.goto l) H) (fun H=>k .ret H)
def nj (s:St) (k:St->Option R):Option R:=k s
def AW (P:Program):A->Option (Nat×List A)
 | .fn (.func gf) [] cap=>bif cW P gf then some (gf,cap) else none
 | _=>none
def wg (N:Nat):List Nat->Bool
 | []=>true
 | p :: ps=>bif Nat.blt p N then wg N ps else false
def za (body:Code):Nat:=1000000+bU body
def n8:Code->Nat
 | .region id _ _=>id
 | .seq a _=>n8 a
 | .block _ c=>n8 c
 | .scope c=>n8 c
 | .loop c=>n8 c
 | .cond _ a _=>n8 a
 | _=>0
def FD (keep:List Nat) (e:E) (s:St):Option R:=match e with
 | .normal=>some (.ret (.tup (keep.map (look s.fr))),s.H)
 | _=>none
def Js {β:Type} (r:R) (k:List A->ay->Option β):Option β:=match r with
 | (.ret (.tup l),H)=>k l H
 | _=>none
theorem Ax {β:Type} (fr:List (Nat×A)):∀ (keep:List Nat) (k:List (Nat×A)->Option β),E3 keep (keep.map (look fr)) k=k (keep.map fun t=>(t,look fr t))
 | [],_=>rfl
 | d :: ds,k=>by
  show E3 ds (ds.map (look fr)) (fun r=>k ((d,look fr d) :: r))=_
  rw[Ax fr ds]; rfl
def vq:Code->Nat
 | .block _ c=>n8 c
 | .cond _ a _=>500000+n8 a
 | .seq _ b=>vq b
 | _=>999999
def Mt (js:List Nat) (X:(E->St->Option R)->Option R) (Y:St->Option R) (k:E->St->Option R):Option R:=match js with
 | []=>X fun e s'=>match e with | .normal=>Y s' | e=>k e s'
 | j :: js=>(X (FD (j :: js))).bind fun r=>Js r fun l H=>E3 (j :: js) l fun fr=>Y ⟨fr,H⟩
noncomputable def nW (cx:Cx) (call:aS) (rg:aS->aS) (n f lo N:Nat):Code->St->(E->St->Option R)->Option R
 | .skip,s,k=>k .normal s
 | .label _,s,k=>k .normal s
 | .region id ops draw,s,k=>qJ lo (cx.acts f (2000000+id)) s fun s=>bif zF ops N then
  bif draw then match Gi cx ops with | some c=>zN cx call f lo N ops c s k | none=>bif tj ops N then (qc ops).bind fun m=>bif CF ops m then bif uU ops m then fC cx call f lo ops m [] 0 (ops.toList.take m) [] [] s fun s=>gj cx call f lo ops (ops.size+1) (ops.toList.drop m) s k else bif ri cx f ops m then ahead cx f 0 (ops.toList.take m) s.H fun fl H=>fC cx call f lo ops m fl 0 (ops.toList.take m) [] [] ⟨s.fr,H⟩ fun s=>gj cx call f lo ops (ops.size+1) (ops.toList.drop m) s k else none else pT cx call f ops (ops.size+1) (ops.toList.take m) s fun s=>gj cx call f lo ops (ops.size+1) (ops.toList.drop m) s k else none
  else gj cx call f lo ops (ops.size+1) ops.toList s k
  else none
 | .seq a b,s,k=>Mt (cx.join f (vq a)) (fun k=>nW cx call rg n f lo N a s k) (fun s=>nW cx call rg n f lo N b s k) k
 | .cond c a b,s,k=>bD (bW cx s c) (nW cx call rg n f lo N a s k) (nW cx call rg n f lo N b s k)
 | .block id c,s,k=>nW cx call rg n f lo N c s fun e s'=>match e with | .exit j=>bif Nat.beq j id then k .normal s' else k (.exit j) s' | e=>k e s'
 | .scope c,s,k=>nW cx call rg n f lo N c s fun e s'=>match e with | .goto _=>none | e=>k e s'
 | .loop c,s,k=>Dx (eh lo (cx.acts f (bU c)) (dK (cx.keep f (bU c)) s)) (cx.keep f (bU c)) fun L s=>iter lo (cx.keep f (bU c)) (cx.acts f (bU c)) L (fun s k=>nW cx call rg n f lo N c s k) (fun i s=>k (.exit i) s) (fun l s=>k (.goto l) s) (fun s=>k .ret s) (fun a s=>k (.pan a) s) n s
 | .exit id,s,k=>k (.exit id) s
 | .goto l,s,k=>k (.goto l) s
 | .ret,s,k=>k .ret s
 | .rangeFunc g ps asg body,s,k=>nj (eh lo (cx.acts f (za body)) s) fun s=>(AW cx.P (bW cx s g)).bind fun p=>bif wg N ps.toList&&jb asg&&jb body&&Nat.ble lo s.H.length then
   (rg (nM cx.P.funcs.size call s.H.length (roundOf (fun s k=>nW cx call rg n f lo N asg s k) (fun s k=>nW cx call rg n f lo N body s k) lo s.H.length ps.toList (dK (cx.keep f (za body)) s).fr)) p.1 (.yld s.H.length :: p.2) (s.H++[.rng .ready]) lo).bind fun r =>
    bJ r.1 (fun _=>zb s.H.length r.2 fun e H=>k e ⟨s.fr,H⟩) (fun _=>none)
  else none
 | _,_,_=>none
def ic:Code->List Code
 | .loop c=>c :: ic c
 | .seq a b=>ic a++ic b
 | .cond _ a b=>ic a++ic b
 | .block _ c=>ic c
 | .scope c=>ic c
 | .rangeFunc _ _ a b=>ic a++ic b
 | _=>[]
def yH (cx:Cx) (f i:Nat):Code:=match (cx.P.funcs[f]?).bind (·.body) with | some c=>(ic c).getD i .skip | none=>.skip
def L5 (cx:Cx) (f:Nat):Nat:=match cx.P.funcs[f]? with | some fn=>fn.ntmps | none=>0
def iP:Code->List (List Nat×Code×Code)
 | .loop c=>iP c
 | .seq a b=>iP a++iP b
 | .cond _ a b=>iP a++iP b
 | .block _ c=>iP c
 | .scope c=>iP c
 | .rangeFunc _ ps a b=>[(ps.toList,a,b)]
 | _=>[]
def rangeAt (cx:Cx) (f i:Nat):List Nat×Code×Code:=match (cx.P.funcs[f]?).bind (·.body) with | some c=>(iP c).getD i ([],.skip,.skip) | none=>([],.skip,.skip)
noncomputable def gK (cx:Cx) (call:aS) (rg:aS->aS) (n f lo i b:Nat) (fr:List (Nat×A)) (args:List A) (H:ay) (lo':Nat):Option R :=
 roundOf (fun s k=>nW cx call rg n f lo (L5 cx f) (rangeAt cx f i).2.1 s k) (fun s k=>nW cx call rg n f lo (L5 cx f) (rangeAt cx f i).2.2 s k) lo b (rangeAt cx f i).1 fr args H lo'
noncomputable def aK (cx:Cx) (call:aS) (rg:aS->aS) (n f lo i L:Nat) (kx kg:Nat->St->Option R) (kr:St->Option R) (kp:A->St->Option R) (m:Nat) (s:St):Option R :=
 iter lo (cx.keep f (bU (yH cx f i))) (cx.acts f (bU (yH cx f i))) L (fun s k=>nW cx call rg n f lo (L5 cx f) (yH cx f i) s k) kx kg kr kp m s
def ru (cx:Cx) (s:St):ResultVar->Option A
 | .tmp t=>some (look s.fr t)
 | .cell a t=>nQ cx.P t (look s.fr a) s.H
def n6 (cx:Cx) (s:St):List ResultVar->Option (List A)
 | []=>some []
 | r :: rs=>(ru cx s r).bind fun a=>(n6 cx s rs).bind fun l=>some (a :: l)
def zM (cx:Cx) (fn:Func) (s:St):Option A:=match fn.results.toList with
 | [r]=>ru cx s r
 | rs=>(n6 cx s rs).bind fun l=>some (.tup l)
def vf (cx:Cx) (s:St):List ResultVar->(List A->Option R)->Option R
 | [],k=>k []
 | r :: rs,k=>(ru cx s r).bind fun a=>vf cx s rs fun l=>k (a :: l)
def lU (cx:Cx) (fn:Func) (s:St):Option R:=match fn.results.toList with
 | [r]=>(ru cx s r).bind fun a=>some (.ret a,s.H)
 | rs=>vf cx s rs fun l=>some (.ret (.tup l),s.H)
theorem tR (cx:Cx) (s:St):∀ (rs:List ResultVar) (k:List A->Option R),vf cx s rs k=(n6 cx s rs).bind k
 | [],_=>rfl
 | r :: rs,k=>by
  rw[vf,n6,Option.bind_assoc]
  congr 1; funext a
  rw[tR cx s rs,Option.bind_assoc]
  rfl
theorem AV (cx:Cx) (fn:Func) (s:St):lU cx fn s=(zM cx fn s).bind fun a=>some (.ret a,s.H):=by
 unfold lU zM
 split
 ·rename_i h; rfl
 ·rw[tR,Option.bind_assoc]
  rfl
def frame (args:List A):List (Nat×A):=args.zipIdx.map fun p=>(p.2,p.1)
noncomputable def Gt (cx:Cx) (call:aS) (rg:aS->aS) (n f lo:Nat) (fn:Func) (c:Code) (args:List A) (H:ay):Option R :=
 nW cx call rg n f lo fn.ntmps c ⟨frame args,H⟩ fun e s=>match e with
  | .normal | .ret=>nj (eh lo (cx.acts f 3000000) s) fun s=>lU cx fn s
  | .pan a=>some (.pan a,s.H)
  | _=>none
def Eg (o:Oper):Bool:=match o.op with | .defer _=>true | _=>false
def xb:List Oper->Option (List Oper×Oper)
 | []=>none
 | o :: os=>match os with
  | []=>some ([],o)
  | _ :: _=>(xb os).map fun p=>(o :: p.1,p.2)
def wZ:Code->Bool
 | .seq _ (.seq (.region _ ops false) _)=>ops.toList.any Eg
 | _=>false
def Nw (cx:Cx) (q:Nat) (o:Oper):Bool:=cW cx.P q&&tg o&&o.dst.isNone
def Ck (cx:Cx) (s:St) (o:Oper):Option (Nat×List A):=match o.op with
 | .defer c=>match c.callee,c.args.toList with
  | .value g,[]=>match bW cx s g with
   | .fn (.func q) [] cap=>bif Nw cx q o then some (q,cap) else none
   | _=>none
  | _,_=>none
 | _=>none
def me (o:Oper):Option Nat:=match o.op with
 | .call c=>match c.callee,c.args.toList with
  | .builtin .recover,[]=>bif tg o then o.dst else none
  | _,_=>none
 | _=>none
def recAt:Nat->List Oper->Option (Nat×Nat)
 | _,[]=>none
 | i,o :: os=>match me o with | some d=>some (i,d) | none=>recAt (i+1) os
def jZ (ops:Array Oper) (i d:Nat):Array Oper:=match ops[i]? with | some o=>ops.setIfInBounds i { o with op:=.move (.tmp d) } | none=>ops
def jf (d:Nat) (o:Oper):Bool:=tg o&&(match o.op with | .load _ (.tmp t)=>!Nat.beq t d | _=>false)&&(match o.dst with | some e=>!Nat.beq e d | none=>false)
def w8 (d:Nat) (ops:Array Oper) (j:Nat):Bool:=match ops[j]? with | some o=>jf d o | none=>true
def FT (ops:Array Oper) (i d:Nat):Bool:=(List.range ops.size).all fun j=>Nat.beq j i || match ops[j]? with | some o=>jf d o || o.after.any fun e=>Region.binds .any e&&!w8 d ops e.on | none=>false
def Nz (cap:List A) (ops:Array Oper) (fn:Func) (rest:Code):Bool:=decide (cap.length<=fn.ntmps)&&zF ops fn.ntmps&&jb rest&&fn.results.toList.isEmpty
def Nx (ops:Array Oper) (N:Nat) (a:Code):Bool:=zF ops N&&jb a
def ve (cx:Cx) (call:aS) (f lo N:Nat) (ops:Array Oper) (s:St) (k:E->St->Option R):Option R :=
 bif zF ops N then
  match Gi cx ops with | some c=>zN cx call f lo N ops c s k | none=>bif tj ops N then (qc ops).bind fun m=>bif CF ops m then bif uU ops m then fC cx call f lo ops m [] 0 (ops.toList.take m) [] [] s fun s=>gj cx call f lo ops (ops.size+1) (ops.toList.drop m) s k else bif ri cx f ops m then ahead cx f 0 (ops.toList.take m) s.H fun fl H=>fC cx call f lo ops m fl 0 (ops.toList.take m) [] [] ⟨s.fr,H⟩ fun s=>gj cx call f lo ops (ops.size+1) (ops.toList.drop m) s k else none else pT cx call f ops (ops.size+1) (ops.toList.take m) s fun s=>gj cx call f lo ops (ops.size+1) (ops.toList.drop m) s k else none
 else none
def NB (cap:List A) (ops:Array Oper) (fn:Func) (p:Nat×Nat):Bool:=decide (cap.length<=fn.ntmps)&&decide (p.2<fn.ntmps)&&FT ops p.1 p.2&&(match ops[p.1]? with | some o=>o.after.toList.isEmpty | none=>false)&&fn.results.toList.isEmpty
noncomputable def wE (cx:Cx) (call:aS) (rg:aS->aS) (n lo q:Nat) (cap:List A) (v:A) (H:ay) (k:ay->Option R):Option R :=
 (cx.P.funcs[q]?).bind fun fn=>fn.body.bind fun c=>match c with
  | .seq (.region _ ops false) rest=>match ops.toList with
   | o :: os=>(me o).bind fun d=>bif Nz cap ops fn rest then fA cx call q lo ops os ⟨(d,v) :: frame cap,H⟩ fun e s=>match e with
     | .normal=>nW cx call rg n q lo fn.ntmps rest s fun e s=>match e with
      | .normal | .ret=>k s.H
      | _=>none
     | _=>none
    else none
   | []=>none
  | .region _ ops true=>(recAt 0 ops.toList).bind fun p=>bif NB cap ops fn p then ve cx call q lo fn.ntmps (jZ ops p.1 p.2) ⟨(p.2,v) :: frame cap,H⟩ fun e s=>match e with
    | .normal=>k s.H
    | _=>none
   else none
  | _=>none
noncomputable def vb (cx:Cx) (call:aS) (rg:aS->aS) (n f lo:Nat) (fn:Func) (c:Code) (args:List A) (H:ay):Option R:=match c with
 | .seq a (.seq (.region _ ops false) rest)=>bif Nx ops fn.ntmps a then nW cx call rg n f lo fn.ntmps a ⟨frame args,H⟩ fun e s=>match e with
  | .normal=>(xb ops.toList).bind fun p=>fA cx call f lo ops p.1 s fun e s=>match e with
   | .normal=>(Ck cx s p.2).bind fun z=>nW cx call rg n f lo fn.ntmps rest s fun e s=>match e with
    | .normal | .ret=>wE cx call rg n lo z.1 z.2 (.v .nilIface) s.H fun H=>nj (eh lo (cx.acts f 3000000) ⟨s.fr,H⟩) fun s=>lU cx fn s
    | .pan x=>wE cx call rg n lo z.1 z.2 x s.H fun H=>nj (eh lo (cx.acts f 3000000) ⟨s.fr,H⟩) fun s=>lU cx fn s
    | _=>none
   | _=>none
  | _=>none
  else none
 | _=>none
noncomputable def aB (cx:Cx) (call:aS) (rg:aS->aS) (n f:Nat) (args:List A) (H:ay) (lo:Nat):Option R :=
 (cx.P.funcs[f]?).bind fun fn=>fn.body.bind fun c=>bif decide (args.length<=fn.ntmps) then bif wZ c then vb cx call rg n f lo fn c args H else Gt cx call rg n f lo fn c args H else none
def DE:aS:=fun _ _ _ _=>none
def gN:Nat->ay->A->A
 | 0,_,_=>.any
 | n+1,H,.ptr b o=>match H[b]? with | some (.box cs)=>.ip ((cs.drop o).map (gN n H)) | _=>.any
 | n+1,H,.fn f p q=>.fn f (p.map (gN n H)) (q.map (gN n H))
 | n+1,H,.agg cs=>.agg (cs.map (gN n H))
 | _+1,H,a=>cG (iZ 4 H) a
def Gx:A->Bool | .v _=>true | _=>false
def fU (cx:Cx) (k:Nat) (H:ay):Bool:=bif cx.deep k then bif Nat.beq H.length 0 then false else true else false
def jG (cx:Cx) (k:Nat) (args:List A) (H:ay):Option R:=(cx.C k (args.map (gN 6 H))).bind fun r=>bif Gx r then some (.ret r,H) else none
def fK (cx:Cx) (k:Nat) (H:ay):Bool:=bif Nat.beq (cx.cut k) 0 then false else bif Nat.ble (cx.cut k) H.length then true else bif Nat.beq H.length 0 then false else Nat.beq (cx.cut k) 999999999
def cutAt (cx:Cx) (k:Nat) (H:ay):Nat:=bif Nat.ble (cx.cut k) H.length then cx.cut k else H.length
def lq (m:Nat):Out->Bool
 | .ret a=>A.under m a
 | .pan a=>A.under m a
def nw (m:Nat) (f:ay->Option R) (args:List A) (H:ay):Option R :=
 bif aZ m args&&(H.take m).all (aD.under m) then (f (H.take m)).bind fun r=>bif Nat.ble m r.2.length&&(r.2.take m).all (aD.under m)&&lq m r.1 then some (r.1,r.2.take m++H.drop m) else none else none
noncomputable def aA (cx:Cx):Nat->aS->aS
 | 0,base,k,args,H,lo=>bif Nat.ble cx.P.funcs.size k then base k args H lo else none
 | n+1,base,k,args,H,lo=>bif Nat.ble cx.P.funcs.size k then base k args H lo else bif fK cx k H then nw (cutAt cx k H) (fun H=>aB cx (aA cx n DE) (aA cx n) n k args H lo) args H else bif fU cx k H then jG cx k args H else aB cx (aA cx n base) (aA cx n) n k args H lo
noncomputable def aO (cx:Cx) (n:Nat):aS:=aA cx n DE
end Go.Proofs.Ytdmgdjnadbakfaa
