/-
 An interpreter over plain data: what a call of the program answers, in one order, slices being lists. Its answers are shown to be the model's in EvSound.
-/
import Derived.Test.YtdmgdjnadbakfaaRG
namespace Go.Proofs.Ytdmgdjnadbakfaa
set_option linter.unusedSimpArgs false
inductive A where
 | any
 | v (x:Value)
 | ptr (b o:Nat)
 | ep (b i o:Nat)
 | ip (cs:List A)
 | imm (els:List (List A)) (clip:Bool)
 | sl (b o n:Nat) (clip:Bool)
 | agg (cs:List A)
 | tup (cs:List A)
 | fn (f:Fn) (first cap:List A)
 | ifc (t:TypeId) (x:A)
 | yld (b:Nat)
 | nq (els:List (List A))
 | mr (b:Nat)
 | mv (k:IntKind) (ks:List Int) (vs:List A)
 deriving Inhabited
inductive Jmp where
 | exit (id:Nat)
 | goto (l:Nat)
 | ret
inductive RSt where
 | ready
 | busy
 | done (j:Jmp)
inductive Blk where
 | box (cs:List A)
 | row (wr:Bool) (es:Nat) (els:List (List A))
 | rng (st:RSt)
 | dead
 | hole
 | mp (k:IntKind) (ks:List Int) (vs:List A)
 deriving Inhabited
abbrev Heap:=List Blk
inductive E where
 | normal
 | exit (id:Nat)
 | goto (l:Nat)
 | ret
 | pan (v:A)
inductive Out where
 | ret (a:A)
 | pan (a:A)
abbrev R:=Out×Heap
structure St where
 fr:List (Nat×A)
 H:Heap
structure Cx where
 P:Program
 glob:Nat->Option (List Value)
 isOrc:Nat->Bool
 isOrcV:Nat->Bool
 C:Nat->List A->Option A
 keep:Nat->Nat->List Nat
 wrAt:Nat->Nat->Bool
 acts:Nat->Nat->List (Nat×Nat×Nat)
 loud:Nat->Nat->Bool
 arr:Nat->Nat->Bool
 join:Nat->Nat->List Nat:=fun _ _=>[]
 cut:Nat->Nat:=fun _=>0
 fre:Nat->Bool:=fun _=>false
 deep:Nat->Bool:=fun _=>false
def keepOf (f r:Nat):List ((Nat×Nat)×List Nat)->List Nat
 | []=>[]
 | p :: l=>bif Nat.beq p.1.1 f then bif Nat.beq p.1.2 r then p.2 else keepOf f r l else keepOf f r l
def actOf (f r:Nat):List ((Nat×Nat)×List (Nat×Nat×Nat))->List (Nat×Nat×Nat)
 | []=>[]
 | p :: l=>bif Nat.beq p.1.1 f then bif Nat.beq p.1.2 r then p.2 else actOf f r l else actOf f r l
def cutOf (k:Nat):List (Nat×Nat)->Nat
 | []=>0
 | p :: l=>bif Nat.beq p.1 k then p.2 else cutOf k l
def inTab (f r:Nat):List (Nat×Nat)->Bool
 | []=>false
 | p :: l=>bif Nat.beq p.1 f&&Nat.beq p.2 r then true else inTab f r l
def notIn (k:Nat):List Nat->Bool
 | []=>true
 | x :: l=>bif Nat.beq x k then false else notIn k l
def look:List (Nat×A)->Nat->A
 | [],_=>.any
 | (s,a) :: r,t=>bif Nat.beq s t then a else look r t
def St.put (s:St) (dst:Option Nat) (a:A):St:=match dst with | some d=>{ s with fr:=(d,a) :: s.fr } | none=>s
def pureV {α:Type} (P:Program):Sem α->Option α
 | .pure a=>some a
 | .program k=>pureV P (k P)
 | .mark _ k=>pureV P k
 | _=>none
mutual
def A.toV:A->Option Value
 | .v x=>some x
 | .agg cs=>(toVs cs).map fun l=>.agg l.toArray
 | .ifc t x=>(A.toV x).map (.iface t)
 | .fn (.func f) [] []=>some (.func (.func f) #[] #[])
 | _=>none
def toVs:List A->Option (List Value)
 | []=>some []
 | a :: as=>(A.toV a).bind fun x=>(toVs as).map (x :: ·)
end
def ofC:Value->A
 | .slice none 0 0=>.imm [] true
 | x=>.v x
def ofV:Value->A
 | .agg cs=>.agg (cs.toList.map ofC)
 | x=>ofC x
def isAggT (P:Program) (t:TypeId):Bool:=match P.underlying t with | some (.struct _) | some (.array _ _)=>true | _=>false
def sizeT (P:Program) (t:TypeId):Option Nat:=(P.underlying t).bind fun _=>(P.info? t).map (·.size)
def bytesT (P:Program) (t:TypeId):Option Nat:=(P.info? t).map (·.bytes)
def zeroT (P:Program) (t:TypeId):Option (List A):=(P.info? t).bind fun i=>i.zero.map fun z=>z.cells.toList.map ofC
def elemT (P:Program) (t:TypeId):Option TypeId:=match P.underlying t with | some (.slice e)=>some e | _=>none
def A.cell:A->Bool
 | .any | .agg _ | .tup _ | .nq _=>false
 | .v x=>x.oneCell'
 | _=>true
def A.cells?:A->Option (List A)
 | .agg cs=>bif cs.all A.cell then some cs else none
 | .v x=>bif x.oneCell' then some [.v x] else none
 | .any | .tup _ | .nq _=>none
 | a=>some [a]
def join (P:Program) (t:TypeId) (cs:List A):Option A:=bif isAggT P t then some (.agg cs) else match cs with | [c]=>some c | _=>none
def chunk {α:Type} (es:Nat):Nat->List α->List (List α)
 | 0,_=>[]
 | q+1,xs=>xs.take es :: chunk es q (xs.drop es)
def aLoad (P:Program) (t:TypeId) (a:A) (H:Heap):Option A :=
 (sizeT P t).bind fun n=>bif n==0 then none else
 match a with
 | .ptr b o=>match H[b]? with
  | some (.box cs)=>bif decide (o+n<=cs.length) then join P t ((cs.drop o).take n) else none
  | _=>none
 | .ep b i o=>match H[b]? with
  | some (.row true _ els)=>match els[i]? with
   | some cs=>bif decide (o+n<=cs.length) then join P t ((cs.drop o).take n) else
    bif Nat.beq o 0&&Nat.beq ((els.drop i).take (n / cs.length)).flatten.length n then join P t ((els.drop i).take (n / cs.length)).flatten else none
   | none=>none
  | _=>none
 | .ip cs=>bif decide (n<=cs.length) then join P t (cs.take n) else none
 | _=>none
def splice {α:Type} (cs:List α) (o:Nat) (xs:List α):List α:=cs.take o++xs++cs.drop (o+xs.length)
def aStore (P:Program) (t:TypeId) (a x:A) (H:Heap) (lo:Nat):Option Heap :=
 (sizeT P t).bind fun n=>x.cells?.bind fun xs=>bif n==0 || !(xs.length==n) then none else
 match a with
 | .ptr b o=>match H[b]? with
  | some (.box cs)=>bif decide (lo<=b)&&decide (o+n<=cs.length) then some (H.set b (.box (splice cs o xs))) else none
  | _=>none
 | .ep b i o=>match H[b]? with
  | some (.row true es els)=>match els[i]? with
   | some cs=>bif decide (lo<=b)&&decide (o+n<=cs.length) then some (H.set b (.row true es (els.set i (splice cs o xs)))) else
    bif decide (lo<=b)&&Nat.beq o 0&&Nat.beq (n / es*es) n&&decide (i+n / es<=els.length) then some (H.set b (.row true es (splice els i (chunk es (n / es) xs)))) else none
   | none=>none
  | _=>none
 | _=>none
def aAlloc (P:Program) (t:TypeId) (H:Heap):Option (A×Heap):=(zeroT P t).map fun cs=>(.ptr H.length 0,H++[.box cs])
def aBox (x:A) (H:Heap):Option (A×Heap):=x.cells?.map fun cs=>(.ptr H.length 0,H++[.box cs])
def rowOf (P:Program) (t:TypeId) (cs:List A) (H:Heap):Option (A×Heap):=match P.underlying t with
 | some (.array n e)=>(sizeT P e).bind fun es=>bif Nat.beq es 0 || Nat.beq n 0 || !Nat.beq cs.length (n*es) then none else some (.ep H.length 0 0,H++[.row true es (chunk es n cs)])
 | _=>none
def aAllocR (P:Program) (t:TypeId) (H:Heap):Option (A×Heap):=(zeroT P t).bind fun cs=>rowOf P t cs H
def aBoxR (P:Program) (t:TypeId) (x:A) (H:Heap):Option (A×Heap):=x.cells?.bind fun cs=>rowOf P t cs H
def allocT (b:Bool) (P:Program) (t:TypeId) (H:Heap):Option (A×Heap):=bif b then aAllocR P t H else aAlloc P t H
def boxT (b:Bool) (P:Program) (t:TypeId) (x:A) (H:Heap):Option (A×Heap):=bif b then aBoxR P t x H else aBox x H
def rep (c:Bool):Operand:=if c then .const .nilIface else .tmp 0
def isK:Operand->Bool | .const _=>true | _=>false
def eqFsV (P:Program) (q:TypeId->Value->Value->Option Bool) (xs ys:Array Value):List Field->Option Bool
 | []=>some true
 | [f]=>bif f.name == "_" then some true else (pureV P (part f.type xs f.offset)).bind fun a=>(pureV P (part f.type ys f.offset)).bind fun b=>q f.type a b
 | f :: fs=>bif f.name == "_" then eqFsV P q xs ys fs else (pureV P (part f.type xs f.offset)).bind fun a=>(pureV P (part f.type ys f.offset)).bind fun b=>(q f.type a b).bind fun r=>(eqFsV P q xs ys fs).map fun r'=>r&&r'
def eqIsV (P:Program) (q:TypeId->Value->Value->Option Bool) (e:TypeId) (c:Nat) (xs ys:Array Value):List Nat->Option Bool
 | []=>some true
 | [i]=>(pureV P (part e xs (i*c))).bind fun a=>(pureV P (part e ys (i*c))).bind fun b=>q e a b
 | i :: is=>(pureV P (part e xs (i*c))).bind fun a=>(pureV P (part e ys (i*c))).bind fun b=>(q e a b).bind fun r=>(eqIsV P q e c xs ys is).map fun r'=>r&&r'
def eqV (P:Program):Nat->TypeId->Value->Value->Option Bool
 | 0,_,_,_=>none
 | d+1,t,x,y=>match P.underlying t,x,y with
  | some (.int _),.int k a,.int k' b=>bif decide (k=k') then some (a==b) else none
  | some .bool,.bool a,.bool b=>some (a==b)
  | some .string,.string a,.string b=>some (a==b)
  | some (.struct _),.agg xs,.agg ys=>bif P.stoodInHeld t then none else eqFsV P (eqV P d) xs ys (P.fieldsOf t).toList
  | some (.array n e),.agg xs,.agg ys=>(P.info? e).bind fun _=>eqIsV P (eqV P d) e (P.cellsOf e) xs ys (List.range n)
  | _,_,_=>none
def eqTop (P:Program) (t:TypeId) (x y:A):Option Bool:=bif P.eqGuardType P.depth t then none else x.toV.bind fun a=>y.toV.bind fun b=>eqV P 20 t a b
def aBin (P:Program) (op:BinOp) (t:TypeId) (c d:Bool) (x y:A):Option A :=
 match op,x,y with
 | .eql,.agg _,.agg _=>(eqTop P t x y).map fun r=>.v (.bool r)
 | .neq,.agg _,.agg _=>(eqTop P t x y).map fun r=>.v (.bool (!r))
 | _,_,_=>x.toV.bind fun a=>y.toV.bind fun b=>(pureV P (do eqGuard op t (rep c) (rep d) a b; binOp op t a b)).map ofV
def aUn (P:Program) (op:UnOp) (x:A):Option A:=x.toV.bind fun a=>(pureV P (Op.unary op a)).map ofV
def aMinMax (mn:Bool) (x y:A):Option A:=match x,y with
 | .v (.int k a),.v (.int l b)=>bif k==l then some (.v (.int k (if mn then (if b<a then b else a) else (if a<b then b else a)))) else none
 | _,_=>none
def aMM (mn:Bool):A->List A->Option A
 | x,[]=>some x
 | x,y :: r=>(aMinMax mn x y).bind fun z=>aMM mn z r
def keyK (P:Program) (t:TypeId):Option (IntKind×TypeId):=match P.underlying t with
 | some (.map kt vt)=>match P.underlying kt with | some (.int k)=>some (k,vt) | _=>none
 | _=>none
def keyOf (k:IntKind):A->Option Int
 | .v (.int j n)=>bif decide (j=k) then some n else none
 | _=>none
def assocM (a:Int):List Int->List A->Option A
 | x :: ks,v :: vs=>bif decide (a=x) then some v else assocM a ks vs
 | _,_=>none
def putM (a:Int) (y:A):List Int->List A->List Int×List A
 | x :: ks,v :: vs=>bif decide (a=x) then (x :: ks,y :: vs) else (x :: (putM a y ks vs).1,v :: (putM a y ks vs).2)
 | _,_=>([a],[y])
def aMakeMap (P:Program) (t:TypeId) (H:Heap):Option (A×Heap):=(keyK P t).map fun p=>(.mr H.length,H++[.mp p.1 [] []])
def aSetMap (P:Program) (t:TypeId) (m i x:A) (H:Heap) (lo:Nat):Option Heap:=(keyK P t).bind fun p=>(keyOf p.1 i).bind fun a=>match m with
 | .mr b=>match H[b]? with
  | some (.mp k ks vs)=>bif decide (lo<=b)&&decide (k=p.1) then some (H.set b (.mp k (putM a x ks vs).1 (putM a x ks vs).2)) else none
  | _=>none
 | _=>none
def okM (P:Program) (vt:TypeId) (c:Bool) (r:Option A):Option A:=match r with
 | some y=>some (bif c then .tup [y,.v (.bool true)] else y)
 | none=>(P.info? vt).bind fun i=>i.zero.map fun z=>bif c then .tup [ofV z,.v (.bool false)] else ofV z
def aLookup (P:Program) (t:TypeId) (m i:A) (c:Bool) (H:Heap):Option A:=(keyK P t).bind fun p=>(keyOf p.1 i).bind fun a=>match m with
 | .mv k ks vs=>bif decide (k=p.1) then okM P p.2 c (assocM a ks vs) else none
 | .mr b=>match H[b]? with
  | some (.mp k ks vs)=>bif decide (k=p.1) then okM P p.2 c (assocM a ks vs) else none
  | _=>none
 | _=>none
def aExtract (x:A) (i:Nat):Option A:=match x with | .tup cs=>cs[i]? | _=>none
def aField (P:Program) (t:TypeId) (x:A) (i:Nat):Option A :=
 match P.underlying t,x with
 | some (.struct fs),.agg cs=>fs[i]?.bind fun f=>(sizeT P f.type).bind fun n=>bif decide (f.offset+n<=cs.length) then join P f.type ((cs.drop f.offset).take n) else none
 | _,_=>none
def idx:A->Option Nat
 | .v (.int _ n)=>bif decide (0<=n) then some n.toNat else none
 | _=>none
def aIndex (P:Program) (t:TypeId) (x i:A):Option A :=
 (idx i).bind fun j =>
 match P.underlying t,x with
 | some (.array len e),.agg cs=>(sizeT P e).bind fun n=>bif decide (j<len)&&decide (j*n+n<=cs.length) then join P e ((cs.drop (j*n)).take n) else none
 | some .string,.v (.string s)=>s[j]?.map fun b=>.v (.int .u8 b.toNat)
 | _,_=>none
def refOK (H:Heap):A->Bool
 | .ptr b _=>match H[b]? with | some (.box _)=>true | _=>false
 | .ep b _ _=>match H[b]? with | some (.row true _ _)=>true | _=>false
 | .sl b _ _ _=>match H[b]? with | some (.row ..)=>true | _=>false
 | .mr b=>match H[b]? with | some (.mp ..)=>true | _=>false
 | _=>true
def aFieldAddr (P:Program) (t:TypeId) (x:A) (i:Nat) (H:Heap):Option A :=
 bif refOK H x then
 match P.underlying t with
 | some (.struct fs)=>fs[i]?.bind fun f=>(sizeT P f.type).bind fun n=>bif n==0 then none else
  match x with
  | .ptr b o=>some (.ptr b (o+f.offset))
  | .ep b j o=>some (.ep b j (o+f.offset))
  | .ip cs=>some (.ip (cs.drop f.offset))
  | _=>none
 | _=>none
 else none
def aIndexAddr (P:Program) (t:TypeId) (x i:A) (H:Heap):Option A :=
 (idx i).bind fun j=>bif refOK H x then
 match P.underlying t with
 | some (.slice e)=>(sizeT P e).bind fun n=>match x with
  | .imm els _=>els[j]?.bind fun cs=>bif cs.length==n then some (.ip cs) else none
  | .sl b o m _=>bif decide (j<m) then match H[b]? with
   | some (.row true es _)=>bif es==n then some (.ep b (o+j) 0) else none
   | some (.row false es els)=>bif es==n then els[o+j]?.map .ip else none
   | _=>none else none
  | _=>none
 | some (.array len e)=>(sizeT P e).bind fun n=>bif !decide (j<len) then none else match x with
  | .ptr b o=>some (.ptr b (o+j*n))
  | .ep b k o=>match H[b]? with
   | some (.row _ es els)=>bif Nat.beq es n&&Nat.beq o 0&&decide (k+j<els.length) then some (.ep b (k+j) 0) else some (.ep b k (o+j*n))
   | _=>none
  | .ip cs=>some (.ip (cs.drop (j*n)))
  | _=>none
 | _=>none
 else none
def aLen (P:Program) (t:TypeId) (x:A) (H:Heap):Option A :=
 bif refOK H x then
 match P.underlying t,x with
 | some .string,.v (.string s)=>some (.v (.int .i64 s.size))
 | some (.slice _),.imm els _=>some (.v (.int .i64 els.length))
 | some (.slice _),.sl _ _ n _=>some (.v (.int .i64 n))
 | _,_=>none
 else none
def nonNil (H:Heap):A->Bool
 | .ptr b o=>refOK H (.ptr b o)
 | .ep b i o=>refOK H (.ep b i o)
 | .ip _=>true
 | .fn (.func _) _ _=>true
 | _=>false
def aNil (a:A) (H:Heap):Option A:=bif nonNil H a then some a else none
def oIdx (d:Nat):Option A->Option Nat
 | none=>some d
 | some a=>idx a
def aSlice (P:Program) (t:TypeId) (x:A) (lo hi mx:Option A) (H:Heap):Option A :=
 match P.underlying t,x with
 | some .string,.v (.string s)=>bif mx.isSome then none else
  (oIdx s.size hi).bind fun h=>(oIdx 0 lo).bind fun l=>bif decide (l<=h)&&decide (h<=s.size) then some (.v (.string (s.extract l h))) else none
 | some (.slice e),.imm els c=>(sizeT P e).bind fun n=>(oIdx els.length hi).bind fun h=>(oIdx 0 lo).bind fun l =>
  bif decide (l<=h)&&decide (h<=els.length)&&(l==0 || match els[l]? with | some cs=>cs.length==n | none=>true) then match mx with
   | none=>some (.imm ((els.drop l).take (h - l)) (c&&h==els.length))
   | some m=>(idx m).bind fun m=>bif m==h then some (.imm ((els.drop l).take (h - l)) true) else none
  else none
 | some (.slice e),.sl b o n c=>(sizeT P e).bind fun z=>(oIdx n hi).bind fun h=>(oIdx 0 lo).bind fun l =>
  bif decide (l<=h)&&decide (h<=n)&&(match H[b]? with | some (.row _ es _)=>es==z | _=>false) then match mx with
   | none=>some (.sl b (o+l) (h - l) (c&&h==n))
   | some m=>(idx m).bind fun m=>bif m==h then some (.sl b (o+l) (h - l) true) else none
  else none
 | some (.array n e),.ip cs=>(sizeT P e).bind fun z=>(oIdx n hi).bind fun h=>(oIdx 0 lo).bind fun l =>
  bif decide (l<=h)&&decide (h<=n)&&decide (n*z<=cs.length)&&mx.isNone&&!Nat.beq z 0 then some (.imm (((chunk z n cs).drop l).take (h - l)) (Nat.beq h n)) else none
 | some (.array n e),.ep b k o=>(sizeT P e).bind fun z=>(oIdx n hi).bind fun h=>(oIdx 0 lo).bind fun l =>
  bif decide (l<=h)&&decide (h<=n)&&mx.isNone&&Nat.beq o 0&&(match H[b]? with | some (.row true es els)=>Nat.beq es z&&decide (k+n<=els.length) | _=>false) then some (.sl b (k+l) (h - l) (Nat.beq h n)) else none
 | _,_=>none
def els? (H:Heap):A->Option (List (List A))
 | .imm els _=>some els
 | .sl b o n _=>match H[b]? with
  | some (.row _ _ els)=>some ((els.drop o).take n)
  | _=>none
 | .v (.string s)=>some (s.data.toList.map fun c=>[.v (.int .u8 c.toNat)])
 | _=>none
def elsB (H:Heap):A->Option (List (List A))
 | .v _=>none
 | x=>els? H x
def limit:Nat:=140737488355328
def notInt (P:Program) (t:TypeId):Bool:=match P.underlying t with | some (.slice _) | some .string=>true | _=>false
def isIntT (P:Program) (t:TypeId):Bool:=match P.underlying t with | some (.int _)=>true | _=>false
def uncl:A->A
 | .imm els _=>.imm els false
 | a=>a
def elsZ (P:Program) (H:Heap) (t2:TypeId) (by_:Nat) (z:List A) (y:A):Option (List (List A)):=bif notInt P t2 then els? H y else match y with
 | .v (.int .i64 n)=>bif isIntT P t2&&decide (0<=n)&&decide (n*by_<=limit)&&decide (n<=limit) then some (List.replicate n.toNat (z.map uncl)) else none
 | _=>none
def aAppend (P:Program) (t t2:TypeId) (wr:Bool) (x y:A) (H:Heap) (lo:Nat):Option (A×Heap) :=
 (elemT P t).bind fun e=>(sizeT P e).bind fun es=>(bytesT P e).bind fun by_=>(zeroT P e).bind fun z=>(elsZ P H t2 by_ z y).bind fun ys =>
 bif es==0 || by_==0 || !(z.length==es) || !(ys.all fun cs=>cs.length==es&&cs.all A.cell) then none else
 match x with
 | .imm xs true =>
  bif !decide ((xs.length+ys.length)*by_<=limit) then none else
  bif wr&&xs.isEmpty then some (.sl H.length 0 ys.length false,H++[.row true es ys]) else
  bif xs.all (fun cs=>cs.length==es&&cs.all A.cell) then some (.sl H.length 0 (xs.length+ys.length) false,H++[.row false es (xs++ys)]) else none
 | .sl b o n c=>match H[b]? with
  | some (.row false es' els) =>
   bif !decide ((n+ys.length)*by_<=limit) || !(es'==es) || !decide (o+n<=els.length) then none else
   bif c then some (.sl H.length 0 (n+ys.length) false,H++[.row false es ((els.drop o).take n++ys)]) else
   bif decide (lo<=b)&&o==0&&n==els.length then some (.sl b 0 (n+ys.length) false,H.set b (.row false es (els++ys))) else none
  | _=>none
 | _=>none
def aMakeSliceK (ck:Bool) (P:Program) (t:TypeId) (n c:A) (H:Heap):Option (A×Heap) :=
 (elemT P t).bind fun e=>(sizeT P e).bind fun es=>(bytesT P e).bind fun by_=>(zeroT P e).bind fun z=>(idx n).bind fun n=>(idx c).bind fun c =>
 bif es==0 || !(z.length==es) || !decide (c*by_<=limit) || !decide (c<=limit) || !decide (n<=c) then none else
 bif n==c then some (.sl H.length 0 n ck,H++[.row true es (List.replicate n (z.map uncl))]) else
 bif n==0 then some (.sl H.length 0 0 false,H++[.row false es []]) else none
def aMakeSlice (P:Program) (t:TypeId) (n c:A) (H:Heap):Option (A×Heap):=aMakeSliceK false P t n c H
def aMakeImm (P:Program) (t:TypeId) (n c:A) (H:Heap):Option (A×Heap) :=
 (elemT P t).bind fun e=>(sizeT P e).bind fun es=>(bytesT P e).bind fun by_=>(zeroT P e).bind fun z=>(idx n).bind fun n=>(idx c).bind fun c =>
 bif es==0 || !(z.length==es) || !decide (c*by_<=limit) || !decide (c<=limit) || !(n==c) then none else some (.imm (List.replicate n (z.map uncl)) false,H)
def makeT (b:Bool) (P:Program) (t:TypeId) (n c:A) (H:Heap):Option (A×Heap):=bif b then aMakeImm P t n c H else aMakeSlice P t n c H
def fillA (place:Nat->Option (Nat×Nat)) (cs:List A):List (Nat×A)->Option (List A)
 | []=>some cs
 | (i,x) :: r=>(place i).bind fun p=>x.cells?.bind fun xs=>bif xs.length==p.2&&decide (p.1+p.2<=cs.length) then fillA place (splice cs p.1 xs) r else none
def placesT (P:Program) (t:TypeId):Option (Nat->Option (Nat×Nat)):=match P.underlying t with
 | some (.struct fs)=>(fs.toList.mapM fun f=>(P.info? f.type).map fun i=>(f.offset,i.size)).map fun places=>(places.toArray[·]?)
 | some (.array _ e)=>(P.info? e).map fun i=>fun j=>some (j*i.size,i.size)
 | _=>none
def aBuild (P:Program) (t:TypeId) (parts:List (Nat×A)):Option A :=
 (zeroT P t).bind fun z=>(placesT P t).bind fun place=>(fillA place z parts).map .agg
def setEls (els:List (List A)):List (Nat×A)->Option (List (List A))
 | []=>some els
 | (i,x) :: r=>x.cells?.bind fun xs=>setEls (els.set i xs) r
def aBuildSlice (P:Program) (t:TypeId) (len:Nat) (parts:List (Nat×A)):Option A :=
 (elemT P t).bind fun e=>(sizeT P e).bind fun es=>(zeroT P e).bind fun z=>bif es==0 || !(z.length==es) || !decide (len*es<=16777216) then none else
 bif parts.all (fun p=>decide (p.1<len)&&(match p.2.cells? with | some xs=>xs.length==es | none=>false)) then (setEls (List.replicate len z) parts).map fun els=>.imm els true else none
def aBuildRow (P:Program) (t:TypeId) (len:Nat) (parts:List (Nat×A)) (H:Heap):Option (A×Heap) :=
 (elemT P t).bind fun e=>(sizeT P e).bind fun es=>(aBuildSlice P t len parts).bind fun a=>match a with
  | .imm els true=>some (.sl H.length 0 els.length true,H++[.row true es els])
  | _=>none
def aCopy (P:Program) (t:TypeId) (x y:A) (H:Heap) (lo:Nat):Option (A×Heap) :=
 (elemT P t).bind fun e=>(sizeT P e).bind fun es=>(els? H y).bind fun ys=>bif es==0 || !(ys.all fun cs=>cs.length==es&&cs.all A.cell) then none else
 match x with
 | .sl b o n _=>match H[b]? with
  | some (.row true es' els)=>bif decide (lo<=b)&&es'==es then some (.v (.int .i64 (min ys.length n:Nat)),H.set b (.row true es (splice els o (ys.take n)))) else none
  | _=>none
 | _=>none
def bytesOf:List (List A)->Option (List UInt8)
 | []=>some []
 | [.v (.int .u8 n)] :: r=>(bytesOf r).map (n.toNat.toUInt8 :: ·)
 | _=>none
def aConvert (P:Program) (s d:TypeId) (x:A) (H:Heap):Option A :=
 match P.underlying s,P.underlying d,x with
 | some (.slice e),some .string,x=>match P.underlying e,sizeT P e with
  | some (.int .u8),some 1=>(elsB H x).bind fun els=>(bytesOf els).map fun l=>.v (.string ⟨l.toArray⟩)
  | _,_=>none
 | some .string,some (.slice e),.v (.string s)=>match P.underlying e with
  | some (.int .u8)=>some (.imm (s.data.toList.map fun c=>[.v (.int .u8 c.toNat)]) false)
  | _=>none
 | _,_,x=>x.toV.bind fun a=>(pureV P (convert s d a)).map ofV
def aIfc (P:Program) (t:TypeId) (x:A):Option A:=match P.underlying t with | some (.interface _)=>none | none=>none | some _=>some (.ifc t x)
def noHold (P:Program) (t:TypeId) (c:Bool):Option A:=bif c then (P.info? t).bind fun i=>i.zero.map fun z=>.tup [ofV z,.v (.bool false)] else none
def aAssert (P:Program) (x:A) (t:TypeId) (c:Bool):Option A:=match P.underlying t with
 | none=>none
 | some (.interface _)=>none
 | some _=>match x with
  | .ifc t' y=>bif Nat.beq t' t then some (bif c then .tup [y,.v (.bool true)] else y) else noHold P t c
  | .v .nilIface=>noHold P t c
  | _=>none
mutual
def snapW (g:Nat->Nat->Nat->A):A->A
 | .sl b o m _=>g b o m
 | .imm els _=>.imm (snapWss g els) false
 | .agg cs=>.agg (snapWs g cs)
 | .tup cs=>.tup (snapWs g cs)
 | .ifc t x=>.ifc t (snapW g x)
 | .mv k ks vs=>.mv k ks (snapWs g vs)
 | .v x=>.v x
 | .fn f [] []=>.fn f [] []
 | _=>.any
def snapWs (g:Nat->Nat->Nat->A):List A->List A
 | []=>[]
 | a :: as=>snapW g a :: snapWs g as
def snapWss (g:Nat->Nat->Nat->A):List (List A)->List (List A)
 | []=>[]
 | a :: as=>snapWs g a :: snapWss g as
end
def snapG:Nat->Heap->Nat->Nat->Nat->A
 | 0,_,_,_,_=>.any
 | n+1,H,b,o,m=>match H[b]? with
  | some (.row false _ els)=>.imm (snapWss (snapG n H) ((els.drop o).take m)) false
  | _=>.any
def snap (H:Heap) (a:A):A:=snapW (snapG 4 H) a
def snapGE:Nat->Heap->Nat->Nat->Nat->A
 | 0,_,_,_,_=>.any
 | n+1,H,b,o,m=>match H[b]? with
  | some (.row _ _ els)=>.imm (snapWss (snapGE n H) ((els.drop o).take m)) false
  | _=>.any
def snapE (H:Heap) (a:A):A:=match a with
 | .mr b=>match H[b]? with
  | some (.mp k ks vs)=>.mv k ks (snapWs (snapGE 4 H) vs)
  | _=>.any
 | a=>snapW (snapGE 4 H) a
def aKill (lo:Nat) (a:A) (H:Heap):Option (A×Heap):=match a with
 | .sl b o n _=>match H[b]? with
  | some (.row true _ els)=>bif decide (lo<=b) then some (.imm (snapWss (snapG 4 H) ((els.drop o).take n)) false,H.set b .dead) else none
  | some (.row false _ els)=>some (.imm (snapWss (snapG 4 H) ((els.drop o).take n)) false,H)
  | _=>none
 | .ptr b o=>match H[b]? with
  | some (.box cs)=>bif decide (lo<=b)&&Nat.beq o 0 then some (.ip cs,H.set b .dead) else none
  | _=>none
 | _=>none
def aMark (P:Program) (s t:TypeId) (x:A) (H:Heap) (lo:Nat):Option (A×Heap) :=
 match P.underlying s with
 | some (.slice e)=>match P.underlying e with
  | some (.int .u8)=>match x with
   | .sl b _ n _=>match H[b]? with
    | some (.row true _ _)=>bif Nat.beq s t&&decide (0<n) then aKill lo x H else none
    | _=>none
   | _=>none
  | _=>none
 | _=>none
def frz1 (H:Heap) (a:A):A:=match a with | .sl b o n c=>snap H (.sl b o n c) | .imm els _=>.imm els false | a=>a
def frzA (H:Heap) (a:A):A:=match a with | .sl b o n c=>snap H (.sl b o n c) | .agg cs=>.agg (cs.map (frz1 H)) | a=>a
def stV (a:A) (H:Heap) (x:A):A:=match a with | .ep ..=>frzA H x | _=>x
mutual
def A.under (L:Nat):A->Bool
 | .any | .v _ | .nq _=>true
 | .ptr b _ | .ep b _ _ | .sl b _ _ _ | .yld b | .mr b=>decide (b<L)
 | .mv _ _ vs=>unders L vs
 | .ip cs | .agg cs | .tup cs=>unders L cs
 | .imm els _=>underss L els
 | .fn _ a b=>unders L a&&unders L b
 | .ifc _ x=>A.under L x
def unders (L:Nat):List A->Bool
 | []=>true
 | a :: as=>A.under L a&&unders L as
def underss (L:Nat):List (List A)->Bool
 | []=>true
 | a :: as=>unders L a&&underss L as
end
def Blk.under (L:Nat):Blk->Bool
 | .box cs=>unders L cs
 | .row _ _ els=>underss L els
 | .rng _=>true
 | .dead=>true
 | .hole=>true
 | .mp _ _ vs=>unders L vs
def trim (L:Nat) (H:Heap):Option Heap:=bif H.length==L then some H else bif (H.take L).all (Blk.under L) then some (H.take L) else none
def opd (cx:Cx) (s:St):Operand->A
 | .tmp t=>look s.fr t
 | .const x=>ofV x
 | .global g=>match cx.glob g with | some vs=>.ip (vs.map .v) | none=>.any
 | .func f=>.fn (.func f) [] []
def bIf {β:Type} (a:A) (x y:Option β):Option β:=match a with | .v (.bool b)=>bif b then x else y | _=>none
noncomputable def both {β:Type} (x y:Option β):Option β:=open Classical in if x=y then y else none
noncomputable def bNil {β:Type} (els:List (List A)) (x y:Option β):Option β:=match els with | []=>both x y | _ :: _=>y
noncomputable def bIfN {β:Type} (a:A) (x y:Option β):Option β:=match a with | .nq els=>bNil els x y | a=>bIf a x y
def aNq (P:Program) (t:TypeId) (x:A):Option A:=match P.underlying t,x with | some (.slice _),.imm els _=>some (.nq els) | _,_=>none
def nilT (op:BinOp) (y:Operand):Bool:=match op,y with | .eql,.const (.slice none 0 0)=>true | _,_=>false
def binT (b:Bool) (P:Program) (op:BinOp) (t:TypeId) (c d:Bool) (x y:A):Option A:=bif b then aNq P t x else aBin P op t c d x y
abbrev CallT:=Nat->List A->Heap->Nat->Option R
def evBI {β:Type} (cx:Cx) (f lo:Nat) (dst:Option Nat) (c:Call) (s:St) (k:A->Heap->Option β):Option β :=
 match c.callee,c.args.toList,c.argTypes.toList with
 | .builtin .len,[x],[t]=>(aLen cx.P t (opd cx s x) s.H).bind fun a=>k a s.H
 | .builtin .append,[x,y],[t,t2]=>(aAppend cx.P t t2 (cx.wrAt f (dst.getD 0)) (opd cx s x) (opd cx s y) s.H lo).bind fun r=>k r.1 r.2
 | .builtin .copy,[x,y],[t,_]=>(aCopy cx.P t (opd cx s x) (opd cx s y) s.H lo).bind fun r=>k r.1 r.2
 | .builtin .min,x :: r,_=>(aMM true (opd cx s x) (r.map (opd cx s))).bind fun a=>k a s.H
 | .builtin .max,x :: r,_=>(aMM false (opd cx s x) (r.map (opd cx s))).bind fun a=>k a s.H
 | _,_,_=>none
def evOp1 {β:Type} (cx:Cx) (f:Nat) (lo:Nat) (o:Oper) (s:St) (k:A->Heap->Option β):Option β :=
 match o.op with
 | .move x | .assign x=>k (opd cx s x) s.H
 | .alloc t=>(allocT (cx.arr f t) cx.P t s.H).bind fun r=>k r.1 r.2
 | .box t x=>(boxT (cx.arr f t) cx.P t (opd cx s x) s.H).bind fun r=>k r.1 r.2
 | .build t parts=>(aBuild cx.P t (parts.toList.map fun p=>(p.1,opd cx s p.2))).bind fun a=>k a s.H
 | .buildSlice t n parts=>(aBuildSlice cx.P t n (parts.toList.map fun p=>(p.1,frzA s.H (opd cx s p.2)))).bind fun a=>k a s.H
 | .load t a=>(aLoad cx.P t (opd cx s a) s.H).bind fun a=>k a s.H
 | .store t a x=>(aStore cx.P t (opd cx s a) (stV (opd cx s a) s.H (opd cx s x)) s.H lo).bind fun H=>k .any H
 | .binOp op t x y _=>(binT (nilT op y) cx.P op t (isK x) (isK y) (opd cx s x) (opd cx s y)).bind fun a=>k a s.H
 | .unOp op _ x=>(aUn cx.P op (opd cx s x)).bind fun a=>k a s.H
 | .convert a b x=>(aConvert cx.P a b (opd cx s x) s.H).bind fun a=>k a s.H
 | .makeInterface t x=>(aIfc cx.P t (opd cx s x)).bind fun a=>k a s.H
 | .makeFunc fn a b=>k (.fn fn (a.toList.map (opd cx s)) (b.toList.map (opd cx s))) s.H
 | .makeSlice t n c=>(makeT (cx.loud f (o.dst.getD 0)) cx.P t (opd cx s n) (opd cx s c) s.H).bind fun r=>k r.1 r.2
 | .slice t x lo hi mx=>(bif mx.isNone || hi.isSome then aSlice cx.P t (opd cx s x) (lo.map (opd cx s)) (hi.map (opd cx s)) (mx.map (opd cx s)) s.H else none).bind fun a=>k a s.H
 | .fieldAddr t x i=>(aFieldAddr cx.P t (opd cx s x) i s.H).bind fun a=>k a s.H
 | .field t x i=>(aField cx.P t (opd cx s x) i).bind fun a=>k a s.H
 | .indexAddr t x i=>(aIndexAddr cx.P t (opd cx s x) (opd cx s i) s.H).bind fun a=>k a s.H
 | .index t x i=>(aIndex cx.P t (opd cx s x) (opd cx s i)).bind fun a=>k a s.H
 | .extract x i=>(aExtract (opd cx s x) i).bind fun a=>k a s.H
 | .nilCheck x=>(aNil (opd cx s x) s.H).bind fun a=>k a s.H
 | .makeMap t none=>(aMakeMap cx.P t s.H).bind fun r=>k r.1 r.2
 | .insert t m i x=>(aSetMap cx.P t (opd cx s m) (opd cx s i) (opd cx s x) s.H lo).bind fun H=>k .any H
 | .mapUpdate t m i x=>(aSetMap cx.P t (opd cx s m) (opd cx s i) (opd cx s x) s.H lo).bind fun H=>k .any H
 | .lookup t m i c=>(aLookup cx.P t (opd cx s m) (opd cx s i) c s.H).bind fun a=>k a s.H
 | .typeAssert x _ t c=>(aAssert cx.P (opd cx s x) t c).bind fun a=>k a s.H
 | .call c=>evBI cx f lo o.dst c s k
 | _=>none
def callable (P:Program) (k:Nat):Bool:=match P.funcs[k]? with | some fn=>fn.body.isSome&&!(fn.name == "runtime.NumGoroutine") | none=>false
def callee? (cx:Cx) (s:St):Op->Option (Nat×List A)
 | .call c=>match c.callee with
  | .value g=>match opd cx s g with
   | .fn (.func k) first cap=>bif callable cx.P k then some (k,first++c.args.toList.map (opd cx s)++cap) else none
   | _=>none
  | _=>none
 | _=>none
def yldOf? (cx:Cx) (s:St):Op->Option (Nat×List A)
 | .call c=>match c.callee with
  | .value g=>match opd cx s g with
   | .yld b=>some (b,c.args.toList.map (opd cx s))
   | _=>none
  | _=>none
 | _=>none
def isRng (H:Heap) (b:Nat):Bool:=match H[b]? with | some (.rng _)=>true | _=>false
def orE {α β:Type} (x:Option α) (k:α->Option β) (e:Option β):Option β:=match x with | some a=>k a | none=>e
def isCall:Op->Bool
 | .call c=>match c.callee with | .value _=>true | _=>false
 | _=>false
def outK (x:Out) (k:A->Option R) (pan:A->Option R):Option R:=match x with | .ret a=>k a | .pan a=>pan a
def retU (L:Nat) (r:R):Option A:=match r.1 with
 | .ret a=>bif A.under L a then some a else none
 | .pan _=>none
def fvOf (cx:Cx) (s:St):Op->A
 | .call c=>match c.callee with | .value g=>opd cx s g | _=>.any
 | _=>.any
def fargs (cx:Cx) (s:St):Op->List A
 | .call c=>c.args.toList.map (opd cx s)
 | _=>[]
def dynCall (cx:Cx) (call:CallT) (fv:A) (args:List A) (H:Heap) (lo:Nat) (k:A->Heap->Option R) (pan:A->Heap->Option R):Option R :=
 match fv with
 | .yld b=>bif isRng H b then (call (cx.P.funcs.size+b) args H lo).bind fun r=>outK r.1 (fun a=>k a r.2) (fun _=>none) else none
 | .fn (.func q) first cap=>bif callable cx.P q then
   bif cx.isOrc q then (cx.C q ((first++args++cap).map (snap H))).bind fun a=>k a H
   else (call q (first++args++cap) H lo).bind fun r=>outK r.1 (fun a=>k a r.2) (fun a=>pan a r.2)
  else none
 | _=>none
theorem dynCall_eq {cx:Cx} {call:CallT} {s:St} {op:Op} {lo:Nat} {k:A->Heap->Option R} {pan:A->Heap->Option R}:dynCall cx call (fvOf cx s op) (fargs cx s op) s.H lo k pan =
   orE (yldOf? cx s op) (fun p=>bif isRng s.H p.1 then (call (cx.P.funcs.size+p.1) p.2 s.H lo).bind fun r=>outK r.1 (fun a=>k a r.2) (fun _=>none) else none)
   ((callee? cx s op).bind fun p=>bif cx.isOrc p.1 then (cx.C p.1 (p.2.map (snap s.H))).bind fun a=>k a s.H
    else (call p.1 p.2 s.H lo).bind fun r=>outK r.1 (fun a=>k a r.2) (fun a=>pan a r.2)):=by
 cases op with
 | call c =>
  cases hc:c.callee with
  | value g =>
   cases hf:opd cx s g with
   | fn f first cap=>cases f with
    | func q =>
     simp only[dynCall,fvOf,fargs,yldOf?,callee?,orE,hc,hf]
     cases callable cx.P q<;>rfl
    | _=>simp only[dynCall,fvOf,fargs,yldOf?,callee?,orE,hc,hf]; rfl
   | yld b=>simp only[dynCall,fvOf,fargs,yldOf?,callee?,orE,hc,hf]
   | _=>simp only[dynCall,fvOf,fargs,yldOf?,callee?,orE,hc,hf]; rfl
  | _=>simp only[dynCall,fvOf,fargs,yldOf?,callee?,orE,hc]; rfl
 | _=>rfl
def dynV {β:Type} (cx:Cx) (call:CallT) (fv:A) (args:List A) (H:Heap) (k:A->Option β):Option β :=
 match fv with
 | .fn (.func q) first cap=>bif callable cx.P q then
   bif cx.isOrcV q then (cx.C q ((first++args++cap).map (snap H))).bind k
   else ((call q (first++args++cap) H H.length).bind fun r=>retU H.length r).bind k
  else none
 | _=>none
def panK {β:Type} (x:A) (k:A->Option β):Option β:=match x with | .ifc t y=>k (.ifc t y) | _=>none
def evOp (cx:Cx) (call:CallT) (f lo:Nat) (o:Oper) (s:St) (k:St->Option R) (pan:A->St->Option R):Option R :=
 match o.op with
 | .pick c a b=>(bIf (opd cx s c) (some (opd cx s a)) (some (opd cx s b))).bind fun x=>k (s.put o.dst x)
 | .panic x=>panK (opd cx s x) fun a=>pan a s
 | .buildSlice t n parts=>bif cx.wrAt f (o.dst.getD 0) then (aBuildRow cx.P t n (parts.toList.map fun p=>(p.1,frzA s.H (opd cx s p.2))) s.H).bind fun r=>k ({ s with H:=r.2 }.put o.dst r.1) else evOp1 cx f lo o s fun a H=>k ({ s with H:=H }.put o.dst a)
 | .makeSlice t n c=>bif cx.wrAt f (o.dst.getD 0) then (aMakeSliceK true cx.P t (opd cx s n) (opd cx s c) s.H).bind fun r=>k ({ s with H:=r.2 }.put o.dst r.1) else evOp1 cx f lo o s fun a H=>k ({ s with H:=H }.put o.dst a)
 | .convert t t' x=>bif Nat.beq t t' then (aMark cx.P t t' (opd cx s x) s.H lo).bind fun r=>k ({ s with H:=r.2 }.put o.dst r.1) else evOp1 cx f lo o s fun a H=>k ({ s with H:=H }.put o.dst a)
 | .call _=>bif isCall o.op then
   dynCall cx call (fvOf cx s o.op) (fargs cx s o.op) s.H lo (fun a H=>k ({ s with H:=H }.put o.dst a)) (fun a H=>pan a { s with H:=H })
  else evOp1 cx f lo o s fun a H=>k ({ s with H:=H }.put o.dst a)
 | _=>evOp1 cx f lo o s fun a H=>k ({ s with H:=H }.put o.dst a)
def guardSlot (ops:Array Oper) (o:Oper):Option (Nat×Bool):=match o.guard with
 | some (j,want)=>match ops[j]? with
  | some q=>match q.dst with
   | some t=>some (t,want)
   | none=>none
  | none=>none
 | none=>none
theorem guardSlot_eq (ops:Array Oper) (o:Oper):guardSlot ops o=match o.guard with | some (j,want)=>((ops[j]?).bind (·.dst)).map (·,want) | none=>none:=by
 unfold guardSlot
 split
 ·rename_i j want h
  cases ops[j]? with
  | none=>rfl
  | some q=>show _=(Option.bind (some q) (·.dst)).map _; cases h:q.dst<;>simp[h]
 ·rfl
def gIf {β:Type} (g:A) (want:Bool) (run skip:Option β):Option β:=match g with
 | .v (.bool b)=>bif b then bif want then run else skip else bif want then skip else run
 | .v (.tuple _)=>skip
 | _=>none
theorem dynV_eq {β:Type} {cx:Cx} {call:CallT} {s:St} {op:Op} {k:A->Option β}:dynV cx call (fvOf cx s op) (fargs cx s op) s.H k =
   ((callee? cx s op).bind fun p=>bif cx.isOrcV p.1 then cx.C p.1 (p.2.map (snap s.H))
    else (call p.1 p.2 s.H s.H.length).bind fun r=>retU s.H.length r).bind k:=by
 cases op with
 | call c =>
  cases hc:c.callee with
  | value g =>
   cases hf:opd cx s g with
   | fn f first cap=>cases f with
    | func q =>
     simp only[dynV,fvOf,fargs,callee?,hc,hf]
     cases callable cx.P q with
     | false=>rfl
     | true =>
      simp only[cond_true,Option.bind_some]
      cases cx.isOrcV q<;>rfl
    | _=>simp only[dynV,fvOf,fargs,callee?,hc,hf]; rfl
   | _=>simp only[dynV,fvOf,fargs,callee?,hc,hf]; rfl
  | _=>simp only[dynV,fvOf,fargs,callee?,hc]; rfl
 | _=>rfl
def evV (cx:Cx) (call:CallT) (f:Nat) (o:Oper) (s:St):Option A :=
 match o.op with
 | .pick c a b=>bIf (opd cx s c) (some (opd cx s a)) (some (opd cx s b))
 | .alloc _ | .box .. | .store .. | .makeSlice .. | .panic _ | .makeMap .. | .insert .. | .mapUpdate ..=>none
 | .call c=>bif isCall o.op then
   dynV cx call (fvOf cx s o.op) (fargs cx s o.op) s.H some
  else match c.callee with
   | .builtin .len=>evOp1 cx f 0 o s fun a _=>some a
   | _=>none
 | _=>evOp1 cx f 0 o s fun a _=>some a
def evVk {β:Type} (cx:Cx) (call:CallT) (f:Nat) (o:Oper) (s:St) (k:A->Option β):Option β :=
 match o.op with
 | .pick c a b=>(bIf (opd cx s c) (some (opd cx s a)) (some (opd cx s b))).bind k
 | .alloc _ | .box .. | .store .. | .makeSlice .. | .panic _ | .makeMap .. | .insert .. | .mapUpdate ..=>none
 | .call c=>bif isCall o.op then
   dynV cx call (fvOf cx s o.op) (fargs cx s o.op) s.H k
  else match c.callee with
   | .builtin .len=>evOp1 cx f 0 o s fun a _=>k a
   | _=>none
 | _=>evOp1 cx f 0 o s fun a _=>k a
def quiet (cx:Cx) (f:Nat) (o:Oper):Bool :=
 match o.op with
 | .alloc _ | .box .. | .store .. | .makeSlice .. | .panic _ | .makeMap .. | .insert .. | .mapUpdate ..=>false
 | .call c=>match c.callee with
  | .value (.func k)=>cx.isOrc k
  | .value _=>match o.dst with | some d=>!cx.loud f d | none=>true
  | .builtin .len=>true
  | _=>false
 | _=>true
def unc {β:Type} (l:List A) (k:A->List A->Option β):Option β:=match l with | a :: r=>k a r | []=>none
def unN {β:Type}:List Nat->List A->(List (Nat×A)->Option β)->Option β
 | [],_,k=>k []
 | d :: ds,l,k=>unc l fun a r=>unN ds r fun fr=>k ((d,a) :: fr)
def memN (t:Nat):List Nat->Bool
 | []=>false
 | x :: l=>bif Nat.beq x t then true else memN t l
def dstL (o:Oper):List Nat:=match o.dst with | some d=>[d] | none=>[]
def inRun (ops:Array Oper) (g:Nat) (w:Bool) (ds:List Nat) (o:Oper):Bool :=
 match o.guard with
 | none=>false
 | some _=>match guardSlot ops o with
  | none=>false
  | some (t,w')=>bif memN g (dstL o) then false else bif Nat.beq t g then (bif w then w' else !w') else memN t ds
def splitRun (ops:Array Oper) (g:Nat) (w:Bool):List Nat->List Oper->List Oper×List Oper
 | _,[]=>([],[])
 | ds,o :: os=>bif inRun ops g w ds o then (o :: (splitRun ops g w (dstL o++ds) os).1,(splitRun ops g w (dstL o++ds) os).2) else ([],o :: os)
def dsts:List Oper->List Nat
 | []=>[]
 | o :: os=>dsts os++dstL o
def allQuiet (cx:Cx) (f:Nat):List Oper->Bool
 | []=>true
 | o :: os=>bif quiet cx f o then allQuiet cx f os else false
def plainG (ops:Array Oper) (asm:Option (Nat×Bool)) (o:Oper):Bool :=
 match o.guard with
 | none=>true
 | some _=>match asm,guardSlot ops o with
  | some (g,w),some (t,w')=>bif Nat.beq t g then (bif w then w' else !w') else false
  | _,_=>false
def endPick (ops:Array Oper) (asm:Option (Nat×Bool)) (g:Nat):List Oper->Option (Nat×Operand×Operand)
 | o :: _=>bif plainG ops asm o then (match o.op,o.dst with
  | .pick (.tmp t) a b,some d=>bif Nat.beq t g then some (d,a,b) else none
  | _,_=>none) else none
 | []=>none
def dput (d:Option Nat) (x:A) (dl:List (Nat×A)):List (Nat×A):=match d with | some d=>(d,x) :: dl | none=>dl
def over (dl:List (Nat×A)) (s:St):St:=⟨dl++s.fr,s.H⟩
def undefs (ds:List Nat):List (Nat×A):=ds.map fun d=>(d,.v undef)
def finD (cx:Cx) (fin:Option (Nat×Operand)) (dl:List (Nat×A)) (s:St):List (Nat×A):=match fin with | some (d,x)=>(d,opd cx (over dl s) x) :: dl | none=>dl
def grp {β:Type} (ops:Array Oper) (asm:Option (Nat×Bool)) (g:Nat) (w:Bool) (os:List Oper) (s:St) (vals:Option (Nat×Operand)->List Oper->Option (List A)) (ud:Option (Nat×Operand)->List Oper->Option (List A)) (k:List Oper->List (Nat×A)->Option β):Option β :=
 match endPick ops asm g (splitRun ops g w [] os).2 with
 | some (d,a,b)=>(bIf (look s.fr g) (bif w then vals (some (d,a)) (splitRun ops g w [] os).1 else ud (some (d,a)) (splitRun ops g w [] os).1) (bif w then ud (some (d,b)) (splitRun ops g w [] os).1 else vals (some (d,b)) (splitRun ops g w [] os).1)).bind fun l =>
   unN (d :: dsts (splitRun ops g w [] os).1) l fun fr=>k (splitRun ops g w [] os).2.tail fr
 | none=>(gIf (look s.fr g) w (vals none (splitRun ops g w [] os).1) (ud none (splitRun ops g w [] os).1)).bind fun l =>
   unN (dsts (splitRun ops g w [] os).1) l fun fr=>k (splitRun ops g w [] os).2 fr
def udV (cx:Cx) (s:St) (fin:Option (Nat×Operand)) (run:List Oper):Option (List A):=some ((finD cx fin (undefs (dsts run)) s).map (·.2))
def evVals (cx:Cx) (call:CallT) (f:Nat) (ops:Array Oper):Nat->Option (Nat×Bool)->Option (Nat×Operand)->List Oper->List (Nat×A)->St->Option (List A)
 | 0,_,_,_,_,_=>none
 | _+1,_,fin,[],dl,s=>some ((finD cx fin dl s).map (·.2))
 | q+1,asm,fin,o :: os,dl,s=>bif plainG ops asm o then evVk cx call f o (over dl s) fun x=>evVals cx call f ops q asm fin os (dput o.dst x dl) s
  else match guardSlot ops o with
   | none=>none
   | some (t,w)=>bif inRun ops t w [] o then grp ops asm t w (o :: os) (over dl s) (fun fin' run=>evVals cx call f ops q (some (t,w)) fin' run [] (over dl s)) (udV cx (over dl s)) (fun rest fr=>evVals cx call f ops q asm fin rest (fr++dl) s) else none
def evOps (cx:Cx) (call:CallT) (f lo:Nat) (ops:Array Oper):List Oper->St->(E->St->Option R)->Option R
 | [],s,k=>k .normal s
 | o :: os,s,k=>match o.guard with
  | none=>evOp cx call f lo o s (fun s=>evOps cx call f lo ops os s k) (fun a s=>k (.pan a) s)
  | some _=>match guardSlot ops o with
   | none=>none
   | some (g,want)=>bif quiet cx f o then (gIf (look s.fr g) want (evV cx call f o s) (some (.v undef))).bind fun x=>evOps cx call f lo ops os (s.put o.dst x) k
    else gIf (look s.fr g) want (evOp cx call f lo o s (fun s=>evOps cx call f lo ops os s k) (fun a s=>k (.pan a) s)) (evOps cx call f lo ops os (s.put o.dst (.v undef)) k)
def evOpsG (cx:Cx) (call:CallT) (f lo:Nat) (ops:Array Oper):Nat->List Oper->St->(E->St->Option R)->Option R
 | 0,_,_,_=>none
 | _+1,[],s,k=>k .normal s
 | q+1,o :: os,s,k=>match o.guard with
  | none=>evOp cx call f lo o s (fun s=>evOpsG cx call f lo ops q os s k) (fun a s=>k (.pan a) s)
  | some _=>match guardSlot ops o with
   | none=>none
   | some (t,w)=>bif inRun ops t w [] o&&allQuiet cx f (splitRun ops t w [] (o :: os)).1 then
     grp ops none t w (o :: os) s (fun fin run=>evVals cx call f ops q (some (t,w)) fin run [] s) (udV cx s) (fun rest fr=>evOpsG cx call f lo ops q rest (over fr s) k)
    else bif quiet cx f o then (gIf (look s.fr t) w (evV cx call f o s) (some (.v undef))).bind fun x=>evOpsG cx call f lo ops q os (s.put o.dst x) k
    else gIf (look s.fr t) w (evOp cx call f lo o s (fun s=>evOpsG cx call f lo ops q os s k) (fun a s=>k (.pan a) s)) (evOpsG cx call f lo ops q os (s.put o.dst (.v undef)) k)
def evPre (cx:Cx) (call:CallT) (f:Nat) (ops:Array Oper):List Oper->St->(St->Option R)->Option R
 | [],s,k=>k s
 | o :: os,s,k=>match o.guard with
  | none=>(evV cx call f o s).bind fun x=>evPre cx call f ops os (s.put o.dst x) k
  | some _=>match guardSlot ops o with
   | none=>none
   | some (g,want)=>(gIf (look s.fr g) want (evV cx call f o s) (some (.v undef))).bind fun x=>evPre cx call f ops os (s.put o.dst x) k
def evPreG (cx:Cx) (call:CallT) (f:Nat) (ops:Array Oper):Nat->List Oper->St->(St->Option R)->Option R
 | 0,_,_,_=>none
 | _+1,[],s,k=>k s
 | q+1,o :: os,s,k=>match o.guard with
  | none=>evVk cx call f o s fun x=>evPreG cx call f ops q os (s.put o.dst x) k
  | some _=>match guardSlot ops o with
   | none=>none
   | some (t,w)=>bif inRun ops t w [] o then
     grp ops none t w (o :: os) s (fun fin run=>evVals cx call f ops q (some (t,w)) fin run [] s) (udV cx s) (fun rest fr=>evPreG cx call f ops q rest (over fr s) k)
    else none
def isEff (o:Oper):Bool:=match o.op with
 | .store .. | .alloc _ | .box .. | .makeSlice ..=>true
 | .call c=>match c.callee with | .builtin .append | .builtin .copy=>true | _=>false
 | _=>false
def effAt (ops:Array Oper) (i:Nat):Bool:=match ops[i]? with | some o=>isEff o | none=>false
def blk?:A->Option Nat
 | .ptr b _ | .ep b _ _ | .sl b _ _ _ | .mr b=>some b
 | _=>none
def apart (a e:A):Bool:=match blk? a with
 | none=>true
 | some b=>match blk? e with | some c=>!Nat.beq b c | none=>true
def touchA (cx:Cx) (s:St):Op->A
 | .store _ a _=>opd cx s a
 | .call c=>match c.args.toList with | x :: _=>opd cx s x | []=>.any
 | _=>.any
def addrOf (cx:Cx) (s:St):Op->A
 | .load _ a=>opd cx s a
 | .fieldAddr _ x _=>opd cx s x
 | .indexAddr _ x _=>opd cx s x
 | .slice _ x _ _ _=>opd cx s x
 | .nilCheck x=>opd cx s x
 | .convert _ _ x=>opd cx s x
 | .lookup _ x _ _=>opd cx s x
 | .call c=>match c.args.toList with | x :: _=>opd cx s x | []=>.any
 | _=>.any
def opKind (o:Oper):Nat:=match o.op with
 | .pick .. | .move _ | .assign _ | .extract .. | .field .. | .unOp .. | .binOp .. | .index .. | .build .. | .makeFunc .. | .makeInterface .. | .typeAssert ..=>0
 | .load .. | .fieldAddr .. | .indexAddr .. | .slice .. | .nilCheck ..=>1
 | .convert .. | .lookup ..=>1
 | .call c=>match c.callee with | .builtin .len=>1 | .value (.func _)=>4 | _=>3
 | .buildSlice ..=>2
 | _=>3
def calmOp (o:Oper):Bool:=match o.op with
 | .store .. | .alloc _ | .box ..=>true
 | .call c=>match c.callee with | .builtin .copy=>true | _=>false
 | _=>false
def calmAt (ops:Array Oper) (i:Nat):Bool:=match ops[i]? with | some o=>calmOp o | none=>false
def orcOp (cx:Cx) (o:Oper):Bool:=match o.op with
 | .call c=>match c.callee with | .value (.func q)=>callable cx.P q&&cx.isOrcV q | _=>false
 | _=>false
def flat1:A->Bool
 | .sl ..=>false
 | _=>true
def flatA:A->Bool
 | .sl ..=>false
 | .agg cs=>cs.all flat1
 | _=>true
def partsOf (cx:Cx) (s:St):Op->List A
 | .buildSlice _ _ parts=>parts.toList.map fun p=>opd cx s p.2
 | _=>[]
def flats:List A->Bool
 | []=>true
 | a :: l=>bif flatA a then flats l else false
def apartAll (ops:Array Oper) (i:Nat) (a:A):List (Nat×A)->Bool
 | []=>true
 | p :: l=>bif bef ops i p.1 || bef ops p.1 i then apartAll ops i a l else bif apart a p.2 then apartAll ops i a l else false
def seenAll (ops:Array Oper) (i:Nat) (e:A):List (Nat×A)->Bool
 | []=>true
 | p :: l=>bif bef ops i p.1 || bef ops p.1 i then seenAll ops i e l else bif apart p.2 e then seenAll ops i e l else false
def chainOk (ops:Array Oper) (m:Nat):Bool:=(List.range m).all fun i=>(List.range m).all fun j=>!(effAt ops i&&effAt ops j&&decide (i<j)) || bef ops j i
def hasEff (ops:Array Oper) (m:Nat):Bool:=(List.range m).any (effAt ops)
def calmU (ops:Array Oper) (m i:Nat):Bool:=(List.range m).all fun e=>!effAt ops e || calmAt ops e || e==i || bef ops i e || bef ops e i
def floatT (cx:Cx) (f:Nat) (o:Oper):Option TypeId:=match o.op with
 | .alloc t=>bif cx.arr f t then none else some t
 | _=>none
def isFlo (cx:Cx) (f:Nat) (ops:Array Oper) (i:Nat):Bool:=match ops[i]? with | some o=>(floatT cx f o).isSome | none=>false
def chainOkF (cx:Cx) (f:Nat) (ops:Array Oper) (m:Nat):Bool:=(List.range m).all fun i=>(List.range m).all fun j=>!(effAt ops i&&effAt ops j&&decide (i<j)&&!isFlo cx f ops i&&!isFlo cx f ops j) || bef ops j i
def flOf (i:Nat):List (Nat×A)->Option A
 | []=>none
 | p :: l=>bif Nat.beq p.1 i then some p.2 else flOf i l
def ahead {β:Type} (cx:Cx) (f:Nat):Nat->List Oper->Heap->(List (Nat×A)->Heap->Option β)->Option β
 | _,[],H,k=>k [] H
 | i,o :: os,H,k=>match floatT cx f o with
  | some t=>(aAlloc cx.P t H).bind fun r=>ahead cx f (i+1) os r.2 fun fl H=>k ((i,r.1) :: fl) H
  | none=>ahead cx f (i+1) os H k
def ordAllF (fl:List (Nat×A)) (ops:Array Oper) (m i:Nat):Bool:=(List.range m).all fun e=>!effAt ops e || (flOf e fl).isSome || e==i || bef ops i e || bef ops e i
def localK (cx:Cx) (o:Oper):Bool:=Nat.beq (opKind o) 0 || Nat.beq (opKind o) 1 || Nat.beq (opKind o) 2 || (Nat.beq (opKind o) 4&&orcOp cx o)
def flBef (ops:Array Oper) (i:Nat):List (Nat×A)->Bool
 | []=>true
 | p :: l=>bif bef ops i p.1 then flBef ops i l else false
def orcD (cx:Cx) (s:St) (o:Oper):Bool:=match o.op with
 | .call c=>bif isCall (.call c) then match fvOf cx s (.call c) with | .fn (.func q) _ _=>callable cx.P q&&cx.isOrcV q | _=>false else false
 | _=>false
def evPreB (cx:Cx) (call:CallT) (f lo:Nat) (ops:Array Oper) (m:Nat) (fl:List (Nat×A)) (i:Nat) (o:Oper) (effs seen:List (Nat×A)) (s:St) (rec:List (Nat×A)->List (Nat×A)->St->Option R):Option R :=
 match flOf i fl with
 | some a=>rec effs seen (s.put o.dst a)
 | none=>bif isEff o then bif seenAll ops i (touchA cx s o.op) seen then evOp1 cx f lo o s fun a H=>rec ((i,touchA cx s o.op) :: effs) seen ({ s with H:=H }.put o.dst a) else none
  else bif ordAllF fl ops m i&&(localK cx o || flBef ops i fl || orcD cx s o) then evVk cx call f o s fun x=>rec effs seen (s.put o.dst x)
  else bif Nat.beq (opKind o) 0 then evVk cx call f o s fun x=>rec effs seen (s.put o.dst x)
  else bif Nat.beq (opKind o) 1 then bif apartAll ops i (addrOf cx s o.op) effs then evVk cx call f o s fun x=>rec effs ((i,addrOf cx s o.op) :: seen) (s.put o.dst x) else none
  else bif (Nat.beq (opKind o) 2 || (Nat.beq (opKind o) 4&&orcOp cx o))&&calmU ops m i then evVk cx call f o s fun x=>rec effs seen (s.put o.dst x)
  else bif Nat.beq (opKind o) 2 then bif flats (partsOf cx s o.op) then evVk cx call f o s fun x=>rec effs seen (s.put o.dst x) else none
  else none
def evPreS (cx:Cx) (ops:Array Oper) (m:Nat) (fl:List (Nat×A)) (i:Nat) (o:Oper) (effs seen:List (Nat×A)) (s:St) (rec:List (Nat×A)->List (Nat×A)->St->Option R):Option R :=
 bif isEff o then bif seenAll ops i (touchA cx s o.op) seen then rec ((i,touchA cx s o.op) :: effs) seen (s.put o.dst (.v undef)) else none
 else bif Nat.beq (opKind o) 1 then bif ordAllF fl ops m i then rec effs seen (s.put o.dst (.v undef)) else bif apartAll ops i (addrOf cx s o.op) effs then rec effs ((i,addrOf cx s o.op) :: seen) (s.put o.dst (.v undef)) else none
 else rec effs seen (s.put o.dst (.v undef))
def evPreE (cx:Cx) (call:CallT) (f lo:Nat) (ops:Array Oper) (m:Nat) (fl:List (Nat×A)):Nat->List Oper->List (Nat×A)->List (Nat×A)->St->(St->Option R)->Option R
 | _,[],_,_,s,k=>k s
 | i,o :: os,effs,seen,s,k=>match o.guard with
  | some _=>match guardSlot ops o with
   | none=>none
   | some (t,w)=>bif Nat.beq (opKind o) 0&&!isEff o&&(flOf i fl).isNone then (gIf (look s.fr t) w (evV cx call f o s) (some (.v undef))).bind fun x=>evPreE cx call f lo ops m fl (i+1) os effs seen (s.put o.dst x) k
    else bif (flOf i fl).isNone then bIf (look s.fr t)
     (bif w then evPreB cx call f lo ops m fl i o effs seen (s.put (some t) (.v (.bool true))) (fun effs seen s=>evPreE cx call f lo ops m fl (i+1) os effs seen s k) else evPreS cx ops m fl i o effs seen (s.put (some t) (.v (.bool true))) (fun effs seen s=>evPreE cx call f lo ops m fl (i+1) os effs seen s k))
     (bif w then evPreS cx ops m fl i o effs seen (s.put (some t) (.v (.bool false))) (fun effs seen s=>evPreE cx call f lo ops m fl (i+1) os effs seen s k) else evPreB cx call f lo ops m fl i o effs seen (s.put (some t) (.v (.bool false))) (fun effs seen s=>evPreE cx call f lo ops m fl (i+1) os effs seen s k))
    else none
  | none=>evPreB cx call f lo ops m fl i o effs seen s fun effs seen s=>evPreE cx call f lo ops m fl (i+1) os effs seen s k
def heapOp:Op->Bool
 | .alloc _ | .box .. | .store .. | .makeSlice .. | .call _ | .makeMap .. | .insert .. | .mapUpdate ..=>true
 | _=>false
def tailAt (ops:Array Oper):Option Nat:=(List.range (ops.size+1)).find? (tailOk ops)
def dstOk (ops:Array Oper) (N:Nat):Bool:=ops.toList.all fun o=>match o.dst with | some d=>decide (d<N) | none=>true
def isCutO (cx:Cx) (o:Oper):Bool:=match o.op with
 | .call c=>match c.callee with | .value (.func q)=>callable cx.P q&&!cx.isOrc q&&(!Nat.beq (cx.cut q) 0 || cx.fre q) | _=>false
 | _=>false
def cutM (cx:Cx) (o:Oper):Nat:=match o.op with
 | .call c=>match c.callee with | .value (.func q)=>cx.cut q | _=>0
 | _=>0
def loC (cx:Cx) (o:Oper) (lo:Nat) (H:Heap):Nat:=match o.op with
 | .call c=>match c.callee with | .value (.func q)=>bif cx.fre q then H.length else lo | _=>lo
 | _=>lo
def cutIdx (cx:Cx):Nat->List Oper->Option Nat
 | _,[]=>none
 | i,o :: os=>bif isCutO cx o then some i else cutIdx cx (i+1) os
def preC (ops:Array Oper) (c m:Nat):List Nat:=(List.range m).filter fun i=>bef ops c i&&(effAt ops i || (List.range m).any fun e=>effAt ops e&&bef ops i e)
def chainC (ops:Array Oper) (c m:Nat):List Nat:=preC ops c m++c :: (List.range m).filter fun i=>bef ops i c
def restC (ops:Array Oper) (c m:Nat):List Nat:=(List.range m).filter fun i=>(chainC ops c m).all fun j=>!Nat.beq i j
def chainT (ops:Array Oper):List Nat->List Nat->Bool
 | _,[]=>true
 | ps,i :: is=>bif ps.all (fun p=>bef ops i p) then chainT ops (i :: ps) is else false
def closC (ops:Array Oper) (L T:List Nat):Bool:=L.all fun i=>T.all fun j=>!bef ops i j
def noGd (o:Oper):Bool:=match o.guard with | none=>true | some _=>false
def okL (o:Oper):Bool:=noGd o&&(Nat.beq (opKind o) 0 || Nat.beq (opKind o) 1 || Nat.beq (opKind o) 2)
def okT (o:Oper):Bool:=noGd o&&(isEff o || !heapOp o.op)&&!isCall o.op
def evL (cx:Cx) (call:CallT) (f:Nat) (ops:Array Oper):List Nat->List (Nat×A)->St->(List (Nat×A)->St->Option R)->Option R
 | [],seen,s,k=>k seen s
 | i :: is,seen,s,k=>match ops[i]? with
  | none=>none
  | some o=>bif okL o then bif (bif Nat.beq (opKind o) 2 then flats (partsOf cx s o.op) else true) then evVk cx call f o s fun x=>evL cx call f ops is (bif Nat.beq (opKind o) 1 then (i,addrOf cx s o.op) :: seen else seen) (s.put o.dst x) k else none else none
def apartC (m:Nat) (a:A):Bool:=match blk? a with | none=>true | some b=>Nat.ble m b
def seenC (ops:Array Oper) (c m:Nat):List (Nat×A)->Bool
 | []=>true
 | p :: l=>bif bef ops c p.1 then seenC ops c m l else bif apartC m p.2 then seenC ops c m l else false
def evT (cx:Cx) (call:CallT) (f lo:Nat) (ops:Array Oper) (c:Nat) (kp:A->Heap->Option R):List Nat->List (Nat×A)->St->(St->Option R)->Option R
 | [],_,s,k=>k s
 | i :: is,seen,s,k=>match ops[i]? with
  | none=>none
  | some o=>bif Nat.beq i c then bif seenC ops c (cutM cx o) seen then dynCall cx call (fvOf cx s o.op) (fargs cx s o.op) s.H (loC cx o lo s.H) (fun a H=>evT cx call f lo ops c kp is seen ({ s with H:=H }.put o.dst a) k) kp else none
   else bif okT o then bif (bif isEff o then seenAll ops i (touchA cx s o.op) seen else true) then evOp1 cx f lo o s fun a H=>evT cx call f lo ops c kp is seen ({ s with H:=H }.put o.dst a) k else none else none
def rgcOk (cx:Cx) (N:Nat) (ops:Array Oper) (c m:Nat) (o:Oper):Bool:=(ops.toList.take m).all noGd&&isCutO cx o&&rgOk ops N&&chainT ops [] (chainC ops c m)&&closC ops (restC ops c m) (chainC ops c m)&&(chainC ops c m).all fun i=>Nat.blt i m
def cutC (cx:Cx) (ops:Array Oper):Option Nat:=match tailAt ops with | none=>none | some m=>cutIdx cx 0 (ops.toList.take m)
def evRgC (cx:Cx) (call:CallT) (f lo N:Nat) (ops:Array Oper) (c:Nat) (s:St) (k:E->St->Option R):Option R :=
 match ops[c]? with
 | none=>none
 | some o=>(tailAt ops).bind fun m=>bif rgcOk cx N ops c m o then evL cx call f ops (restC ops c m) [] s fun seen s1 =>
   evT cx call f lo ops c (fun a H=>k (.pan a) ⟨[],H⟩) (chainC ops c m) seen s1 fun s=>evOpsG cx call f lo ops (ops.size+1) (ops.toList.drop m) s k
  else none
def firstReg:Code->Nat
 | .region id _ _=>id
 | .seq a _=>firstReg a
 | .block _ c=>firstReg c
 | .scope c=>firstReg c
 | .loop c=>firstReg c
 | _=>0
def frzC (H:Heap) (a:A):A:=match a with | .sl b o n c=>snap H (.sl b o n c) | .imm els _=>.imm els false | a=>a
def frz (H:Heap) (a:A):A:=match a with | .sl b o n c=>snap H (.sl b o n c) | .imm els _=>.imm els false | .agg cs=>.agg (cs.map (frzC H)) | a=>a
def seed1 (es:Nat) (H:Heap):A->A×Heap
 | .imm els true=>bif els.all (fun cs=>Nat.beq cs.length es) then (.sl H.length 0 els.length false,H++[.row false es els]) else (.imm els true,H)
 | a=>(a,H)
def seedW (es:Nat) (H:Heap):A->A×Heap
 | .imm [] true=>(.sl H.length 0 0 false,H++[.row true es []])
 | a=>(a,H)
def seedZ (es:Nat) (H:Heap):A->A×Heap
 | .imm els true=>bif els.all (fun cs=>Nat.beq cs.length es) then (.sl H.length 0 els.length false,H++[.row false es els]) else (.imm els true,H++[.dead])
 | a=>(a,H++[.dead])
def actC (lo off m:Nat) (a:A) (H:Heap):Heap :=
 match a with
 | .ptr b o=>match H[b]? with
  | some (.box cs)=>match cs[o+off]? with
   | some c=>bif decide (lo<=b) then match m with
    | 0=>H.set b (.box (cs.set (o+off) (frz H c)))
    | es+1=>(seed1 es H c).2.set b (.box (cs.set (o+off) (seed1 es H c).1))
    else H
   | none=>H
  | _=>H
 | _=>H
def act1 (lo:Nat) (p:Nat×Nat×Nat) (s:St):St :=
 match p.2.1 with
 | 0=>match p.2.2 with
  | 0=>⟨(p.1,frz s.H (look s.fr p.1)) :: s.fr,s.H⟩
  | es+1=>bif Nat.ble 500000 es then (bif Nat.ble 1000000 es then ⟨(p.1,(seedZ (es - 1000000) s.H (look s.fr p.1)).1) :: s.fr,(seedZ (es - 1000000) s.H (look s.fr p.1)).2⟩ else ⟨(p.1,(seedW (es - 500000) s.H (look s.fr p.1)).1) :: s.fr,(seedW (es - 500000) s.H (look s.fr p.1)).2⟩) else ⟨(p.1,(seed1 es s.H (look s.fr p.1)).1) :: s.fr,(seed1 es s.H (look s.fr p.1)).2⟩
 | off+1=>⟨s.fr,actC lo off p.2.2 (look s.fr p.1) s.H⟩
def actAll (lo:Nat):List (Nat×Nat×Nat)->St->St
 | [],s=>s
 | p :: ps,s=>actAll lo ps (act1 lo p s)
def killAll (lo:Nat):List (Nat×Nat×Nat)->St->(St->Option R)->Option R
 | [],s,k=>k s
 | p :: ps,s,k=>(aKill lo (look s.fr p.1) s.H).bind fun r=>killAll lo ps ⟨(p.1,r.1) :: s.fr,r.2⟩ k
def frzs:List (Nat×Nat×Nat)->List (Nat×Nat×Nat)
 | []=>[]
 | p :: ps=>match p.2.2 with | 0=>p :: frzs ps | _+1=>frzs ps
def rekeep (keep:List Nat) (s:St):St:=⟨keep.map fun t=>(t,look s.fr t),s.H⟩
def keepsUnder (L:Nat) (fr:List (Nat×A)):List Nat->Bool
 | []=>true
 | t :: ts=>bif A.under L (look fr t) then keepsUnder L fr ts else false
theorem keepsUnder_all (L:Nat) (fr:List (Nat×A)):∀ keep:List Nat,keepsUnder L fr keep=true->keep.all (fun t=>A.under L (look fr t))=true
 | [],_=>rfl
 | t :: ts,h=>by
  rw[keepsUnder] at h
  cases hu:A.under L (look fr t) with
  | false=>rw[hu] at h; cases h
  | true =>
   rw[hu] at h
   rw[List.all_cons,hu,Bool.true_and]
   exact keepsUnder_all L fr ts h
def norm0 (keep:List Nat) (L:Nat) (s:St) (k:St->Option R):Option R :=
 (trim L s.H).bind fun H=>bif (bif Nat.beq s.H.length L then true else keepsUnder L s.fr keep) then k ⟨keep.map fun t=>(t,look s.fr t),H⟩ else none
def rstOf:List (Nat×Nat×Nat)->Option (Nat×Nat×Nat)
 | []=>none
 | p :: ps=>match ps with
  | []=>match p.2.1 with
   | 0=>bif Nat.ble 1000001 p.2.2 then some p else none
   | _+1=>none
  | _ :: _=>rstOf ps
def predN (n:Nat):Nat:=n - 1
def isClip:A->Bool | .imm _ true=>true | _=>false
def normR (lo:Nat) (keep:List Nat) (p:Nat×Nat×Nat) (L:Nat) (s:St) (k:St->Option R):Option R :=
 bif isClip (look s.fr p.1) then norm0 keep (predN L) s fun s=>bif Nat.beq (act1 lo p s).H.length L then k (rekeep keep (act1 lo p s)) else none else norm0 keep L s k
def normK (lo:Nat) (keep:List Nat) (acts:List (Nat×Nat×Nat)) (L:Nat) (s:St) (k:St->Option R):Option R :=
 match rstOf acts with
 | none=>norm0 keep L (actAll lo (frzs acts) s) k
 | some p=>normR lo keep p L (actAll lo (frzs acts) s) k
def startL (s:St) (keep:List Nat) (k:Nat->St->Option R):Option R:=k s.H.length (rekeep keep s)
def iter (lo:Nat) (keep:List Nat) (acts:List (Nat×Nat×Nat)) (L:Nat) (f:St->(E->St->Option R)->Option R) (kx kg:Nat->St->Option R) (kr:St->Option R) (kp:A->St->Option R):Nat->St->Option R
 | 0,_=>none
 | n+1,s=>f s fun e s'=>match e with
  | .normal=>normK lo keep acts L s' fun s'=>iter lo keep acts L f kx kg kr kp n s'
  | .exit i=>kx i (rekeep keep s')
  | .goto l=>kg l (rekeep keep s')
  | .ret=>kr (rekeep keep s')
  | .pan a=>kp a (rekeep keep s')
def noRng:Code->Bool
 | .seq a b=>noRng a&&noRng b
 | .cond _ a b=>noRng a&&noRng b
 | .block _ c=>noRng c
 | .loop c=>noRng c
 | .rangeFunc .. | .scope _=>false
 | _=>true
def putsL:List Nat->List A->List (Nat×A)->List (Nat×A)
 | p :: ps,a :: as,fr=>putsL ps as ((p,a) :: fr)
 | _,_,fr=>fr
def rdy {β:Type} (H:Heap) (b:Nat) (x:Option β):Option β:=match H[b]? with | some (.rng .ready)=>x | _=>none
def bsy {β:Type} (H:Heap) (b:Nat) (x:Option β):Option β:=match H[b]? with | some (.rng .busy)=>x | _=>none
def rndEnd (b:Nat) (e:E) (H:Heap):Option R :=
 match e with
 | .normal=>bsy H b (some (.ret (.v (.bool true)),H.set b (.rng .ready)))
 | .exit i=>bsy H b (some (.ret (.v (.bool false)),H.set b (.rng (.done (.exit i)))))
 | .goto l=>bsy H b (some (.ret (.v (.bool false)),H.set b (.rng (.done (.goto l)))))
 | .ret=>bsy H b (some (.ret (.v (.bool false)),H.set b (.rng (.done .ret))))
 | .pan _=>none
def roundOf (F1 F2:St->(E->St->Option R)->Option R) (lo b:Nat) (ps:List Nat) (fr:List (Nat×A)) (args:List A) (H:Heap) (lo':Nat):Option R :=
 bif Nat.beq args.length ps.length&&Nat.ble lo' lo then
  rdy H b (F1 ⟨putsL ps args fr,H⟩ fun e s=>match e with
   | .normal=>rdy s.H b (F2 ⟨s.fr,s.H.set b (.rng .busy)⟩ fun e s=>rndEnd b e s.H)
   | _=>none)
 else none
def yext (q:Nat) (call:CallT) (b:Nat) (rnd:List A->Heap->Nat->Option R):CallT:=fun k args H lo=>bif Nat.beq k (q+b) then rnd args H lo else call k args H lo
def rngSel {β:Type} (b:Nat) (H:Heap) (kn:Heap->Option β) (kx kg:Nat->Heap->Option β) (kr:Heap->Option β):Option β :=
 match H[b]? with
 | some (.rng .ready)=>kn (H.set b .dead)
 | some (.rng (.done (.exit i)))=>kx i (H.set b .dead)
 | some (.rng (.done (.goto l)))=>kg l (H.set b .dead)
 | some (.rng (.done .ret))=>kr (H.set b .dead)
 | _=>none
def rngEnd (b:Nat) (H:Heap) (k:E->Heap->Option R):Option R:=rngSel b H (fun H=>k .normal H) (fun i H=>k (.exit i) H) (fun l H=>k (.goto l) H) (fun H=>k .ret H)
def startR (s:St) (k:St->Option R):Option R:=k s
def fnOf (P:Program):A->Option (Nat×List A)
 | .fn (.func gf) [] cap=>bif callable P gf then some (gf,cap) else none
 | _=>none
def allLt (N:Nat):List Nat->Bool
 | []=>true
 | p :: ps=>bif Nat.blt p N then allLt N ps else false
def rkey (body:Code):Nat:=1000000+firstReg body
def firstR:Code->Nat
 | .region id _ _=>id
 | .seq a _=>firstR a
 | .block _ c=>firstR c
 | .scope c=>firstR c
 | .loop c=>firstR c
 | .cond _ a _=>firstR a
 | _=>0
def joinE (keep:List Nat) (e:E) (s:St):Option R:=match e with
 | .normal=>some (.ret (.tup (keep.map (look s.fr))),s.H)
 | _=>none
def retT {β:Type} (r:R) (k:List A->Heap->Option β):Option β:=match r with
 | (.ret (.tup l),H)=>k l H
 | _=>none
theorem unN_map {β:Type} (fr:List (Nat×A)):∀ (keep:List Nat) (k:List (Nat×A)->Option β),unN keep (keep.map (look fr)) k=k (keep.map fun t=>(t,look fr t))
 | [],_=>rfl
 | d :: ds,k=>by
  show unN ds (ds.map (look fr)) (fun r=>k ((d,look fr d) :: r))=_
  rw[unN_map fr ds]; rfl
def joinKey:Code->Nat
 | .block _ c=>firstR c
 | .cond _ a _=>500000+firstR a
 | .seq _ b=>joinKey b
 | _=>999999
def seqJ (js:List Nat) (X:(E->St->Option R)->Option R) (Y:St->Option R) (k:E->St->Option R):Option R:=match js with
 | []=>X fun e s'=>match e with | .normal=>Y s' | e=>k e s'
 | j :: js=>(X (joinE (j :: js))).bind fun r=>retT r fun l H=>unN (j :: js) l fun fr=>Y ⟨fr,H⟩
noncomputable def evF (cx:Cx) (call:CallT) (rg:CallT->CallT) (n f lo N:Nat):Code->St->(E->St->Option R)->Option R
 | .skip,s,k=>k .normal s
 | .label _,s,k=>k .normal s
 | .region id ops draw,s,k=>killAll lo (cx.acts f (2000000+id)) s fun s=>bif dstOk ops N then
  bif draw then match cutC cx ops with | some c=>evRgC cx call f lo N ops c s k | none=>bif rgOk ops N then (tailAt ops).bind fun m=>bif hasEff ops m then bif chainOk ops m then evPreE cx call f lo ops m [] 0 (ops.toList.take m) [] [] s fun s=>evOpsG cx call f lo ops (ops.size+1) (ops.toList.drop m) s k else bif chainOkF cx f ops m then ahead cx f 0 (ops.toList.take m) s.H fun fl H=>evPreE cx call f lo ops m fl 0 (ops.toList.take m) [] [] ⟨s.fr,H⟩ fun s=>evOpsG cx call f lo ops (ops.size+1) (ops.toList.drop m) s k else none else evPreG cx call f ops (ops.size+1) (ops.toList.take m) s fun s=>evOpsG cx call f lo ops (ops.size+1) (ops.toList.drop m) s k else none
  else evOpsG cx call f lo ops (ops.size+1) ops.toList s k
  else none
 | .seq a b,s,k=>seqJ (cx.join f (joinKey a)) (fun k=>evF cx call rg n f lo N a s k) (fun s=>evF cx call rg n f lo N b s k) k
 | .cond c a b,s,k=>bIfN (opd cx s c) (evF cx call rg n f lo N a s k) (evF cx call rg n f lo N b s k)
 | .block id c,s,k=>evF cx call rg n f lo N c s fun e s'=>match e with | .exit j=>bif Nat.beq j id then k .normal s' else k (.exit j) s' | e=>k e s'
 | .scope c,s,k=>evF cx call rg n f lo N c s fun e s'=>match e with | .goto _=>none | e=>k e s'
 | .loop c,s,k=>startL (actAll lo (cx.acts f (firstReg c)) (rekeep (cx.keep f (firstReg c)) s)) (cx.keep f (firstReg c)) fun L s=>iter lo (cx.keep f (firstReg c)) (cx.acts f (firstReg c)) L (fun s k=>evF cx call rg n f lo N c s k) (fun i s=>k (.exit i) s) (fun l s=>k (.goto l) s) (fun s=>k .ret s) (fun a s=>k (.pan a) s) n s
 | .exit id,s,k=>k (.exit id) s
 | .goto l,s,k=>k (.goto l) s
 | .ret,s,k=>k .ret s
 | .rangeFunc g ps asg body,s,k=>startR (actAll lo (cx.acts f (rkey body)) s) fun s=>(fnOf cx.P (opd cx s g)).bind fun p=>bif allLt N ps.toList&&noRng asg&&noRng body&&Nat.ble lo s.H.length then
   (rg (yext cx.P.funcs.size call s.H.length (roundOf (fun s k=>evF cx call rg n f lo N asg s k) (fun s k=>evF cx call rg n f lo N body s k) lo s.H.length ps.toList (rekeep (cx.keep f (rkey body)) s).fr)) p.1 (.yld s.H.length :: p.2) (s.H++[.rng .ready]) lo).bind fun r =>
    outK r.1 (fun _=>rngEnd s.H.length r.2 fun e H=>k e ⟨s.fr,H⟩) (fun _=>none)
  else none
 | _,_,_=>none
def loopsOf:Code->List Code
 | .loop c=>c :: loopsOf c
 | .seq a b=>loopsOf a++loopsOf b
 | .cond _ a b=>loopsOf a++loopsOf b
 | .block _ c=>loopsOf c
 | .scope c=>loopsOf c
 | .rangeFunc _ _ a b=>loopsOf a++loopsOf b
 | _=>[]
def loopAt (cx:Cx) (f i:Nat):Code:=match (cx.P.funcs[f]?).bind (·.body) with | some c=>(loopsOf c).getD i .skip | none=>.skip
def ntm (cx:Cx) (f:Nat):Nat:=match cx.P.funcs[f]? with | some fn=>fn.ntmps | none=>0
def rangesOf:Code->List (List Nat×Code×Code)
 | .loop c=>rangesOf c
 | .seq a b=>rangesOf a++rangesOf b
 | .cond _ a b=>rangesOf a++rangesOf b
 | .block _ c=>rangesOf c
 | .scope c=>rangesOf c
 | .rangeFunc _ ps a b=>[(ps.toList,a,b)]
 | _=>[]
def rangeAt (cx:Cx) (f i:Nat):List Nat×Code×Code:=match (cx.P.funcs[f]?).bind (·.body) with | some c=>(rangesOf c).getD i ([],.skip,.skip) | none=>([],.skip,.skip)
noncomputable def roundR (cx:Cx) (call:CallT) (rg:CallT->CallT) (n f lo i b:Nat) (fr:List (Nat×A)) (args:List A) (H:Heap) (lo':Nat):Option R :=
 roundOf (fun s k=>evF cx call rg n f lo (ntm cx f) (rangeAt cx f i).2.1 s k) (fun s k=>evF cx call rg n f lo (ntm cx f) (rangeAt cx f i).2.2 s k) lo b (rangeAt cx f i).1 fr args H lo'
noncomputable def loopR (cx:Cx) (call:CallT) (rg:CallT->CallT) (n f lo i L:Nat) (kx kg:Nat->St->Option R) (kr:St->Option R) (kp:A->St->Option R) (m:Nat) (s:St):Option R :=
 iter lo (cx.keep f (firstReg (loopAt cx f i))) (cx.acts f (firstReg (loopAt cx f i))) L (fun s k=>evF cx call rg n f lo (ntm cx f) (loopAt cx f i) s k) kx kg kr kp m s
def evRes1 (cx:Cx) (s:St):ResultVar->Option A
 | .tmp t=>some (look s.fr t)
 | .cell a t=>aLoad cx.P t (look s.fr a) s.H
def evResL (cx:Cx) (s:St):List ResultVar->Option (List A)
 | []=>some []
 | r :: rs=>(evRes1 cx s r).bind fun a=>(evResL cx s rs).bind fun l=>some (a :: l)
def evRes (cx:Cx) (fn:Func) (s:St):Option A:=match fn.results.toList with
 | [r]=>evRes1 cx s r
 | rs=>(evResL cx s rs).bind fun l=>some (.tup l)
def evResK (cx:Cx) (s:St):List ResultVar->(List A->Option R)->Option R
 | [],k=>k []
 | r :: rs,k=>(evRes1 cx s r).bind fun a=>evResK cx s rs fun l=>k (a :: l)
def evResR (cx:Cx) (fn:Func) (s:St):Option R:=match fn.results.toList with
 | [r]=>(evRes1 cx s r).bind fun a=>some (.ret a,s.H)
 | rs=>evResK cx s rs fun l=>some (.ret (.tup l),s.H)
theorem evResK_eq (cx:Cx) (s:St):∀ (rs:List ResultVar) (k:List A->Option R),evResK cx s rs k=(evResL cx s rs).bind k
 | [],_=>rfl
 | r :: rs,k=>by
  rw[evResK,evResL,Option.bind_assoc]
  congr 1; funext a
  rw[evResK_eq cx s rs,Option.bind_assoc]
  rfl
theorem evResR_eq (cx:Cx) (fn:Func) (s:St):evResR cx fn s=(evRes cx fn s).bind fun a=>some (.ret a,s.H):=by
 unfold evResR evRes
 split
 ·rename_i h; rfl
 ·rw[evResK_eq,Option.bind_assoc]
  rfl
def frame (args:List A):List (Nat×A):=args.zipIdx.map fun p=>(p.2,p.1)
noncomputable def evBody (cx:Cx) (call:CallT) (rg:CallT->CallT) (n f lo:Nat) (fn:Func) (c:Code) (args:List A) (H:Heap):Option R :=
 evF cx call rg n f lo fn.ntmps c ⟨frame args,H⟩ fun e s=>match e with
  | .normal | .ret=>startR (actAll lo (cx.acts f 3000000) s) fun s=>evResR cx fn s
  | .pan a=>some (.pan a,s.H)
  | _=>none
def isDefer (o:Oper):Bool:=match o.op with | .defer _=>true | _=>false
def lastD:List Oper->Option (List Oper×Oper)
 | []=>none
 | o :: os=>match os with
  | []=>some ([],o)
  | _ :: _=>(lastD os).map fun p=>(o :: p.1,p.2)
def hasDefer:Code->Bool
 | .seq _ (.seq (.region _ ops false) _)=>ops.toList.any isDefer
 | _=>false
def okC (cx:Cx) (q:Nat) (o:Oper):Bool:=callable cx.P q&&noGd o&&o.dst.isNone
def dClos (cx:Cx) (s:St) (o:Oper):Option (Nat×List A):=match o.op with
 | .defer c=>match c.callee,c.args.toList with
  | .value g,[]=>match opd cx s g with
   | .fn (.func q) [] cap=>bif okC cx q o then some (q,cap) else none
   | _=>none
  | _,_=>none
 | _=>none
def recDst (o:Oper):Option Nat:=match o.op with
 | .call c=>match c.callee,c.args.toList with
  | .builtin .recover,[]=>bif noGd o then o.dst else none
  | _,_=>none
 | _=>none
def recAt:Nat->List Oper->Option (Nat×Nat)
 | _,[]=>none
 | i,o :: os=>match recDst o with | some d=>some (i,d) | none=>recAt (i+1) os
def noRec (ops:Array Oper) (i d:Nat):Array Oper:=match ops[i]? with | some o=>ops.setIfInBounds i { o with op:=.move (.tmp d) } | none=>ops
def isLoadO (d:Nat) (o:Oper):Bool:=noGd o&&(match o.op with | .load _ (.tmp t)=>!Nat.beq t d | _=>false)&&(match o.dst with | some e=>!Nat.beq e d | none=>false)
def isLoadAt (d:Nat) (ops:Array Oper) (j:Nat):Bool:=match ops[j]? with | some o=>isLoadO d o | none=>true
def recOk (ops:Array Oper) (i d:Nat):Bool:=(List.range ops.size).all fun j=>Nat.beq j i || match ops[j]? with | some o=>isLoadO d o || o.after.any fun e=>Region.binds .any e&&!isLoadAt d ops e.on | none=>false
def okR (cap:List A) (ops:Array Oper) (fn:Func) (rest:Code):Bool:=decide (cap.length<=fn.ntmps)&&dstOk ops fn.ntmps&&noRng rest&&fn.results.toList.isEmpty
def okD (ops:Array Oper) (N:Nat) (a:Code):Bool:=dstOk ops N&&noRng a
def evRegD (cx:Cx) (call:CallT) (f lo N:Nat) (ops:Array Oper) (s:St) (k:E->St->Option R):Option R :=
 bif dstOk ops N then
  match cutC cx ops with | some c=>evRgC cx call f lo N ops c s k | none=>bif rgOk ops N then (tailAt ops).bind fun m=>bif hasEff ops m then bif chainOk ops m then evPreE cx call f lo ops m [] 0 (ops.toList.take m) [] [] s fun s=>evOpsG cx call f lo ops (ops.size+1) (ops.toList.drop m) s k else bif chainOkF cx f ops m then ahead cx f 0 (ops.toList.take m) s.H fun fl H=>evPreE cx call f lo ops m fl 0 (ops.toList.take m) [] [] ⟨s.fr,H⟩ fun s=>evOpsG cx call f lo ops (ops.size+1) (ops.toList.drop m) s k else none else evPreG cx call f ops (ops.size+1) (ops.toList.take m) s fun s=>evOpsG cx call f lo ops (ops.size+1) (ops.toList.drop m) s k else none
 else none
def okX (cap:List A) (ops:Array Oper) (fn:Func) (p:Nat×Nat):Bool:=decide (cap.length<=fn.ntmps)&&decide (p.2<fn.ntmps)&&recOk ops p.1 p.2&&(match ops[p.1]? with | some o=>o.after.toList.isEmpty | none=>false)&&fn.results.toList.isEmpty
noncomputable def evRec (cx:Cx) (call:CallT) (rg:CallT->CallT) (n lo q:Nat) (cap:List A) (v:A) (H:Heap) (k:Heap->Option R):Option R :=
 (cx.P.funcs[q]?).bind fun fn=>fn.body.bind fun c=>match c with
  | .seq (.region _ ops false) rest=>match ops.toList with
   | o :: os=>(recDst o).bind fun d=>bif okR cap ops fn rest then evOps cx call q lo ops os ⟨(d,v) :: frame cap,H⟩ fun e s=>match e with
     | .normal=>evF cx call rg n q lo fn.ntmps rest s fun e s=>match e with
      | .normal | .ret=>k s.H
      | _=>none
     | _=>none
    else none
   | []=>none
  | .region _ ops true=>(recAt 0 ops.toList).bind fun p=>bif okX cap ops fn p then evRegD cx call q lo fn.ntmps (noRec ops p.1 p.2) ⟨(p.2,v) :: frame cap,H⟩ fun e s=>match e with
    | .normal=>k s.H
    | _=>none
   else none
  | _=>none
noncomputable def evBodyD (cx:Cx) (call:CallT) (rg:CallT->CallT) (n f lo:Nat) (fn:Func) (c:Code) (args:List A) (H:Heap):Option R:=match c with
 | .seq a (.seq (.region _ ops false) rest)=>bif okD ops fn.ntmps a then evF cx call rg n f lo fn.ntmps a ⟨frame args,H⟩ fun e s=>match e with
  | .normal=>(lastD ops.toList).bind fun p=>evOps cx call f lo ops p.1 s fun e s=>match e with
   | .normal=>(dClos cx s p.2).bind fun z=>evF cx call rg n f lo fn.ntmps rest s fun e s=>match e with
    | .normal | .ret=>evRec cx call rg n lo z.1 z.2 (.v .nilIface) s.H fun H=>startR (actAll lo (cx.acts f 3000000) ⟨s.fr,H⟩) fun s=>evResR cx fn s
    | .pan x=>evRec cx call rg n lo z.1 z.2 x s.H fun H=>startR (actAll lo (cx.acts f 3000000) ⟨s.fr,H⟩) fun s=>evResR cx fn s
    | _=>none
   | _=>none
  | _=>none
  else none
 | _=>none
noncomputable def evCall1 (cx:Cx) (call:CallT) (rg:CallT->CallT) (n f:Nat) (args:List A) (H:Heap) (lo:Nat):Option R :=
 (cx.P.funcs[f]?).bind fun fn=>fn.body.bind fun c=>bif decide (args.length<=fn.ntmps) then bif hasDefer c then evBodyD cx call rg n f lo fn c args H else evBody cx call rg n f lo fn c args H else none
def noY:CallT:=fun _ _ _ _=>none
def snapD:Nat->Heap->A->A
 | 0,_,_=>.any
 | n+1,H,.ptr b o=>match H[b]? with | some (.box cs)=>.ip ((cs.drop o).map (snapD n H)) | _=>.any
 | n+1,H,.fn f p q=>.fn f (p.map (snapD n H)) (q.map (snapD n H))
 | n+1,H,.agg cs=>.agg (cs.map (snapD n H))
 | _+1,H,a=>snapW (snapGE 4 H) a
def isV:A->Bool | .v _=>true | _=>false
def deepHere (cx:Cx) (k:Nat) (H:Heap):Bool:=bif cx.deep k then bif Nat.beq H.length 0 then false else true else false
def deepCall (cx:Cx) (k:Nat) (args:List A) (H:Heap):Option R:=(cx.C k (args.map (snapD 6 H))).bind fun r=>bif isV r then some (.ret r,H) else none
def cutHere (cx:Cx) (k:Nat) (H:Heap):Bool:=bif Nat.beq (cx.cut k) 0 then false else bif Nat.ble (cx.cut k) H.length then true else bif Nat.beq H.length 0 then false else Nat.beq (cx.cut k) 999999999
def cutAt (cx:Cx) (k:Nat) (H:Heap):Nat:=bif Nat.ble (cx.cut k) H.length then cx.cut k else H.length
def outUnder (m:Nat):Out->Bool
 | .ret a=>A.under m a
 | .pan a=>A.under m a
def cutCall (m:Nat) (f:Heap->Option R) (args:List A) (H:Heap):Option R :=
 bif unders m args&&(H.take m).all (Blk.under m) then (f (H.take m)).bind fun r=>bif Nat.ble m r.2.length&&(r.2.take m).all (Blk.under m)&&outUnder m r.1 then some (r.1,r.2.take m++H.drop m) else none else none
noncomputable def evCallY (cx:Cx):Nat->CallT->CallT
 | 0,base,k,args,H,lo=>bif Nat.ble cx.P.funcs.size k then base k args H lo else none
 | n+1,base,k,args,H,lo=>bif Nat.ble cx.P.funcs.size k then base k args H lo else bif cutHere cx k H then cutCall (cutAt cx k H) (fun H=>evCall1 cx (evCallY cx n noY) (evCallY cx n) n k args H lo) args H else bif deepHere cx k H then deepCall cx k args H else evCall1 cx (evCallY cx n base) (evCallY cx n) n k args H lo
noncomputable def evCall (cx:Cx) (n:Nat):CallT:=evCallY cx n noY
end Go.Proofs.Ytdmgdjnadbakfaa
