/-
 What the interpreter does with the program's functions: equations, by a tool; the kernel checks each.
-/
import Derived.Test.YtebkhfhcipnfgaaIns
import Derived.Test.YtebkhfhcipnfgaaRows
namespace Go.Proofs.Ytebkhfhcipnfgaa
open Go.Proofs.Try (prog)
set_option linter.unusedVariables false
set_option linter.unusedSimpArgs false
set_option maxHeartbeats 4000000
set_option maxRecDepth 100000
set_option linter.defProp false
def JT:List ((Nat×Nat)×List Nat):=[((5,30),[1,2,3,6,7,9,11,63,64,65,117,118,119]),((5,23),[1,2,3,6,7,9,10,11,12,63,64,65,89,90,91]),((5,16),[1,2,3,6,7,9,10,11,12,63,64,65,75,76,77]),((5,11),[1,2,3,6,7,63,64,65]),((6,11),[4,8,39,40,41]),((8,5),[1,2,4]),((13,11),[1,2,3,48,49,50]),((13,5),[1,2,3,31,32,33]),((14,10),[1,2,5]),((14,4),[1,2,3]),((18,4),[0,1,4,5]),((19,39),[2,3,6,7,14,15,16,162,163,164]),((19,27),[1,2,3,6,7,14,15,16,83,84,85]),((19,16),[1,2,3,6,7,8,54,55,56]),((19,7),[1,2,3,6,7,8,9,33,34,35]),((20,48),[0,4,7,405,406]),((22,9),[0,1,4,5,6]),((22,4),[0,1,4,5]),((26,3),[2,3,9,10,11]),((33,4),[1,2,15,16,17]),((34,11),[1,2,8,11,57,58,59]),((34,4),[1,2,3,4,8,27,28,29]),((35,9),[2,3,6,53,54,55]),((37,9),[1,2,4]),((37,4),[1,2,3]),((38,10),[1,2,4,5,7]),((38,5),[1,2,4,5,6]),((40,9),[2,3,4,6]),((40,4),[2,3,4,5]),((42,3),[0,1,2,6,7,8,9,10]),((47,6),[2,3,4,6,7]),((50,1000003),[2,4,5]),((54,30),[0,4,6,9,11,15,16,17,177,178,179,185,186,187]),((54,26),[0,4,6,9,11,177,178,179]),((54,15),[0,3,4,6,9,11,98,99,100]),((54,5),[0,3,4,5,6,7,30,31]),((55,4),[0,1,4,5]),((61,3),[0,2,3,4]),((65,2),[0,1,4,9,10,11]),((77,2),[0,1,4,7,8]),((78,4),[0,2,3,6,10,11,12,21,22,23]),((78,1),[0,2,3,10,11,12]),((81,3),[0,4,5,10,11]),((82,3),[1,4,5,9,10,11]),((86,8),[1,2,3,4]),((88,2),[0,1,4,7,8]),((91,11),[0,1,4,36,37]),((93,2),[0,3,4,7,8]),((95,21),[0,1,4,7,8,9]),((96,7),[2,3,55,56,57]),((98,1),[0,1,4]),((101,3),[0,2,5,17,18,19]),((102,8),[1,2,3]),((103,5),[1,2,3,4]),((109,3),[0,2,3]),((111,1),[0,2,3]),((113,3),[0,2,3,4])]
def PY (f r:Nat):List Nat:=yZ f r JT
def MB:List ((Nat×Nat)×List (Nat×Nat×Nat)):=[((91,11),[(4,4,5)]),((91,3000000),[(4,4,0)]),((95,21),[(8,4,5)]),((95,3000000),[(4,4,0)]),((100,2000001),[(3,0,0)]),((61,3),[(3,4,5)]),((26,3),[(3,4,5)]),((47,6),[(6,0,2)]),((19,27),[(16,0,2)]),((19,39),[(6,3,4)]),((45,3000000),[(2,0,500005)]),((46,3000000),[(2,0,500004)]),((16,2000020),[(13,0,0)]),((6,2000010),[(36,0,5)]),((54,5),[(7,0,2)])]
def Tf (f r:Nat):List (Nat×Nat×Nat):=GF f r MB
def ME:List (Nat×Nat):=[(33,115),(57,137)]
def Th (f t:Nat):Bool:=xv f t ME
def Q1:List (Nat×Nat):=[(45,7),(46,7),(6,36)]
def ZL (f t:Nat):Bool:=xv f t Q1
def JX:List (Nat×Nat):=[(11,10),(12,13),(78,43)]
def P0 (f t:Nat):Bool:=xv f t JX
def JS:List ((Nat×Nat)×List Nat):=[((20,12),[0,4,5,7]),((20,500013),[0,3,4,5,6,7,8,9,10,48,88,165]),((20,500021),[0,3,4,5,6,7,8,9,10,48,88,165])]
def PX (f r:Nat):List Nat:=yZ f r JS
def MJ:List (Nat×Nat):=[(91,3),(95,2),(101,5),(98,1000)]
def Tm (k:Nat):Nat:=xd k MJ
def MX:List (Nat×Nat):=[(45,0),(84,0)]
def TM (k:Nat):Bool:=xv k 0 MX
noncomputable def cx (C:Nat->List A->Option A):Cx:={ P:=prog,glob:=λ_=>none,isOrc:=λk=>Ie k [20,44,45,46,50,54,57,65,78,84,89,90,91,92,95,97,98,100,101,107,109,110,112,113],isOrcV:=λk=>Ie k [20,44,45,46,50,54,57,65,78,84,89,90,91,92,95,97,98,100,101,107,109,110,112,113],C:=C,keep:=PY,wrAt:=ZL,acts:=Tf,loud:=P0,arr:=Th,join:=PX,cut:=Tm,fre:=TM,deep:=λk=>kU k [],ins:=λk=>xd k [(44,4)],insOK:=M0 M3,pin:=λf t=>xv f t [(20,53)] }
theorem Zx (C:Nat->List A->Option A):Array.size (Program.funcs (Cx.P (cx C)))=130:=r7
theorem yq {C:Nat->List A->Option A} {m b:Nat} {base:bB} {args:List A} {H:Heap} {lo:Nat}:bz (cx C) m base (Array.size (Program.funcs (Cx.P (cx C)))+b) args H lo=base (130+b) args H lo:=ES.trans (qa7 (λq=>base (q+b) args H lo) (Zx C))
theorem P2:Nat.ble prog.funcs.size 20=false:=r7
theorem P3:Nat.ble prog.funcs.size 44=false:=r7
theorem L3:Nat.ble prog.funcs.size 45=false:=r7
theorem HZ:Nat.ble prog.funcs.size 46=false:=r7
theorem L4:Nat.ble prog.funcs.size 50=false:=r7
theorem P4:Nat.ble prog.funcs.size 54=false:=r7
theorem L5:Nat.ble prog.funcs.size 57=false:=r7
theorem P5:Nat.ble prog.funcs.size 65=false:=r7
theorem L6:Nat.ble prog.funcs.size 78=false:=r7
theorem P6:Nat.ble prog.funcs.size 84=false:=r7
theorem L7:Nat.ble prog.funcs.size 89=false:=r7
theorem rP:Nat.ble prog.funcs.size 92=false:=r7
theorem Ia:Nat.ble prog.funcs.size 97=false:=r7
theorem tD:Nat.ble prog.funcs.size 98=false:=r7
theorem Cv:Nat.ble prog.funcs.size 100=false:=r7
theorem M8:Nat.ble prog.funcs.size 101=false:=r7
theorem Cw:Nat.ble prog.funcs.size 107=false:=r7
theorem Cy:Nat.ble prog.funcs.size 109=false:=r7
theorem HX:Nat.ble prog.funcs.size 110=false:=r7
theorem HY:Nat.ble prog.funcs.size 112=false:=r7
theorem Cz:Nat.ble prog.funcs.size 113=false:=r7
variable (C:Nat->List A->Option A) (call:bB) (rg:bB->bB)
variable (n lo L:Nat) (kx kg:Nat->St->Option R) (kr:St->Option R) (kp:A->St->Option R) (m:Nat) (H:Heap)
noncomputable abbrev iH {β:Type} (l:List A) (k:A->A->List A->Option β):Option β:=aV l λa l=>aV l λb l=>k a b l
noncomputable abbrev fW {β:Type} (l:List A) (k:A->A->A->A->List A->Option β):Option β:=iH l λa b l=>iH l λc d l=>k a b c d l
noncomputable abbrev pO {β:Type} (l:List A) (k:A->A->A->A->A->A->A->A->List A->Option β):Option β:=fW l λa b c d l=>fW l λe f g h l=>k a b c d e f g h l
noncomputable abbrev ld:=lL prog
noncomputable abbrev V7:=gX prog
noncomputable abbrev ZI:=jz prog
noncomputable abbrev bin:=me prog
noncomputable abbrev Yj:=nO prog
noncomputable abbrev fl {β:Type} (t:TypeId) (x:A) (i:Nat) (u:TypeId) (H:Heap) (k:A->Option β):Option β:=(V7 t x i H).bind λa=>(ld u a H).bind k
noncomputable abbrev aS {β:Type} (t:TypeId) (a:A) (H:Heap) (k:A->Option β):Option β:=(ld t a H).bind k
noncomputable abbrev bX {β:Type} (t:TypeId) (a:A) (i:Nat) (H:Heap) (k:A->Option β):Option β:=(V7 t a i H).bind k
noncomputable abbrev cA {β:Type} (t:TypeId) (a v:A) (H:Heap) (lo:Nat) (k:Heap->Option β):Option β:=(ZI t a v H lo).bind k
noncomputable abbrev bl {β:Type} (o:BinOp) (t:TypeId) (i j:Bool) (x y:A) (k:A->Option β):Option β:=(bin o t i j x y).bind k
noncomputable abbrev ib {β:Type} (t:TypeId) (H:Heap) (k:A×Heap->Option β):Option β:=(Yj t H).bind k
noncomputable abbrev lX {β:Type} (x:A) (H:Heap) (k:A×Heap->Option β):Option β:=(BP x H).bind k
noncomputable abbrev fO {β:Type} (x:A) (H:Heap) (k:A->Option β):Option β:=(Ey x H).bind k
noncomputable abbrev dV {β:Type} (t:TypeId) (x i:A) (H:Heap) (k:A->Option β):Option β:=(dA prog t x i H).bind k
noncomputable abbrev iT {β:Type} (x:A) (i:Nat) (k:A->Option β):Option β:=(oV x i).bind k
noncomputable abbrev eX {β:Type} (t:TypeId) (x:A) (H:Heap) (k:A->Option β):Option β:=(sy prog t x H).bind k
noncomputable abbrev oI {β:Type} (t:TypeId) (l:List (Nat×A)) (k:A->Option β):Option β:=(yh prog t l).bind k
noncomputable abbrev gu {β:Type} (L:Nat) (H:Heap) (k:Heap->Option β):Option β:=(trim L H).bind k
noncomputable abbrev qa {β:Type} {γ:Type} (c:A) (w:Bool) (x y:Option γ) (k:γ->Option β):Option β:=(sm c w x y).bind k
abbrev lk (s:St) (i:Nat):A:=look (St.fr s) i
abbrev ud:A:=A.v undef
theorem e6 (i d:A):aK (cx C) call rg n 6 [i,d] H lo =
(C 7 []).bind λs=>
(mc prog UnOp.not s).bind λt=>bn t (some (Out.ret (bA false),H)) (eX 57 d H λt2=>
bl .gtr 3 false true t2 (iA 40) λu=>bn u (some (Out.ret (bA true),H)) ((bt prog 5 3 i H).bind λv=>
bl .rem 3 false true v (iA 4) λw=>
bl .add 3 true false (iA 1) w λc=>
(C 11 [snap H c]).bind λj=>
iT j 0 λx=>
iT j 1 λy=>
ib 28 H λa=>
cA 28 a.1 (cw a.1 a.2 x) a.2 lo λb=>
bl .neq 33 false true y (iA 0) λz=>
(dP z (some [bA true,ud,ud,ud,ud,ud]) (bX 28 a.1 1 b λk=>
aS 26 k b λl=>
eX 26 l b λo=>
bl .neq 3 false false o c λp=>some [p,p,c,o,l,k])).bind λa0=>fW a0 λa1 a6 a7 a8 a2=>iH a2 λa9 aa ab=>bn a1 (some (Out.ret (bA false),b)) (aS 28 a.1 b λa3=>bif bif apart a.1 A.any then true else false then
(cR true prog 59 c c b).bind λg=>
oI 61 [(0,a3),(1,g.1)] λa4=>
lX a4 g.2 λq=>
(xc lo 4 g.1 q.2).bind λh=>
eX 57 d h.2 λa5=>aI (cx C) call rg n 6 lo 0 (List.length h.2) (λe f=>bif Nat.beq e 0 then some (Out.ret (bA true),St.H f) else none) (λe f=>none) (λr=>some (Out.ret (lk r 4),St.H r)) (λe f=>some (Out.pan e,St.H f)) n (St.mk [(4,bA false),(8,q.1),(39,d),(40,a5),(41,iA 0)] h.2) else none))):=r7
theorem e9 (j k:A):aK (cx C) call rg n 9 [j,k] H lo =
lX j H λr0=>
lX k r0.2 λr1=>
ib 28 r1.2 λa=>
aS 28 r0.1 a.2 λv=>
(C 13 [snap a.2 v]).bind λl=>
bl .neq 33 false true l (iA 0) λw=>bn w (aS 28 a.1 a.2 λf=>
cA 28 a.1 (cw a.1 a.2 f) a.2 lo λo=>
aS 28 a.1 o λg=>some (Out.ret (A.tup [g,l]),o)) (aS 30 r1.1 a.2 λf=>
fl 28 r0.1 1 26 a.2 λg=>
eX 26 g a.2 λx=>
(C 24 [snap a.2 f,snap a.2 x]).bind λy=>
(mc prog UnOp.not y).bind λz=>bn z (aS 28 a.1 a.2 λd=>
cA 28 a.1 (cw a.1 a.2 d) a.2 lo λp=>
aS 28 a.1 p λe=>some (Out.ret (A.tup [e,iA 1]),p)) (bX 28 r0.1 0 a.2 λd=>
aS 25 d a.2 λa0=>
bX 30 r1.1 1 a.2 λe=>
aS 3 e a.2 λa1=>
bl .add 3 false true a1 (iA 1) λa2=>
aS 30 r1.1 a.2 λa3=>
oI 75 [(0,iA 1),(1,a3)] λa4=>
(C 26 [snap a.2 a4]).bind λa5=>
oI 48 [(1,a2),(2,a5)] λa6=>
(C 25 [snap a.2 a0,snap a.2 a6]).bind λq=>
iT q 0 λa7=>
iT q 1 λr=>bif bif apart r1.1 A.any then bif apart e A.any then bif apart r1.1 A.any then bif apart d A.any then bif apart r0.1 A.any then true else false else false else false else false else false then
ib 25 a.2 λc=>
cA 25 c.1 (cw c.1 c.2 a7) c.2 lo λb=>
bl .neq 33 false true r (iA 0) λa8=>bn a8 (aS 28 a.1 b λh=>
cA 28 a.1 (cw a.1 b h) b lo λs=>
aS 28 a.1 s λa9=>some (Out.ret (A.tup [a9,r]),s)) (aS 25 c.1 b λh=>
bX 28 r0.1 0 b λt=>
cA 25 t (cw t b h) b lo λi=>
aS 28 r0.1 i λaa=>
cA 28 a.1 (cw a.1 i aa) i lo λu=>
aS 28 a.1 u λab=>some (Out.ret (A.tup [ab,iA 0]),u)) else none)):=r7
theorem Yk (a:A):aK (cx C) call rg n 11 [a] H lo =
ib 28 H λr0=>
(C 30 [snap r0.2 a,snap r0.2 (iA 1),snap r0.2 (iA 12)]).bind λg=>
(mc prog UnOp.not g).bind λt2=>bn t2 (aS 28 r0.1 r0.2 λb=>
cA 28 r0.1 (cw r0.1 r0.2 b) r0.2 lo λe=>
aS 28 r0.1 e λc=>some (Out.ret (A.tup [c,iA 1]),e)) ((C 31 []).bind λb=>
(jy prog 26 a a r0.2).bind λd=>
oI 28 [(0,b),(1,d.1)] λc=>
cA 28 r0.1 (cw r0.1 d.2 c) d.2 lo λf=>
aS 28 r0.1 f λh=>some (Out.ret (A.tup [h,iA 0]),f)):=r7
theorem Yl (e:A):aK (cx C) call rg n 13 [e] H lo =
lX e H λr0=>
fl 28 r0.1 1 26 r0.2 λt2=>
eX 26 t2 r0.2 λf=>
(C 30 [snap r0.2 f,snap r0.2 (iA 1),snap r0.2 (iA 12)]).bind λu=>
(mc prog UnOp.not u).bind λv=>
(dP v (some [bA true,ud,ud,ud,ud]) (bX 28 r0.1 2 r0.2 λg=>
aS 3 g r0.2 λh=>
(C 30 [snap r0.2 h,snap r0.2 (iA 0),snap r0.2 (iA 4096)]).bind λi=>
(mc prog UnOp.not i).bind λj=>some [j,j,i,h,g])).bind λw=>fW w λx u8 u9 a7 y=>aV y λa8 a9=>
(dP x (some [bA true,ud,ud,ud,ud]) (bX 28 r0.1 0 r0.2 λk=>
aS 25 k r0.2 λl=>
(C 33 [snap r0.2 l]).bind λo=>
bl .neq 33 false true o (iA 0) λp=>some [p,p,o,l,k])).bind λz=>fW z λa0 aa ab ad a1=>aV a1 λae af=>bn a0 (some (Out.ret (iA 490),r0.2)) (fl 28 r0.1 1 26 r0.2 λq=>
eX 26 q r0.2 λa2=>aI (cx C) call rg n 13 lo 0 (List.length r0.2) (λb a=>bif Nat.beq b 0 then
bX 28 (lk a 1) 0 (St.H a) λa3=>
fl 25 a3 0 22 (St.H a) λr=>
eX 22 r (St.H a) λa4=>aI (cx C) call rg n 13 lo 1 (List.length (St.H a)) (λc d=>bif Nat.beq c 2 then some (Out.ret (iA 0),St.H d) else none) (λc d=>none) (λs=>some (Out.ret (lk s 2),St.H s)) (λc d=>some (Out.pan c,St.H d)) n (St.mk [(1,lk a 1),(2,lk a 2),(3,lk a 3),(48,r),(49,a4),(50,iA 0)] (St.H a)) else none) (λb a=>none) (λt=>some (Out.ret (lk t 2),St.H t)) (λb a=>some (Out.pan b,St.H a)) n (St.mk [(1,r0.1),(2,iA 0),(3,f),(31,q),(32,a2),(33,iA 0)] r0.2)):=r7
theorem Ym (x0 x1:A):aK (cx C) call rg n 16 [x0,x1] H lo =
lX x0 H λr0=>
ib 28 r0.2 λr1=>
ib 41 r1.2 λa=>
aS 28 r0.1 a.2 λt3=>
(C 13 [snap a.2 t3]).bind λt4=>
bl .neq 33 false true t4 (iA 0) λt5=>bn t5 (aS 28 r1.1 a.2 λt6=>
aS 41 a.1 a.2 λt7=>bif bif apart a.1 r1.1 then true else false then
cA 28 r1.1 (cw r1.1 a.2 t6) a.2 lo λH8=>
cA 41 a.1 (cw a.1 H8 t7) H8 lo λH9=>
aS 28 r1.1 H9 λae=>
aS 41 a.1 H9 λa1=>some (Out.ret (A.tup [ae,a1,bA false,t4]),H9) else none) (fl 28 r0.1 0 25 a.2 λt7=>
(C 41 [snap a.2 t7,snap a.2 x1]).bind λt8=>
iT t8 0 λt9=>
iT t8 1 λae=>
iT t8 2 λa1=>
ib 48 a.2 λa2=>
ib 25 a2.2 λs=>
cA 48 a2.1 (cw a2.1 s.2 t9) s.2 lo λb5=>
cA 25 s.1 (cw s.1 b5 ae) b5 lo λh=>
bl .neq 33 false true a1 (iA 0) λbo=>bn bo (aS 28 r1.1 h λag=>
aS 41 a.1 h λa3=>bif bif apart a.1 r1.1 then true else false then
cA 28 r1.1 (cw r1.1 h ag) h lo λo=>
cA 41 a.1 (cw a.1 o a3) o lo λah=>
aS 28 r1.1 ah λai=>
aS 41 a.1 ah λa4=>some (Out.ret (A.tup [ai,a4,bA false,a1]),ah) else none) (aS 25 s.1 h λag=>
bX 28 r0.1 0 h λa3=>
cA 25 a3 (cw a3 h ag) h lo λo=>
fl 48 a2.1 2 46 o λai=>
(C 35 [snap o ai]).bind λa4=>
iT a4 0 λbp=>
iT a4 1 λb6=>
ib 75 o λi=>
cA 75 i.1 (cw i.1 i.2 bp) i.2 lo λf=>
(dP b6 (bX 75 i.1 0 f λb7=>
aS 3 b7 f λb8=>
bl .eql 3 false true b8 (iA 2) λb9=>some [b9,b9,b8,b7]) (some [bA false,ud,ud,ud])).bind λbq=>fW bq λbr cf cg ch ci=>bn br (aS 28 r0.1 f λbs=>
bX 75 i.1 2 f λa5=>
aS 41 a5 f λbt=>bif bif apart a5 r1.1 then bif apart i.1 r1.1 then true else false else false then
cA 28 r1.1 (cw r1.1 f bs) f lo λb=>
cA 41 a.1 (cw a.1 b bt) b lo λaj=>
aS 28 r1.1 aj λa6=>
aS 41 a.1 aj λa7=>some (Out.ret (A.tup [a6,a7,bA true,iA 0]),aj) else none) (fl 75 i.1 1 30 f λa5=>
ib 30 f λc=>
cA 30 c.1 (cw c.1 c.2 a5) c.2 lo λb=>
(dP b6 (bX 30 c.1 2 b λba=>
aS 3 ba b λa6=>
bX 28 r0.1 2 b λa7=>
aS 3 a7 b λbb=>
bl .geq 3 false false a6 bb λbc=>some [bc,bc,bb,a7,a6,ba]) (some [bA false,ud,ud,ud,ud,ud])).bind λbu=>fW bu λbv cj ck cl bw=>iH bw λcm cn co=>bn bv (fl 28 r0.1 1 26 b λak=>
fl 30 c.1 1 3 b λbx=>
dV 26 ak bx b λal=>
fl 55 al 0 53 b λt=>
fl 30 c.1 2 3 b λbz=>
(C 42 [snap b t,snap b bz,snap b (A.fn (Fn.func 43) [] [])]).bind λbd=>
iT bd 0 λam=>
iT bd 1 λc0=>
(mc prog UnOp.not c0).bind λc1=>bn c1 (aS 30 c.1 b λa8=>bif bif vg a8 then true else false then
(bC prog 53 1 [(0,fw b a8)]).bind λc2=>bif bif jQ 0 c.1 then true else false then
(call 45 [t] b (List.length b)).bind λan=>ek an.1 (λao=>
(call 44 [ao,am,c2] an.2 lo).bind λap=>ek ap.1 (λaq=>
(oW lo aq ap.2).bind λj=>
fl 28 r0.1 1 26 j.2 λu=>
(call 46 [u] j.2 lo).bind λe=>ek e.1 (λk=>
bX 28 r0.1 1 e.2 λv=>
cA 26 v (cw v e.2 k) e.2 lo λd=>
fl 28 r0.1 1 26 d λar=>
fl 30 c.1 1 3 d λp=>
dV 26 ar p d λau=>
bX 55 au 0 d λw=>
cA 53 w (cw w d j.1) d lo λg=>
aS 28 r0.1 g λav=>
aS 41 a.1 g λx=>bif bif apart a.1 r1.1 then true else false then
cA 28 r1.1 (cw r1.1 g av) g lo λy=>
cA 41 a.1 (cw a.1 y x) y lo λl=>
aS 28 r1.1 l λaw=>
aS 41 a.1 l λz=>some (Out.ret (A.tup [aw,z,bA false,iA 0]),l) else none) λk=>some (Out.pan k,e.2)) λaq=>some (Out.pan aq,ap.2)) λao=>some (Out.pan ao,an.2) else none else none) (dV 53 t am b λa8=>
fl 30 a8 0 3 b λc3=>
fl 30 c.1 0 3 b λc4=>
bl .lss 3 false false c3 c4 λc5=>bn c5 ((call 45 [t] b lo).bind λq=>ek q.1 (λa9=>
aS 30 c.1 q.2 λu=>
dV 53 a9 am q.2 λbe=>
cA 30 be (cw be q.2 u) q.2 lo λc6=>
(oW lo a9 c6).bind λax=>
fl 28 r0.1 1 26 ax.2 λc7=>
(call 46 [c7] ax.2 lo).bind λa0=>ek a0.1 (λay=>
bX 28 r0.1 1 a0.2 λp=>
cA 26 p (cw p a0.2 ay) a0.2 lo λr=>
fl 28 r0.1 1 26 r λc8=>
fl 30 c.1 1 3 r λx=>
dV 26 c8 x r λc9=>
bX 55 c9 0 r λbf=>
cA 53 bf (cw bf r ax.1) r lo λaa=>
aS 28 r0.1 aa λz=>
aS 41 a.1 aa λca=>bif bif apart a.1 r1.1 then true else false then
cA 28 r1.1 (cw r1.1 aa z) aa lo λbg=>
cA 41 a.1 (cw a.1 bg ca) bg lo λaz=>
aS 28 r1.1 az λcb=>
aS 41 a.1 az λcc=>some (Out.ret (A.tup [cb,cc,bA false,iA 0]),az) else none) λay=>some (Out.pan ay,a0.2)) λa9=>some (Out.pan a9,q.2)) ((oW lo t b).bind λj=>
fl 28 r0.1 1 26 j.2 λu=>
(call 46 [u] j.2 lo).bind λe=>ek e.1 (λk=>
bX 28 r0.1 1 e.2 λv=>
cA 26 v (cw v e.2 k) e.2 lo λd=>
fl 28 r0.1 1 26 d λar=>
fl 30 c.1 1 3 d λp=>
dV 26 ar p d λau=>
bX 55 au 0 d λw=>
cA 53 w (cw w d j.1) d lo λg=>
aS 28 r0.1 g λav=>
aS 41 a.1 g λx=>bif bif apart a.1 r1.1 then true else false then
cA 28 r1.1 (cw r1.1 g av) g lo λy=>
cA 41 a.1 (cw a.1 y x) y lo λl=>
aS 28 r1.1 l λaw=>
aS 41 a.1 l λz=>some (Out.ret (A.tup [aw,z,bA false,iA 0]),l) else none) λk=>some (Out.pan k,e.2)))) (aS 28 r0.1 b λcd=>
aS 41 a.1 b λak=>bif bif apart a.1 r1.1 then true else false then
cA 28 r1.1 (cw r1.1 b cd) b lo λbh=>
cA 41 a.1 (cw a.1 bh ak) bh lo λb0=>
aS 28 r1.1 b0 λal=>
aS 41 a.1 b0 λce=>some (Out.ret (A.tup [al,ce,bA false,iA 0]),b0) else none)))):=r7
theorem Yn (c:A):aK (cx C) call rg n 17 [c] H lo =
ib 30 H λr0=>
(C 47 [snap r0.2 c]).bind λd=>
iT d 0 λt2=>
iT d 1 λl=>
(mc prog UnOp.not l).bind λo=>
(dP o (some [bA true,ud,ud,ud]) (eX 50 t2 r0.2 λe=>
bl .neq 3 false true e (iA 5) λf=>some [f,f,e,t2])).bind λp=>fW p λq u7 u8 u9 l9=>
(dP q (some [bA true,ud,ud,ud,ud]) (dV 50 t2 (iA 0) r0.2 λg=>
aS 3 g r0.2 λh=>
bl .neq 3 false true h (iA 1) λi=>some [i,i,h,g,t2])).bind λr=>fW r λs a6 a7 a8 t=>aV t λa9 aa=>bn s (oI 30 [] λa=>
cA 30 r0.1 (cw r0.1 r0.2 a) r0.2 lo λj=>
aS 30 r0.1 j λb=>some (Out.ret (A.tup [b,bA false]),j)) (dV 50 t2 (iA 1) r0.2 λa=>
aS 3 a r0.2 λu=>
dV 50 t2 (iA 2) r0.2 λb=>
aS 3 b r0.2 λv=>
dV 50 t2 (iA 3) r0.2 λw=>
aS 3 w r0.2 λx=>
dV 50 t2 (iA 4) r0.2 λy=>
aS 3 y r0.2 λz=>
oI 30 [(0,u),(1,v),(2,x),(3,z)] λa0=>
cA 30 r0.1 (cw r0.1 r0.2 a0) r0.2 lo λk=>
aS 30 r0.1 k λa1=>some (Out.ret (A.tup [a1,bA true]),k)):=r7
theorem Yo (x0 i x2:A):aK (cx C) call rg n 19 [x0,i,x2] H lo =
lX x0 H λr0=>
ib 28 r0.2 λr1=>
aS 28 r0.1 r1.2 λt2=>
(C 13 [snap r1.2 t2]).bind λu=>
bl .neq 33 false true u (iA 0) λt4=>bn t4 (aS 28 r1.1 r1.2 λt5=>
cA 28 r1.1 (cw r1.1 r1.2 t5) r1.2 lo λH6=>
aS 28 r1.1 H6 λw=>some (Out.ret (A.tup [w,u]),H6)) (fl 28 r0.1 1 26 r1.2 λt6=>
eX 26 t6 r1.2 λw=>
eX 50 i r1.2 λt8=>aI (cx C) call rg n 19 lo 0 (List.length r1.2) (λj b=>bif Nat.beq j 0 then
eX 50 (lk b 2) (St.H b) λx=>
bl .neq 3 false false x (lk b 8) λaf=>bn af (aS 28 (lk b 6) (St.H b) λy=>
cA 28 (lk b 6) (cw (lk b 6) (St.H b) y) (St.H b) lo λa4=>
aS 28 (lk b 6) a4 λz=>some (Out.ret (A.tup [z,iA 1]),a4)) (eX 50 (lk b 2) (St.H b) λy=>aI (cx C) call rg n 19 lo 1 (List.length (St.H b)) (λk a=>bif Nat.beq k 2 then
fl 28 (lk a 3) 2 3 (St.H a) λag=>
bl .eql 3 false true ag (iA 4096) λah=>bn ah (aS 28 (lk a 6) (St.H a) λai=>
cA 28 (lk a 6) (cw (lk a 6) (St.H a) ai) (St.H a) lo λa5=>
aS 28 (lk a 6) a5 λaj=>some (Out.ret (A.tup [aj,iA 2]),a5)) ((cR false prog 50 (lk a 8) (lk a 8) (St.H a)).bind λf=>
(rp prog 97 f.2).bind λe=>
fl 28 (lk a 3) 1 26 e.2 λg=>
eX 26 g e.2 λh=>aI (cx C) call rg n 19 lo 2 (List.length (fj 1 (St.H (St.mk [(1,lk a 1),(2,lk a 2),(3,lk a 3),(6,lk a 6),(7,lk a 7),(14,f.1),(15,e.1),(16,A.imm [] true),(83,g),(84,h),(85,iA 0)] e.2)) (look (St.fr (St.mk [(1,lk a 1),(2,lk a 2),(3,lk a 3),(6,lk a 6),(7,lk a 7),(14,f.1),(15,e.1),(16,A.imm [] true),(83,g),(84,h),(85,iA 0)] e.2)) (Prod.fst (16,0,2)))).2) (λl c=>bif Nat.beq l 4 then
fl 28 (lk c 3) 0 25 (St.H c) λak=>
fl 28 (lk c 3) 2 3 (St.H c) λal=>
bl .add 3 false true al (iA 1) λam=>
oI 28 [(0,ak),(2,am)] λan=>
cA 28 (lk c 6) (cw (lk c 6) (St.H c) an) (St.H c) lo λo=>
fl 28 (lk c 3) 1 26 o λa6=>
eX 26 a6 o λao=>aI (cx C) call rg n 19 lo 3 (List.length (fb lo 2 4 (lk c 6) o)) (λp d=>bif Nat.beq p 6 then
aS 28 (lk d 6) (St.H d) λa0=>
aS 28 (lk d 6) (St.H d) λap=>
fl 28 (lk d 3) 2 3 (St.H d) λaq=>
(C 51 [snap (St.H d) ap,snap (St.H d) aq,snap (St.H d) (lk d 16)]).bind λar=>
((call 50 [a0,ar] (St.H d) (List.length (St.H d))).bind λau=>CI (List.length (St.H d)) au).bind λa7=>
iT a7 0 λav=>
iT a7 1 λaw=>
cA 28 (lk d 6) (cw (lk d 6) (St.H d) av) (St.H d) lo λa8=>
aS 28 (lk d 6) a8 λax=>some (Out.ret (A.tup [ax,aw]),a8) else none) (λp d=>none) (λq=>
aS 28 (lk q 6) (St.H q) λa0=>some (Out.ret (A.tup [a0,lk q 7]),St.H q)) (λp d=>some (Out.pan p,St.H d)) n (St.mk [(2,lk c 2),(3,lk c 3),(6,lk c 6),(7,lk c 7),(14,lk c 14),(15,lk c 15),(16,lk c 16),(162,a6),(163,ao),(164,iA 0)] (fb lo 2 4 (lk c 6) o)) else none) (λl c=>none) (λr=>
aS 28 (lk r 6) (St.H r) λay=>some (Out.ret (A.tup [ay,lk r 7]),St.H r)) (λl c=>some (Out.pan l,St.H c)) n (St.mk [(1,lk a 1),(2,lk a 2),(3,lk a 3),(6,lk a 6),(7,lk a 7),(14,f.1),(15,e.1),(16,(fj 1 (St.H (St.mk [(1,lk a 1),(2,lk a 2),(3,lk a 3),(6,lk a 6),(7,lk a 7),(14,f.1),(15,e.1),(16,A.imm [] true),(83,g),(84,h),(85,iA 0)] e.2)) (look (St.fr (St.mk [(1,lk a 1),(2,lk a 2),(3,lk a 3),(6,lk a 6),(7,lk a 7),(14,f.1),(15,e.1),(16,A.imm [] true),(83,g),(84,h),(85,iA 0)] e.2)) (Prod.fst (16,0,2)))).1),(83,g),(84,h),(85,iA 0)] (fj 1 (St.H (St.mk [(1,lk a 1),(2,lk a 2),(3,lk a 3),(6,lk a 6),(7,lk a 7),(14,f.1),(15,e.1),(16,A.imm [] true),(83,g),(84,h),(85,iA 0)] e.2)) (look (St.fr (St.mk [(1,lk a 1),(2,lk a 2),(3,lk a 3),(6,lk a 6),(7,lk a 7),(14,f.1),(15,e.1),(16,A.imm [] true),(83,g),(84,h),(85,iA 0)] e.2)) (Prod.fst (16,0,2)))).2)) else none) (λk a=>none) (λs=>
aS 28 (lk s 6) (St.H s) λz=>some (Out.ret (A.tup [z,lk s 7]),St.H s)) (λk a=>some (Out.pan k,St.H a)) n (St.mk [(1,lk b 1),(2,lk b 2),(3,lk b 3),(6,lk b 6),(7,lk b 7),(8,lk b 8),(54,lk b 2),(55,y),(56,iA 0)] (St.H b))) else none) (λj b=>none) (λt=>
aS 28 (lk t 6) (St.H t) λx=>some (Out.ret (A.tup [x,lk t 7]),St.H t)) (λj b=>some (Out.pan j,St.H b)) n (St.mk [(1,i),(2,x2),(3,r0.1),(6,r1.1),(7,u),(8,w),(9,A.v (.int .i64 (-1))),(33,i),(34,t8),(35,iA 0)] r1.2)):=r7
theorem Yp (x0 x1:A):aK (cx C) call rg n 20 [x0,x1] H lo =
lX x1 H λr0=>
fO x0 r0.2 λt1=>
bX 61 t1 0 r0.2 λt2=>
fl 28 t2 1 26 r0.2 λt4=>
eX 26 t4 r0.2 λt5=>
fl 65 r0.1 2 5 r0.2 λt7=>
(bt prog 5 3 t7 r0.2).bind λt8=>
bl .rem 3 false false t8 t5 λt9=>
fO x0 r0.2 λgl=>
fl 61 gl 0 28 r0.2 λgm=>
ib 28 r0.2 λad=>
cA 28 ad.1 (cw ad.1 ad.2 gm) ad.2 lo λa=>
fO x0 a λgn=>
bX 61 gn 0 a λgo=>
bX 28 go 0 a λgp=>
fl 25 gp 0 22 a λgq=>
eX 22 gq a λgr=>
(GA false (iA 1) [gr]).bind λb6=>
fl 65 r0.1 1 5 a λgs=>
(bt prog 5 3 gs a).bind λgt=>
bl .rem 3 false false gt b6 λbu=>
(fl 65 r0.1 0 5 a λgv=>
bl .rem 5 false true gv (A.v (.int .u8 8)) λaq=>
(bl .eql 5 false true aq (A.v (.int .u8 0)) λch=>bn ch (gu (List.length a) a λgw=>bif bif Nat.beq (List.length a) (List.length a) then true else aG (List.length a) [(88,ch),(48,aq),(10,bu),(9,b6),(8,iA 0),(7,ad.1),(6,t9),(5,t5),(4,bA false),(3,r0.1),(0,x0)] [0,3,4,5,6,7,8,9,10,48,88,165] then some (Out.ret (A.tup [bA true,x0,r0.1,bA false,t5,t9,ad.1,iA 0,b6,bu,aq,ch,A.any]),gw) else none) (bl .eql 5 false true aq (A.v (.int .u8 1)) λdb=>
gu (List.length a) a λgx=>bif bif Nat.beq (List.length a) (List.length a) then true else aG (List.length a) [(88,db),(48,aq),(10,bu),(9,b6),(8,iA 0),(7,ad.1),(6,t9),(5,t5),(4,bA false),(3,r0.1),(0,x0)] [0,3,4,5,6,7,8,9,10,48,88,165] then some (Out.ret (A.tup [bA true,x0,r0.1,bA false,t5,t9,ad.1,iA 0,b6,bu,aq,db,A.any]),gx) else none)).bind λgy=>Fg gy λgz g=>pO gz λci j a3 ae x b7 o bv h0=>fW h0 λbw bx af al h1=>aV h1 λh2 jz=>
dP ci (bn al (bX 65 a3 4 g λar=>
aS 5 ar g λag=>
(bt prog 5 3 ag g).bind λh3=>
bl .rem 3 false true h3 (iA 8) λh4=>
fO j g λb8=>
bX 61 b8 0 g λb9=>
bX 28 b9 2 g λba=>
aS 3 ba g λh5=>
bX 65 a3 5 g λdc=>
aS 62 dc g λdd=>
(bt prog 62 3 dd g).bind λcj=>
bl .rem 3 false true cj (iA 4) λck=>
bl .add 3 false false h5 ck λh6=>
bX 65 a3 3 g λbz=>
aS 5 bz g λc0=>
(bt prog 5 3 c0 g).bind λau=>
bl .rem 3 false true au (iA 3) λam=>
bl .add 3 true false (iA 1) am λbb=>
oI 30 [(0,h4),(1,b7),(2,h6),(3,bb)] λa6=>bif bif apart c0 A.any then bif apart bz A.any then bif apart a3 A.any then bif apart dd A.any then bif apart dc A.any then bif apart a3 A.any then bif apart ba A.any then bif apart b9 A.any then bif apart b8 A.any then bif apart j A.any then bif apart ag A.any then bif apart ar A.any then bif apart a3 A.any then true else false else false else false else false else false else false else false else false else false else false else false else false else false then
ib 30 g λan=>
cA 30 an.1 (cw an.1 an.2 a6) an.2 lo λao=>
fO j ao λy=>
fl 61 y 0 28 ao λz=>
aS 30 an.1 ao λbc=>
(C 9 [snap ao z,snap ao bc]).bind λah=>
iT ah 0 λa0=>
iT ah 1 λa1=>
cA 28 o (cw o ao a0) ao lo λf=>
bl .eql 33 false true a1 (iA 0) λt=>
qa t true (bX 28 o 0 f λu=>
bX 25 u 0 f λq=>
aS 22 q f λa4=>
eX 22 a4 f λbd=>
fO j f λc1=>
bX 61 c1 0 f λc2=>
bX 28 c2 0 f λc3=>
bX 25 c3 0 f λai=>
aS 22 ai f λav=>
eX 22 av f λaj=>
bl .add 3 false true aj (iA 1) λc4=>
bl .neq 3 false false bd c4 λa7=>
qa a7 false (bX 28 o 0 f λaw=>
bX 25 aw 0 f λax=>
aS 22 ax f λbe=>
bX 28 o 0 f λde=>
bX 25 de 0 f λdf=>
aS 22 df f λc5=>
eX 22 c5 f λc6=>
bl .sub 3 false true c6 (iA 1) λc7=>
dV 22 be c7 f λay=>
bX 48 ay 2 f λbf=>
aS 46 bf f λbg=>
(bt prog 46 9 bg f).bind λc8=>
aS 30 an.1 f λdg=>
(C 29 [snap f dg]).bind λdh=>
(bt prog 46 9 dh f).bind λh7=>some [h7,dh,dg,c8,bg,bf,ay,c7,c6,c5,df,de,be,ax,aw]) (some [ud,ud,ud,ud,ud,ud,ud,ud,ud,ud,ud,ud,ud,ud,ud]) λh8=>pO h8 λdi dj bh bi cl dk dl dm cm=>fW cm λc9 az bj bk cn=>iH cn λbm co h9=>aV h9 λcp k0=>some [di,dj,bh,bi,cl,dk,dl,dm,c9,az,bj,bk,bm,co,cp,a7,a7,c4,aj,av,ai,c3,c2,c1,j,bd,a4,q,u]) (some [ud,ud,ud,ud,ud,ud,ud,ud,ud,ud,ud,ud,ud,ud,ud,ud,ud,ud,ud,ud,ud,ud,ud,ud,ud,ud,ud,ud,ud]) λha=>pO ha λdn ap b0 bo dp hb k1 k2 hc=>pO hc λk3 k4 k5 k6 di dj bh bi cq=>pO cq λcl dk dl dm c9 az bj bk cn=>fW cn λbm co cp hd dq=>aV dq λk7 dr=>
qa bi false (bl .neq 9 false false bo dn λca=>some [ca]) (some [ud]) λhe=>aV he λds k8=>
(dP t ((dP bi (some (bA true)) (some ds)).bind λbp=>some [bp,bp]) (some [bA false,ud])).bind λcr=>iH cr λb1 cs k9=>bn b1 (gu (List.length a) f λhf=>bif bif Nat.beq (List.length f) (List.length a) then true else aG (List.length a) [(4,bA false),(0,j),(5,x),(7,o)] [0,4,5,7] then some (Out.ret (A.tup [bA false,j,bA false,x,o]),hf) else none) (bl .neq 33 false true a1 (iA 0) λhg=>bn hg (fl 30 an.1 2 3 f λhh=>
bl .lss 3 false true hh (iA 0) λcb=>
(dP cb (bl .eql 33 false true a1 (iA 1) λbq=>some [bq,bq,a1]) (some [bA false,ud,ud])).bind λhi=>iH hi λbr ct hj=>aV hj λcu hk=>
gu (List.length a) f λhl=>bif bif Nat.beq (List.length f) (List.length a) then true else aG (List.length a) [(4,br),(0,j),(5,x),(7,o)] [0,4,5,7] then some (Out.ret (A.tup [bA false,j,br,x,o]),hl) else none) (gu (List.length a) f λhm=>bif bif Nat.beq (List.length f) (List.length a) then true else aG (List.length a) [(0,j),(4,ae),(5,x),(7,o)] [0,4,5,7] then some (Out.ret (A.tup [bA true,j,ae,x,o]),hm) else none)) else none) ((bl .eql 5 false true af (A.v (.int .u8 2)) λar=>bn ar (gu (List.length g) g λhn=>bif bif Nat.beq (List.length g) (List.length g) then true else aG (List.length g) [(165,ar),(0,j),(3,a3),(4,ae),(5,x),(6,b7),(7,o),(8,bv),(9,bw),(10,bx),(48,af),(88,al)] [0,3,4,5,6,7,8,9,10,48,88,165] then some (Out.ret (A.tup [bA true,j,a3,ae,x,b7,o,bv,bw,bx,af,al,ar]),hn) else none) (bl .eql 5 false true af (A.v (.int .u8 3)) λag=>
gu (List.length g) g λho=>bif bif Nat.beq (List.length g) (List.length g) then true else aG (List.length g) [(165,ag),(0,j),(3,a3),(4,ae),(5,x),(6,b7),(7,o),(8,bv),(9,bw),(10,bx),(48,af),(88,al)] [0,3,4,5,6,7,8,9,10,48,88,165] then some (Out.ret (A.tup [bA true,j,a3,ae,x,b7,o,bv,bw,bx,af,al,ag]),ho) else none)).bind λcv=>Fg cv λcy k=>pO cy λcz b hp s e dt d ka hq=>fW hq λkb cc d0 kc hr=>aV hr λhs kd=>
dP cz (bn hs (ib 41 k λp=>
fO b p.2 λam=>
fl 61 am 0 28 p.2 λa6=>
(C 16 [snap p.2 a6,snap p.2 cc]).bind λa8=>
iT a8 0 λak=>
iT a8 1 λy=>
iT a8 2 λw=>
iT a8 3 λz=>
cA 28 d (cw d p.2 ak) p.2 lo λh=>
cA 41 p.1 (cw p.1 h y) h lo λl=>
bl .neq 33 false true z (iA 0) λa0=>
(dP a0 (some [bA true,ud,ud,ud,ud,ud,ud,ud,ud]) (fO b l λa1=>
bX 61 a1 0 l λb2=>
bX 28 b2 0 l λt=>
bX 25 t 0 l λu=>
aS 22 u l λq=>
eX 22 q l λa4=>
bl .eql 3 false true a4 (iA 0) λbd=>some [bd,bd,a4,q,u,t,b2,a1,b])).bind λht=>pO ht λhu ke kf dn ap b0 bo dp du=>aV du λhb kh=>bn hu (fO b l λai=>
bX 61 ai 0 l λav=>
bX 28 av 0 l λaj=>
fl 25 aj 0 22 l λa7=>
eX 22 a7 l λaw=>
bl .eql 3 false true aw (iA 0) λax=>
(dP ax (bl .eql 33 false true z (iA 1) λbe=>some [be,be,z]) (some [bA false,ud,ud])).bind λhv=>iH hv λbh bi cq=>aV cq λcl ki=>
gu (List.length a) l λhw=>bif bif Nat.beq (List.length l) (List.length a) then true else aG (List.length a) [(4,bh),(0,b),(5,e),(7,d)] [0,4,5,7] then some (Out.ret (A.tup [bA false,b,bh,e,d]),hw) else none) (fO b l λai=>
bX 61 ai 0 l λav=>
bX 28 av 0 l λaj=>
fl 25 aj 0 22 l λa7=>
dV 22 a7 cc l λaw=>
aS 48 aw l λax=>
ib 48 l λb3=>
cA 48 b3.1 (cw b3.1 b3.2 ax) b3.2 lo λc=>
fl 48 b3.1 1 3 c λc5=>
bl .eql 3 false true c5 (iA 0) λc6=>
bl .neq 4 false false w c6 λc7=>
(dP c7 (some [bA true,ud,ud,ud,ud,ud,ud,ud]) ((mc prog UnOp.not w).bind λay=>
(dP ay (aS 41 p.1 c λbf=>
oI 41 [] λbg=>
bl .neq 41 false false bf bg λc8=>some [c8,c8,bg,bf]) (some [bA false,ud,ud,ud])).bind λhx=>fW hx λaz bj bk bm kj=>some [az,az,bj,bk,bm,ay,ay,w])).bind λcm=>pO cm λc9 az bj bk bm co cp hd dq=>bn c9 (gu (List.length a) c λhy=>bif bif Nat.beq (List.length c) (List.length a) then true else aG (List.length a) [(4,bA false),(0,b),(5,e),(7,d)] [0,4,5,7] then some (Out.ret (A.tup [bA false,b,bA false,e,d]),hy) else none) (qa w true (bX 41 p.1 0 c λdv=>
aS 3 dv c λca=>
bl .lss 3 false true ca (iA 0) λd1=>
(dP d1 (some [bA true,ud,ud,ud,ud]) (bX 41 p.1 0 c λbp=>
aS 3 bp c λdw=>
bl .geq 3 false false dw e λdx=>some [dx,dx,e,dw,bp])).bind λcr=>fW cr λb1 cs dy dz hz=>aV hz λe0 e1=>
(dP b1 (some [bA true,ud,ud,ud]) (bX 41 p.1 1 c λcb=>
aS 3 cb c λbq=>
bl .lss 3 false true bq (iA 0) λe2=>some [e2,e2,bq,cb])).bind λi0=>fW i0 λcd br ct cu hk=>
(dP cd (some [bA true,ud,ud,ud,ud,ud,ud,ud,ud,ud,ud,ud,ud,ud,ud]) (bX 41 p.1 1 c λe3=>
aS 3 e3 c λe4=>
fO b c λe5=>
bX 61 e5 0 c λe6=>
bX 28 e6 1 c λe7=>
aS 26 e7 c λe8=>
bX 41 p.1 0 c λe9=>
aS 3 e9 c λea=>
dV 26 e8 ea c λeb=>
bX 55 eb 2 c λec=>
aS 50 ec c λed=>
eX 50 ed c λee=>
bl .geq 3 false false e4 ee λef=>some [ef,ef,ee,ed,ec,eb,ea,e9,e8,e7,e6,e5,b,e4,e3])).bind λi1=>pO i1 λce eg cf eh ei ej el em i2=>fW i2 λen eo ep er i3=>iH i3 λes et i4=>aV i4 λeu kk=>
qa ce false (fO b c λev=>
bX 61 ev 0 c λew=>
bX 28 ew 1 c λex=>
aS 26 ex c λey=>
bX 41 p.1 0 c λez=>
aS 3 ez c λf0=>
dV 26 ey f0 c λf1=>
bX 55 f1 2 c λf2=>
aS 50 f2 c λf3=>
bX 41 p.1 1 c λf4=>
aS 3 f4 c λf5=>
dV 50 f3 f5 c λf6=>
aS 3 f6 c λi5=>
bX 41 p.1 2 c λf7=>
aS 3 f7 c λi6=>some [i6,f7,i5,f6,f5,f4,f3,f2,f1,f0,ez,ey,ex,ew,ev,b]) (some [ud,ud,ud,ud,ud,ud,ud,ud,ud,ud,ud,ud,ud,ud,ud,ud]) λi7=>pO i7 λf8 f9 fa fb fc fd fe ff i8=>pO i8 λfg fh fi fj fk fm fn fo fp=>some [f8,f9,fa,fb,fc,fd,fe,ff,fg,fh,fi,fj,fk,fm,fn,fo,ce,ce,eg,cf,eh,ei,ej,el,em,en,eo,ep,er,es,et,eu,cd,cd,br,ct,cu,b1,b1,cs,dy,dz,e0,d1,d1,ca,dv]) (some [ud,ud,ud,ud,ud,ud,ud,ud,ud,ud,ud,ud,ud,ud,ud,ud,ud,ud,ud,ud,ud,ud,ud,ud,ud,ud,ud,ud,ud,ud,ud,ud,ud,ud,ud,ud,ud,ud,ud,ud,ud,ud,ud,ud,ud,ud,ud]) λdr=>pO dr λi9 ds ia b1 cs dy dz e0 e1=>pO e1 λkl cd br ct cu km ce eg ic=>pO ic λcf eh ei ej el em en eo ie=>pO ie λep er es et eu kn f8 f9 ig=>pO ig λfa fb fc fd fe ff fg fh ih=>fW ih λfi fj fk fm ii=>iH ii λfn fo fp=>aV fp λko kq=>
qa cf false (bl .neq 3 false false ia i9 λij=>some [ij]) (some [ud]) λik=>aV ik λil ks=>
(dP w ((dP cf (some (bA true)) (some il)).bind λfq=>some [fq,fq]) (some [bA false,ud])).bind λim=>iH im λio kt ku=>bn io (gu (List.length a) c λip=>bif bif Nat.beq (List.length c) (List.length a) then true else aG (List.length a) [(4,bA false),(0,b),(5,e),(7,d)] [0,4,5,7] then some (Out.ret (A.tup [bA false,b,bA false,e,d]),ip) else none) (fl 48 b3.1 2 46 c λiq=>
(C 17 [snap c iq]).bind λfr=>
iT fr 0 λir=>
iT fr 1 λit=>
ib 30 c λa2=>
cA 30 a2.1 (cw a2.1 a2.2 ir) a2.2 lo λi=>
(dP it ((mc prog UnOp.not w).bind λfs=>some [fs,fs,w]) (some [bA false,ud,ud])).bind λiu=>iH iu λiv kv iw=>aV iw λkw ky=>
(dP iv (bX 30 a2.1 2 i λft=>
aS 3 ft i λfu=>
fO b i λfv=>
bX 61 fv 0 i λfx=>
bX 28 fx 2 i λfy=>
aS 3 fy i λfz=>
bl .geq 3 false false fu fz λg0=>some [g0,g0,fz,fy,fx,fv,b,fu,ft]) (some [bA false,ud,ud,ud,ud,ud,ud,ud,ud])).bind λix=>pO ix λiy kz l0 l1 l2 l3 l4 l5 iz=>aV iz λl6 l7=>
(dP iy (bX 30 a2.1 1 i λg1=>
aS 3 g1 i λg2=>
bl .geq 3 false true g2 (iA 0) λg3=>some [g3,g3,g2,g1]) (some [bA false,ud,ud,ud])).bind λj0=>fW j0 λg4 l8 l9 la lb=>
qa g4 true (bX 30 a2.1 1 i λg5=>
aS 3 g5 i λj1=>some [e,j1,g5]) (some [ud,ud,ud]) λj2=>iH j2 λj3 j4 j5=>aV j5 λlc ld=>
(dP g4 (bl .lss 3 false false j4 j3 λg6=>some [g6,g6]) (some [bA false,ud])).bind λj6=>iH j6 λj7 le lf=>bn j7 (fO b i λg7=>
bX 61 g7 1 i λg8=>
aS 59 g8 i λj8=>
bX 30 a2.1 1 i λg9=>
aS 3 g9 i λj9=>
fO b i λja=>
fl 61 ja 1 59 i λjb=>
fl 30 a2.1 1 3 i λjc=>
dV 59 jb jc i λjd=>
aS 53 jd i λb4=>
aS 30 a2.1 i λje=>
(bC prog 53 1 [(0,fw i je)]).bind λjf=>bif bif apart g9 b4 then bif apart a2.1 b4 then bif apart g8 b4 then bif apart g7 b4 then bif apart b b4 then true else false else false else false else false else false then
(bU prog 53 53 false b4 jf i lo).bind λd2=>
dV 59 j8 j9 d2.2 λjg=>
cA 53 jg d2.1 d2.2 lo λga=>
gu (List.length a) ga λjh=>bif bif Nat.beq (List.length ga) (List.length a) then true else aG (List.length a) [(0,b),(4,s),(5,e),(7,d)] [0,4,5,7] then some (Out.ret (A.tup [bA true,b,s,e,d]),jh) else none else none) (gu (List.length a) i λji=>bif bif Nat.beq (List.length i) (List.length a) then true else aG (List.length a) [(0,b),(4,s),(5,e),(7,d)] [0,4,5,7] then some (Out.ret (A.tup [bA true,b,s,e,d]),ji) else none))))) (bl .eql 5 false true d0 (A.v (.int .u8 4)) λau=>bn au (fO b k λam=>
fl 61 am 0 28 k λa6=>
(C 52 [snap k a6,snap k cc]).bind λa8=>
iT a8 0 λak=>
iT a8 1 λy=>
cA 28 d (cw d k ak) k lo λa9=>
bl .neq 33 false true y (iA 0) λz=>bn z (fO b a9 λbc=>
bX 61 bc 0 a9 λah=>
bX 28 ah 0 a9 λa0=>
fl 25 a0 0 22 a9 λb2=>
eX 22 b2 a9 λt=>
bl .eql 3 false true t (iA 0) λu=>
(dP u (bl .eql 33 false true y (iA 1) λq=>some [q,q,y]) (some [bA false,ud,ud])).bind λd3=>iH d3 λap b0 d4=>aV d4 λbo d5=>
gu (List.length a) a9 λd6=>bif bif Nat.beq (List.length a9) (List.length a) then true else aG (List.length a) [(4,ap),(0,b),(5,e),(7,d)] [0,4,5,7] then some (Out.ret (A.tup [bA false,b,ap,e,d]),d6) else none) (gu (List.length a) a9 λh=>bif bif Nat.beq (List.length a9) (List.length a) then true else aG (List.length a) [(0,b),(4,s),(5,e),(7,d)] [0,4,5,7] then some (Out.ret (A.tup [bA true,b,s,e,d]),h) else none)) (bl .eql 5 false true d0 (A.v (.int .u8 5)) λam=>bn am (fO b k λbb=>
fl 61 bb 0 28 k λa8=>
(C 53 [snap k a8,snap k cc]).bind λak=>
iT ak 0 λy=>
iT ak 1 λw=>
cA 28 d (cw d k y) k lo λaa=>
bl .neq 33 false true w (iA 0) λbc=>bn bc (fO b aa λah=>
bX 61 ah 0 aa λa0=>
bX 28 a0 0 aa λa1=>
fl 25 a1 0 22 aa λt=>
eX 22 t aa λu=>
bl .eql 3 false true u (iA 0) λq=>
(dP q (bl .eql 33 false true w (iA 1) λa4=>some [a4,a4,w]) (some [bA false,ud,ud])).bind λjj=>iH jj λb0 bo d5=>aV d5 λdp du=>
gu (List.length a) aa λjk=>bif bif Nat.beq (List.length aa) (List.length a) then true else aG (List.length a) [(4,b0),(0,b),(5,e),(7,d)] [0,4,5,7] then some (Out.ret (A.tup [bA false,b,b0,e,d]),jk) else none) (gu (List.length a) aa λl=>bif bif Nat.beq (List.length aa) (List.length a) then true else aG (List.length a) [(0,b),(4,s),(5,e),(7,d)] [0,4,5,7] then some (Out.ret (A.tup [bA true,b,s,e,d]),l) else none)) (bl .eql 5 false true d0 (A.v (.int .u8 6)) λbb=>bn bb (aS 65 hp k λa6=>
(call 54 [b,a6] k lo).bind λd7=>ek d7.1 (λd8=>
gu (List.length a) d7.2 λjl=>bif bif Nat.beq (List.length d7.2) (List.length a) then true else aG (List.length a) [(4,d8),(0,b),(5,e),(7,d)] [0,4,5,7] then some (Out.ret (A.tup [bA false,b,d8,e,d]),jl) else none) λd8=>none) (fO b k λa6=>
fl 61 a6 0 28 k λak=>
(C 21 [snap k ak,snap k dt]).bind λy=>
iT y 0 λw=>
iT y 1 λz=>
cA 28 d (cw d k w) k lo λh=>
bl .neq 33 false true z (iA 0) λah=>bn ah (fO b h λa0=>
bX 61 a0 0 h λa1=>
fl 28 a1 2 3 h λt=>
bl .eql 3 false true t (iA 0) λu=>
(dP u (bl .eql 33 false true z (iA 1) λq=>some [q,q,z]) (some [bA false,ud,ud])).bind λd3=>iH d3 λap b0 d4=>aV d4 λbo d5=>
gu (List.length a) h λd6=>bif bif Nat.beq (List.length h) (List.length a) then true else aG (List.length a) [(4,ap),(0,b),(5,e),(7,d)] [0,4,5,7] then some (Out.ret (A.tup [bA false,b,ap,e,d]),d6) else none) (bX 28 d 0 h λa0=>
fl 25 a0 0 22 h λb2=>
eX 22 b2 h λt=>
fO b h λu=>
bX 61 u 0 h λq=>
bX 28 q 0 h λa4=>
fl 25 a4 0 22 h λc1=>
eX 22 c1 h λc2=>
fO b h λc3=>
bX 61 c3 0 h λai=>
fl 28 ai 2 3 h λaj=>
bl .add 3 false false c2 aj λc4=>
bl .neq 3 false false t c4 λa7=>bn a7 (gu (List.length a) h λd9=>bif bif Nat.beq (List.length h) (List.length a) then true else aG (List.length a) [(4,bA false),(0,b),(5,e),(7,d)] [0,4,5,7] then some (Out.ret (A.tup [bA false,b,bA false,e,d]),d9) else none) (gu (List.length a) h λd9=>bif bif Nat.beq (List.length h) (List.length a) then true else aG (List.length a) [(0,b),(4,s),(5,e),(7,d)] [0,4,5,7] then some (Out.ret (A.tup [bA true,b,s,e,d]),d9) else none))))))) (gu (List.length a) k λjm=>bif bif Nat.beq (List.length k) (List.length a) then true else aG (List.length a) [(0,b),(4,s),(5,e),(7,d)] [0,4,5,7] then some (Out.ret (A.tup [bA false,b,s,e,d]),jm) else none))) (gu (List.length a) g λcv=>bif bif Nat.beq (List.length g) (List.length a) then true else aG (List.length a) [(0,j),(4,ae),(5,x),(7,o)] [0,4,5,7] then some (Out.ret (A.tup [bA false,j,ae,x,o]),cv) else none)).bind λjn=>Fg jn λjo r=>fW jo λjp gb gc ci jq=>aV jq λj lg=>
dP jp (fl 28 j 2 3 r λjr=>
fO gb r λjs=>
bX 61 js 0 r λjt=>
fl 28 jt 2 3 r λju=>
bl .neq 3 false false jr ju λgd=>
qa gd false (bX 28 j 1 r λge=>
aS 26 ge r λgf=>
eX 26 gf r λjv=>some [ci,jv,gf,ge]) (some [ud,ud,ud,ud]) λjw=>fW jw λaf al h2 lh li=>
(dP gd (some [bA true,ud]) (bl .neq 3 false false al af λag=>some [ag,ag])).bind λcy=>iH cy λcz b lj=>
(dP cz (some [bA true,ud,ud,ud]) (aS 28 j r λb8=>
(C 13 [snap r b8]).bind λb9=>
bl .neq 33 false true b9 (iA 0) λba=>some [ba,ba,b9,b8])).bind λjx=>fW jx λs e dt d ll=>bn s (some (Out.ret (bA false),r)) (fl 28 j 1 26 r λcj=>
eX 26 cj r λck=>aI (cx C) call rg n 20 lo 0 (List.length r) (λcg a5=>bif Nat.beq cg 1 then
aS 28 (lk a5 7) (St.H a5) λbz=>
fO (lk a5 0) (St.H a5) λc0=>
bX 61 c0 0 (St.H a5) λau=>
cA 28 au (cw au (St.H a5) bz) (St.H a5) lo λjy=>some (Out.ret (bA true),jy) else none) (λcg a5=>none) (λgg=>some (Out.ret (lk gg 4),St.H gg)) (λcg a5=>some (Out.pan cg,St.H a5)) n (St.mk [(0,gb),(4,gc),(7,j),(405,ck),(406,iA 0)] r))) (some (Out.ret gc,r)):=r7
theorem Yq (e a:A):aK (cx C) call rg n 21 [e,a] H lo =
lX e H λr0=>
ib 28 r0.2 λr1=>
aS 28 r0.1 r1.2 λt2=>
(C 13 [snap r1.2 t2]).bind λf=>
bl .neq 33 false true f (iA 0) λp=>bn p (aS 28 r1.1 r1.2 λq=>
cA 28 r1.1 (cw r1.1 r1.2 q) r1.2 lo λg=>
aS 28 r1.1 g λb=>some (Out.ret (A.tup [b,f]),g)) (fl 28 r0.1 1 26 r1.2 λr=>
eX 26 r r1.2 λb=>
bl .sub 3 false true b (iA 1) λs=>
(C 30 [snap r1.2 a,snap r1.2 (iA 0),snap r1.2 s]).bind λt=>
(mc prog UnOp.not t).bind λu=>
(dP u (some [bA true,ud,ud,ud]) (bX 28 r0.1 2 r1.2 λh=>
aS 3 h r1.2 λi=>
bl .eql 3 false true i (iA 0) λj=>some [j,j,i,h])).bind λv=>fW v λw a3 a4 a5 a6=>bn w (aS 28 r1.1 r1.2 λc=>
cA 28 r1.1 (cw r1.1 r1.2 c) r1.2 lo λk=>
aS 28 r1.1 k λd=>some (Out.ret (A.tup [d,iA 1]),k)) (aS 28 r0.1 r1.2 λc=>
aS 28 r0.1 r1.2 λx=>
(bC prog 50 1 [(0,fw r1.2 a)]).bind λd=>
(C 51 [snap r1.2 x,snap r1.2 (iA 0),snap r1.2 d]).bind λy=>
((call 50 [c,y] r1.2 (List.length r1.2)).bind λz=>CI (List.length r1.2) z).bind λl=>
iT l 0 λa0=>
iT l 1 λa1=>
cA 28 r1.1 (cw r1.1 r1.2 a0) r1.2 lo λo=>
aS 28 r1.1 o λa2=>some (Out.ret (A.tup [a2,a1]),o))):=r7
theorem Yr (b a:A):aK (cx C) call rg n 24 [b,a] H lo =
lX b H λr0=>
fl 30 r0.1 0 3 r0.2 λt2=>
(C 30 [snap r0.2 t2,snap r0.2 (iA 0),snap r0.2 (iA 1048576)]).bind λo=>
(dP o (bX 30 r0.1 1 r0.2 λc=>
aS 3 c r0.2 λd=>
bl .sub 3 false true a (iA 1) λe=>
(C 30 [snap r0.2 d,snap r0.2 (iA 0),snap r0.2 e]).bind λf=>some [f,f,e,a,d,c]) (some [bA false,ud,ud,ud,ud,ud])).bind λp=>fW p λq w x y r=>iH r λz a0 a1=>
(dP q (bX 30 r0.1 2 r0.2 λg=>
aS 3 g r0.2 λh=>
(C 30 [snap r0.2 h,snap r0.2 (iA 0),snap r0.2 (iA 4095)]).bind λi=>some [i,i,h,g]) (some [bA false,ud,ud,ud])).bind λs=>fW s λt a2 a3 a4 a5=>
(dP t (bX 30 r0.1 3 r0.2 λj=>
aS 3 j r0.2 λk=>
(C 30 [snap r0.2 k,snap r0.2 (iA 1),snap r0.2 (iA 8)]).bind λl=>some [l,l,k,j]) (some [bA false,ud,ud,ud])).bind λu=>fW u λv a6 a7 a8 a9=>some (Out.ret v,r0.2):=r7
theorem Ys (e f:A):aK (cx C) call rg n 25 [e,f] H lo =
lX e H λr0=>
lX f r0.2 λr1=>
ib 25 r1.2 λa=>
aS 25 r0.1 a.2 λp=>
(C 33 [snap a.2 p]).bind λq=>
bl .neq 33 false true q (iA 0) λr=>
(dP r (some [bA true,ud,ud,ud]) (aS 48 r1.1 a.2 λg=>
(C 56 [snap a.2 g]).bind λh=>
(mc prog UnOp.not h).bind λi=>some [i,i,h,g])).bind λs=>fW s λt u8 u9 ab ad=>bn t (aS 25 a.1 a.2 λu=>
cA 25 a.1 (cw a.1 a.2 u) a.2 lo λj=>
aS 25 a.1 j λc=>some (Out.ret (A.tup [c,iA 60]),j)) (fl 25 r0.1 0 22 a.2 λv=>
eX 22 v a.2 λc=>
bl .eql 3 false true c (iA 4096) λw=>bn w (aS 25 a.1 a.2 λx=>
cA 25 a.1 (cw a.1 a.2 x) a.2 lo λk=>
aS 25 a.1 k λy=>some (Out.ret (A.tup [y,iA 2]),k)) (fl 25 r0.1 0 22 a.2 λz=>
fl 25 r0.1 0 22 a.2 λa0=>
eX 22 a0 a.2 λa1=>
fl 25 r0.1 0 22 a.2 λa2=>
eX 22 a2 a.2 λa3=>
(eK prog 22 z none (some a1) (some a3) a.2).bind λa4=>
aS 48 r1.1 a.2 λa5=>
(bC prog 22 1 [(0,fw a.2 a5)]).bind λa6=>
(bU prog 22 22 false a4 a6 a.2 lo).bind λb=>
bX 25 r0.1 0 b.2 λl=>
cA 22 l (cw l b.2 b.1) b.2 lo λd=>
aS 25 r0.1 d λa7=>
cA 25 a.1 (cw a.1 d a7) d lo λo=>
aS 25 a.1 o λa8=>some (Out.ret (A.tup [a8,iA 0]),o))):=r7
theorem Yt (f:A):aK (cx C) call rg n 26 [f] H lo =
lX f H λr0=>
oI 107 [(0,iA 3)] λi=>
ib 107 r0.2 λa=>
cA 107 a.1 (cw a.1 a.2 i) a.2 lo λj=>
(call 57 [r0.1] j lo).bind λc=>ek c.1 (λd=>
eX 108 d c.2 λk=>aI (cx C) call rg n 26 lo 0 (List.length (fb lo 3 5 a.1 c.2)) (λe b=>bif Nat.beq e 0 then
aS 107 (lk b 3) (St.H b) λl=>
(C 58 [snap (St.H b) l]).bind λg=>
iT g 0 λo=>
iT g 1 λp=>some (Out.ret o,St.H b) else none) (λe b=>none) (λh=>some (Out.ret (lk h 2),St.H h)) (λe b=>some (Out.pan e,St.H b)) n (St.mk [(2,A.imm [] true),(3,a.1),(9,d),(10,k),(11,iA 0)] (fb lo 3 5 a.1 c.2))) λd=>some (Out.pan d,c.2):=r7
theorem Yu (a:A):aK (cx C) call rg n 29 [a] H lo =
lX a H λr0=>
fl 30 r0.1 0 3 r0.2 λt2=>
fl 30 r0.1 1 3 r0.2 λc=>
fl 30 r0.1 2 3 r0.2 λd=>
fl 30 r0.1 3 3 r0.2 λe=>
(bC prog 50 5 [(0,fw r0.2 (iA 1)),(1,fw r0.2 t2),(2,fw r0.2 c),(3,fw r0.2 d),(4,fw r0.2 e)]).bind λf=>
(C 61 [snap r0.2 f]).bind λg=>
(C 60 [snap r0.2 g]).bind λb=>
iT b 0 λh=>
iT b 1 λi=>some (Out.ret h,r0.2):=r7
theorem Yv (a c b:A):aK (cx C) call rg n 30 [a,c,b] H lo =
bl .leq 3 false false c a λe=>
(dP e (bl .leq 3 false false a b λd=>some [d,d,b,a]) (some [bA false,ud,ud,ud])).bind λf=>fW f λg h u4 i j=>some (Out.ret g,H):=r7
theorem Yw:aK (cx C) call rg n 31 [] H lo =
ib 25 H λr0=>
aS 25 r0.1 r0.2 λb=>
cA 25 r0.1 (cw r0.1 r0.2 b) r0.2 lo λa=>
aS 25 r0.1 a λc=>some (Out.ret c,a):=r7
theorem Yx (c:A):aK (cx C) call rg n 33 [c] H lo =
lX c H λr0=>
fl 25 r0.1 0 22 r0.2 λt2=>
eX 22 t2 r0.2 λi=>
bl .gtr 3 false true i (iA 4096) λj=>
(dP j (some [bA true,ud,ud,ud]) (bX 25 r0.1 0 r0.2 λd=>
aS 22 d r0.2 λe=>
(C 62 [snap r0.2 e,snap r0.2 (A.fn (Fn.func 63) [] [])]).bind λf=>some [f,f,e,d])).bind λk=>fW k λl p q r s=>bn l (some (Out.ret (iA 60),r0.2)) (fl 25 r0.1 1 23 r0.2 λg=>
eX 23 g r0.2 λo=>aI (cx C) call rg n 33 lo 0 (List.length r0.2) (λa b=>bif Nat.beq a 0 then some (Out.ret (iA 0),St.H b) else none) (λa b=>none) (λh=>some (Out.ret (lk h 2),St.H h)) (λa b=>some (Out.pan a,St.H b)) n (St.mk [(1,r0.1),(2,iA 0),(15,g),(16,o),(17,iA 0)] r0.2)):=r7
theorem Yy (f g h b:A):aK (cx C) call rg n 34 [f,g,h,b] H lo =
lX f H λr0=>
fl 55 r0.1 1 50 r0.2 λt2=>
eX 50 t2 r0.2 λs=>
bl .neq 3 false false s b λt=>
(dP t (some [bA true,ud,ud,ud,ud,ud]) (bX 55 r0.1 2 r0.2 λi=>
aS 50 i r0.2 λj=>
eX 50 j r0.2 λk=>
bl .neq 3 false false k b λl=>some [l,l,b,k,j,i])).bind λu=>fW u λv z u8 u9 w=>iH w λa2 a3 a4=>bn v (some (Out.ret (bA false),r0.2)) (fl 55 r0.1 1 50 r0.2 λo=>
eX 50 o r0.2 λx=>aI (cx C) call rg n 34 lo 0 (List.length r0.2) (λc a=>bif Nat.beq c 0 then
fl 55 (lk a 4) 0 53 (St.H a) λp=>
eX 53 p (St.H a) λy=>aI (cx C) call rg n 34 lo 1 (List.length (St.H a)) (λd e=>bif Nat.beq d 2 then some (Out.ret (bA true),St.H e) else none) (λd e=>none) (λq=>some (Out.ret (lk q 8),St.H q)) (λd e=>some (Out.pan d,St.H e)) n (St.mk [(1,lk a 1),(2,lk a 2),(8,lk a 8),(11,lk a 3),(57,p),(58,y),(59,iA 0)] (St.H a)) else none) (λc a=>none) (λr=>some (Out.ret (lk r 8),St.H r)) (λc a=>some (Out.pan c,St.H a)) n (St.mk [(1,g),(2,h),(3,b),(4,r0.1),(8,bA false),(27,o),(28,x),(29,iA 0)] r0.2)):=r7
theorem Yz (k:A):aK (cx C) call rg n 35 [k] H lo =
ib 75 H λr0=>
(C 66 [snap r0.2 k]).bind λl=>
iT l 0 λt2=>
iT l 1 λt3=>
ib 107 r0.2 λd=>
cA 107 d.1 (cw d.1 d.2 t2) d.2 lo λb=>
bl .neq 33 false true t3 (iA 0) λt6=>
(dP t6 (some [bA true,ud,ud,ud]) (bX 107 d.1 0 b λo=>
aS 3 o b λp=>
bl .neq 3 false true p (iA 3) λq=>some [q,q,p,o])).bind λl7=>fW l7 λu8 u9 ax ay az=>
(dP u8 (some [bA true,ud,ud,ud,ud]) (bX 107 d.1 3 b λr=>
aS 105 r b λs=>
eX 105 s b λt=>
bl .eql 3 false true t (iA 0) λu=>some [u,u,t,s,r])).bind λad=>fW ad λae b0 b1 b2 af=>aV af λb3 b4=>bn ae (aS 75 r0.1 b λag=>
cA 75 r0.1 (cw r0.1 b ag) b lo λv=>
aS 75 r0.1 v λh=>some (Out.ret (A.tup [h,bA false]),v)) (fl 107 d.1 3 105 b λah=>
dV 105 ah (iA 0) b λh=>
fl 107 h 1 3 b λai=>
bX 75 r0.1 0 b λw=>
cA 3 w (cw w b ai) b lo λaj=>
(call 57 [r0.1] aj lo).bind λa=>ek a.1 (λe=>
fl 75 r0.1 0 3 a.2 λak=>
bl .neq 3 false true ak (iA 1) λal=>
(dP al (bX 75 r0.1 0 a.2 λx=>
aS 3 x a.2 λy=>
bl .neq 3 false true y (iA 2) λz=>some [z,z,y,x]) (some [bA false,ud,ud,ud])).bind λam=>fW am λan b5 b6 b7 b8=>
(dP an (some [bA true,ud,ud,ud,ud,ud,ud]) (bX 107 d.1 3 a.2 λa0=>
aS 105 a0 a.2 λa1=>
eX 105 a1 a.2 λa2=>
eX 108 e a.2 λa3=>
bl .neq 3 false false a2 a3 λa4=>some [a4,a4,a3,e,a2,a1,a0])).bind λao=>fW ao λap b9 ba bb aq=>iH aq λbc bd ar=>aV ar λbe bf=>bn ap (aS 75 r0.1 a.2 λau=>
cA 75 r0.1 (cw r0.1 a.2 au) a.2 lo λa5=>
aS 75 r0.1 a5 λi=>some (Out.ret (A.tup [i,bA false]),a5)) (fl 107 d.1 3 105 a.2 λa6=>
eX 105 a6 a.2 λi=>aI (cx C) call rg n 35 lo 0 (List.length a.2) (λf c=>bif Nat.beq f 0 then
aS 75 (lk c 2) (St.H c) λj=>
cA 75 (lk c 2) (cw (lk c 2) (St.H c) j) (St.H c) lo λa7=>
aS 75 (lk c 2) a7 λav=>some (Out.ret (A.tup [av,bA true]),a7) else none) (λf c=>none) (λg=>
aS 75 (lk g 2) (St.H g) λj=>some (Out.ret (A.tup [j,lk g 3]),St.H g)) (λf c=>some (Out.pan f,St.H c)) n (St.mk [(2,r0.1),(3,bA false),(6,e),(53,a6),(54,i),(55,iA 0)] a.2))) λe=>some (Out.pan e,a.2)):=r7
theorem YA (l d:A):aK (cx C) call rg n 41 [l,d] H lo =
lX l H λr0=>
ib 48 r0.2 λr1=>
ib 25 r1.2 λb=>
aS 25 r0.1 b.2 λt=>
(C 70 [snap b.2 t,snap b.2 d]).bind λo=>
iT o 0 λu=>
iT o 1 λp=>
cA 48 r1.1 (cw r1.1 b.2 u) b.2 lo λa=>
bl .neq 33 false true p (iA 0) λv=>bn v (aS 48 r1.1 a λw=>
aS 25 b.1 a λe=>bif bif apart b.1 r1.1 then true else false then
cA 48 r1.1 (cw r1.1 a w) a lo λq=>
cA 25 b.1 (cw b.1 q e) q lo λf=>
aS 48 r1.1 f λx=>
aS 25 b.1 f λg=>some (Out.ret (A.tup [x,g,p]),f) else none) (fl 25 r0.1 1 23 a λe=>
fl 48 r1.1 0 3 a λy=>
fl 48 r1.1 1 3 a λg=>
(C 72 [snap a y,snap a g]).bind λz=>
(C 71 [snap a e,snap a z]).bind λa0=>bn a0 (oI 48 [] λh=>
cA 48 r1.1 (cw r1.1 a h) a lo λc=>
aS 48 r1.1 c λi=>
aS 25 r0.1 c λa1=>
(C 73 [snap c a1,snap c d]).bind λa2=>
cA 48 r1.1 (cw r1.1 c i) c lo λr=>
cA 25 b.1 (cw b.1 r a2) r lo λj=>
aS 48 r1.1 j λa3=>
aS 25 b.1 j λa4=>some (Out.ret (A.tup [a3,a4,iA 0]),j)) (aS 48 r1.1 a λh=>
aS 25 r0.1 a λa5=>
(C 73 [snap a a5,snap a d]).bind λi=>
cA 48 r1.1 (cw r1.1 a h) a lo λs=>
cA 25 b.1 (cw b.1 s i) s lo λk=>
aS 48 r1.1 k λa6=>
aS 25 b.1 k λa7=>some (Out.ret (A.tup [a6,a7,iA 0]),k))):=r7
theorem YB (c d e:A):aK (cx C) call rg n 42 [c,d,e] H lo =
eX 53 c H λf=>aI (cx C) call rg n 42 lo 0 (List.length H) (λb a=>bif Nat.beq b 0 then
bl .lss 3 false false (lk a 9) (lk a 8) λt2=>
(dP t2 (dV 53 (lk a 0) (lk a 9) (St.H a) λg=>
aS 30 g (St.H a) λh=>tM (cx C) call (lk a 2) [h,lk a 1] (St.H a) λi=>
bl .eql 3 false true i (iA 0) λj=>some [j,j,i,lk a 1,h,g,lk a 9,lk a 0,lk a 2]) (some [bA false,ud,ud,ud,ud,ud,ud,ud,ud])).bind λk=>pO k λu4 o p q r s t u l=>aV l λv w=>some (Out.ret (A.tup [lk a 9,u4]),St.H a) else none) (λb a=>none) (λa1=>some (Out.ret (A.tup [lk a1 6,lk a1 7]),St.H a1)) (λb a=>some (Out.pan b,St.H a)) n (St.mk [(0,c),(1,d),(2,e),(6,iA 0),(7,bA false),(8,f),(9,iA 0),(10,f)] H):=r7
theorem YC (a b:A):aK (cx C) call rg n 43 [a,b] H lo =
lX a H λr0=>
fl 30 r0.1 2 3 r0.2 λt2=>
bl .sub 3 false false t2 b λc=>some (Out.ret c,r0.2):=r7
theorem V2 (a:A):aK (cx C) call rg n 45 [a] H lo =
(MA prog 53 a).bind λc=>bn c (some (Out.ret (iV (500004 - 500000) (St.H (St.mk [(2,A.imm [] true),(4,c),(3,a),(2,A.imm [] true),(0,a)] H)) (look (St.fr (St.mk [(2,A.imm [] true),(4,c),(3,a),(2,A.imm [] true),(0,a)] H)) (Prod.fst (2,0,500005)))).1,(iV (500004 - 500000) (St.H (St.mk [(2,A.imm [] true),(4,c),(3,a),(2,A.imm [] true),(0,a)] H)) (look (St.fr (St.mk [(2,A.imm [] true),(4,c),(3,a),(2,A.imm [] true),(0,a)] H)) (Prod.fst (2,0,500005)))).2)) ((bC prog 53 0 []).bind λd=>
(bU prog 53 53 true d a H lo).bind λb=>some (Out.ret (iV (500004 - 500000) (St.H (St.mk [(2,b.1),(7,b.1),(6,a),(5,d),(4,c),(3,a),(2,A.imm [] true),(0,a)] b.2)) (look (St.fr (St.mk [(2,b.1),(7,b.1),(6,a),(5,d),(4,c),(3,a),(2,A.imm [] true),(0,a)] b.2)) (Prod.fst (2,0,500005)))).1,(iV (500004 - 500000) (St.H (St.mk [(2,b.1),(7,b.1),(6,a),(5,d),(4,c),(3,a),(2,A.imm [] true),(0,a)] b.2)) (look (St.fr (St.mk [(2,b.1),(7,b.1),(6,a),(5,d),(4,c),(3,a),(2,A.imm [] true),(0,a)] b.2)) (Prod.fst (2,0,500005)))).2)):=r7
theorem Tx (a:A):aK (cx C) call rg n 46 [a] H lo =
(MA prog 26 a).bind λc=>bn c (some (Out.ret (iV (500003 - 500000) (St.H (St.mk [(2,A.imm [] true),(4,c),(3,a),(2,A.imm [] true),(0,a)] H)) (look (St.fr (St.mk [(2,A.imm [] true),(4,c),(3,a),(2,A.imm [] true),(0,a)] H)) (Prod.fst (2,0,500004)))).1,(iV (500003 - 500000) (St.H (St.mk [(2,A.imm [] true),(4,c),(3,a),(2,A.imm [] true),(0,a)] H)) (look (St.fr (St.mk [(2,A.imm [] true),(4,c),(3,a),(2,A.imm [] true),(0,a)] H)) (Prod.fst (2,0,500004)))).2)) ((bC prog 26 0 []).bind λd=>
(bU prog 26 26 true d a H lo).bind λb=>some (Out.ret (iV (500003 - 500000) (St.H (St.mk [(2,b.1),(7,b.1),(6,a),(5,d),(4,c),(3,a),(2,A.imm [] true),(0,a)] b.2)) (look (St.fr (St.mk [(2,b.1),(7,b.1),(6,a),(5,d),(4,c),(3,a),(2,A.imm [] true),(0,a)] b.2)) (Prod.fst (2,0,500004)))).1,(iV (500003 - 500000) (St.H (St.mk [(2,b.1),(7,b.1),(6,a),(5,d),(4,c),(3,a),(2,A.imm [] true),(0,a)] b.2)) (look (St.fr (St.mk [(2,b.1),(7,b.1),(6,a),(5,d),(4,c),(3,a),(2,A.imm [] true),(0,a)] b.2)) (Prod.fst (2,0,500004)))).2)):=r7
theorem YD (f:A):aK (cx C) call rg n 47 [f] H lo =
(C 76 [snap H f]).bind λg=>
iT g 0 λk=>
iT g 1 λt2=>
ib 107 H λa=>
cA 107 a.1 (cw a.1 a.2 k) a.2 lo λb=>
bl .neq 33 false true t2 (iA 0) λl=>
(dP l (some [bA true,ud,ud,ud]) (bX 107 a.1 0 b λh=>
aS 3 h b λi=>
bl .neq 3 false true i (iA 3) λj=>some [j,j,i,h])).bind λo=>fW o λp q r s t=>bn p (some (Out.ret (A.tup [A.imm [] true,bA false]),b)) (aI (cx C) call rg n 47 lo 0 (List.length (fj 1 (St.H (St.mk [(2,A.imm [] true),(3,bA false),(4,a.1),(6,A.imm [] true),(7,iA 0)] b)) (look (St.fr (St.mk [(2,A.imm [] true),(3,bA false),(4,a.1),(6,A.imm [] true),(7,iA 0)] b)) (Prod.fst (6,0,2)))).2) (λd c=>bif Nat.beq d 0 then some (Out.ret (A.tup [lk c 6,bA true]),St.H c) else none) (λd c=>none) (λe=>some (Out.ret (A.tup [lk e 2,lk e 3]),St.H e)) (λd c=>some (Out.pan d,St.H c)) n (St.mk [(2,A.imm [] true),(3,bA false),(4,a.1),(6,(fj 1 (St.H (St.mk [(2,A.imm [] true),(3,bA false),(4,a.1),(6,A.imm [] true),(7,iA 0)] b)) (look (St.fr (St.mk [(2,A.imm [] true),(3,bA false),(4,a.1),(6,A.imm [] true),(7,iA 0)] b)) (Prod.fst (6,0,2)))).1),(7,iA 0)] (fj 1 (St.H (St.mk [(2,A.imm [] true),(3,bA false),(4,a.1),(6,A.imm [] true),(7,iA 0)] b)) (look (St.fr (St.mk [(2,A.imm [] true),(3,bA false),(4,a.1),(6,A.imm [] true),(7,iA 0)] b)) (Prod.fst (6,0,2)))).2)):=r7
theorem YE (a b:A):aK (cx C) call rg n 48 [a,b] H lo =
(C 77 [snap H a,snap H b]).bind λc=>
bl .geq 3 false true c (iA 0) λd=>some (Out.ret d,H):=r7
theorem YF (a d:A):aK (cx C) call rg n 49 [a,d] H lo =
eX 50 a H λg=>
bl .add 3 false true g (iA 1) λe=>
(cR false prog 50 e e H).bind λb=>
(oU prog 50 b.1 a b.2 lo).bind λc=>
eX 50 a c.2 λh=>
dV 50 b.1 h c.2 λf=>
cA 3 f (cw f c.2 d) c.2 lo λi=>some (Out.ret b.1,i):=r7
theorem V3 (h i:A):aK (cx C) call rg n 50 [h,i] H lo =
lX h H λr0=>
ib 28 r0.2 λr1=>
ib 33 r1.2 λa=>
(JE prog i).bind λj=>bif Nat.ble lo (List.length a.2) then
(rg (wV 130 call (List.length a.2) (sW (cx C) call rg n 50 lo 0 (List.length a.2) [(2,r0.1),(4,r1.1),(5,a.1)])) j.1 (A.yld (List.length a.2) :: j.2) (a.2++[aA.rng ku.ready]) lo).bind λk=>ek k.1 (λo=>ra (List.length a.2) k.2 (λb=>
aS 28 r0.1 b λd=>
cA 28 r1.1 (cw r1.1 b d) b lo λe=>
cA 33 a.1 (cw a.1 e (iA 0)) e lo λc=>
aS 28 r1.1 c λf=>
aS 33 a.1 c λg=>some (Out.ret (A.tup [f,g]),c)) (λl b=>bif Nat.beq l 0 then
aS 28 r0.1 b λd=>
cA 28 r1.1 (cw r1.1 b d) b lo λe=>
cA 33 a.1 (cw a.1 e (iA 0)) e lo λc=>
aS 28 r1.1 c λf=>
aS 33 a.1 c λg=>some (Out.ret (A.tup [f,g]),c) else none) (λl b=>none) λb=>
aS 28 r1.1 b λd=>
aS 33 a.1 b λp=>some (Out.ret (A.tup [d,p]),b)) λo=>none else none:=r7
theorem YG (a b c:A):aK (cx C) call rg n 51 [a,b,c] H lo =
lX a H λr0=>
lX b r0.2 λr1=>
lX c r1.2 λd=>some (Out.ret (A.fn (Fn.func 78) [] [d.1,r0.1,r1.1]),d.2):=r7
theorem YH (f g:A):aK (cx C) call rg n 52 [f,g] H lo =
lX f H λr0=>
ib 28 r0.2 λr1=>
aS 28 r0.1 r1.2 λt2=>
(C 13 [snap r1.2 t2]).bind λh=>
bl .neq 33 false true h (iA 0) λp=>bn p (aS 28 r1.1 r1.2 λq=>
cA 28 r1.1 (cw r1.1 r1.2 q) r1.2 lo λi=>
aS 28 r1.1 i λc=>some (Out.ret (A.tup [c,h]),i)) (fl 28 r0.1 0 25 r1.2 λr=>
(C 79 [snap r1.2 r,snap r1.2 g]).bind λc=>
iT c 0 λs=>
iT c 1 λj=>
ib 25 r1.2 λb=>
cA 25 b.1 (cw b.1 b.2 s) b.2 lo λa=>
bl .neq 33 false true j (iA 0) λt=>bn t (aS 28 r1.1 a λd=>
cA 28 r1.1 (cw r1.1 a d) a lo λk=>
aS 28 r1.1 k λu=>some (Out.ret (A.tup [u,j]),k)) (aS 25 b.1 a λd=>
bX 28 r0.1 0 a λl=>
cA 25 l (cw l a d) a lo λe=>
aS 28 r0.1 e λv=>
cA 28 r1.1 (cw r1.1 e v) e lo λo=>
aS 28 r1.1 o λw=>some (Out.ret (A.tup [w,iA 0]),o))):=r7
theorem YI (f g:A):aK (cx C) call rg n 53 [f,g] H lo =
lX f H λr0=>
ib 28 r0.2 λr1=>
aS 28 r0.1 r1.2 λt2=>
(C 13 [snap r1.2 t2]).bind λh=>
bl .neq 33 false true h (iA 0) λp=>bn p (aS 28 r1.1 r1.2 λq=>
cA 28 r1.1 (cw r1.1 r1.2 q) r1.2 lo λi=>
aS 28 r1.1 i λc=>some (Out.ret (A.tup [c,h]),i)) (fl 28 r0.1 0 25 r1.2 λr=>
(C 80 [snap r1.2 r,snap r1.2 g]).bind λc=>
iT c 0 λs=>
iT c 1 λj=>
ib 25 r1.2 λb=>
cA 25 b.1 (cw b.1 b.2 s) b.2 lo λa=>
bl .neq 33 false true j (iA 0) λt=>bn t (aS 28 r1.1 a λd=>
cA 28 r1.1 (cw r1.1 a d) a lo λk=>
aS 28 r1.1 k λu=>some (Out.ret (A.tup [u,j]),k)) (aS 25 b.1 a λd=>
bX 28 r0.1 0 a λl=>
cA 25 l (cw l a d) a lo λe=>
aS 28 r0.1 e λv=>
cA 28 r1.1 (cw r1.1 e v) e lo λo=>
aS 28 r1.1 o λw=>some (Out.ret (A.tup [w,iA 0]),o))):=r7
theorem YJ (g o:A):aK (cx C) call rg n 54 [g,o] H lo =
lX o H λr0=>
fO g r0.2 λt1=>
bX 61 t1 0 r0.2 λt2=>
fl 28 t2 1 26 r0.2 λt4=>
eX 26 t4 r0.2 λc=>
fl 65 r0.1 7 46 r0.2 λt7=>
(C 81 [snap r0.2 t7,snap r0.2 c]).bind λh=>aI (cx C) call rg n 54 lo 0 (List.length (fj 1 (St.H (St.mk [(0,g),(3,r0.1),(4,bA false),(5,c),(6,h),(7,A.imm [] true),(30,c),(31,iA 0)] r0.2)) (look (St.fr (St.mk [(0,g),(3,r0.1),(4,bA false),(5,c),(6,h),(7,A.imm [] true),(30,c),(31,iA 0)] r0.2)) (Prod.fst (7,0,2)))).2) (λi b=>bif Nat.beq i 0 then
fO (lk b 0) (St.H b) λan=>
fl 61 an 0 28 (St.H b) λao=>
(C 19 [snap (St.H b) ao,snap (St.H b) (lk b 7),snap (St.H b) (lk b 6)]).bind λp=>
iT p 0 λap=>
iT p 1 λaq=>
ib 28 (St.H b) λe=>
cA 28 e.1 (cw e.1 e.2 ap) e.2 lo λa=>
fO (lk b 0) a λar=>
bX 61 ar 0 a λau=>
fl 28 au 2 3 a λl=>
bl .neq 33 false true aq (iA 0) λav=>
(dP av (some [bA true,ud,ud,ud,ud,ud]) (bX 28 e.1 2 a λq=>
aS 3 q a λr=>
bl .add 3 false true l (iA 1) λs=>
bl .neq 3 false false r s λt=>some [t,t,s,l,r,q])).bind λaw=>fW aw λax bh bi bj ay=>iH ay λbk bm bo=>
(dP ax (some [bA true,ud,ud,ud,ud,ud]) (bX 28 e.1 1 a λu=>
aS 26 u a λv=>
eX 26 v a λw=>
bl .neq 3 false false w (lk b 5) λx=>some [x,x,lk b 5,w,v,u])).bind λaz=>fW az λb0 bp bq br b1=>iH b1 λbs bt bu=>
(dP b0 (some [bA true,ud,ud,ud]) (aS 28 e.1 a λy=>
(C 13 [snap a y]).bind λz=>
bl .neq 33 false true z (iA 0) λa0=>some [a0,a0,z,y])).bind λb2=>fW b2 λa1 bv bw bx bz=>
qa a1 false (bX 28 e.1 0 a λa2=>
bX 25 a2 0 a λa3=>
aS 22 a3 a λa4=>
eX 22 a4 a λb3=>
fO (lk b 0) a λa5=>
bX 61 a5 0 a λa6=>
bX 28 a6 0 a λa7=>
bX 25 a7 0 a λa8=>
aS 22 a8 a λaa=>
eX 22 aa a λab=>
bl .add 3 false false ab (lk b 5) λb4=>some [b4,lk b 5,ab,aa,a8,a7,a6,a5,lk b 0,b3,a4,a3,a2]) (some [ud,ud,ud,ud,ud,ud,ud,ud,ud,ud,ud,ud,ud]) λb5=>pO b5 λb6 c0 c1 c2 c3 c4 c5 c6 b7=>fW b7 λc7 b8 c8 c9 b9=>aV b9 λca cb=>
(dP a1 (some [bA true,ud]) (bl .neq 3 false false b8 b6 λad=>some [ad,ad])).bind λba=>iH ba λbb cc cd=>bn bb (some (Out.ret (bA false),a)) (fl 28 e.1 1 26 a λae=>
eX 26 ae a λbc=>aI (cx C) call rg n 54 lo 1 (List.length a) (λj d=>bif Nat.beq j 2 then
fl 28 (lk d 9) 1 26 (St.H d) λaf=>
eX 26 af (St.H d) λbd=>aI (cx C) call rg n 54 lo 2 (List.length (St.H d)) (λk f=>bif Nat.beq k 4 then
aS 28 (lk f 9) (St.H f) λbe=>
fO (lk f 0) (St.H f) λbf=>
bX 61 bf 0 (St.H f) λag=>
cA 28 ag (cw ag (St.H f) be) (St.H f) lo λbg=>some (Out.ret (bA true),bg) else none) (λk f=>none) (λah=>some (Out.ret (lk ah 4),St.H ah)) (λk f=>some (Out.pan k,St.H f)) n (St.mk [(0,lk d 0),(4,lk d 4),(6,lk d 6),(9,lk d 9),(11,lk d 11),(177,af),(178,bd),(179,iA 0)] (St.H d)) else none) (λj d=>none) (λai=>some (Out.ret (lk ai 4),St.H ai)) (λj d=>some (Out.pan j,St.H d)) n (St.mk [(0,lk b 0),(3,lk b 3),(4,lk b 4),(6,lk b 6),(9,e.1),(11,l),(98,ae),(99,bc),(100,iA 0)] a)) else none) (λi b=>none) (λa9=>some (Out.ret (lk a9 4),St.H a9)) (λi b=>some (Out.pan i,St.H b)) n (St.mk [(0,g),(3,r0.1),(4,bA false),(5,c),(6,h),(7,(fj 1 (St.H (St.mk [(0,g),(3,r0.1),(4,bA false),(5,c),(6,h),(7,A.imm [] true),(30,c),(31,iA 0)] r0.2)) (look (St.fr (St.mk [(0,g),(3,r0.1),(4,bA false),(5,c),(6,h),(7,A.imm [] true),(30,c),(31,iA 0)] r0.2)) (Prod.fst (7,0,2)))).1),(30,c),(31,iA 0)] (fj 1 (St.H (St.mk [(0,g),(3,r0.1),(4,bA false),(5,c),(6,h),(7,A.imm [] true),(30,c),(31,iA 0)] r0.2)) (look (St.fr (St.mk [(0,g),(3,r0.1),(4,bA false),(5,c),(6,h),(7,A.imm [] true),(30,c),(31,iA 0)] r0.2)) (Prod.fst (7,0,2)))).2):=r7
theorem YK (c d:A):aK (cx C) call rg n 55 [c,d] H lo =
eX 50 c H λe=>
eX 50 d H λf=>
bl .neq 3 false false e f λt2=>bn t2 (some (Out.ret (bA false),H)) (aI (cx C) call rg n 55 lo 0 (List.length H) (λa b=>bif Nat.beq a 0 then some (Out.ret (bA true),St.H b) else none) (λa b=>none) (λa3=>some (Out.ret (lk a3 4),St.H a3)) (λa b=>some (Out.pan a,St.H b)) n (St.mk [(0,c),(1,d),(4,bA false),(5,iA 0)] H)):=r7
theorem YL (a:A):aK (cx C) call rg n 56 [a] H lo =
lX a H λr0=>
fl 48 r0.1 0 3 r0.2 λt2=>
fl 48 r0.1 1 3 r0.2 λf=>
(C 72 [snap r0.2 t2,snap r0.2 f]).bind λg=>
(C 64 [snap r0.2 g]).bind λh=>
(dP h (bX 48 r0.1 2 r0.2 λb=>
aS 46 b r0.2 λc=>
eX 46 c r0.2 λd=>
bl .leq 3 false true d (iA 1048576) λe=>some [e,e,d,c,b]) (some [bA false,ud,ud,ud,ud])).bind λi=>fW i λj l o p k=>aV k λq r=>some (Out.ret j,r0.2):=r7
theorem V4 (a:A):aK (cx C) call rg n 57 [a] H lo =
fO a H λe=>
bX 75 e 0 H λv=>
fO a H λt2=>
bX 75 t2 1 H λf=>
bX 30 f 0 H λw=>
fO a H λg=>
bX 75 g 1 H λh=>
bX 30 h 1 H λx=>
fO a H λi=>
bX 75 i 1 H λj=>
bX 30 j 2 H λy=>
fO a H λk=>
bX 75 k 1 H λl=>
bX 30 l 3 H λz=>
fO a H λo=>
bX 75 o 0 H λa0=>
fO a H λp=>
bX 75 p 2 H λq=>
bX 41 q 0 H λa1=>
fO a H λr=>
bX 75 r 2 H λs=>
bX 41 s 1 H λa2=>
fO a H λt=>
bX 75 t 2 H λu=>
bX 41 u 2 H λa3=>
oI 137 [(0,v),(1,w),(2,x),(3,y),(4,z),(5,a0),(6,a1),(7,a2),(8,a3)] λa4=>bif bif apart u A.any then bif apart t A.any then bif apart a A.any then bif apart s A.any then bif apart r A.any then bif apart a A.any then bif apart q A.any then bif apart p A.any then bif apart a A.any then bif apart o A.any then bif apart a A.any then bif apart l A.any then bif apart k A.any then bif apart a A.any then bif apart j A.any then bif apart i A.any then bif apart a A.any then bif apart h A.any then bif apart g A.any then bif apart a A.any then bif apart f A.any then bif apart t2 A.any then bif apart a A.any then bif apart e A.any then bif apart a A.any then true else false else false else false else false else false else false else false else false else false else false else false else false else false else false else false else false else false else false else false else false else false else false else false else false else false then
(mj prog 137 H).bind λb=>
cA 137 b.1 (cw b.1 b.2 a4) b.2 lo λc=>
fO a c λa5=>
fl 75 a5 0 3 c λa6=>
bl .eql 3 false true a6 (iA 1) λa7=>bn a7 ((eK prog 137 b.1 none (some (iA 5)) none c).bind λd=>some (Out.ret d,c)) ((eK prog 137 b.1 (some (iA 5)) none none c).bind λd=>some (Out.ret d,c)) else none:=r7
theorem YM (e:A):aK (cx C) call rg n 58 [e] H lo =
lX e H λr0=>
aS 107 r0.1 r0.2 λg=>
(C 83 [snap r0.2 g]).bind λt2=>
bl .neq 33 false true t2 (iA 0) λh=>bn h (some (Out.ret (A.tup [A.imm [] true,t2]),r0.2)) (bX 107 r0.1 0 r0.2 λf=>
aS 3 f r0.2 λi=>
aS 107 r0.1 r0.2 λj=>bif bif jQ 0 r0.1 then bif jQ 0 f then bif jQ 0 r0.1 then true else false else false else false then
(call 84 [] r0.2 (List.length r0.2)).bind λa=>ek a.1 (λb=>
fO b a.2 λk=>
dV 158 k i a.2 λl=>
fl 141 l 0 139 a.2 λo=>ez (cx C) call o [A.imm [] true,j] a.2 lo (λc d=>some (Out.ret (A.tup [c,iA 0]),d)) λc d=>some (Out.pan c,d)) λb=>some (Out.pan b,a.2) else none):=r7
theorem YN (a:A):aK (cx C) call rg n 60 [a] H lo =
lX a H λr0=>
aS 107 r0.1 r0.2 λb=>
(C 85 [snap r0.2 b]).bind λt2=>
bl .neq 33 false true t2 (iA 0) λc=>bn c (some (Out.ret (A.tup [A.imm [] true,t2]),r0.2)) (aS 107 r0.1 r0.2 λd=>
(C 86 [snap r0.2 d]).bind λe=>some (Out.ret (A.tup [e,iA 0]),r0.2)):=r7
theorem YO (f:A):aK (cx C) call rg n 61 [f] H lo =
ib 107 H λr0=>
oI 107 [(0,iA 3)] λi=>
ib 107 r0.2 λb=>
cA 107 b.1 (cw b.1 b.2 i) b.2 lo λg=>aI (cx C) call rg n 61 lo 0 (List.length (fb lo 3 5 b.1 g)) (λc a=>bif Nat.beq c 0 then
aS 107 (lk a 3) (St.H a) λd=>
cA 107 (lk a 2) (cw (lk a 2) (St.H a) d) (St.H a) lo λh=>
aS 107 (lk a 2) h λj=>some (Out.ret j,h) else none) (λc a=>none) (λe=>
aS 107 (lk e 2) (St.H e) λd=>some (Out.ret d,St.H e)) (λc a=>some (Out.pan c,St.H a)) n (St.mk [(0,f),(2,r0.1),(3,b.1),(4,iA 0)] (fb lo 3 5 b.1 g)):=r7
theorem YP (a b:A):aK (cx C) call rg n 62 [a,b] H lo =
(C 88 [snap H a,snap H b]).bind λc=>
bl .geq 3 false true c (iA 0) λd=>some (Out.ret d,H):=r7
theorem YQ (a:A):aK (cx C) call rg n 63 [a] H lo =
lX a H λr0=>
aS 48 r0.1 r0.2 λb=>
(C 56 [snap r0.2 b]).bind λt2=>
(mc prog UnOp.not t2).bind λc=>some (Out.ret c,r0.2):=r7
theorem YR (a:A):aK (cx C) call rg n 64 [a] H lo =
lX a H λr0=>
dV 116 r0.1 (iA 0) r0.2 λj=>
aS 3 j r0.2 λt2=>
bl .geq 3 false true t2 (iA 0) λk=>
(dP k (dV 116 r0.1 (iA 0) r0.2 λb=>
aS 3 b r0.2 λc=>
dV 116 r0.1 (iA 1) r0.2 λd=>
aS 3 d r0.2 λe=>
bl .lss 3 false false c e λf=>some [f,f,e,d,c,b]) (some [bA false,ud,ud,ud,ud,ud])).bind λl=>fW l λo s t u p=>iH p λv w x=>
(dP o (dV 116 r0.1 (iA 1) r0.2 λg=>
aS 3 g r0.2 λh=>
bl .lss 3 false true h (iA 24) λi=>some [i,i,h,g]) (some [bA false,ud,ud,ud])).bind λq=>fW q λr y z a0 a1=>some (Out.ret r,r0.2):=r7
theorem YS (b d:A):aK (cx C) call rg n 65 [b,d] H lo =
eX 50 b H λe=>aI (cx C) call rg n 65 lo 0 (List.length H) (λc a=>bif Nat.beq c 0 then
eX 50 (lk a 0) (St.H a) λt2=>
eX 50 (lk a 1) (St.H a) λf=>
bl .lss 3 false false t2 f λg=>bn g (some (Out.ret (A.v (.int .i64 (-1))),St.H a)) (some (Out.ret (iA 0),St.H a)) else none) (λc a=>none) (λa1=>some (Out.ret (lk a1 4),St.H a1)) (λc a=>some (Out.pan c,St.H a)) n (St.mk [(0,b),(1,d),(4,iA 0),(9,b),(10,e),(11,iA 0)] H):=r7
theorem YT (u:A):aK (cx C) call rg n 66 [u] H lo =
ib 107 H λr0=>
ib 33 r0.2 λr1=>
oI 150 [(0,u)] λt2=>
lX t2 r1.2 λf=>
(call 91 [f.1,iA 0] f.2 lo).bind λb=>ek b.1 (λg=>
cA 107 r0.1 (cw r0.1 b.2 g) b.2 lo λh=>
fO f.1 h λc=>
fl 150 c 0 46 h λt9=>
eX 46 t9 h λa1=>
bl .eql 3 false true a1 (iA 0) λi=>
(call 92 [f.1,i] h lo).bind λa=>ek a.1 (λj=>
aS 107 r0.1 a.2 λk=>
cA 107 r0.1 (cw r0.1 a.2 k) a.2 lo λw=>
cA 33 r1.1 (cw r1.1 w (iA 0)) w lo λd=>
bl .neq 20 false true (A.v Value.nilIface) (A.v Value.nilIface) λa2=>bn a2 (oI 107 [] λl=>
(pV prog (A.v Value.nilIface) 33 false).bind λe=>
cA 107 r0.1 (cw r0.1 d l) d lo λx=>
cA 33 r1.1 (cw r1.1 x e) x lo λo=>
aS 107 r0.1 o λa3=>
aS 33 r1.1 o λa4=>some (Out.ret (A.tup [a3,a4]),o)) (aS 107 r0.1 d λl=>
aS 33 r1.1 d λe=>some (Out.ret (A.tup [l,e]),d))) λj=>
bl .neq 20 false true j (A.v Value.nilIface) λk=>bn k (oI 107 [] λp=>
(pV prog j 33 false).bind λq=>
cA 107 r0.1 (cw r0.1 a.2 p) a.2 lo λy=>
cA 33 r1.1 (cw r1.1 y q) y lo λr=>
aS 107 r0.1 r λe=>
aS 33 r1.1 r λa6=>some (Out.ret (A.tup [e,a6]),r)) (aS 107 r0.1 a.2 λp=>
aS 33 r1.1 a.2 λq=>some (Out.ret (A.tup [p,q]),a.2))) λg=>
bl .neq 20 false true g (A.v Value.nilIface) λt6=>bn t6 (oI 107 [] λc=>
(pV prog g 33 false).bind λs=>
cA 107 r0.1 (cw r0.1 b.2 c) b.2 lo λz=>
cA 33 r1.1 (cw r1.1 z s) z lo λt=>
aS 107 r0.1 t λi=>
aS 33 r1.1 t λa8=>some (Out.ret (A.tup [i,a8]),t)) (aS 107 r0.1 b.2 λc=>
aS 33 r1.1 b.2 λs=>some (Out.ret (A.tup [c,s]),b.2)):=r7
theorem YU (e a:A):aK (cx C) call rg n 70 [e,a] H lo =
lX e H λr0=>
ib 48 r0.2 λr1=>
aS 25 r0.1 r1.2 λt2=>
(C 33 [snap r1.2 t2]).bind λl=>
bl .neq 33 false true l (iA 0) λo=>bn o (aS 48 r1.1 r1.2 λc=>
cA 48 r1.1 (cw r1.1 r1.2 c) r1.2 lo λf=>
aS 48 r1.1 f λb=>some (Out.ret (A.tup [b,iA 60]),f)) (bl .lss 3 false true a (iA 0) λc=>
(dP c (some [bA true,ud,ud,ud,ud,ud]) (bX 25 r0.1 0 r1.2 λg=>
aS 22 g r1.2 λb=>
eX 22 b r1.2 λh=>
bl .geq 3 false false a h λi=>some [i,i,h,b,g,a])).bind λp=>fW p λq w x y r=>iH r λz a0 a1=>bn q (aS 48 r1.1 r1.2 λs=>
cA 48 r1.1 (cw r1.1 r1.2 s) r1.2 lo λj=>
aS 48 r1.1 j λd=>some (Out.ret (A.tup [d,iA 1]),j)) (fl 25 r0.1 0 22 r1.2 λt=>
dV 22 t a r1.2 λd=>
aS 48 d r1.2 λu=>
cA 48 r1.1 (cw r1.1 r1.2 u) r1.2 lo λk=>
aS 48 r1.1 k λv=>some (Out.ret (A.tup [v,iA 0]),k))):=r7
theorem YV (a b:A):aK (cx C) call rg n 71 [a,b] H lo =
lX b H λr0=>
aS 115 r0.1 r0.2 λc=>
(C 93 [snap r0.2 a,snap r0.2 c]).bind λt2=>
bl .geq 3 false true t2 (iA 0) λd=>some (Out.ret d,r0.2):=r7
theorem YW (a b:A):aK (cx C) call rg n 72 [a,b] H lo =
ib 116 H λr0=>
(GA true a [b]).bind λd=>
(GA false a [b]).bind λt2=>
oI 116 [(0,d),(1,t2)] λe=>
cA 116 r0.1 (cw r0.1 r0.2 e) r0.2 lo λc=>
aS 116 r0.1 c λf=>some (Out.ret f,c):=r7
theorem YX (d a:A):aK (cx C) call rg n 73 [d,a] H lo =
lX d H λr0=>
ib 25 r0.2 λr1=>
fl 25 r0.1 0 22 r1.2 λg=>
(eK prog 22 g none (some a) (some a) r1.2).bind λh=>
fl 25 r0.1 0 22 r1.2 λi=>
bl .add 3 false true a (iA 1) λj=>
(eK prog 22 i (some j) none none r1.2).bind λk=>
(bU prog 22 22 false h k r1.2 lo).bind λb=>
bX 25 r0.1 0 b.2 λe=>
cA 22 e (cw e b.2 b.1) b.2 lo λc=>
aS 25 r0.1 c λl=>
cA 25 r1.1 (cw r1.1 c l) c lo λf=>
aS 25 r1.1 f λo=>some (Out.ret o,f):=r7
theorem YY (c:A):aK (cx C) call rg n 76 [c] H lo =
ib 107 H λr0=>
oI 155 [(0,c)] λx=>
lX x r0.2 λd=>
(call 95 [d.1,iA 0] d.2 lo).bind λf=>ek f.1 (λg=>
ib 107 f.2 λb=>
cA 107 b.1 (cw b.1 b.2 g) b.2 lo λa=>
fO d.1 a λy=>
fl 155 y 2 4 a λz=>
(dP z (some [bA true,ud,ud,ud,ud,ud,ud,ud]) (fO d.1 a λj=>
bX 155 j 1 a λk=>
aS 3 k a λl=>
eX 46 c a λo=>
bl .neq 3 false false l o λp=>some [p,p,o,c,l,k,j,d.1])).bind λa0=>pO a0 λa1 ad ae af ag ah ai aj ak=>
(dP a1 (some [bA true,ud,ud,ud]) (aS 107 b.1 a λq=>
(C 85 [snap a q]).bind λr=>
bl .neq 33 false true r (iA 0) λs=>some [s,s,r,q])).bind λa2=>fW a2 λt al am an ao=>
qa t false (aS 107 b.1 a λu=>
(C 86 [snap a u]).bind λv=>
(bt prog 46 9 v a).bind λa3=>
(bt prog 46 9 c a).bind λa5=>some [a5,c,a3,v,u]) (some [ud,ud,ud,ud,ud]) λa6=>fW a6 λa7 ap a8 aq a9=>aV a9 λar au=>
(dP t (some [bA true,ud]) (bl .neq 9 false false a8 a7 λw=>some [w,w])).bind λaa=>iH aa λab av aw=>bn ab (oI 107 [] λh=>
cA 107 r0.1 (cw r0.1 a h) a lo λe=>
aS 107 r0.1 e λi=>some (Out.ret (A.tup [i,iA 10]),e)) (aS 107 b.1 a λh=>
cA 107 r0.1 (cw r0.1 a h) a lo λe=>
aS 107 r0.1 e λi=>some (Out.ret (A.tup [i,iA 0]),e))) λg=>some (Out.pan g,f.2):=r7
theorem YZ (c d:A):aK (cx C) call rg n 77 [c,d] H lo =
eX 50 c H λe=>aI (cx C) call rg n 77 lo 0 (List.length H) (λa b=>bif Nat.beq a 0 then some (Out.ret (A.v (.int .i64 (-1))),St.H b) else none) (λa b=>none) (λa1=>some (Out.ret (lk a1 4),St.H a1)) (λa b=>some (Out.pan a,St.H b)) n (St.mk [(0,c),(1,d),(4,iA 0),(7,e),(8,iA 0)] H):=r7
theorem V5 (b c d e:A):aK (cx C) call rg n 78 [b,c,d,e] H lo =
aS 50 c H λf=>
eX 50 f H λg=>aI (cx C) call rg n 78 lo 0 (List.length H) (λa s2=>bif Nat.beq a 0 then some (Out.ret (A.tup []),St.H s2) else none) (λa s2=>none) (λa2=>some (Out.ret (A.tup []),St.H a2)) (λa s2=>some (Out.pan a,St.H s2)) n (St.mk [(0,b),(2,d),(3,e),(10,f),(11,g),(12,iA 0)] H):=r7
theorem Y0 (c a:A):aK (cx C) call rg n 79 [c,a] H lo =
lX c H λr0=>
ib 25 r0.2 λr1=>
aS 25 r0.1 r1.2 λt2=>
(C 70 [snap r1.2 t2,snap r1.2 a]).bind λd=>
iT d 0 λl=>
iT d 1 λe=>
bl .neq 33 false true e (iA 0) λh=>bn h (aS 25 r1.1 r1.2 λb=>
cA 25 r1.1 (cw r1.1 r1.2 b) r1.2 lo λf=>
aS 25 r1.1 f λi=>some (Out.ret (A.tup [i,e]),f)) (aS 25 r0.1 r1.2 λb=>
(C 73 [snap r1.2 b,snap r1.2 a]).bind λj=>
cA 25 r1.1 (cw r1.1 r1.2 j) r1.2 lo λg=>
aS 25 r1.1 g λk=>some (Out.ret (A.tup [k,iA 0]),g)):=r7
theorem Y1 (e f:A):aK (cx C) call rg n 80 [e,f] H lo =
lX e H λr0=>
ib 25 r0.2 λr1=>
aS 25 r0.1 r1.2 λt2=>
(C 70 [snap r1.2 t2,snap r1.2 f]).bind λg=>
iT g 0 λk=>
iT g 1 λh=>
ib 48 r1.2 λb=>
cA 48 b.1 (cw b.1 b.2 k) b.2 lo λa=>
bl .neq 33 false true h (iA 0) λl=>bn l (aS 25 r1.1 a λd=>
cA 25 r1.1 (cw r1.1 a d) a lo λi=>
aS 25 r1.1 i λc=>some (Out.ret (A.tup [c,h]),i)) (aS 25 r0.1 a λd=>
aS 48 b.1 a λo=>
(C 25 [snap a d,snap a o]).bind λc=>
iT c 0 λp=>
iT c 1 λq=>
cA 25 r1.1 (cw r1.1 a p) a lo λj=>
aS 25 r1.1 j λr=>some (Out.ret (A.tup [r,q]),j)):=r7
theorem Y2 (c b:A):aK (cx C) call rg n 81 [c,b] H lo =
(cR false prog 50 b b H).bind λr0=>
eX 50 r0.1 r0.2 λd=>aI (cx C) call rg n 81 lo 0 (List.length r0.2) (λa s2=>bif Nat.beq a 0 then some (Out.ret (lk s2 5),St.H s2) else none) (λa s2=>none) (λa2=>some (Out.ret (lk a2 4),St.H a2)) (λa s2=>some (Out.pan a,St.H s2)) n (St.mk [(0,c),(4,A.imm [] true),(5,r0.1),(10,d),(11,iA 0)] r0.2):=r7
theorem Y3 (c e:A):aK (cx C) call rg n 82 [c,e] H lo =
oI 30 [(0,A.v (.int .i64 (-1)))] λg=>
ib 30 H λr1=>
cA 30 r1.1 (cw r1.1 r1.2 g) r1.2 lo λd=>
eX 53 c d λh=>aI (cx C) call rg n 82 lo 0 (List.length d) (λb a=>bif Nat.beq b 0 then
fl 30 (lk a 5) 3 3 (St.H a) λi=>some (Out.ret i,St.H a) else none) (λb a=>none) (λf=>some (Out.ret (lk f 4),St.H f)) (λb a=>some (Out.pan b,St.H a)) n (St.mk [(1,e),(4,iA 0),(5,r1.1),(9,c),(10,h),(11,iA 0)] d):=r7
theorem Y4 (a:A):aK (cx C) call rg n 83 [a] H lo =
lX a H λr0=>
aS 107 r0.1 r0.2 λb=>
(C 96 [snap r0.2 b]).bind λt2=>
iT t2 0 λc=>
iT t2 1 λd=>
(mc prog UnOp.not d).bind λe=>bn e (some (Out.ret (iA 1),r0.2)) (bl .gtr 3 false true c (iA 16) λf=>bn f (some (Out.ret (iA 2),r0.2)) (some (Out.ret (iA 0),r0.2))):=r7
theorem Y5:aK (cx C) call rg n 84 [] H lo =
oI 158 [] λi=>
lX i H λr1=>
ib 142 r1.2 λa=>
cA 142 a.1 (cw a.1 a.2 r1.1) a.2 lo λb=>
aS 142 a.1 b λj=>
fO j b λk=>
dV 158 k (iA 1) b λl=>
bX 141 l 0 b λe=>
cA 139 e (cw e b (A.fn (Fn.func 97) [] [])) b lo λc=>
aS 142 a.1 c λo=>
fO o c λp=>
dV 158 p (iA 2) c λq=>
bX 141 q 0 c λf=>
cA 139 f (cw f c (A.fn (Fn.func 100) [] [])) c lo λd=>
aS 142 a.1 d λr=>
fO r d λs=>
dV 158 s (iA 3) d λt=>
bX 141 t 0 d λg=>
cA 139 g (cw g d (A.fn (Fn.func 101) [] [a.1])) d lo λh=>
aS 142 a.1 h λu=>some (Out.ret u,h):=r7
theorem Y6 (a:A):aK (cx C) call rg n 85 [a] H lo =
lX a H λr0=>
aS 107 r0.1 r0.2 λb=>
(C 102 [snap r0.2 b]).bind λt2=>
(mc prog UnOp.not t2).bind λc=>bn c (some (Out.ret (iA 1),r0.2)) (aS 107 r0.1 r0.2 λd=>
(C 103 [snap r0.2 d]).bind λe=>
bl .gtr 3 false true e (iA 16) λf=>bn f (some (Out.ret (iA 2),r0.2)) (some (Out.ret (iA 0),r0.2))):=r7
theorem Y7 (j:A):aK (cx C) call rg n 86 [j] H lo =
lX j H λr0=>
fl 107 r0.1 0 3 r0.2 λt2=>
bl .eql 3 false true t2 (iA 1) λq=>bn q ((bC prog 46 1 [(0,fw r0.2 (A.v (.int .u8 1)))]).bind λg=>
fl 107 r0.1 1 3 r0.2 λr=>
(C 105 [snap r0.2 r]).bind λb=>
(C 104 [snap r0.2 b]).bind λc=>
(bU prog 46 46 false g c r0.2 lo).bind λk=>some (Out.ret k.1,k.2)) (bl .eql 3 false true t2 (iA 2) λg=>bn g ((bC prog 46 1 [(0,fw r0.2 (A.v (.int .u8 2)))]).bind λd=>
fl 107 r0.1 2 9 r0.2 λb=>
eX 9 b r0.2 λc=>
(bt prog 3 160 c r0.2).bind λh=>
(C 104 [snap r0.2 h]).bind λi=>
(bU prog 46 46 false d i r0.2 lo).bind λa=>bif bif apart r0.1 d then true else false then
bX 107 r0.1 2 a.2 λl=>bif bif apart l d then true else false then
aS 9 l a.2 λs=>
(bU prog 46 9 false a.1 s a.2 lo).bind λo=>some (Out.ret o.1,o.2) else none else none) ((bC prog 46 1 [(0,fw r0.2 (A.v (.int .u8 3)))]).bind λd=>
fl 107 r0.1 3 105 r0.2 λb=>
eX 105 b r0.2 λc=>
(bt prog 3 160 c r0.2).bind λh=>
(C 104 [snap r0.2 h]).bind λi=>
(bU prog 46 46 false d i r0.2 lo).bind λa=>aI (cx C) call rg n 86 lo 0 (List.length a.2) (λf e=>bif Nat.beq f 1 then some (Out.ret (lk e 3),St.H e) else none) (λf e=>none) (λp=>some (Out.ret (lk p 2),St.H p)) (λf e=>some (Out.pan f,St.H e)) n (St.mk [(1,r0.1),(2,A.imm [] true),(3,a.1),(4,iA 0)] a.2))):=r7
theorem Y8 (a:A):aK (cx C) call rg n 87 [a] H lo =
ib 107 H λr0=>
oI 107 [(0,iA 1),(1,a)] λc=>
cA 107 r0.1 (cw r0.1 r0.2 c) r0.2 lo λb=>
aS 107 r0.1 b λd=>some (Out.ret d,b):=r7
theorem Y9 (c d:A):aK (cx C) call rg n 88 [c,d] H lo =
eX 22 c H λe=>aI (cx C) call rg n 88 lo 0 (List.length H) (λa b=>bif Nat.beq a 0 then some (Out.ret (A.v (.int .i64 (-1))),St.H b) else none) (λa b=>none) (λa1=>some (Out.ret (lk a1 4),St.H a1)) (λa b=>some (Out.pan a,St.H b)) n (St.mk [(0,c),(1,d),(4,iA 0),(7,e),(8,iA 0)] H):=r7
theorem V6 (a b:A):aK (cx C) call rg n 89 [a,b] H lo =
(C 106 [snap H a]).bind λd=>
(C 106 [snap H b]).bind λc=>bn d (bn c (some (Out.ret (iA 0),H)) (some (Out.ret (A.v (.int .i64 (-1))),H))) (bn c (some (Out.ret (iA 1),H)) (bl .lss 3 false false a b λt2=>bn t2 (some (Out.ret (A.v (.int .i64 (-1))),H)) (bl .gtr 3 false false a b λe=>bn e (some (Out.ret (iA 1),H)) (some (Out.ret (iA 0),H))))):=r7
theorem Za (c q:A):aK (cx C) call rg n 91 [c,q] H lo =
ib 107 H λr0=>
(call 107 [c,iA 1] r0.2 lo).bind λH1=>ek H1.1 (λa2=>
dV 46 a2 (iA 0) H1.2 λt3=>
aS 5 t3 H1.2 λt4=>
(bt prog 5 3 t4 H1.2).bind λt5=>
bX 107 r0.1 0 H1.2 λt6=>
cA 3 t6 (cw t6 H1.2 t5) H1.2 lo λi=>
fl 107 r0.1 0 3 i λr=>
bl .eql 3 false true r (iA 1) λa8=>bn a8 ((call 109 [c] i lo).bind λg=>ek g.1 (λs=>
(C 108 [snap g.2 s]).bind λt=>
bX 107 r0.1 1 g.2 λa1=>
cA 3 a1 (cw a1 g.2 t) g.2 lo λu=>
aS 107 r0.1 u λv=>
cA 107 r0.1 (cw r0.1 u v) u lo λa3=>
aS 107 r0.1 (fb lo 3 0 r0.1 a3) λa9=>some (Out.ret a9,fb lo 3 0 r0.1 a3)) λs=>some (Out.pan s,g.2)) (bl .eql 3 false true r (iA 2) λaa=>bn aa ((call 110 [c] i lo).bind λw=>ek w.1 (λx=>
(call 107 [c,x] w.2 lo).bind λb=>ek b.1 (λh=>
(bt prog 46 9 h b.2).bind λv=>
bX 107 r0.1 2 b.2 λp=>
cA 9 p (cw p b.2 v) b.2 lo λy=>
aS 107 r0.1 y λe=>
cA 107 r0.1 (cw r0.1 y e) y lo λd=>
aS 107 r0.1 (fb lo 3 0 r0.1 d) λj=>some (Out.ret j,fb lo 3 0 r0.1 d)) λh=>some (Out.pan h,b.2)) λx=>some (Out.pan x,w.2)) (bl .eql 3 false true r (iA 3) λab=>bn ab (bl .lss 3 false true q (iA 16) λt=>
(call 92 [c,t] i lo).bind λb=>ek b.1 (λh=>
(call 110 [c] b.2 lo).bind λf=>ek f.1 (λz=>aI (cx C) call rg n 91 lo 0 (List.length (fb lo 3 5 r0.1 f.2)) (λk a=>bif Nat.beq k 1 then
aS 107 (lk a 4) (St.H a) λe=>
cA 107 (lk a 4) (cw (lk a 4) (St.H a) e) (St.H a) lo λd=>
aS 107 (lk a 4) (fb lo 3 0 (lk a 4) d) λj=>some (Out.ret j,fb lo 3 0 (lk a 4) d) else bif Nat.beq k 0 then
aS 107 (lk a 4) (St.H a) λe=>
cA 107 (lk a 4) (cw (lk a 4) (St.H a) e) (St.H a) lo λd=>
aS 107 (lk a 4) (fb lo 3 0 (lk a 4) d) λj=>some (Out.ret j,fb lo 3 0 (lk a 4) d) else none) (λk a=>none) (λl=>
aS 107 (lk l 4) (fb lo 3 0 (lk l 4) (St.H l)) λe=>some (Out.ret e,fb lo 3 0 (lk l 4) (St.H l))) (λk a=>some (Out.pan k,St.H a)) n (St.mk [(0,c),(1,q),(4,r0.1),(36,z),(37,iA 0)] (fb lo 3 5 r0.1 f.2))) λz=>some (Out.pan z,f.2)) λh=>some (Out.pan h,b.2)) ((call 92 [c,bA false] i lo).bind λo=>ek o.1 (λa4=>
aS 107 r0.1 o.2 λad=>
cA 107 r0.1 (cw r0.1 o.2 ad) o.2 lo λf=>
aS 107 r0.1 (fb lo 3 0 r0.1 f) λp=>some (Out.ret p,fb lo 3 0 r0.1 f)) λa4=>some (Out.pan a4,o.2))))) λa2=>some (Out.pan a2,H1.2):=r7
theorem JA (b a:A):aK (cx C) call rg n 92 [b,a] H lo =
(mc prog UnOp.not a).bind λc=>bn c ((Jr prog 33 (iA 10)).bind λd=>KO d λa2=>some (Out.pan a2,H)) (some (Out.ret (A.tup []),H)):=r7
theorem Zb (b c:A):aK (cx C) call rg n 93 [b,c] H lo =
lX c H λr0=>
eX 23 b r0.2 λd=>aI (cx C) call rg n 93 lo 0 (List.length r0.2) (λa s2=>bif Nat.beq a 0 then some (Out.ret (A.v (.int .i64 (-1))),St.H s2) else none) (λa s2=>none) (λa2=>some (Out.ret (lk a2 4),St.H a2)) (λa s2=>some (Out.pan a,St.H s2)) n (St.mk [(0,b),(3,r0.1),(4,iA 0),(7,d),(8,iA 0)] r0.2):=r7
theorem Zc (a x1:A):aK (cx C) call rg n 95 [a,x1] H lo =
ib 107 H λr0=>
(call 112 [a] r0.2 lo).bind λH1=>ek H1.1 (λa2=>
bl .eql 5 false true a2 (A.v (.int .u8 1)) λt3=>bn t3 ((call 113 [a] H1.2 lo).bind λi=>ek i.1 (λr=>
bl .rem 160 false true r (A.v (.int .u64 2)) λt6=>
bl .eql 160 false true t6 (A.v (.int .u64 1)) λp=>bn p (bl .quo 160 false true r (A.v (.int .u64 2)) λs=>
(bt prog 160 3 s i.2).bind λj=>
(mc prog UnOp.neg j).bind λf=>
bl .sub 3 false true f (iA 1) λg=>
oI 107 [(0,iA 1),(1,g)] λh=>
cA 107 r0.1 (cw r0.1 i.2 h) i.2 lo λai=>
aS 107 r0.1 (fb lo 3 0 r0.1 ai) λk=>some (Out.ret k,fb lo 3 0 r0.1 ai)) (bl .quo 160 false true r (A.v (.int .u64 2)) λs=>
(bt prog 160 3 s i.2).bind λj=>
oI 107 [(0,iA 1),(1,j)] λf=>
cA 107 r0.1 (cw r0.1 i.2 f) i.2 lo λaj=>
aS 107 r0.1 (fb lo 3 0 r0.1 aj) λh=>some (Out.ret h,fb lo 3 0 r0.1 aj))) λr=>some (Out.pan r,i.2)) (bl .eql 5 false true a2 (A.v (.int .u8 2)) λt4=>bn t4 ((call 113 [a] H1.2 lo).bind λb=>ek b.1 (λt=>
fO a b.2 λp=>
fl 155 p 2 4 b.2 λj=>
qa j false (fO a b.2 λf=>
bX 155 f 0 b.2 λg=>
aS 46 g b.2 λh=>
eX 46 h b.2 λu=>
fO a b.2 λk=>
bX 155 k 1 b.2 λw=>
aS 3 w b.2 λx=>
bl .sub 3 false false u x λy=>
(bt prog 3 160 y b.2).bind λa9=>some [a9,y,x,w,k,a,u,h,g,f,a,t]) (some [ud,ud,ud,ud,ud,ud,ud,ud,ud,ud,ud,ud]) λb3=>pO b3 λb4 ak b5 b6 b7 b8 b9 ba bb=>fW bb λbc bd be al c4=>
(dP j (some [bA true,ud]) (bl .gtr 160 false false al b4 λam=>some [am,am])).bind λan=>iH an λbf ao c5=>bn bf (fO a b.2 λad=>
bX 155 ad 2 b.2 λz=>
cA 4 z (cw z b.2 (bA true)) b.2 lo λap=>
oI 107 [] λae=>
cA 107 r0.1 (cw r0.1 ap ae) ap lo λaq=>
aS 107 r0.1 (fb lo 3 0 r0.1 aq) λl=>some (Out.ret l,fb lo 3 0 r0.1 aq)) (fO a b.2 λad=>
fl 155 ad 1 3 b.2 λbg=>
(bt prog 160 3 t b.2).bind λae=>
bl .add 3 false false bg ae λbh=>
fO a b.2 λl=>
bX 155 l 1 b.2 λa0=>
cA 3 a0 (cw a0 b.2 bh) b.2 lo λd=>
fO a d λaf=>
fl 155 af 0 46 d λq=>
fO a d λag=>
fl 155 ag 1 3 d λbi=>
(bt prog 160 3 t d).bind λah=>
bl .sub 3 false false bi ah λbj=>
fO a d λbk=>
fl 155 bk 1 3 d λbm=>
(eK prog 46 q (some bj) (some bm) none d).bind λbo=>
(bt prog 46 9 bo d).bind λbp=>
oI 107 [(0,iA 2),(2,bp)] λbq=>
cA 107 r0.1 (cw r0.1 d bq) d lo λar=>
aS 107 r0.1 (fb lo 3 0 r0.1 ar) λbr=>some (Out.ret br,fb lo 3 0 r0.1 ar))) λt=>some (Out.pan t,b.2)) (bl .eql 5 false true a2 (A.v (.int .u8 3)) λt5=>bn t5 ((call 113 [a] H1.2 lo).bind λe=>ek e.1 (λa7=>
fO a e.2 λs=>
fl 155 s 2 4 e.2 λf=>
qa f false (fO a e.2 λg=>
bX 155 g 0 e.2 λh=>
aS 46 h e.2 λu=>
eX 46 u e.2 λk=>
fO a e.2 λw=>
bX 155 w 1 e.2 λx=>
aS 3 x e.2 λy=>
bl .sub 3 false false k y λa9=>
(bt prog 3 160 a9 e.2).bind λbu=>some [bu,a9,y,x,w,a,k,u,h,g,a,a7]) (some [ud,ud,ud,ud,ud,ud,ud,ud,ud,ud,ud,ud]) λbv=>pO bv λak b5 b6 b7 b8 b9 ba bc bw=>fW bw λbd be al bx an=>
(dP f (some [bA true,ud]) (bl .gtr 160 false false bx ak λau=>some [au,au])).bind λbz=>iH bz λao c6 c7=>
(dP ao (some [bA true,ud,ud]) (bl .eql 3 false true x1 (iA 16) λz=>some [z,z,x1])).bind λc0=>iH c0 λc1 c8 c2=>aV c2 λc9 ca=>bn c1 (fO a e.2 λl=>
bX 155 l 2 e.2 λa0=>
cA 4 a0 (cw a0 e.2 (bA true)) e.2 lo λd=>
oI 107 [] λaf=>
cA 107 r0.1 (cw r0.1 d af) d lo λav=>
aS 107 r0.1 (fb lo 3 0 r0.1 av) λq=>some (Out.ret q,fb lo 3 0 r0.1 av)) (oI 107 [(0,iA 3)] λl=>
ib 107 e.2 λo=>
cA 107 o.1 (cw o.1 o.2 l) o.2 lo λd=>aI (cx C) call rg n 95 lo 0 (List.length (fb lo 3 5 o.1 d)) (λa1 c=>bif Nat.beq a1 1 then
aS 107 (lk c 8) (St.H c) λa3=>
cA 107 (lk c 4) (cw (lk c 4) (St.H c) a3) (St.H c) lo λaw=>
aS 107 (lk c 4) (fb lo 3 0 (lk c 4) aw) λag=>some (Out.ret ag,fb lo 3 0 (lk c 4) aw) else bif Nat.beq a1 0 then
fO (lk c 0) (St.H c) λa3=>
bX 155 a3 2 (St.H c) λq=>
cA 4 q (cw q (St.H c) (bA true)) (St.H c) lo λax=>
oI 107 [] λc3=>
cA 107 (lk c 4) (cw (lk c 4) ax c3) ax lo λay=>
aS 107 (lk c 4) (fb lo 3 0 (lk c 4) ay) λah=>some (Out.ret ah,fb lo 3 0 (lk c 4) ay) else none) (λa1 c=>none) (λa4=>
aS 107 (lk a4 4) (fb lo 3 0 (lk a4 4) (St.H a4)) λa3=>some (Out.ret a3,fb lo 3 0 (lk a4 4) (St.H a4))) (λa1 c=>some (Out.pan a1,St.H c)) n (St.mk [(0,a),(1,x1),(4,r0.1),(7,a7),(8,o.1),(9,A.v (.int .u64 0))] (fb lo 3 5 o.1 d)))) λa7=>some (Out.pan a7,e.2)) (fO a H1.2 λt6=>
bX 155 t6 2 H1.2 λp=>
cA 4 p (cw p H1.2 (bA true)) H1.2 lo λH8=>
oI 107 [] λj=>
cA 107 r0.1 (cw r0.1 H8 j) H8 lo λb0=>
aS 107 r0.1 (fb lo 3 0 r0.1 b0) λg=>some (Out.ret g,fb lo 3 0 r0.1 b0))))) λa2=>some (Out.pan a2,H1.2):=r7
theorem Zd (e:A):aK (cx C) call rg n 96 [e] H lo =
lX e H λr0=>
fl 107 r0.1 2 9 r0.2 λt2=>
bl .eql 9 false true t2 (A.v (Value.string (ByteArray.mk #[]))) λt3=>
(dP t3 (bX 107 r0.1 3 r0.2 λf=>
aS 105 f r0.2 λg=>
eX 105 g r0.2 λh=>
bl .eql 3 false true h (iA 0) λi=>some [i,i,h,g,f]) (some [bA false,ud,ud,ud,ud])).bind λl4=>fW l4 λu5 u6 u7 u8 l8=>aV l8 λu9 l9=>
fl 107 r0.1 1 3 r0.2 λa6=>
bl .eql 3 false true a6 (iA 0) λa7=>
(dP a7 (bX 107 r0.1 3 r0.2 λj=>
aS 105 j r0.2 λk=>
eX 105 k r0.2 λl=>
bl .eql 3 false true l (iA 0) λo=>some [o,o,l,k,j]) (some [bA false,ud,ud,ud,ud])).bind λa8=>fW a8 λa9 az b0 b1 aa=>aV aa λb2 b3=>
fl 107 r0.1 1 3 r0.2 λab=>
bl .eql 3 false true ab (iA 0) λad=>
(dP ad (bX 107 r0.1 2 r0.2 λp=>
aS 9 p r0.2 λq=>
bl .eql 9 false true q (A.v (Value.string (ByteArray.mk #[]))) λr=>some [r,r,q,p]) (some [bA false,ud,ud,ud])).bind λae=>fW ae λaf b4 b5 b6 b7=>
oI 171 [(1,u5),(2,a9),(3,af)] λag=>
ib 171 r0.2 λMf=>
cA 171 Mf.1 (cw Mf.1 Mf.2 ag) Mf.2 lo λa=>
fl 107 r0.1 0 3 a λah=>
bl .lss 3 false true ah (iA 1) λai=>
(dP ai (some [bA true,ud,ud,ud]) (bX 107 r0.1 0 a λs=>
aS 3 s a λt=>
bl .gtr 3 false true t (iA 3) λu=>some [u,u,t,s])).bind λaj=>fW aj λak b8 b9 ba bb=>
(dP ak (some [bA true,ud,ud,ud,ud,ud]) (bX 107 r0.1 0 a λw=>
aS 3 w a λx=>
dV 171 Mf.1 x a λy=>
aS 4 y a λz=>
(mc prog UnOp.not z).bind λa0=>some [a0,a0,z,y,x,w])).bind λal=>fW al λam bc bd be an=>iH an λbf bg bh=>bn am (some (Out.ret (A.tup [iA 0,bA false]),a)) (fl 107 r0.1 0 3 a λao=>
bl .lss 3 false true ao (iA 3) λap=>bn ap (some (Out.ret (A.tup [iA 0,bA true]),a)) (fl 107 r0.1 3 105 a λa1=>
eX 105 a1 a λaq=>aI (cx C) call rg n 96 lo 0 (List.length a) (λc b=>bif Nat.beq c 0 then
bl .add 3 false true (lk b 2) (iA 1) λar=>some (Out.ret (A.tup [ar,bA true]),St.H b) else none) (λc b=>none) (λd=>some (Out.ret (A.tup [lk d 2,lk d 3]),St.H d)) (λc b=>some (Out.pan c,St.H b)) n (St.mk [(2,iA 0),(3,bA false),(55,a1),(56,aq),(57,iA 0)] a))):=r7
theorem Tz (b e:A):aK (cx C) call rg n 97 [b,e] H lo =
lX e H λr0=>
(bC prog 46 1 [(0,fw r0.2 (A.v (.int .u8 1)))]).bind λg=>
(bU prog 46 46 false b g r0.2 lo).bind λa=>bif bif apart r0.1 b then true else false then
bX 107 r0.1 1 a.2 λf=>bif bif apart f b then true else false then
aS 3 f a.2 λh=>
(C 99 [snap a.2 h]).bind λi=>
(call 98 [a.1,i] a.2 lo).bind λc=>ek c.1 (λd=>some (Out.ret d,c.2)) λd=>some (Out.pan d,c.2) else none else none:=r7
theorem LK (c d:A):aK (cx C) call rg n 98 [c,d] H lo=aI (cx C) call rg n 98 lo 0 (List.length H) (λb a=>bif Nat.beq b 0 then
(bt prog 160 5 (lk a 1) (St.H a)).bind λf=>
(bC prog 46 1 [(0,fw (St.H a) f)]).bind λt2=>
(bU prog 46 46 false (lk a 0) t2 (St.H a) lo).bind λe=>some (Out.ret e.1,e.2) else none) (λb a=>none) (λa0=>some (Out.ret (lk a0 4),St.H a0)) (λb a=>some (Out.pan b,St.H a)) n (St.mk [(0,c),(1,d),(4,A.imm [] true)] H):=r7
theorem Ze (a:A):aK (cx C) call rg n 99 [a] H lo =
(bt prog 3 160 a H).bind λb=>
bl .shl 160 false true b (A.v (.int .u64 1)) λc=>
bl .shr 3 false true a (A.v (.int .u64 63)) λt2=>
(bt prog 3 160 t2 H).bind λd=>
bl .xor 160 false false c d λe=>some (Out.ret e,H):=r7
theorem MP (a e:A):aK (cx C) call rg n 100 [a,e] H lo =
lX e H λr0=>
(oW lo r0.1 r0.2).bind λr1=>bif bif vg (A.v (.int .u8 2)) then true else false then
(bC prog 46 1 [(0,fw r1.2 (A.v (.int .u8 2)))]).bind λt2=>
bX 107 r1.1 2 r1.2 λf=>
aS 9 f r1.2 λg=>
eX 9 g r1.2 λh=>
(bt prog 3 160 h r1.2).bind λk=>
bX 107 r1.1 2 r1.2 λb=>
aS 9 b r1.2 λl=>bif bif apart b a then bif apart r1.1 a then bif apart h a then bif apart g a then bif apart f a then bif apart r1.1 a then true else false else false else false else false else false else false then
(bU prog 46 46 false a t2 r1.2 lo).bind λi=>bif bif jQ 1000 b then bif jQ 1000 r1.1 then true else false else false then
(call 98 [i.1,k] i.2 lo).bind λc=>ek c.1 (λd=>
(bU prog 46 9 false d l c.2 lo).bind λj=>some (Out.ret j.1,j.2)) λd=>some (Out.pan d,c.2) else none else none else none:=r7
theorem O9 (a g h:A):aK (cx C) call rg n 101 [a,g,h] H lo =
lX g H λr0=>
(bC prog 46 1 [(0,fw r0.2 (A.v (.int .u8 3)))]).bind λp=>
(bU prog 46 46 false a p r0.2 lo).bind λb=>bif bif apart r0.1 a then true else false then
bX 107 r0.1 3 b.2 λi=>bif bif apart i a then true else false then
aS 105 i b.2 λj=>bif bif apart j a then true else false then
eX 105 j b.2 λk=>bif bif apart k a then true else false then
(bt prog 3 160 k b.2).bind λq=>
(call 98 [b.1,q] b.2 lo).bind λc=>ek c.1 (λf=>
fl 107 r0.1 3 105 c.2 λl=>
eX 105 l c.2 λr=>aI (cx C) call rg n 101 lo 0 (List.length c.2) (λe d=>bif Nat.beq e 0 then some (Out.ret (lk d 0),St.H d) else none) (λe d=>none) (λo=>some (Out.ret (lk o 5),St.H o)) (λe d=>some (Out.pan e,St.H d)) n (St.mk [(0,f),(2,h),(5,A.imm [] true),(17,l),(18,r),(19,iA 0)] c.2)) λf=>some (Out.pan f,c.2) else none else none else none else none:=r7
theorem Tp (k:A):aK (cx C) call rg n 102 [k] H lo =
lX k H λr0=>
fl 107 r0.1 0 3 r0.2 λt2=>
bl .eql 3 false true t2 (iA 1) λs=>bn s (fl 107 r0.1 2 9 r0.2 λh=>
bl .eql 9 false true h (A.v (Value.string (ByteArray.mk #[]))) λi=>
(dP i (bX 107 r0.1 3 r0.2 λg=>
aS 105 g r0.2 λc=>
eX 105 c r0.2 λd=>
bl .eql 3 false true d (iA 0) λb=>some [b,b,d,c,g]) (some [bA false,ud,ud,ud,ud])).bind λt=>fW t λu l w j x=>aV x λo p=>some (Out.ret u,r0.2)) (bl .eql 3 false true t2 (iA 2) λy=>bn y (fl 107 r0.1 1 3 r0.2 λi=>
bl .eql 3 false true i (iA 0) λg=>
(dP g (bX 107 r0.1 3 r0.2 λc=>
aS 105 c r0.2 λd=>
eX 105 d r0.2 λb=>
bl .eql 3 false true b (iA 0) λe=>some [e,e,b,d,c]) (some [bA false,ud,ud,ud,ud])).bind λz=>fW z λl w j o p=>aV p λa0 a2=>some (Out.ret l,r0.2)) (bl .eql 3 false true t2 (iA 3) λh=>bn h (aI (cx C) call rg n 102 lo 0 (List.length r0.2) (λf a=>bif Nat.beq f 1 then
fl 107 (lk a 1) 1 3 (St.H a) λc=>
bl .eql 3 false true c (iA 0) λd=>
(dP d (bX 107 (lk a 1) 2 (St.H a) λb=>
aS 9 b (St.H a) λe=>
bl .eql 9 false true e (A.v (Value.string (ByteArray.mk #[]))) λq=>some [q,q,e,b]) (some [bA false,ud,ud,ud])).bind λa1=>fW a1 λj o a0 a3 a4=>some (Out.ret j,St.H a) else bif Nat.beq f 0 then some (Out.ret (bA false),St.H a) else none) (λf a=>none) (λr=>some (Out.ret (lk r 2),St.H r)) (λf a=>some (Out.pan f,St.H a)) n (St.mk [(1,r0.1),(2,bA false),(3,iA 0)] r0.2)) (some (Out.ret (bA false),r0.2)))):=r7
theorem Tq (c:A):aK (cx C) call rg n 103 [c] H lo =
lX c H λr0=>
fl 107 r0.1 0 3 r0.2 λt2=>
bl .neq 3 false true t2 (iA 3) λe=>bn e (some (Out.ret (iA 0),r0.2)) (aI (cx C) call rg n 103 lo 0 (List.length r0.2) (λb a=>bif Nat.beq b 0 then
bl .add 3 false true (lk a 3) (iA 1) λf=>some (Out.ret f,St.H a) else none) (λb a=>none) (λd=>some (Out.ret (lk d 2),St.H d)) (λb a=>some (Out.pan b,St.H a)) n (St.mk [(1,r0.1),(2,iA 0),(3,iA 0),(4,iA 0)] r0.2)):=r7
theorem Tt (a:A):aK (cx C) call rg n 104 [a] H lo =
bl .lss 160 false true a (A.v (.int .u64 128)) λd=>bn d ((bt prog 160 5 a H).bind λb=>
(bC prog 46 1 [(0,fw H b)]).bind λt2=>some (Out.ret t2,H)) (bl .rem 160 false true a (A.v (.int .u64 128)) λb=>
bl .add 160 false true b (A.v (.int .u64 128)) λt2=>
(bt prog 160 5 t2 H).bind λe=>
(bC prog 46 1 [(0,fw H e)]).bind λf=>
bl .quo 160 false true a (A.v (.int .u64 128)) λg=>
(C 104 [snap H g]).bind λh=>
(bU prog 46 46 false f h H lo).bind λc=>some (Out.ret c.1,c.2)):=r7
theorem Tu (a:A):aK (cx C) call rg n 105 [a] H lo =
bl .geq 3 false true a (iA 0) λc=>bn c ((bt prog 3 160 a H).bind λb=>
bl .mul 160 true false (A.v (.int .u64 2)) b λt2=>some (Out.ret t2,H)) (bl .add 3 false true a (iA 1) λb=>
(mc prog UnOp.neg b).bind λt2=>
(bt prog 3 160 t2 H).bind λd=>
bl .mul 160 true false (A.v (.int .u64 2)) d λe=>
bl .add 160 false true e (A.v (.int .u64 1)) λf=>some (Out.ret f,H)):=r7
theorem Tv (a:A):aK (cx C) call rg n 106 [a] H lo =
bl .neq 3 false false a a λb=>some (Out.ret b,H):=r7
theorem MS (b c:A):aK (cx C) call rg n 107 [b,c] H lo =
fO b H λf=>
fl 150 f 0 46 H λt2=>
eX 46 t2 H λg=>
bl .leq 3 false false c g λh=>
(call 92 [b,h] H lo).bind λa=>ek a.1 (λd=>
fO b a.2 λi=>
fl 150 i 0 46 a.2 λj=>
(eK prog 46 j none (some c) (some c) a.2).bind λk=>
fO b a.2 λl=>
fl 150 l 0 46 a.2 λo=>
(eK prog 46 o (some c) none none a.2).bind λp=>
fO b a.2 λq=>
bX 150 q 0 a.2 λe=>
cA 46 e (cw e a.2 p) a.2 lo λr=>some (Out.ret k,r)) λd=>some (Out.pan d,a.2):=r7
theorem Tw (a:A):aK (cx C) call rg n 108 [a] H lo =
bl .shr 160 false true a (A.v (.int .u64 1)) λb=>
(bt prog 160 3 b H).bind λc=>
bl .and 160 false true a (A.v (.int .u64 1)) λt2=>
(bt prog 160 3 t2 H).bind λd=>
(mc prog UnOp.neg d).bind λe=>
bl .xor 3 false false c e λf=>some (Out.ret f,H):=r7
theorem MT (c:A):aK (cx C) call rg n 109 [c] H lo=aI (cx C) call rg n 109 lo 0 (List.length H) (λb a=>bif Nat.beq b 0 then some (Out.ret (lk a 2),St.H a) else none) (λb a=>none) (λa0=>some (Out.ret (lk a0 2),St.H a0)) (λb a=>some (Out.pan b,St.H a)) n (St.mk [(0,c),(2,A.v (.int .u64 0)),(3,iA 0)] H):=r7
theorem Pb (a:A):aK (cx C) call rg n 110 [a] H lo =
(call 109 [a] H lo).bind λH0=>ek H0.1 (λa1=>
fO a H0.2 λt2=>
fl 150 t2 0 46 H0.2 λd=>
eX 46 d H0.2 λe=>
(bt prog 3 160 e H0.2).bind λf=>
bl .leq 160 false false a1 f λg=>
(call 92 [a,g] H0.2 lo).bind λb=>ek b.1 (λc=>
(bt prog 160 3 a1 b.2).bind λh=>some (Out.ret h,b.2)) λc=>some (Out.pan c,b.2)) λa1=>some (Out.pan a1,H0.2):=r7
theorem Pc (a:A):aK (cx C) call rg n 112 [a] H lo =
fO a H λf=>
fl 155 f 1 3 H λt2=>
fO a H λg=>
fl 155 g 0 46 H λh=>
eX 46 h H λi=>
bl .geq 3 false false t2 i λj=>bn j (fO a H λc=>
bX 155 c 2 H λd=>
cA 4 d (cw d H (bA true)) H lo λk=>some (Out.ret (A.v (.int .u8 0)),k)) (fO a H λc=>
fl 155 c 1 3 H λl=>
bl .add 3 false true l (iA 1) λo=>
fO a H λp=>
bX 155 p 1 H λe=>
cA 3 e (cw e H o) H lo λb=>
fO a b λq=>
fl 155 q 0 46 b λr=>
fO a b λs=>
fl 155 s 1 3 b λt=>
bl .sub 3 false true t (iA 1) λu=>
dV 46 r u b λw=>
aS 5 w b λx=>some (Out.ret x,b)):=r7
theorem MV (c:A):aK (cx C) call rg n 113 [c] H lo=aI (cx C) call rg n 113 lo 0 (List.length H) (λa b=>bif Nat.beq a 0 then some (Out.ret (A.v (.int .u64 0)),St.H b) else none) (λa b=>none) (λa0=>some (Out.ret (lk a0 2),St.H a0)) (λa b=>some (Out.pan a,St.H b)) n (St.mk [(0,c),(2,A.v (.int .u64 0)),(3,A.v (.int .u64 0)),(4,iA 0)] H):=r7
theorem Ty (d a b c Jc:A):aI (cx C) call rg n 6 lo 0 L kx kg kr kp (m+1) (St.mk [(4,d),(8,a),(39,b),(40,c),(41,Jc)] H) =
bl .lss 3 false false Jc c λj=>bn j (dV 57 b Jc H λk=>
aS 65 k H λt2=>
ib 65 H λe=>
cA 65 e.1 (cw e.1 e.2 t2) e.2 lo λh=>
aS 65 e.1 h λl=>
(call 20 [a,l] h lo).bind λf=>ek f.1 (λg=>
(mc prog UnOp.not g).bind λo=>bn o (kr (St.mk [(4,bA false),(8,a),(39,b),(40,c),(41,Jc)] f.2)) (bl .add 3 false true Jc (iA 1) λi=>
gu L f.2 λp=>bif bif Nat.beq (List.length f.2) L then true else aG L [(41,i),(4,d),(8,a),(39,b),(40,c)] [4,8,39,40,41] then aI (cx C) call rg n 6 lo 0 L kx kg kr kp m (St.mk [(4,d),(8,a),(39,b),(40,c),(41,i)] p) else none)) λg=>kp g (St.mk [(4,d),(8,a),(39,b),(40,c),(41,Jc)] f.2)) (kx 0 (St.mk [(4,d),(8,a),(39,b),(40,c),(41,Jc)] H)):=r7
theorem Pd (b f c Bx d Bz:A):aI (cx C) call rg n 13 lo 0 L kx kg kr kp (m+1) (St.mk [(1,b),(2,f),(3,c),(31,Bx),(32,d),(33,Bz)] H) =
bl .lss 3 false false Bz d λh=>bn h (dV 26 Bx Bz H λi=>
aS 55 i H λt2=>
ib 55 H λe=>
cA 55 e.1 (cw e.1 e.2 t2) e.2 lo λa=>
aS 55 e.1 a λj=>
fl 28 b 2 3 a λk=>
(C 34 [snap a j,snap a Bz,snap a c,snap a k]).bind λl=>
(mc prog UnOp.not l).bind λo=>bn o (kr (St.mk [(1,b),(2,iA 490),(3,c),(31,Bx),(32,d),(33,Bz)] a)) (bl .add 3 false true Bz (iA 1) λg=>
gu L a λp=>bif bif Nat.beq (List.length a) L then true else aG L [(33,g),(1,b),(2,f),(3,c),(31,Bx),(32,d)] [1,2,3,31,32,33] then aI (cx C) call rg n 13 lo 0 L kx kg kr kp m (St.mk [(1,b),(2,f),(3,c),(31,Bx),(32,d),(33,g)] p) else none)) (kx 0 (St.mk [(1,b),(2,f),(3,c),(31,Bx),(32,d),(33,Bz)] H)):=r7
theorem Pe (b g c CV CW e:A):aI (cx C) call rg n 13 lo 1 L kx kg kr kp (m+1) (St.mk [(1,b),(2,g),(3,c),(48,CV),(49,CW),(50,e)] H) =
bl .lss 3 false false e CW λt0=>bn t0 (dV 22 CV e H λt1=>
aS 48 t1 H λt2=>
ib 48 H λf=>
cA 48 f.1 (cw f.1 f.2 t2) f.2 lo λv=>
fl 48 f.1 2 46 v λt6=>
(C 35 [snap v t6]).bind λy=>
iT y 0 λt8=>
iT y 1 λw=>
ib 75 v λh=>
cA 75 h.1 (cw h.1 h.2 t8) h.2 lo λb3=>
ib 30 b3 λi=>
ib 41 i.2 λd=>
fl 75 h.1 1 30 d.2 λb4=>
bX 75 h.1 2 d.2 λz=>
aS 41 z d.2 λb5=>bif bif apart z i.1 then bif apart h.1 i.1 then true else false else false then
cA 30 i.1 (cw i.1 d.2 b4) d.2 lo λa0=>
cA 41 d.1 (cw d.1 a0 b5) a0 lo λa=>
(dP w (bX 75 h.1 0 a λa1=>
aS 3 a1 a λa2=>
bl .eql 3 false true a2 (iA 1) λa3=>some [a3,a3,a2,a1]) (some [bA false,ud,ud,ud])).bind λb6=>fW b6 λb7 c4 c5 c6 c7=>bn b7 (aS 30 i.1 a λx=>
(C 24 [snap a x,snap a c]).bind λj=>
(dP j (bX 48 f.1 0 a λs=>
aS 3 s a λt=>
bl .eql 3 false true t (iA 0) λk=>some [k,k,t,s]) (some [bA false,ud,ud,ud])).bind λb8=>fW b8 λb9 c8 a4 ba c9=>
(dP b9 (bX 48 f.1 1 a λl=>
aS 3 l a λo=>
bX 30 i.1 1 a λp=>
aS 3 p a λa5=>
bl .add 3 false true a5 (iA 1) λa6=>
bl .eql 3 false false o a6 λq=>some [q,q,a6,a5,p,o,l]) (some [bA false,ud,ud,ud,ud,ud,ud])).bind λbb=>fW bb λa7 bc bd be a8=>iH a8 λca a9 bf=>aV bf λbg cb=>
(mc prog UnOp.not a7).bind λu=>bn u (kr (St.mk [(1,b),(2,iA 490),(3,c),(48,CV),(49,CW),(50,e)] a)) (bl .add 3 false true e (iA 1) λr=>
gu L a λbh=>bif bif Nat.beq (List.length a) L then true else aG L [(50,r),(1,b),(2,g),(3,c),(48,CV),(49,CW)] [1,2,3,48,49,50] then aI (cx C) call rg n 13 lo 1 L kx kg kr kp m (St.mk [(1,b),(2,g),(3,c),(48,CV),(49,CW),(50,r)] bh) else none)) (bn w (fl 41 d.1 0 3 a λj=>
bl .sub 3 false true c (iA 1) λs=>
(C 30 [snap a j,snap a (iA 0),snap a s]).bind λt=>
(dP t (bX 41 d.1 1 a λk=>
aS 3 k a λaa=>
bX 28 b 2 a λab=>
aS 3 ab a λl=>
bl .sub 3 false true l (iA 1) λo=>
(C 30 [snap a aa,snap a (iA 0),snap a o]).bind λp=>some [p,p,o,l,ab,aa,k]) (some [bA false,ud,ud,ud,ud,ud,ud])).bind λbi=>fW bi λa4 ba cc a7 bj=>iH bj λbc bd bk=>aV bk λbe a8=>
(dP a4 (bX 48 f.1 0 a λq=>
aS 3 q a λad=>
bX 41 d.1 0 a λae=>
aS 3 ae a λu=>
bl .add 3 false true u (iA 1) λr=>
bl .eql 3 false false ad r λaf=>some [af,af,r,u,ae,ad,q]) (some [bA false,ud,ud,ud,ud,ud,ud])).bind λbm=>fW bm λa9 bg cd ce bo=>iH bo λcf cg bp=>aV bp λch ci=>
(dP a9 (bX 48 f.1 1 a λag=>
aS 3 ag a λah=>
bl .eql 3 false true ah (iA 0) λai=>some [ai,ai,ah,ag]) (some [bA false,ud,ud,ud])).bind λbq=>fW bq λaj cj ck cl cm=>
qa aj true (bX 28 b 1 a λak=>
aS 26 ak a λal=>
bX 41 d.1 0 a λam=>
aS 3 am a λan=>
dV 26 al an a λao=>
bX 55 ao 2 a λap=>
aS 50 ap a λaq=>
bX 41 d.1 1 a λar=>
aS 3 ar a λau=>
dV 50 aq au a λav=>
aS 3 av a λbr=>
bX 41 d.1 2 a λaw=>
aS 3 aw a λbs=>some [bs,aw,br,av,au,ar,aq,ap,ao,an,am,al,ak]) (some [ud,ud,ud,ud,ud,ud,ud,ud,ud,ud,ud,ud,ud]) λbt=>pO bt λbu cn bv co cp cq cr cs bw=>fW bw λct cu cv cy bx=>aV bx λcz d0=>
(dP aj (bl .eql 3 false false bv bu λax=>some [ax,ax]) (some [bA false,ud])).bind λbz=>iH bz λc0 d1 d2=>
(mc prog UnOp.not c0).bind λc1=>bn c1 (kr (St.mk [(1,b),(2,iA 490),(3,c),(48,CV),(49,CW),(50,e)] a)) (bl .add 3 false true e (iA 1) λay=>
gu L a λc2=>bif bif Nat.beq (List.length a) L then true else aG L [(50,ay),(1,b),(2,g),(3,c),(48,CV),(49,CW)] [1,2,3,48,49,50] then aI (cx C) call rg n 13 lo 1 L kx kg kr kp m (St.mk [(1,b),(2,g),(3,c),(48,CV),(49,CW),(50,ay)] c2) else none)) ((mc prog UnOp.not w).bind λx=>bn x (kr (St.mk [(1,b),(2,iA 490),(3,c),(48,CV),(49,CW),(50,e)] a)) (bl .add 3 false true e (iA 1) λj=>
gu L a λc3=>bif bif Nat.beq (List.length a) L then true else aG L [(50,j),(1,b),(2,g),(3,c),(48,CV),(49,CW)] [1,2,3,48,49,50] then aI (cx C) call rg n 13 lo 1 L kx kg kr kp m (St.mk [(1,b),(2,g),(3,c),(48,CV),(49,CW),(50,j)] c3) else none))) else none) (kx 2 (St.mk [(1,b),(2,g),(3,c),(48,CV),(49,CW),(50,e)] H)):=r7
theorem Pf (b c d x6 x7 a x9 Bz K7 K8:A):aI (cx C) call rg n 19 lo 0 L kx kg kr kp (m+1) (St.mk [(1,b),(2,c),(3,d),(6,x6),(7,x7),(8,a),(9,x9),(33,Bz),(34,K7),(35,K8)] H) =
bl .lss 3 false false K8 K7 λg=>bn g (dV 50 Bz K8 H λh=>
aS 3 h H λt2=>
bl .add 3 false true x9 (iA 1) λi=>
bl .sub 3 false true a (iA 1) λj=>
(C 30 [snap H t2,snap H i,snap H j]).bind λk=>
(mc prog UnOp.not k).bind λl=>bn l (aS 28 x6 H λe=>
cA 28 x6 (cw x6 H e) H lo λf=>kr (St.mk [(1,b),(2,c),(3,d),(6,x6),(7,iA 1),(8,a),(9,x9),(33,Bz),(34,K7),(35,K8)] f)) (bl .add 3 false true K8 (iA 1) λe=>
gu L H λf=>bif bif Nat.beq (List.length H) L then true else aG L [(35,e),(9,t2),(1,b),(2,c),(3,d),(6,x6),(7,x7),(8,a),(33,Bz),(34,K7)] [1,2,3,6,7,8,9,33,34,35] then aI (cx C) call rg n 19 lo 0 L kx kg kr kp m (St.mk [(1,b),(2,c),(3,d),(6,x6),(7,x7),(8,a),(9,t2),(33,Bz),(34,K7),(35,e)] f) else none)) (kx 0 (St.mk [(1,b),(2,c),(3,d),(6,x6),(7,x7),(8,a),(9,x9),(33,Bz),(34,K7),(35,K8)] H)):=r7
theorem Pg (c a d x6 x7 e b ui BA:A):aI (cx C) call rg n 19 lo 1 L kx kg kr kp (m+1) (St.mk [(1,c),(2,a),(3,d),(6,x6),(7,x7),(8,e),(54,b),(55,ui),(56,BA)] H) =
bl .lss 3 false false BA ui λk=>bn k (dV 50 b BA H λl=>
aS 3 l H λt2=>
(C 30 [snap H t2,snap H (iA 0),snap H BA]).bind λo=>
(mc prog UnOp.not o).bind λp=>
(dP p (some [bA true,ud,ud,ud,ud,ud,ud]) (dV 50 a t2 H λh=>
aS 3 h H λi=>
bl .neq 3 false false i t2 λj=>some [j,j,t2,i,h,t2,a])).bind λq=>fW q λr u v w s=>iH s λx y t=>aV t λz a0=>bn r (aS 28 x6 H λf=>
cA 28 x6 (cw x6 H f) H lo λg=>kr (St.mk [(1,c),(2,a),(3,d),(6,x6),(7,iA 1),(8,e),(54,b),(55,ui),(56,BA)] g)) (bl .add 3 false true BA (iA 1) λf=>
gu L H λg=>bif bif Nat.beq (List.length H) L then true else aG L [(56,f),(1,c),(2,a),(3,d),(6,x6),(7,x7),(8,e),(54,b),(55,ui)] [1,2,3,6,7,8,54,55,56] then aI (cx C) call rg n 19 lo 1 L kx kg kr kp m (St.mk [(1,c),(2,a),(3,d),(6,x6),(7,x7),(8,e),(54,b),(55,ui),(56,f)] g) else none)) (kx 2 (St.mk [(1,c),(2,a),(3,d),(6,x6),(7,x7),(8,e),(54,b),(55,ui),(56,BA)] H)):=r7
theorem Ph (f c g x6 x7 b d ql Ep h sf:A):aI (cx C) call rg n 19 lo 2 L kx kg kr kp (m+1) (St.mk [(1,f),(2,c),(3,g),(6,x6),(7,x7),(14,b),(15,d),(16,ql),(83,Ep),(84,h),(85,sf)] H) =
bl .lss 3 false false sf h λt0=>bn t0 (dV 26 Ep sf H λt1=>
aS 55 t1 H λt2=>
ib 55 H λi=>
cA 55 i.1 (cw i.1 i.2 t2) i.2 lo λa=>
fl 55 i.1 0 53 a λt6=>
eX 53 t6 a λt7=>
bl .gtr 3 false true t7 (iA 0) λt8=>
(dP t8 (bX 55 i.1 0 a λt9=>
aS 53 t9 a λa3=>
dV 53 a3 (iA 0) a λa4=>
bX 30 a4 2 a λa5=>
aS 3 a5 a λa6=>
bX 28 g 2 a λa7=>
aS 3 a7 a λa8=>
bl .eql 3 false false a6 a8 λa9=>some [a9,a9,a8,a7,a6,a5,a4,a3,t9]) (some [bA false,ud,ud,ud,ud,ud,ud,ud,ud])).bind λl9=>pO l9 λaa bk bm bo bp bq br bs ax=>aV ax λbt bu=>
qa aa true (some [sf,f]) (some [ud,ud]) λay=>iH ay λaz b0 bv=>
(dP aa ((C 48 [snap a b0,snap a az]).bind λab=>
(mc prog UnOp.not ab).bind λad=>some [ad,ad,ab]) (some [bA false,ud,ud])).bind λb1=>iH b1 λb2 bw b3=>aV b3 λbx bz=>bn b2 (fl 55 i.1 0 53 a λx=>
dV 53 x (iA 0) a λp=>
fl 30 p 3 3 a λy=>
dV 50 b sf a λo=>
cA 3 o (cw o a y) a lo λe=>
dV 50 c sf e λq=>
aS 3 q e λb4=>
(fZ prog 97 d b4 true e).bind λae=>
iT ae 0 λaf=>
iT ae 1 λb5=>
(dP b5 (dV 50 b sf e λag=>
aS 3 ag e λj=>
bl .neq 3 false false af j λk=>some [k,k,j,ag,sf,b,af]) (some [bA false,ud,ud,ud,ud,ud,ud])).bind λah=>fW ah λb6 c0 c1 c2 b7=>iH b7 λc3 c4 b8=>aV b8 λc5 c6=>bn b6 (dV 50 c sf e λl=>
aS 3 l e λz=>
(ka prog 97 d z (iA 0) e lo).bind λai=>
(bC prog 50 1 [(0,fw ai sf)]).bind λa0=>
(bU prog 50 50 false ql a0 ai lo).bind λr=>
bl .add 3 false true sf (iA 1) λs=>
gu L r.2 λb9=>bif bif Nat.beq (List.length r.2) L then true else aG L [(85,s),(16,r.1),(1,f),(2,c),(3,g),(6,x6),(7,x7),(14,b),(15,d),(83,Ep),(84,h)] [1,2,3,6,7,14,15,16,83,84,85] then aI (cx C) call rg n 19 lo 2 L kx kg kr kp m (St.mk [(1,f),(2,c),(3,g),(6,x6),(7,x7),(14,b),(15,d),(16,r.1),(83,Ep),(84,h),(85,s)] b9) else none) (dV 50 c sf e λl=>
aS 3 l e λz=>
dV 50 b sf e λba=>
aS 3 ba e λa0=>
(ka prog 97 d z a0 e lo).bind λaj=>
(bC prog 50 1 [(0,fw aj sf)]).bind λs=>
(bU prog 50 50 false ql s aj lo).bind λt=>
bl .add 3 false true sf (iA 1) λak=>
gu L t.2 λbb=>bif bif Nat.beq (List.length t.2) L then true else aG L [(85,ak),(16,t.1),(1,f),(2,c),(3,g),(6,x6),(7,x7),(14,b),(15,d),(83,Ep),(84,h)] [1,2,3,6,7,14,15,16,83,84,85] then aI (cx C) call rg n 19 lo 2 L kx kg kr kp m (St.mk [(1,f),(2,c),(3,g),(6,x6),(7,x7),(14,b),(15,d),(16,t.1),(83,Ep),(84,h),(85,ak)] bb) else none)) (dV 50 c sf a λbc=>
aS 3 bc a λx=>
(fZ prog 97 d x true a).bind λp=>
iT p 0 λal=>
iT p 1 λy=>
(dP y (dV 50 b sf a λo=>
aS 3 o a λam=>
bl .neq 3 false false al am λq=>some [q,q,am,o,sf,b,al]) (some [bA false,ud,ud,ud,ud,ud,ud])).bind λbd=>fW bd λbe c7 c8 c9 bf=>iH bf λca cb bg=>aV bg λcc ah=>bn be (dV 50 c sf a λj=>
aS 3 j a λk=>
(ka prog 97 d k (iA 0) a lo).bind λan=>
(bC prog 50 1 [(0,fw an sf)]).bind λa1=>
(bU prog 50 50 false ql a1 an lo).bind λu=>
bl .add 3 false true sf (iA 1) λv=>
gu L u.2 λbh=>bif bif Nat.beq (List.length u.2) L then true else aG L [(85,v),(16,u.1),(1,f),(2,c),(3,g),(6,x6),(7,x7),(14,b),(15,d),(83,Ep),(84,h)] [1,2,3,6,7,14,15,16,83,84,85] then aI (cx C) call rg n 19 lo 2 L kx kg kr kp m (St.mk [(1,f),(2,c),(3,g),(6,x6),(7,x7),(14,b),(15,d),(16,u.1),(83,Ep),(84,h),(85,v)] bh) else none) (dV 50 c sf a λj=>
aS 3 j a λk=>
dV 50 b sf a λbi=>
aS 3 bi a λa1=>
(ka prog 97 d k a1 a lo).bind λao=>
(bC prog 50 1 [(0,fw ao sf)]).bind λv=>
(bU prog 50 50 false ql v ao lo).bind λw=>
bl .add 3 false true sf (iA 1) λl=>
gu L w.2 λbj=>bif bif Nat.beq (List.length w.2) L then true else aG L [(85,l),(16,w.1),(1,f),(2,c),(3,g),(6,x6),(7,x7),(14,b),(15,d),(83,Ep),(84,h)] [1,2,3,6,7,14,15,16,83,84,85] then aI (cx C) call rg n 19 lo 2 L kx kg kr kp m (St.mk [(1,f),(2,c),(3,g),(6,x6),(7,x7),(14,b),(15,d),(16,w.1),(83,Ep),(84,h),(85,l)] bj) else none))) (kx 4 (St.mk [(1,f),(2,c),(3,g),(6,x6),(7,x7),(14,b),(15,d),(16,ql),(83,Ep),(84,h),(85,sf)] H)):=r7
theorem Pj (d g x6 x7 e f ql h i b:A):aI (cx C) call rg n 19 lo 3 L kx kg kr kp (m+1) (St.mk [(2,d),(3,g),(6,x6),(7,x7),(14,e),(15,f),(16,ql),(162,h),(163,i),(164,b)] H) =
bl .lss 3 false false b i λt0=>bn t0 (dV 26 h b H λt1=>
aS 55 t1 H λt2=>
ib 55 H λc=>
cA 55 c.1 (cw c.1 c.2 t2) c.2 lo λa=>
fl 55 c.1 0 53 a λj=>
eX 53 j a λt7=>
bl .gtr 3 false true t7 (iA 0) λx=>
qa x true (dV 53 j (iA 0) a λy=>
bX 30 y 2 a λz=>
aS 3 z a λab=>
bX 28 g 2 a λa0=>
aS 3 a0 a λad=>some [ad,a0,ab,z,y,j]) (some [ud,ud,ud,ud,ud,ud]) λl9=>fW l9 λaf av ag aw ah=>iH ah λax ay az=>
(dP x (bl .eql 3 false false ag af λa1=>some [a1,a1]) (some [bA false,ud])).bind λai=>iH ai λaj b0 b1=>bn aj ((eK prog 53 j (some (iA 1)) none none a).bind λak=>
fl 28 x6 1 26 a λal=>
fl 55 c.1 1 50 a λo=>
dV 50 e b a λp=>
aS 3 p a λq=>
(C 49 [snap a o,snap a q]).bind λam=>
fl 55 c.1 2 50 a λr=>
dV 50 d b a λs=>
aS 3 s a λt=>
(fZ prog 97 f t false a).bind λu=>
(C 49 [snap a r,snap a u]).bind λv=>
oI 55 [(0,ak),(1,am),(2,v)] λw=>
(bC prog 26 1 [(0,fw a w)]).bind λan=>
(bU prog 26 26 false al an a lo).bind λk=>
bX 28 x6 1 k.2 λa2=>
cA 26 a2 (cw a2 k.2 k.1) k.2 lo λa3=>
bl .add 3 false true b (iA 1) λa4=>
gu L a3 λao=>bif bif Nat.beq (List.length a3) L then true else aG L [(164,a4),(2,d),(3,g),(6,x6),(7,x7),(14,e),(15,f),(16,ql),(162,h),(163,i)] [2,3,6,7,14,15,16,162,163,164] then aI (cx C) call rg n 19 lo 3 L kx kg kr kp m (St.mk [(2,d),(3,g),(6,x6),(7,x7),(14,e),(15,f),(16,ql),(162,h),(163,i),(164,a4)] ao) else none) (fl 28 x6 1 26 a λap=>
fl 55 c.1 1 50 a λaq=>
dV 50 e b a λo=>
aS 3 o a λp=>
(C 49 [snap a aq,snap a p]).bind λq=>
fl 55 c.1 2 50 a λar=>
dV 50 d b a λr=>
aS 3 r a λs=>
(fZ prog 97 f s false a).bind λt=>
(C 49 [snap a ar,snap a t]).bind λu=>
oI 55 [(0,j),(1,q),(2,u)] λv=>
(bC prog 26 1 [(0,fw a v)]).bind λw=>
(bU prog 26 26 false ap w a lo).bind λl=>
bX 28 x6 1 l.2 λa5=>
cA 26 a5 (cw a5 l.2 l.1) l.2 lo λa6=>
bl .add 3 false true b (iA 1) λa7=>
gu L a6 λau=>bif bif Nat.beq (List.length a6) L then true else aG L [(164,a7),(2,d),(3,g),(6,x6),(7,x7),(14,e),(15,f),(16,ql),(162,h),(163,i)] [2,3,6,7,14,15,16,162,163,164] then aI (cx C) call rg n 19 lo 3 L kx kg kr kp m (St.mk [(2,d),(3,g),(6,x6),(7,x7),(14,e),(15,f),(16,ql),(162,h),(163,i),(164,a7)] au) else none)) (kx 6 (St.mk [(2,d),(3,g),(6,x6),(7,x7),(14,e),(15,f),(16,ql),(162,h),(163,i),(164,b)] H)):=r7
theorem Pk (b d x7 c a:A):aI (cx C) call rg n 20 lo 0 L kx kg kr kp (m+1) (St.mk [(0,b),(4,d),(7,x7),(405,c),(406,a)] H) =
bl .lss 3 false false a c λu=>bn u (fl 28 x7 1 26 H λt2=>
dV 26 t2 a H λv=>
fl 55 v 1 50 H λw=>
fO b H λx=>
bX 61 x 0 H λy=>
fl 28 y 1 26 H λz=>
dV 26 z a H λa0=>
fl 55 a0 1 50 H λa1=>
(C 55 [snap H w,snap H a1]).bind λa2=>
(mc prog UnOp.not a2).bind λe=>
qa e false (bX 28 x7 1 H λf=>
aS 26 f H λg=>
dV 26 g a H λh=>
bX 55 h 2 H λi=>
aS 50 i H λa3=>
fO b H λj=>
bX 61 j 0 H λk=>
bX 28 k 1 H λl=>
aS 26 l H λo=>
dV 26 o a H λp=>
bX 55 p 2 H λq=>
aS 50 q H λa4=>some [a4,q,p,a,o,l,k,j,b,a3,i,h,a,g,f]) (some [ud,ud,ud,ud,ud,ud,ud,ud,ud,ud,ud,ud,ud,ud,ud]) λa5=>pO a5 λa6 ag ah ai aj ak al am a7=>fW a7 λan a8 ao ap a9=>iH a9 λaq ar aa=>aV aa λau av=>
(dP e (some [bA true,ud,ud]) ((C 55 [snap H a8,snap H a6]).bind λr=>
(mc prog UnOp.not r).bind λs=>some [s,s,r])).bind λab=>iH ab λad aw ae=>aV ae λax ay=>bn ad (kr (St.mk [(0,b),(4,bA false),(7,x7),(405,c),(406,a)] H)) (bl .add 3 false true a (iA 1) λt=>
gu L H λaf=>bif bif Nat.beq (List.length H) L then true else aG L [(406,t),(0,b),(4,d),(7,x7),(405,c)] [0,4,7,405,406] then aI (cx C) call rg n 20 lo 0 L kx kg kr kp m (St.mk [(0,b),(4,d),(7,x7),(405,c),(406,t)] af) else none)) (kx 1 (St.mk [(0,b),(4,d),(7,x7),(405,c),(406,a)] H)):=r7
theorem LG (c a x9 b eM:A):aI (cx C) call rg n 26 lo 0 L kx kg kr kp (m+1) (St.mk [(2,c),(3,a),(9,x9),(10,b),(11,eM)] H) =
bl .lss 3 false false eM b λh=>bn h (dV 108 x9 eM H λi=>
aS 110 i H λt2=>
fl 107 a 3 105 H λj=>
fO t2 H λk=>
aS 3 k H λl=>
oI 107 [(0,iA 1),(1,l)] λo=>
(bC prog 105 1 [(0,fw H o)]).bind λp=>
(bU prog 105 105 false j p H lo).bind λd=>
bX 107 a 3 d.2 λe=>
cA 105 e (cw e d.2 d.1) d.2 lo λf=>
bl .add 3 false true eM (iA 1) λg=>
gu L f λq=>bif bif Nat.beq (List.length f) L then true else aG L [(11,g),(2,c),(3,a),(9,x9),(10,b)] [2,3,9,10,11] then aI (cx C) call rg n 26 lo 0 L kx kg kr kp m (St.mk [(2,c),(3,a),(9,x9),(10,b),(11,g)] q) else none) (kx 0 (St.mk [(2,c),(3,a),(9,x9),(10,b),(11,eM)] H)):=r7
theorem Pm (b d c ql sn:A):aI (cx C) call rg n 33 lo 0 L kx kg kr kp (m+1) (St.mk [(1,b),(2,d),(15,c),(16,ql),(17,sn)] H) =
bl .lss 3 false false sn ql λt0=>bn t0 (dV 23 c sn H λt1=>
aS 115 t1 H λt2=>
(mj prog 115 H).bind λf=>
cA 115 f.1 (cw f.1 f.2 t2) f.2 lo λa=>
aS 115 f.1 a λt5=>
(C 64 [snap a t5]).bind λt6=>
(mc prog UnOp.not t6).bind λi=>
qa i false (bl .gtr 3 false true sn (iA 0) λj=>
qa j true (bX 25 b 1 a λq=>
aS 23 q a λr=>
bl .sub 3 false true sn (iA 1) λs=>
dV 23 r s a λt=>
(eK prog 115 t none none none a).bind λa8=>
(eK prog 115 f.1 none none none a).bind λa9=>some [a9,a8,t,s,sn,r,q]) (some [ud,ud,ud,ud,ud,ud,ud]) λl9=>fW l9 λk u v w ab=>iH ab λx y ad=>aV ad λe z=>some [k,u,v,w,x,y,e,j,j,sn]) (some [ud,ud,ud,ud,ud,ud,ud,ud,ud,ud]) λl8=>pO l8 λu9 k u v w x y e z=>iH z λam an ao=>sm e true ((call 65 [k,u9] a lo).bind λg=>ek g.1 (λl=>
qa e true (bl .geq 3 false true l (iA 0) λh=>some [h]) (some [ud]) λo=>aV o λp ap=>
(dP i (some [bA true,ud]) ((dP e (some p) (some (bA false))).bind λa0=>some [a0,a0])).bind λa1=>iH a1 λag aq ar=>bn ag (kr (St.mk [(1,b),(2,iA 60),(15,c),(16,ql),(17,sn)] g.2)) (bl .add 3 false true sn (iA 1) λa2=>
gu L g.2 λah=>bif bif Nat.beq (List.length g.2) L then true else aG L [(17,a2),(1,b),(2,d),(15,c),(16,ql)] [1,2,15,16,17] then aI (cx C) call rg n 33 lo 0 L kx kg kr kp m (St.mk [(1,b),(2,d),(15,c),(16,ql),(17,a2)] ah) else none)) λl=>kp l (St.mk [(1,b),(2,d),(15,c),(16,ql),(17,sn)] g.2)) (qa e true (bl .geq 3 false true (ud) (iA 0) λai=>some [ai]) (some [ud]) λaj=>aV aj λak au=>
(dP i (some [bA true,ud]) ((dP e (some ak) (some (bA false))).bind λh=>some [h,h])).bind λo=>iH o λp av a1=>bn p (kr (St.mk [(1,b),(2,iA 60),(15,c),(16,ql),(17,sn)] a)) (bl .add 3 false true sn (iA 1) λa3=>
gu L a λal=>bif bif Nat.beq (List.length a) L then true else aG L [(17,a3),(1,b),(2,d),(15,c),(16,ql)] [1,2,15,16,17] then aI (cx C) call rg n 33 lo 0 L kx kg kr kp m (St.mk [(1,b),(2,d),(15,c),(16,ql),(17,a3)] al) else none))) (kx 0 (St.mk [(1,b),(2,d),(15,c),(16,ql),(17,sn)] H)):=r7
theorem Pn (d e f a g b c Ft:A):aI (cx C) call rg n 34 lo 0 L kx kg kr kp (m+1) (St.mk [(1,d),(2,e),(3,f),(4,a),(8,g),(27,b),(28,c),(29,Ft)] H) =
bl .lss 3 false false Ft c λt0=>bn t0 (dV 50 b Ft H λt1=>
aS 3 t1 H λt2=>
(C 30 [snap H t2,snap H (iA 0),snap H (iA 8)]).bind λt3=>
(mc prog UnOp.not t3).bind λt4=>
(dP t4 (some [bA true,ud,ud,ud,ud,ud,ud,ud,ud,ud,ud,ud,ud,ud,ud,ud]) (bX 55 a 2 H λj=>
aS 50 j H λk=>
dV 50 k Ft H λl=>
aS 3 l H λo=>
bl .neq 3 false false o t2 λh=>
(dP h (bX 55 a 2 H λp=>
aS 50 p H λq=>
dV 50 q Ft H λr=>
aS 3 r H λs=>
bl .neq 3 false true s (iA 0) λt=>some [t,t,s,r,Ft,q,p]) (some [bA false,ud,ud,ud,ud,ud,ud])).bind λa5=>fW a5 λi u v w a6=>iH a6 λx y a7=>aV a7 λz ad=>some [i,i,u,v,w,x,y,z,h,h,t2,o,l,Ft,k,j])).bind λl5=>pO l5 λu6 u7 u8 u9 ah i u v aa=>pO aa λw x y z ai aj ak al am=>bn u6 (kr (St.mk [(1,d),(2,e),(3,f),(4,a),(8,bA false),(27,b),(28,c),(29,Ft)] H)) (bl .add 3 false true Ft (iA 1) λa0=>
gu L H λab=>bif bif Nat.beq (List.length H) L then true else aG L [(29,a0),(1,d),(2,e),(3,f),(4,a),(8,g),(27,b),(28,c)] [1,2,3,4,8,27,28,29] then aI (cx C) call rg n 34 lo 0 L kx kg kr kp m (St.mk [(1,d),(2,e),(3,f),(4,a),(8,g),(27,b),(28,c),(29,a0)] ab) else none)) (kx 0 (St.mk [(1,d),(2,e),(3,f),(4,a),(8,g),(27,b),(28,c),(29,Ft)] H)):=r7
theorem Po (c d g eM e La f:A):aI (cx C) call rg n 34 lo 1 L kx kg kr kp (m+1) (St.mk [(1,c),(2,d),(8,g),(11,eM),(57,e),(58,La),(59,f)] H) =
bl .lss 3 false false f La λr=>bn r (dV 53 e f H λs=>
aS 30 s H λt2=>
ib 30 H λb=>
cA 30 b.1 (cw b.1 b.2 t2) b.2 lo λa=>
aS 30 b.1 a λt=>
(C 24 [snap a t,snap a d]).bind λu=>
(mc prog UnOp.not u).bind λv=>
(dP v (some [bA true,ud,ud,ud,ud]) (bX 30 b.1 1 a λh=>
aS 3 h a λi=>
bl .neq 3 false false i c λj=>some [j,j,c,i,h])).bind λw=>fW w λx a4 a5 a6 y=>aV y λa7 a8=>
(dP x (some [bA true,ud,ud,ud,ud]) (bX 30 b.1 2 a λk=>
aS 3 k a λl=>
bl .lss 3 false false l eM λo=>some [o,o,eM,l,k])).bind λz=>fW z λa0 a9 aa ab a1=>aV a1 λad ae=>bn a0 (kr (St.mk [(1,c),(2,d),(8,bA false),(11,eM),(57,e),(58,La),(59,f)] a)) (fl 30 b.1 2 3 a λa2=>
bl .add 3 false true a2 (iA 1) λp=>
bl .add 3 false true f (iA 1) λq=>
gu L a λa3=>bif bif Nat.beq (List.length a) L then true else aG L [(59,q),(11,p),(1,c),(2,d),(8,g),(57,e),(58,La)] [1,2,8,11,57,58,59] then aI (cx C) call rg n 34 lo 1 L kx kg kr kp m (St.mk [(1,c),(2,d),(8,g),(11,p),(57,e),(58,La),(59,q)] a3) else none)) (kx 2 (St.mk [(1,c),(2,d),(8,g),(11,eM),(57,e),(58,La),(59,f)] H)):=r7
theorem LH (b e x6 K9 c ui:A):aI (cx C) call rg n 35 lo 0 L kx kg kr kp (m+1) (St.mk [(2,b),(3,e),(6,x6),(53,K9),(54,c),(55,ui)] H) =
bl .lss 3 false false ui c λj=>bn j (dV 105 K9 ui H λk=>
aS 107 k H λt2=>
ib 107 H λd=>
cA 107 d.1 (cw d.1 d.2 t2) d.2 lo λa=>
fl 107 d.1 0 3 a λl=>
bl .neq 3 false true l (iA 1) λo=>bn o (aS 75 b a λf=>
cA 75 b (cw b a f) a lo λp=>kr (St.mk [(2,b),(3,bA false),(6,x6),(53,K9),(54,c),(55,ui)] p)) (dV 108 x6 ui a λf=>
aS 110 f a λq=>
fl 107 d.1 1 3 a λr=>
fO q a λg=>
cA 3 g (cw g a r) a lo λh=>
bl .add 3 false true ui (iA 1) λi=>
gu L h λs=>bif bif Nat.beq (List.length h) L then true else aG L [(55,i),(2,b),(3,e),(6,x6),(53,K9),(54,c)] [2,3,6,53,54,55] then aI (cx C) call rg n 35 lo 0 L kx kg kr kp m (St.mk [(2,b),(3,e),(6,x6),(53,K9),(54,c),(55,i)] s) else none)) (kx 0 (St.mk [(2,b),(3,e),(6,x6),(53,K9),(54,c),(55,ui)] H)):=r7
theorem Pp (a b c x6 x7 d x9 e:A):aI (cx C) call rg n 42 lo 0 L kx kg kr kp (m+1) (St.mk [(0,a),(1,b),(2,c),(6,x6),(7,x7),(8,d),(9,x9),(10,e)] H) =
bl .lss 3 false false x9 e λj=>bn j (bl .add 3 false false x9 e λk=>
(bt prog 3 129 k H).bind λt2=>
bl .shr 129 false true t2 (A.v (.int .u64 1)) λl=>
(bt prog 129 3 l H).bind λg=>
dV 53 a g H λo=>
aS 30 o H λp=>ez (cx C) call c [p,b] H lo (λh f=>
bl .lss 3 false true h (iA 0) λq=>bn q (bl .add 3 false true g (iA 1) λi=>
gu L f λr=>bif bif Nat.beq (List.length f) L then true else aG L [(9,i),(0,a),(1,b),(2,c),(6,x6),(7,x7),(8,d),(10,e)] [0,1,2,6,7,8,9,10] then aI (cx C) call rg n 42 lo 0 L kx kg kr kp m (St.mk [(0,a),(1,b),(2,c),(6,x6),(7,x7),(8,d),(9,i),(10,e)] r) else none) (gu L f λs=>bif bif Nat.beq (List.length f) L then true else aG L [(10,g),(0,a),(1,b),(2,c),(6,x6),(7,x7),(8,d),(9,x9)] [0,1,2,6,7,8,9,10] then aI (cx C) call rg n 42 lo 0 L kx kg kr kp m (St.mk [(0,a),(1,b),(2,c),(6,x6),(7,x7),(8,d),(9,x9),(10,g)] s) else none)) λh f=>kp h (St.mk [(0,a),(1,b),(2,c),(6,x6),(7,x7),(8,d),(9,x9),(10,e)] f)) (kx 0 (St.mk [(0,a),(1,b),(2,c),(6,x6),(7,x7),(8,d),(9,x9),(10,e)] H)):=r7
theorem Pq (b c a x6 x7:A):aI (cx C) call rg n 47 lo 0 L kx kg kr kp (m+1) (St.mk [(2,b),(3,c),(4,a),(6,x6),(7,x7)] H) =
fl 107 a 3 105 H λf=>
eX 105 f H λt2=>
bl .lss 3 false false x7 t2 λg=>bn g (fl 107 a 3 105 H λh=>
dV 105 h x7 H λi=>
fl 107 i 0 3 H λj=>
bl .neq 3 false true j (iA 1) λk=>bn k (kr (St.mk [(2,A.imm [] true),(3,bA false),(4,a),(6,x6),(7,x7)] H)) (fl 107 a 3 105 H λl=>
dV 105 l x7 H λo=>
fl 107 o 1 3 H λp=>
(bC prog 50 1 [(0,fw H p)]).bind λq=>
(bU prog 50 50 false x6 q H lo).bind λd=>
bl .add 3 false true x7 (iA 1) λe=>
gu L d.2 λr=>bif bif Nat.beq (List.length d.2) L then true else aG L [(7,e),(6,d.1),(2,b),(3,c),(4,a)] [2,3,4,6,7] then aI (cx C) call rg n 47 lo 0 L kx kg kr kp m (St.mk [(2,b),(3,c),(4,a),(6,d.1),(7,e)] r) else none)) (kx 0 (St.mk [(2,b),(3,c),(4,a),(6,x6),(7,x7)] H)):=r7
theorem Pr (b a c d x6 x7 Jb Bx:A):aI (cx C) call rg n 54 lo 0 L kx kg kr kp (m+1) (St.mk [(0,b),(3,a),(4,c),(5,d),(6,x6),(7,x7),(30,Jb),(31,Bx)] H) =
bl .lss 3 false false Bx Jb λh=>bn h (fl 65 a 6 63 H λt2=>
bl .shr 63 false false t2 Bx λi=>
bl .and 63 false true i (A.v (.int .u16 1)) λj=>
bl .eql 63 false true j (A.v (.int .u16 1)) λk=>bn k ((bC prog 50 1 [(0,fw H Bx)]).bind λe=>
(bU prog 50 50 false x7 e H lo).bind λf=>
bl .add 3 false true Bx (iA 1) λg=>
gu L f.2 λl=>bif bif Nat.beq (List.length f.2) L then true else aG L [(31,g),(7,f.1),(0,b),(3,a),(4,c),(5,d),(6,x6),(30,Jb)] [0,3,4,5,6,7,30,31] then aI (cx C) call rg n 54 lo 0 L kx kg kr kp m (St.mk [(0,b),(3,a),(4,c),(5,d),(6,x6),(7,f.1),(30,Jb),(31,g)] l) else none) (bl .add 3 false true Bx (iA 1) λe=>
gu L H λo=>bif bif Nat.beq (List.length H) L then true else aG L [(31,e),(0,b),(3,a),(4,c),(5,d),(6,x6),(7,x7),(30,Jb)] [0,3,4,5,6,7,30,31] then aI (cx C) call rg n 54 lo 0 L kx kg kr kp m (St.mk [(0,b),(3,a),(4,c),(5,d),(6,x6),(7,x7),(30,Jb),(31,e)] o) else none)) (kx 0 (St.mk [(0,b),(3,a),(4,c),(5,d),(6,x6),(7,x7),(30,Jb),(31,Bx)] H)):=r7
theorem Ps (c d g x6 x9 eM e Fu b:A):aI (cx C) call rg n 54 lo 1 L kx kg kr kp (m+1) (St.mk [(0,c),(3,d),(4,g),(6,x6),(9,x9),(11,eM),(98,e),(99,Fu),(100,b)] H) =
bl .lss 3 false false b Fu λt0=>bn t0 (dV 26 e b H λt1=>
aS 55 t1 H λt2=>
ib 55 H λf=>
cA 55 f.1 (cw f.1 f.2 t2) f.2 lo λa=>
fl 55 f.1 1 50 a λt6=>
eX 50 t6 a λt7=>
bl .add 3 false true eM (iA 1) λt8=>
bl .neq 3 false false t7 t8 λt9=>
(dP t9 (some [bA true,ud,ud,ud,ud,ud,ud]) (bX 55 f.1 2 a λp=>
aS 50 p a λq=>
eX 50 q a λr=>
bl .add 3 false true eM (iA 1) λs=>
bl .neq 3 false false r s λt=>some [t,t,s,eM,r,q,p])).bind λap=>fW ap λaq bg bh bi ar=>iH ar λbj bk au=>aV au λbm bo=>
(dP aq (some [bA true,ud,ud,ud,ud,ud,ud,ud,ud,ud,ud,ud,ud,ud,ud,ud]) (bX 55 f.1 1 a λu=>
aS 50 u a λw=>
(eK prog 50 w none (some eM) none a).bind λx=>
fO c a λy=>
bX 61 y 0 a λz=>
bX 28 z 1 a λa0=>
aS 26 a0 a λa1=>
dV 26 a1 b a λa2=>
bX 55 a2 1 a λa3=>
aS 50 a3 a λa4=>
(C 55 [snap a x,snap a a4]).bind λa5=>
(mc prog UnOp.not a5).bind λa6=>some [a6,a6,a5,a4,a3,a2,b,a1,a0,z,y,c,x,eM,w,u])).bind λav=>pO av λa7 bp bq br bs bt bu bv aw=>pO aw λbw bx bz c0 c1 c2 c3 c4 c5=>
qa a7 false (bX 55 f.1 2 a λa8=>
aS 50 a8 a λa9=>
(eK prog 50 a9 none (some eM) none a).bind λax=>
fO c a λaa=>
bX 61 aa 0 a λab=>
bX 28 ab 1 a λad=>
aS 26 ad a λae=>
dV 26 ae b a λaf=>
bX 55 af 2 a λag=>
aS 50 ag a λay=>some [ay,ag,af,b,ae,ad,ab,aa,c,ax,eM,a9,a8]) (some [ud,ud,ud,ud,ud,ud,ud,ud,ud,ud,ud,ud,ud]) λaz=>pO az λb0 c6 c7 c8 c9 ca cb cc b1=>fW b1 λcd b2 ce cf b3=>aV b3 λcg ch=>
(dP a7 (some [bA true,ud,ud]) ((C 55 [snap a b2,snap a b0]).bind λah=>
(mc prog UnOp.not ah).bind λai=>some [ai,ai,ah])).bind λb4=>iH b4 λb5 ci b6=>aV b6 λcj ck=>bn b5 (kr (St.mk [(0,c),(3,d),(4,bA false),(6,x6),(9,x9),(11,eM),(98,e),(99,Fu),(100,b)] a)) (fO c a λb7=>
fl 61 b7 1 59 a λb8=>
dV 59 b8 b a λb9=>
aS 53 b9 a λba=>
(C 82 [snap a ba,snap a eM]).bind λbb=>
fl 65 d 6 63 a λbc=>
bl .shr 63 false false bc b λbd=>
bl .and 63 false true bd (A.v (.int .u16 1)) λbe=>
bl .eql 63 false true be (A.v (.int .u16 1)) λbf=>bn bf (fl 55 f.1 1 50 a λi=>
dV 50 i eM a λj=>
aS 3 j a λk=>
bl .neq 3 false false k (iA 0) λl=>bn l (kr (St.mk [(0,c),(3,d),(4,bA false),(6,x6),(9,x9),(11,eM),(98,e),(99,Fu),(100,b)] a)) (bl .add 3 false true b (iA 1) λh=>
gu L a λo=>bif bif Nat.beq (List.length a) L then true else aG L [(100,h),(0,c),(3,d),(4,g),(6,x6),(9,x9),(11,eM),(98,e),(99,Fu)] [0,3,4,6,9,11,98,99,100] then aI (cx C) call rg n 54 lo 1 L kx kg kr kp m (St.mk [(0,c),(3,d),(4,g),(6,x6),(9,x9),(11,eM),(98,e),(99,Fu),(100,h)] o) else none)) (fl 55 f.1 1 50 a λi=>
dV 50 i eM a λj=>
aS 3 j a λk=>
bl .neq 3 false false k bb λl=>bn l (kr (St.mk [(0,c),(3,d),(4,bA false),(6,x6),(9,x9),(11,eM),(98,e),(99,Fu),(100,b)] a)) (bl .add 3 false true b (iA 1) λh=>
gu L a λo=>bif bif Nat.beq (List.length a) L then true else aG L [(100,h),(0,c),(3,d),(4,g),(6,x6),(9,x9),(11,eM),(98,e),(99,Fu)] [0,3,4,6,9,11,98,99,100] then aI (cx C) call rg n 54 lo 1 L kx kg kr kp m (St.mk [(0,c),(3,d),(4,g),(6,x6),(9,x9),(11,eM),(98,e),(99,Fu),(100,h)] o) else none)))) (kx 2 (St.mk [(0,c),(3,d),(4,g),(6,x6),(9,x9),(11,eM),(98,e),(99,Fu),(100,b)] H)):=r7
theorem Pt (k l x6 x9 eM g h d:A):aI (cx C) call rg n 54 lo 2 L kx kg kr kp (m+1) (St.mk [(0,k),(4,l),(6,x6),(9,x9),(11,eM),(177,g),(178,h),(179,d)] H) =
bl .lss 3 false false d h λt0=>bn t0 (dV 26 g d H λt1=>
aS 55 t1 H λt2=>
ib 55 H λe=>
cA 55 e.1 (cw e.1 e.2 t2) e.2 lo λi=>
fl 28 x9 1 26 i λq=>
eX 26 q i λt7=>aI (cx C) call rg n 54 lo 3 (List.length i) (λc a=>bif Nat.beq c 6 then
(dP (lk a 17) (bX 55 (lk a 16) 2 (St.H a) λf=>
aS 50 f (St.H a) λr=>
dV 50 r (lk a 11) (St.H a) λs=>
aS 3 s (St.H a) λt=>
bX 55 (lk a 16) 1 (St.H a) λu=>
aS 50 u (St.H a) λv=>
dV 50 v (lk a 11) (St.H a) λw=>
aS 3 w (St.H a) λx=>
bl .neq 3 false false t x λy=>some [y,y,x,w,lk a 11,v,u,t,s,lk a 11,r,f]) (some [bA false,ud,ud,ud,ud,ud,ud,ud,ud,ud,ud,ud])).bind λl9=>pO l9 λz ar au av aw ax ay az ad=>fW ad λb0 b1 b2 b3 b4=>
qa z false ((mc prog UnOp.not (lk a 17)).bind λo=>
qa o true (bX 55 (lk a 16) 2 (St.H a) λa0=>
aS 50 a0 (St.H a) λae=>some [lk a 11,ae,a0]) (some [ud,ud,ud]) λaf=>iH af λp a1 ag=>aV ag λj a2=>some [p,a1,j,o,o,lk a 17]) (some [ud,ud,ud,ud,ud,ud]) λah=>fW ah λai p a1 j a2=>iH a2 λb5 b6 b7=>
qa j true (dV 50 p ai (St.H a) λa3=>
aS 3 a3 (St.H a) λa4=>
bl .neq 3 false true a4 (iA 0) λaj=>some [aj,a4,a3]) (some [ud,ud,ud]) λak=>iH ak λal b8 am=>aV am λb9 ba=>
(dP z (some [bA true,ud]) ((dP j (some al) (some (bA false))).bind λa5=>some [a5,a5])).bind λan=>iH an λao bb bc=>bn ao (kr (St.mk [(0,lk a 0),(4,bA false),(6,lk a 6),(9,lk a 9),(11,lk a 11),(177,lk a 177),(178,lk a 178),(179,lk a 179)] (St.H a))) (bl .add 3 false true (lk a 179) (iA 1) λa6=>
gu L (St.H a) λap=>bif bif Nat.beq (List.length (St.H a)) L then true else aG L ((179,a6) :: St.fr a) [0,4,6,9,11,177,178,179] then aI (cx C) call rg n 54 lo 2 L kx kg kr kp m (St.mk [(0,lk a 0),(4,lk a 4),(6,lk a 6),(9,lk a 9),(11,lk a 11),(177,lk a 177),(178,lk a 178),(179,a6)] ap) else none) else bif Nat.beq c 5 then
bl .add 3 false true (lk a 179) (iA 1) λf=>
gu L (St.H a) λaq=>bif bif Nat.beq (List.length (St.H a)) L then true else aG L ((179,f) :: St.fr a) [0,4,6,9,11,177,178,179] then aI (cx C) call rg n 54 lo 2 L kx kg kr kp m (St.mk [(0,lk a 0),(4,lk a 4),(6,lk a 6),(9,lk a 9),(11,lk a 11),(177,lk a 177),(178,lk a 178),(179,f)] aq) else none else kx c (St.mk [(0,lk a 0),(4,lk a 4),(6,lk a 6),(9,lk a 9),(11,lk a 11),(177,lk a 177),(178,lk a 178),(179,lk a 179)] (St.H a))) (λc a=>kg c (St.mk [(0,lk a 0),(4,lk a 4),(6,lk a 6),(9,lk a 9),(11,lk a 11),(177,lk a 177),(178,lk a 178),(179,lk a 179)] (St.H a))) (λb=>kr (St.mk [(0,lk b 0),(4,lk b 4),(6,lk b 6),(9,lk b 9),(11,lk b 11),(177,lk b 177),(178,lk b 178),(179,lk b 179)] (St.H b))) (λc a=>kp c (St.mk [(0,lk a 0),(4,lk a 4),(6,lk a 6),(9,lk a 9),(11,lk a 11),(177,lk a 177),(178,lk a 178),(179,lk a 179)] (St.H a))) n (St.mk [(0,k),(4,l),(6,x6),(9,x9),(11,eM),(15,d),(16,e.1),(17,bA true),(177,g),(178,h),(179,d),(185,q),(186,t7),(187,iA 0)] i)) (kx 4 (St.mk [(0,k),(4,l),(6,x6),(9,x9),(11,eM),(177,g),(178,h),(179,d)] H)):=r7
theorem Pu (g h x6 x9 eM c ql sn i j k d e b:A):aI (cx C) call rg n 54 lo 3 L kx kg kr kp (m+1) (St.mk [(0,g),(4,h),(6,x6),(9,x9),(11,eM),(15,c),(16,ql),(17,sn),(177,i),(178,j),(179,k),(185,d),(186,e),(187,b)] H) =
bl .lss 3 false false b e λt0=>bn t0 (dV 26 d b H λt1=>
aS 55 t1 H λt2=>
ib 55 H λf=>
cA 55 f.1 (cw f.1 f.2 t2) f.2 lo λa=>
qa sn true (dV 50 x6 c a λq=>
aS 3 q a λr=>
dV 50 x6 b a λs=>
aS 3 s a λt=>
bl .neq 3 false false r t λo=>
qa o false (bX 55 f.1 1 a λu=>
aS 50 u a λv=>
dV 50 v eM a λw=>
aS 3 w a λae=>
bX 55 ql 1 a λx=>
aS 50 x a λy=>
dV 50 y eM a λz=>
aS 3 z a λaf=>some [af,z,eM,y,x,ae,w,eM,v,u]) (some [ud,ud,ud,ud,ud,ud,ud,ud,ud,ud]) λag=>pO ag λp a0 a1 a2 a3 l a4 a5 ah=>iH ah λa6 a7 ar=>some [p,a0,a1,a2,a3,l,a4,a5,a6,a7,o,o,t,s,b,x6,r,q,c,x6]) (some [ud,ud,ud,ud,ud,ud,ud,ud,ud,ud,ud,ud,ud,ud,ud,ud,ud,ud,ud,ud]) λl5=>pO l5 λu6 u7 u8 u9 ax p a0 a1 ak=>pO ak λa2 a3 l a4 a5 a6 a7 ay al=>fW al λaz b0 b1 b2 b3=>
qa l false (bl .eql 3 false false p u6 λam=>some [am]) (some [ud]) λan=>aV an λao b4=>
(dP sn ((dP l (some (bA true)) (some ao)).bind λa8=>some [a8,a8]) (some [bA false,ud])).bind λap=>iH ap λa9 b5 b6=>
bl .add 3 false true b (iA 1) λaa=>
gu L a λaq=>bif bif Nat.beq (List.length a) L then true else aG L [(187,aa),(17,a9),(0,g),(4,h),(6,x6),(9,x9),(11,eM),(15,c),(16,ql),(177,i),(178,j),(179,k),(185,d),(186,e)] [0,4,6,9,11,15,16,17,177,178,179,185,186,187] then aI (cx C) call rg n 54 lo 3 L kx kg kr kp m (St.mk [(0,g),(4,h),(6,x6),(9,x9),(11,eM),(15,c),(16,ql),(17,a9),(177,i),(178,j),(179,k),(185,d),(186,e),(187,aa)] aq) else none) (kx 6 (St.mk [(0,g),(4,h),(6,x6),(9,x9),(11,eM),(15,c),(16,ql),(17,sn),(177,i),(178,j),(179,k),(185,d),(186,e),(187,b)] H)):=r7
theorem Pv (a c d b:A):aI (cx C) call rg n 55 lo 0 L kx kg kr kp (m+1) (St.mk [(0,a),(1,c),(4,d),(5,b)] H) =
eX 50 a H λf=>
bl .lss 3 false false b f λg=>bn g (dV 50 a b H λt2=>
aS 3 t2 H λh=>
dV 50 c b H λi=>
aS 3 i H λj=>
bl .neq 3 false false h j λk=>bn k (kr (St.mk [(0,a),(1,c),(4,bA false),(5,b)] H)) (bl .add 3 false true b (iA 1) λe=>
gu L H λl=>bif bif Nat.beq (List.length H) L then true else aG L [(5,e),(0,a),(1,c),(4,d)] [0,1,4,5] then aI (cx C) call rg n 55 lo 0 L kx kg kr kp m (St.mk [(0,a),(1,c),(4,d),(5,e)] l) else none)) (kx 0 (St.mk [(0,a),(1,c),(4,d),(5,b)] H)):=r7
theorem Pw (a d b c:A):aI (cx C) call rg n 61 lo 0 L kx kg kr kp (m+1) (St.mk [(0,a),(2,d),(3,b),(4,c)] H) =
eX 50 a H λi=>
bl .lss 3 false false c i λj=>bn j (fl 107 b 3 105 H λk=>
dV 50 a c H λl=>
aS 3 l H λo=>
(C 87 [snap H o]).bind λp=>
(bC prog 105 1 [(0,fw H p)]).bind λq=>
(bU prog 105 105 false k q H lo).bind λe=>
bX 107 b 3 e.2 λf=>
cA 105 f (cw f e.2 e.1) e.2 lo λg=>
bl .add 3 false true c (iA 1) λh=>
gu L g λr=>bif bif Nat.beq (List.length g) L then true else aG L [(4,h),(0,a),(2,d),(3,b)] [0,2,3,4] then aI (cx C) call rg n 61 lo 0 L kx kg kr kp m (St.mk [(0,a),(2,d),(3,b),(4,h)] r) else none) (kx 0 (St.mk [(0,a),(2,d),(3,b),(4,c)] H)):=r7
theorem Px (c a d x9 b eM:A):aI (cx C) call rg n 65 lo 0 L kx kg kr kp (m+1) (St.mk [(0,c),(1,a),(4,d),(9,x9),(10,b),(11,eM)] H) =
bl .lss 3 false false eM b λh=>bn h (dV 50 x9 eM H λi=>
aS 3 i H λt2=>
eX 50 a H λj=>
bl .geq 3 false false eM j λk=>bn k (kr (St.mk [(0,c),(1,a),(4,iA 1),(9,x9),(10,b),(11,eM)] H)) (dV 50 a eM H λl=>
aS 3 l H λo=>
(call 89 [t2,o] H lo).bind λe=>ek e.1 (λf=>
bl .neq 3 false true f (iA 0) λp=>bn p (kr (St.mk [(0,c),(1,a),(4,f),(9,x9),(10,b),(11,eM)] e.2)) (bl .add 3 false true eM (iA 1) λg=>
gu L e.2 λq=>bif bif Nat.beq (List.length e.2) L then true else aG L [(11,g),(0,c),(1,a),(4,d),(9,x9),(10,b)] [0,1,4,9,10,11] then aI (cx C) call rg n 65 lo 0 L kx kg kr kp m (St.mk [(0,c),(1,a),(4,d),(9,x9),(10,b),(11,g)] q) else none)) λf=>kp f (St.mk [(0,c),(1,a),(4,d),(9,x9),(10,b),(11,eM)] e.2))) (kx 0 (St.mk [(0,c),(1,a),(4,d),(9,x9),(10,b),(11,eM)] H)):=r7
theorem Py (b c d x7 a:A):aI (cx C) call rg n 77 lo 0 L kx kg kr kp (m+1) (St.mk [(0,b),(1,c),(4,d),(7,x7),(8,a)] H) =
bl .lss 3 false false a x7 λf=>bn f (dV 50 b a H λg=>
aS 3 g H λt2=>
bl .eql 3 false false c t2 λh=>bn h (kr (St.mk [(0,b),(1,c),(4,a),(7,x7),(8,a)] H)) (bl .add 3 false true a (iA 1) λe=>
gu L H λi=>bif bif Nat.beq (List.length H) L then true else aG L [(8,e),(0,b),(1,c),(4,d),(7,x7)] [0,1,4,7,8] then aI (cx C) call rg n 77 lo 0 L kx kg kr kp m (St.mk [(0,b),(1,c),(4,d),(7,x7),(8,e)] i) else none)) (kx 0 (St.mk [(0,b),(1,c),(4,d),(7,x7),(8,a)] H)):=r7
theorem LI (h f i g eM d:A):aI (cx C) call rg n 78 lo 0 L kx kg kr kp (m+1) (St.mk [(0,h),(2,f),(3,i),(10,g),(11,eM),(12,d)] H) =
bl .lss 3 false false d eM λl=>bn l (dV 50 g d H λo=>
aS 3 o H λt2=>
fl 28 f 1 26 H λp=>
dV 26 p t2 H λq=>
fl 55 q 2 50 H λk=>
eX 50 k H λr=>aI (cx C) call rg n 78 lo 1 (List.length H) (λb a=>bif Nat.beq b 2 then
bl .add 3 false true (lk a 12) (iA 1) λe=>
gu L (St.H a) λj=>bif bif Nat.beq (List.length (St.H a)) L then true else aG L ((12,e) :: St.fr a) [0,2,3,10,11,12] then aI (cx C) call rg n 78 lo 0 L kx kg kr kp m (St.mk [(0,lk a 0),(2,lk a 2),(3,lk a 3),(10,lk a 10),(11,lk a 11),(12,e)] j) else none else bif Nat.beq b 1 then
bl .add 3 false true (lk a 12) (iA 1) λe=>
gu L (St.H a) λj=>bif bif Nat.beq (List.length (St.H a)) L then true else aG L ((12,e) :: St.fr a) [0,2,3,10,11,12] then aI (cx C) call rg n 78 lo 0 L kx kg kr kp m (St.mk [(0,lk a 0),(2,lk a 2),(3,lk a 3),(10,lk a 10),(11,lk a 11),(12,e)] j) else none else kx b (St.mk [(0,lk a 0),(2,lk a 2),(3,lk a 3),(10,lk a 10),(11,lk a 11),(12,lk a 12)] (St.H a))) (λb a=>kg b (St.mk [(0,lk a 0),(2,lk a 2),(3,lk a 3),(10,lk a 10),(11,lk a 11),(12,lk a 12)] (St.H a))) (λc=>kr (St.mk [(0,lk c 0),(2,lk c 2),(3,lk c 3),(10,lk c 10),(11,lk c 11),(12,lk c 12)] (St.H c))) (λb a=>kp b (St.mk [(0,lk a 0),(2,lk a 2),(3,lk a 3),(10,lk a 10),(11,lk a 11),(12,lk a 12)] (St.H a))) n (St.mk [(0,h),(2,f),(3,i),(6,t2),(10,g),(11,eM),(12,d),(21,k),(22,r),(23,iA 0)] H)) (kx 0 (St.mk [(0,h),(2,f),(3,i),(10,g),(11,eM),(12,d)] H)):=r7
theorem LJ (b f c x6 g eM h Fs d a:A):aI (cx C) call rg n 78 lo 1 L kx kg kr kp (m+1) (St.mk [(0,b),(2,f),(3,c),(6,x6),(10,g),(11,eM),(12,h),(21,Fs),(22,d),(23,a)] H) =
bl .lss 3 false false a d λy=>bn y (dV 50 Fs a H λz=>
aS 3 z H λt2=>
oI 41 [(0,x6),(1,a),(2,t2)] λt3=>
ib 41 H λj=>
cA 41 j.1 (cw j.1 j.2 t3) j.2 lo λi=>
aS 3 c i λt6=>
bl .geq 3 false false a t6 λe=>
qa e true (some b) (some (ud)) λt8=>
qa e true (some x6) (some (ud)) λt9=>
qa e true (bl .add 3 false true t9 (iA 1) λl=>some l) (some (ud)) λl=>
qa e true (aS 41 j.1 i λo=>some o) (some (ud)) λo=>
qa e true (oI 75 [(0,iA 2),(2,o)] λp=>some p) (some (ud)) λp=>
qa e true ((C 26 [snap i p]).bind λq=>some q) (some (ud)) λq=>
qa e true (oI 48 [(0,l),(2,q)] λr=>some r) (some (ud)) λr=>sm e true (ez (cx C) call t8 [r] i lo (λs k=>
(dP e ((mc prog UnOp.not s).bind λt=>some [t,t]) (some [bA false,ud])).bind λa4=>iH a4 λu a9 aa=>bn u (kr (St.mk [(0,b),(2,f),(3,c),(6,x6),(10,g),(11,eM),(12,h),(21,Fs),(22,d),(23,a)] k)) (bl .add 3 false true a (iA 1) λv=>
gu L k λa5=>bif bif Nat.beq (List.length k) L then true else aG L [(23,v),(0,b),(2,f),(3,c),(6,x6),(10,g),(11,eM),(12,h),(21,Fs),(22,d)] [0,2,3,6,10,11,12,21,22,23] then aI (cx C) call rg n 78 lo 1 L kx kg kr kp m (St.mk [(0,b),(2,f),(3,c),(6,x6),(10,g),(11,eM),(12,h),(21,Fs),(22,d),(23,v)] a5) else none)) λs k=>kp s (St.mk [(0,b),(2,f),(3,c),(6,x6),(10,g),(11,eM),(12,h),(21,Fs),(22,d),(23,a)] k)) ((dP e ((mc prog UnOp.not (ud)).bind λw=>some [w,w]) (some [bA false,ud])).bind λa6=>iH a6 λa7 u ab=>bn a7 (kr (St.mk [(0,b),(2,f),(3,c),(6,x6),(10,g),(11,eM),(12,h),(21,Fs),(22,d),(23,a)] i)) (bl .add 3 false true a (iA 1) λx=>
gu L i λa8=>bif bif Nat.beq (List.length i) L then true else aG L [(23,x),(0,b),(2,f),(3,c),(6,x6),(10,g),(11,eM),(12,h),(21,Fs),(22,d)] [0,2,3,6,10,11,12,21,22,23] then aI (cx C) call rg n 78 lo 1 L kx kg kr kp m (St.mk [(0,b),(2,f),(3,c),(6,x6),(10,g),(11,eM),(12,h),(21,Fs),(22,d),(23,x)] a8) else none))) (kx 2 (St.mk [(0,b),(2,f),(3,c),(6,x6),(10,g),(11,eM),(12,h),(21,Fs),(22,d),(23,a)] H)):=r7
theorem Pz (b e a d eM:A):aI (cx C) call rg n 81 lo 0 L kx kg kr kp (m+1) (St.mk [(0,b),(4,e),(5,a),(10,d),(11,eM)] H) =
bl .lss 3 false false eM d λo=>bn o (dV 50 a eM H λj=>
cA 3 j (cw j H eM) H lo λc=>
eX 46 b c λp=>
bl .lss 3 false false eM p λq=>bn q (dV 46 b eM c λh=>
aS 5 h c λr=>
(bt prog 5 3 r c).bind λs=>
bl .add 3 false true eM (iA 1) λt=>
bl .rem 3 false false s t λu=>
dV 50 a u c λv=>
aS 3 v c λw=>
dV 50 a eM c λk=>
cA 3 k (cw k c w) c lo λf=>
dV 46 b eM f λx=>
aS 5 x f λy=>
(bt prog 5 3 y f).bind λz=>
bl .add 3 false true eM (iA 1) λa0=>
bl .rem 3 false false z a0 λa1=>
bl .eql 3 false false a1 eM λa2=>bn a2 (dV 50 a eM f λg=>
cA 3 g (cw g f eM) f lo λi=>
bl .add 3 false true eM (iA 1) λl=>
gu L i λa3=>bif bif Nat.beq (List.length i) L then true else aG L [(11,l),(0,b),(4,e),(5,a),(10,d)] [0,4,5,10,11] then aI (cx C) call rg n 81 lo 0 L kx kg kr kp m (St.mk [(0,b),(4,e),(5,a),(10,d),(11,l)] a3) else none) (bl .add 3 false true eM (iA 1) λg=>
gu L f λi=>bif bif Nat.beq (List.length f) L then true else aG L [(11,g),(0,b),(4,e),(5,a),(10,d)] [0,4,5,10,11] then aI (cx C) call rg n 81 lo 0 L kx kg kr kp m (St.mk [(0,b),(4,e),(5,a),(10,d),(11,g)] i) else none)) (bl .add 3 false true eM (iA 1) λh=>
gu L c λH6=>bif bif Nat.beq (List.length c) L then true else aG L [(11,h),(0,b),(4,e),(5,a),(10,d)] [0,4,5,10,11] then aI (cx C) call rg n 81 lo 0 L kx kg kr kp m (St.mk [(0,b),(4,e),(5,a),(10,d),(11,h)] H6) else none)) (kx 0 (St.mk [(0,b),(4,e),(5,a),(10,d),(11,eM)] H)):=r7
theorem PA (c f b x9 d eM:A):aI (cx C) call rg n 82 lo 0 L kx kg kr kp (m+1) (St.mk [(1,c),(4,f),(5,b),(9,x9),(10,d),(11,eM)] H) =
bl .lss 3 false false eM d λq=>bn q (dV 53 x9 eM H λr=>
aS 30 r H λt2=>
ib 30 H λe=>
cA 30 e.1 (cw e.1 e.2 t2) e.2 lo λa=>
fl 30 e.1 2 3 a λs=>
bl .eql 3 false false s c λt=>
(dP t (bX 30 e.1 0 a λi=>
aS 3 i a λj=>
bX 30 b 0 a λk=>
aS 3 k a λl=>
bl .gtr 3 false false j l λo=>some [o,o,l,k,j,i]) (some [bA false,ud,ud,ud,ud,ud])).bind λu=>fW u λv y z a0 w=>iH w λa1 a2 a3=>bn v (aS 30 e.1 a λg=>
cA 30 b (cw b a g) a lo λh=>
bl .add 3 false true eM (iA 1) λp=>
gu L h λx=>bif bif Nat.beq (List.length h) L then true else aG L [(11,p),(1,c),(4,f),(5,b),(9,x9),(10,d)] [1,4,5,9,10,11] then aI (cx C) call rg n 82 lo 0 L kx kg kr kp m (St.mk [(1,c),(4,f),(5,b),(9,x9),(10,d),(11,p)] x) else none) (bl .add 3 false true eM (iA 1) λg=>
gu L a λh=>bif bif Nat.beq (List.length a) L then true else aG L [(11,g),(1,c),(4,f),(5,b),(9,x9),(10,d)] [1,4,5,9,10,11] then aI (cx C) call rg n 82 lo 0 L kx kg kr kp m (St.mk [(1,c),(4,f),(5,b),(9,x9),(10,d),(11,g)] h) else none)) (kx 0 (St.mk [(1,c),(4,f),(5,b),(9,x9),(10,d),(11,eM)] H)):=r7
theorem PB (a c e b:A):aI (cx C) call rg n 86 lo 0 L kx kg kr kp (m+1) (St.mk [(1,a),(2,c),(3,e),(4,b)] H) =
fl 107 a 3 105 H λg=>
eX 105 g H λt2=>
bl .lss 3 false false b t2 λh=>bn h (fl 107 a 3 105 H λi=>
dV 105 i b H λj=>
aS 107 j H λk=>
(C 86 [snap H k]).bind λl=>
(bU prog 46 46 false e l H lo).bind λd=>
bl .add 3 false true b (iA 1) λf=>
gu L d.2 λo=>bif bif Nat.beq (List.length d.2) L then true else aG L [(4,f),(3,d.1),(1,a),(2,c)] [1,2,3,4] then aI (cx C) call rg n 86 lo 0 L kx kg kr kp m (St.mk [(1,a),(2,c),(3,d.1),(4,f)] o) else none) (kx 1 (St.mk [(1,a),(2,c),(3,e),(4,b)] H)):=r7
theorem PC (b c d x7 a:A):aI (cx C) call rg n 88 lo 0 L kx kg kr kp (m+1) (St.mk [(0,b),(1,c),(4,d),(7,x7),(8,a)] H) =
bl .lss 3 false false a x7 λg=>bn g (dV 22 b a H λh=>
aS 48 h H λt2=>ez (cx C) call c [t2] H lo (λe h3=>bn e (kr (St.mk [(0,b),(1,c),(4,a),(7,x7),(8,a)] h3)) (bl .add 3 false true a (iA 1) λf=>
gu L h3 λi=>bif bif Nat.beq (List.length h3) L then true else aG L [(8,f),(0,b),(1,c),(4,d),(7,x7)] [0,1,4,7,8] then aI (cx C) call rg n 88 lo 0 L kx kg kr kp m (St.mk [(0,b),(1,c),(4,d),(7,x7),(8,f)] i) else none)) λe h3=>kp e (St.mk [(0,b),(1,c),(4,d),(7,x7),(8,a)] h3)) (kx 0 (St.mk [(0,b),(1,c),(4,d),(7,x7),(8,a)] H)):=r7
theorem PD (b c a d e:A):aI (cx C) call rg n 91 lo 0 L kx kg kr kp (m+1) (St.mk [(0,b),(1,c),(4,a),(36,d),(37,e)] H) =
bl .lss 3 false false e d λo=>bn o (bX 107 a 3 H λi=>
aS 105 i H λt2=>
bl .add 3 false true c (iA 1) λp=>bif bif jQ 3 i then bif jQ 3 a then true else false else false then
(call 91 [b,p] H lo).bind λf=>ek f.1 (λh=>
(bC prog 105 1 [(0,fw f.2 h)]).bind λq=>
(bU prog 105 105 false t2 q f.2 lo).bind λg=>
bX 107 a 3 g.2 λj=>
cA 105 j (cw j g.2 g.1) g.2 lo λk=>
bl .add 3 false true e (iA 1) λl=>
gu L k λr=>bif bif Nat.beq (List.length k) L then true else aG L [(37,l),(0,b),(1,c),(4,a),(36,d)] [0,1,4,36,37] then aI (cx C) call rg n 91 lo 0 L kx kg kr kp m (St.mk [(0,b),(1,c),(4,a),(36,d),(37,l)] r) else none) λh=>kp h (St.mk [(0,A.any),(1,A.any),(4,A.any),(36,A.any),(37,A.any)] f.2) else none) (kx 1 (St.mk [(0,b),(1,c),(4,a),(36,d),(37,e)] H)):=r7
theorem PE (b c d x7 a:A):aI (cx C) call rg n 93 lo 0 L kx kg kr kp (m+1) (St.mk [(0,b),(3,c),(4,d),(7,x7),(8,a)] H) =
bl .lss 3 false false a x7 λf=>bn f (aS 115 c H λg=>
dV 23 b a H λt2=>
aS 115 t2 H λh=>
bl .eql 115 false false g h λi=>bn i (kr (St.mk [(0,b),(3,c),(4,a),(7,x7),(8,a)] H)) (bl .add 3 false true a (iA 1) λe=>
gu L H λj=>bif bif Nat.beq (List.length H) L then true else aG L [(8,e),(0,b),(3,c),(4,d),(7,x7)] [0,3,4,7,8] then aI (cx C) call rg n 93 lo 0 L kx kg kr kp m (St.mk [(0,b),(3,c),(4,d),(7,x7),(8,e)] j) else none)) (kx 0 (St.mk [(0,b),(3,c),(4,d),(7,x7),(8,a)] H)):=r7
theorem PF (a c d x7 b x9:A):aI (cx C) call rg n 95 lo 0 L kx kg kr kp (m+1) (St.mk [(0,a),(1,c),(4,d),(7,x7),(8,b),(9,x9)] H) =
bl .lss 160 false false x9 x7 λq=>
(dP q (fO a H λh=>
bX 155 h 2 H λt2=>
aS 4 t2 H λi=>
(mc prog UnOp.not i).bind λj=>some [j,j,i,t2,h,a]) (some [bA false,ud,ud,ud,ud,ud])).bind λr=>fW r λs z u4 u5 t=>iH t λu6 u7 l7=>bn s (bX 107 b 3 H λk=>
aS 105 k H λu=>
bl .add 3 false true c (iA 1) λw=>bif bif jQ 2 k then bif jQ 2 b then true else false else false then
(call 95 [a,w] H lo).bind λe=>ek e.1 (λg=>
(bC prog 105 1 [(0,fw e.2 g)]).bind λx=>
(bU prog 105 105 false u x e.2 lo).bind λf=>
bX 107 b 3 f.2 λl=>
cA 105 l (cw l f.2 f.1) f.2 lo λo=>
bl .add 160 false true x9 (A.v (.int .u64 1)) λp=>
gu L o λy=>bif bif Nat.beq (List.length o) L then true else aG L [(9,p),(0,a),(1,c),(4,d),(7,x7),(8,b)] [0,1,4,7,8,9] then aI (cx C) call rg n 95 lo 0 L kx kg kr kp m (St.mk [(0,a),(1,c),(4,d),(7,x7),(8,b),(9,p)] y) else none) λg=>kp g (St.mk [(0,A.any),(1,A.any),(4,A.any),(7,A.any),(8,A.any),(9,A.any)] e.2) else none) (kx 1 (St.mk [(0,a),(1,c),(4,d),(7,x7),(8,b),(9,x9)] H)):=r7
theorem PG (e d ui BA a:A):aI (cx C) call rg n 96 lo 0 L kx kg kr kp (m+1) (St.mk [(2,e),(3,d),(55,ui),(56,BA),(57,a)] H) =
bl .lss 3 false false a BA λi=>bn i (dV 105 ui a H λj=>
aS 107 j H λt2=>
ib 107 H λb=>
cA 107 b.1 (cw b.1 b.2 t2) b.2 lo λc=>
aS 107 b.1 c λk=>
(C 96 [snap c k]).bind λf=>
iT f 0 λl=>
iT f 1 λo=>
(mc prog UnOp.not o).bind λp=>bn p (kr (St.mk [(2,iA 0),(3,bA false),(55,ui),(56,BA),(57,a)] c)) ((GA false e [l]).bind λg=>
bl .add 3 false true a (iA 1) λh=>
gu L c λq=>bif bif Nat.beq (List.length c) L then true else aG L [(57,h),(2,g),(3,d),(55,ui),(56,BA)] [2,3,55,56,57] then aI (cx C) call rg n 96 lo 0 L kx kg kr kp m (St.mk [(2,g),(3,d),(55,ui),(56,BA),(57,h)] q) else none)) (kx 0 (St.mk [(2,e),(3,d),(55,ui),(56,BA),(57,a)] H)):=r7
theorem Dw (d a b:A):aI (cx C) call rg n 98 lo 0 L kx kg kr kp (m+1) (St.mk [(0,d),(1,a),(4,b)] H) =
bl .geq 160 false true a (A.v (.int .u64 128)) λf=>bn f ((bt prog 160 5 a H).bind λg=>
bl .or 5 false true g (A.v (.int .u8 128)) λt2=>
(bC prog 46 1 [(0,fw H t2)]).bind λh=>
(bU prog 46 46 false d h H lo).bind λc=>
bl .shr 160 false true a (A.v (.int .u64 7)) λe=>
gu L c.2 λi=>bif bif Nat.beq (List.length c.2) L then true else aG L [(1,e),(0,c.1),(4,b)] [0,1,4] then aI (cx C) call rg n 98 lo 0 L kx kg kr kp m (St.mk [(0,c.1),(1,e),(4,b)] i) else none) (kx 0 (St.mk [(0,d),(1,a),(4,b)] H)):=r7
theorem G1 (f b e sn c K6:A):aI (cx C) call rg n 101 lo 0 L kx kg kr kp (m+1) (St.mk [(0,f),(2,b),(5,e),(17,sn),(18,c),(19,K6)] H) =
bl .lss 3 false false K6 c λj=>bn j (dV 105 sn K6 H λk=>
aS 107 k H λt2=>
ib 107 H λd=>
cA 107 d.1 (cw d.1 d.2 t2) d.2 lo λa=>
aS 142 b a λl=>
fl 107 d.1 0 3 a λo=>
fO l a λp=>
dV 158 p o a λq=>
fl 141 q 0 139 a λr=>
aS 107 d.1 a λs=>ez (cx C) call r [f,s] a lo (λg h=>
bl .add 3 false true K6 (iA 1) λi=>
gu L h λt=>bif bif Nat.beq (List.length h) L then true else aG L [(19,i),(0,g),(2,b),(5,e),(17,sn),(18,c)] [0,2,5,17,18,19] then aI (cx C) call rg n 101 lo 0 L kx kg kr kp m (St.mk [(0,g),(2,b),(5,e),(17,sn),(18,c),(19,i)] t) else none) λg h=>kp g (St.mk [(0,f),(2,b),(5,e),(17,sn),(18,c),(19,K6)] h)) (kx 0 (St.mk [(0,f),(2,b),(5,e),(17,sn),(18,c),(19,K6)] H)):=r7
theorem MQ (a c b:A):aI (cx C) call rg n 102 lo 0 L kx kg kr kp (m+1) (St.mk [(1,a),(2,c),(3,b)] H) =
fl 107 a 3 105 H λe=>
eX 105 e H λt2=>
bl .lss 3 false false b t2 λf=>bn f (fl 107 a 3 105 H λg=>
dV 105 g b H λh=>
aS 107 h H λi=>
(C 102 [snap H i]).bind λj=>
(mc prog UnOp.not j).bind λk=>bn k (kr (St.mk [(1,a),(2,bA false),(3,b)] H)) (bl .add 3 false true b (iA 1) λd=>
gu L H λl=>bif bif Nat.beq (List.length H) L then true else aG L [(3,d),(1,a),(2,c)] [1,2,3] then aI (cx C) call rg n 102 lo 0 L kx kg kr kp m (St.mk [(1,a),(2,c),(3,d)] l) else none)) (kx 1 (St.mk [(1,a),(2,c),(3,b)] H)):=r7
theorem MR (a c d b:A):aI (cx C) call rg n 103 lo 0 L kx kg kr kp (m+1) (St.mk [(1,a),(2,c),(3,d),(4,b)] H) =
fl 107 a 3 105 H λg=>
eX 105 g H λt2=>
bl .lss 3 false false b t2 λh=>bn h (fl 107 a 3 105 H λi=>
dV 105 i b H λj=>
aS 107 j H λk=>
(C 103 [snap H k]).bind λl=>
(GA false d [l]).bind λe=>
bl .add 3 false true b (iA 1) λf=>
gu L H λo=>bif bif Nat.beq (List.length H) L then true else aG L [(4,f),(3,e),(1,a),(2,c)] [1,2,3,4] then aI (cx C) call rg n 103 lo 0 L kx kg kr kp m (St.mk [(1,a),(2,c),(3,e),(4,f)] o) else none) (kx 0 (St.mk [(1,a),(2,c),(3,d),(4,b)] H)):=r7
theorem MU (b e a:A):aI (cx C) call rg n 109 lo 0 L kx kg kr kp (m+1) (St.mk [(0,b),(2,e),(3,a)] H) =
(call 107 [b,iA 1] H lo).bind λH0=>ek H0.1 (λa1=>
dV 46 a1 (iA 0) H0.2 λt2=>
aS 5 t2 H0.2 λc=>
bl .eql 3 false true a (iA 0) λr=>
(dP r (some [bA true,ud,ud]) (bl .neq 5 false true c (A.v (.int .u8 0)) λi=>some [i,i,c])).bind λs=>iH s λt u7 u=>aV u λu8 l8=>
(dP t (bl .lss 3 false true a (iA 9) λf=>
(dP f (some [bA true,ud,ud]) (bl .leq 5 false true c (A.v (.int .u8 1)) λj=>some [j,j,c])).bind λw=>iH w λg k x=>aV x λl o=>some [g,g,k,l,f,f,a]) (some [bA false,ud,ud,ud,ud,ud,ud])).bind λy=>fW y λz g k l o=>iH o λab ad a0=>aV a0 λae af=>
(call 92 [b,z] H0.2 lo).bind λd=>ek d.1 (λp=>
bl .and 5 false true c (A.v (.int .u8 127)) λa2=>
(bt prog 5 160 a2 d.2).bind λa3=>
bl .mul 3 true false (iA 7) a λa4=>
bl .shl 160 false false a3 a4 λa5=>
bl .or 160 false false e a5 λh=>
bl .lss 5 false true c (A.v (.int .u8 128)) λa6=>bn a6 (kr (St.mk [(0,b),(2,h),(3,a)] d.2)) (bl .add 3 false true a (iA 1) λq=>
gu L d.2 λa7=>bif bif Nat.beq (List.length d.2) L then true else aG L [(3,q),(2,h),(0,b)] [0,2,3] then aI (cx C) call rg n 109 lo 0 L kx kg kr kp m (St.mk [(0,b),(2,h),(3,q)] a7) else none)) λp=>kp p (St.mk [(0,b),(2,e),(3,a)] d.2)) λa1=>kp a1 (St.mk [(0,b),(2,e),(3,a)] H0.2):=r7
theorem MW (a e f b:A):aI (cx C) call rg n 113 lo 0 L kx kg kr kp (m+1) (St.mk [(0,a),(2,e),(3,f),(4,b)] H) =
fO a H λt=>
fl 155 t 2 4 H λt2=>
(mc prog UnOp.not t2).bind λu=>bn u ((call 112 [a] H lo).bind λc=>ek c.1 (λd=>
bl .eql 3 false true b (iA 9) λw=>
(dP w (bl .gtr 5 false true d (A.v (.int .u8 1)) λl=>some [l,l,d]) (some [bA false,ud,ud])).bind λx=>iH x λy u9 z=>aV z λad ae=>
(dP y (some [bA true,ud,ud,ud,ud,ud,ud]) (bl .gtr 3 false true b (iA 0) λi=>
(dP i (bl .eql 5 false true d (A.v (.int .u8 0)) λo=>some [o,o,d]) (some [bA false,ud,ud])).bind λa0=>iH a0 λj p a1=>aV a1 λq r=>some [j,j,p,q,i,i,b])).bind λa2=>fW a2 λa3 j p q r=>iH r λaf ag a4=>aV a4 λah ai=>bn a3 (fO a c.2 λk=>
bX 155 k 2 c.2 λg=>
cA 4 g (cw g c.2 (bA true)) c.2 lo λa6=>kr (St.mk [(0,a),(2,A.v (.int .u64 0)),(3,f),(4,b)] a6)) (bl .rem 5 false true d (A.v (.int .u8 128)) λk=>
(bt prog 5 160 k c.2).bind λg=>
bl .mul 3 true false (iA 7) b λa7=>
bl .shl 160 false false g a7 λa8=>
bl .add 160 false false f a8 λh=>
bl .lss 5 false true d (A.v (.int .u8 128)) λa9=>bn a9 (kr (St.mk [(0,a),(2,h),(3,h),(4,b)] c.2)) (bl .add 3 false true b (iA 1) λs=>
gu L c.2 λaa=>bif bif Nat.beq (List.length c.2) L then true else aG L [(4,s),(3,h),(0,a),(2,e)] [0,2,3,4] then aI (cx C) call rg n 113 lo 0 L kx kg kr kp m (St.mk [(0,a),(2,e),(3,h),(4,s)] aa) else none))) λd=>kp d (St.mk [(0,a),(2,e),(3,f),(4,b)] c.2)) (kx 0 (St.mk [(0,a),(2,e),(3,f),(4,b)] H)):=r7
theorem G2 (n lo b lo':Nat) (f e g i:A) (H:Heap):sW (cx C) call rg n 50 lo 0 b [(2,f),(4,e),(5,g)] [i] H lo'=bif Nat.ble lo' lo then Mg H b (ib 48 H λr0=>
cA 48 r0.1 (cw r0.1 r0.2 i) r0.2 lo λH1=>Mg H1 b (fl 28 f 0 25 (List.set H1 b (aA.rng ku.busy)) λp=>
aS 48 r0.1 (List.set H1 b (aA.rng ku.busy)) λq=>
(C 25 [snap (List.set H1 b (aA.rng ku.busy)) p,snap (List.set H1 b (aA.rng ku.busy)) q]).bind λj=>
iT j 0 λr=>
iT j 1 λk=>
ib 25 (List.set H1 b (aA.rng ku.busy)) λc=>
cA 25 c.1 (cw c.1 c.2 r) c.2 lo λa=>
bl .neq 33 false true k (iA 0) λs=>bn s (aS 28 e a λh=>
cA 28 e (cw e a h) a lo λl=>
cA 33 g (cw g l k) l lo λd=>I7 d b (some (Out.ret (bA false),List.set d b (aA.rng (ku.done Lf.ret))))) (aS 25 c.1 a λh=>
bX 28 f 0 a λo=>
cA 25 o (cw o a h) a lo λd=>I7 d b (some (Out.ret (bA true),List.set d b (aA.rng ku.ready)))))) else none:=r7
end Go.Proofs.Ytebkhfhcipnfgaa
