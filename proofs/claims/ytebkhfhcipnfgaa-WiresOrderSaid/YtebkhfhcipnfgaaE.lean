/-
 What the interpreter does with the program's functions: equations, by a tool; the kernel checks each.
-/
import Derived.Test.YtebkhfhcipnfgaaIns
import Derived.Test.YtebkhfhcipnfgaaRows
namespace Go.Proofs.Ytebkhfhcipnfgaa
open Go.Proofs.Try (prog)
set_option linter.unusedVariables false
set_option linter.unusedSimpArgs false
set_option maxHeartbeats 4000000
set_option maxRecDepth 100000
set_option linter.defProp false
def Ey:List ((Nat×Nat)×List Nat):=[((5,30),[1,2,3,6,7,9,11,63,64,65,117,118,119]),((5,23),[1,2,3,6,7,9,10,11,12,63,64,65,89,90,91]),((5,16),[1,2,3,6,7,9,10,11,12,63,64,65,75,76,77]),((5,11),[1,2,3,6,7,63,64,65]),((8,5),[1,2,4]),((13,11),[1,2,3,48,49,50]),((13,5),[1,2,3,31,32,33]),((14,10),[1,2,5]),((14,4),[1,2,3]),((18,4),[0,1,4,5]),((19,39),[2,3,6,7,14,15,16,162,163,164]),((19,27),[1,2,3,6,7,14,15,16,83,84,85]),((19,16),[1,2,3,6,7,8,54,55,56]),((19,7),[1,2,3,6,7,8,9,33,34,35]),((22,9),[0,1,4,5,6]),((22,4),[0,1,4,5]),((26,3),[2,3,9,10,11]),((33,4),[1,2,15,16,17]),((34,11),[1,2,8,11,57,58,59]),((34,4),[1,2,3,4,8,27,28,29]),((35,9),[2,3,6,53,54,55]),((37,9),[1,2,4]),((37,4),[1,2,3]),((38,10),[1,2,4,5,7]),((38,5),[1,2,4,5,6]),((40,9),[2,3,4,6]),((40,4),[2,3,4,5]),((42,3),[0,1,2,6,7,8,9,10]),((47,6),[2,3,4,6,7]),((50,1000003),[2,4,5]),((55,4),[0,1,4,5]),((61,3),[0,2,3,4]),((65,2),[0,1,4,9,10,11]),((77,2),[0,1,4,7,8]),((78,4),[0,2,3,6,10,11,12,21,22,23]),((78,1),[0,2,3,10,11,12]),((81,3),[0,4,5,10,11]),((82,3),[1,4,5,9,10,11]),((86,8),[1,2,3,4]),((88,2),[0,1,4,7,8]),((91,11),[0,1,4,36,37]),((93,2),[0,3,4,7,8]),((95,21),[0,1,4,7,8,9]),((96,7),[2,3,55,56,57]),((98,1),[0,1,4]),((101,3),[0,2,5,17,18,19]),((102,8),[1,2,3]),((103,5),[1,2,3,4]),((109,3),[0,2,3]),((111,1),[0,2,3]),((113,3),[0,2,3,4])]
def JW (f r:Nat):List Nat:=vw f r Ey
def G5:List ((Nat×Nat)×List (Nat×Nat×Nat)):=[((91,11),[(4,4,5)]),((91,3000000),[(4,4,0)]),((95,21),[(8,4,5)]),((95,3000000),[(4,4,0)]),((100,2000001),[(3,0,0)]),((61,3),[(3,4,5)]),((26,3),[(3,4,5)]),((47,6),[(6,0,2)]),((19,27),[(16,0,2)]),((19,39),[(6,3,4)]),((45,3000000),[(2,0,500005)]),((46,3000000),[(2,0,500004)]),((16,2000020),[(13,0,0)])]
def MO (f r:Nat):List (Nat×Nat×Nat):=BV f r G5
def Hb:List (Nat×Nat):=[(33,115),(57,137)]
def MQ (f t:Nat):Bool:=w7 f t Hb
def KV:List (Nat×Nat):=[(45,7),(46,7)]
def Si (f t:Nat):Bool:=w7 f t KV
def EC:List (Nat×Nat):=[(11,10),(12,13),(78,43)]
def JY (f t:Nat):Bool:=w7 f t EC
def Ex:List ((Nat×Nat)×List Nat):=[]
def JV (f r:Nat):List Nat:=vw f r Ex
def Hg:List (Nat×Nat):=[(91,3),(95,2),(101,5),(98,1000)]
def MX (k:Nat):Nat:=tF k Hg
def Hr:List (Nat×Nat):=[(45,0),(84,0)]
def Na (k:Nat):Bool:=w7 k 0 Hr
noncomputable def cx (C:Nat->List A->Option A):Cx:={ P:=prog,glob:=fun _=>none,isOrc:=fun k=>Da k [20,44,45,46,50,54,57,65,78,84,89,90,91,92,95,97,98,100,101,107,109,110,112,113],isOrcV:=fun k=>Da k [20,44,45,46,50,54,57,65,78,84,89,90,91,92,95,97,98,100,101,107,109,110,112,113],C:=C,keep:=JW,wrAt:=Si,acts:=MO,loud:=JY,arr:=MQ,join:=JV,cut:=MX,fre:=Na,deep:=fun k=>iR k [],ins:=fun k=>tF k [(44,4)],insOK:=Ht Hv }
theorem J0:Nat.ble prog.funcs.size 44=false:=r7
theorem Gz:Nat.ble prog.funcs.size 45=false:=r7
theorem CW:Nat.ble prog.funcs.size 46=false:=r7
theorem GA:Nat.ble prog.funcs.size 57=false:=r7
theorem J1:Nat.ble prog.funcs.size 65=false:=r7
theorem J2:Nat.ble prog.funcs.size 84=false:=r7
theorem GB:Nat.ble prog.funcs.size 89=false:=r7
theorem o6:Nat.ble prog.funcs.size 92=false:=r7
theorem CX:Nat.ble prog.funcs.size 97=false:=r7
theorem qd:Nat.ble prog.funcs.size 98=false:=r7
theorem yG:Nat.ble prog.funcs.size 100=false:=r7
theorem Hz:Nat.ble prog.funcs.size 101=false:=r7
theorem yH:Nat.ble prog.funcs.size 107=false:=r7
theorem yI:Nat.ble prog.funcs.size 109=false:=r7
theorem CU:Nat.ble prog.funcs.size 110=false:=r7
theorem CV:Nat.ble prog.funcs.size 112=false:=r7
theorem yJ:Nat.ble prog.funcs.size 113=false:=r7
variable (C:Nat->List A->Option A) (call:aU) (rg:aU->aU)
variable (n lo L:Nat) (kx kg:Nat->St->Option R) (kr:St->Option R) (kp:A->St->Option R) (m:Nat) (H:ar)
noncomputable abbrev fB {β:Type} (l:List A) (k:A->A->List A->Option β):Option β:=cf l fun a l=>cf l fun b l=>k a b l
noncomputable abbrev eM {β:Type} (l:List A) (k:A->A->A->A->List A->Option β):Option β:=fB l fun a b l=>fB l fun c d l=>k a b c d l
noncomputable abbrev xC {β:Type} (l:List A) (k:A->A->A->A->A->A->A->A->List A->Option β):Option β:=eM l fun a b c d l=>eM l fun e f g h l=>k a b c d e f g h l
noncomputable abbrev ld:=ml prog
noncomputable abbrev Pg:=fo prog
noncomputable abbrev Sg:=iL prog
noncomputable abbrev bin:=jE prog
noncomputable abbrev Q6:=kY prog
noncomputable abbrev fl {β:Type} (t:TypeId) (x:A) (i:Nat) (u:TypeId) (H:ar) (k:A->Option β):Option β:=(Pg t x i H).bind fun a=>(ld u a H).bind k
noncomputable abbrev aN {β:Type} (t:TypeId) (a:A) (H:ar) (k:A->Option β):Option β:=(ld t a H).bind k
noncomputable abbrev bW {β:Type} (t:TypeId) (a:A) (i:Nat) (H:ar) (k:A->Option β):Option β:=(Pg t a i H).bind k
noncomputable abbrev bT {β:Type} (t:TypeId) (a v:A) (H:ar) (lo:Nat) (k:ar->Option β):Option β:=(Sg t a v H lo).bind k
noncomputable abbrev aY {β:Type} (o:BinOp) (t:TypeId) (i j:Bool) (x y:A) (k:A->Option β):Option β:=(bin o t i j x y).bind k
noncomputable abbrev ew {β:Type} (t:TypeId) (H:ar) (k:A×ar->Option β):Option β:=(Q6 t H).bind k
noncomputable abbrev kK {β:Type} (x:A) (H:ar) (k:A×ar->Option β):Option β:=(xW x H).bind k
noncomputable abbrev iU {β:Type} (x:A) (H:ar) (k:A->Option β):Option β:=(Au x H).bind k
noncomputable abbrev eN {β:Type} (t:TypeId) (x i:A) (H:ar) (k:A->Option β):Option β:=(cQ prog t x i H).bind k
noncomputable abbrev da {β:Type} (x:A) (i:Nat) (k:A->Option β):Option β:=(mi x i).bind k
noncomputable abbrev eD {β:Type} (t:TypeId) (x:A) (H:ar) (k:A->Option β):Option β:=(qP prog t x H).bind k
noncomputable abbrev lB {β:Type} (t:TypeId) (l:List (Nat×A)) (k:A->Option β):Option β:=(uJ prog t l).bind k
noncomputable abbrev np {β:Type} (L:Nat) (H:ar) (k:ar->Option β):Option β:=(trim L H).bind k
noncomputable abbrev Ez {β:Type} {γ:Type} (c:A) (w:Bool) (x y:Option γ) (k:γ->Option β):Option β:=(qa c w x y).bind k
abbrev lk (s:St) (i:Nat):A:=look (St.fr s) i
abbrev ud:A:=A.v undef
theorem e4 (x0 x1 x2:A):aB (cx C) call rg n 4 [x0,x1,x2] H lo =
kK x0 H fun b=>
(C 7 []).bind fun t1=>
(kC prog UnOp.not t1).bind fun t2=>bh t2 (some (Out.ret (bA false),b.2)) (aN 28 b.1 b.2 fun t3=>
(C 8 [snap b.2 t3]).bind fun t4=>
(kC prog UnOp.not t4).bind fun t5=>
(cJ t5 (some [bA true,ud,ud,ud]) (aN 28 b.1 b.2 fun t6=>
(C 13 [snap b.2 t6]).bind fun t7=>
aY .neq 33 false true t7 (iA 0) fun t8=>some [t8,t8,t7,t6])).bind fun l6=>eM l6 fun u7 u8 u9 e7 e8=>
(cJ u7 (some [bA true,ud,ud,ud,ud,ud]) (bW 28 b.1 0 b.2 fun ch=>
bW 25 ch 0 b.2 fun ci=>
aN 22 ci b.2 fun cj=>
eD 22 cj b.2 fun ck=>
aY .lss 3 false true ck (iA 2) fun cl=>some [cl,cl,ck,cj,ci,ch])).bind fun cs=>eM cs fun ct e9 ea eb cu=>fB cu fun ec ed ee=>bh ct (some (Out.ret (bA true),b.2)) (bW 28 b.1 0 b.2 fun cv=>
fl 25 cv 0 22 b.2 fun cw=>
eD 22 cw b.2 fun au=>
(aW prog 5 3 x1 b.2).bind fun cy=>
aY .rem 3 false false cy au fun x=>
aY .add 3 false true x (iA 1) fun cz=>
(aW prog 5 3 x2 b.2).bind fun d0=>
aY .sub 3 false true au (iA 1) fun d1=>
aY .rem 3 false false d0 d1 fun d2=>
aY .add 3 false false cz d2 fun d3=>
aY .rem 3 false false d3 au fun y=>
aY .gtr 3 false false x y fun d4=>bh d4 (aN 28 b.1 b.2 fun av=>
(C 16 [snap b.2 av,snap b.2 y]).bind fun g=>
da g 0 fun aw=>
da g 1 fun ax=>
da g 2 fun d5=>
da g 3 fun ay=>
ew 28 b.2 fun h=>
ew 41 h.2 fun i=>
bT 28 h.1 (bN h.1 i.2 aw) i.2 lo fun z=>
bT 41 i.1 (bN i.1 z ax) z lo fun j=>
aN 28 h.1 j fun az=>
aY .sub 3 false true x (iA 1) fun b0=>
(C 16 [snap j az,snap j b0]).bind fun k=>
da k 0 fun b1=>
da k 1 fun b2=>
da k 2 fun d6=>
da k 3 fun a0=>
ew 28 j fun l=>
ew 41 l.2 fun o=>
bT 28 l.1 (bN l.1 o.2 b1) o.2 lo fun a1=>
bT 41 o.1 (bN o.1 a1 b2) a1 lo fun p=>
aN 28 b.1 p fun b3=>
(C 16 [snap p b3,snap p x]).bind fun q=>
da q 0 fun b4=>
da q 1 fun b5=>
da q 2 fun d7=>
da q 3 fun a2=>
ew 28 p fun r=>
ew 41 r.2 fun s=>
bT 28 r.1 (bN r.1 s.2 b4) s.2 lo fun a3=>
bT 41 s.1 (bN s.1 a3 b5) a3 lo fun t=>
aN 28 r.1 t fun b6=>
(C 16 [snap t b6,snap t y]).bind fun u=>
da u 0 fun b7=>
da u 1 fun b8=>
da u 2 fun d8=>
da u 3 fun a4=>
ew 28 t fun v=>
ew 41 v.2 fun w=>
bT 28 v.1 (bN v.1 w.2 b7) w.2 lo fun a5=>
bT 41 w.1 (bN w.1 a5 b8) a5 lo fun c=>
aY .neq 33 false true ay (iA 0) fun b9=>
(cJ b9 (some [bA true,ud,ud]) (aY .neq 33 false true a0 (iA 0) fun a6=>some [a6,a6,a0])).bind fun ba=>fB ba fun bb d9 bc=>cf bc fun db dc=>
(cJ bb (some [bA true,ud,ud]) (aY .neq 33 false true a2 (iA 0) fun a7=>some [a7,a7,a2])).bind fun bd=>fB bd fun be dd bf=>cf bf fun de df=>
(cJ be (some [bA true,ud,ud]) (aY .neq 33 false true a4 (iA 0) fun a8=>some [a8,a8,a4])).bind fun bg=>fB bg fun bi dg bj=>cf bj fun dh di=>bh bi (some (Out.ret (bA false),c)) (bW 28 b.1 0 c fun bk=>
fl 25 bk 0 22 c fun bl=>
eN 22 bl y c fun bm=>
fl 48 bm 2 46 c fun bn=>
(C 17 [snap c bn]).bind fun a9=>
da a9 0 fun bo=>
da a9 1 fun bp=>
ew 30 c fun d=>
bT 30 d.1 (bN d.1 d.2 bo) d.2 lo fun f=>
bW 28 b.1 0 f fun bq=>
fl 25 bq 0 22 f fun br=>
eN 22 br x f fun bs=>
fl 48 bs 2 46 f fun bt=>
(C 17 [snap f bt]).bind fun aa=>
da aa 0 fun bu=>
da aa 1 fun ab=>
ew 30 f fun e=>
bT 30 e.1 (bN e.1 e.2 bu) e.2 lo fun a=>
(cJ bp (some [ab,ab]) (some [bA false,ud])).bind fun bv=>fB bv fun bw dj dk=>
(cJ bw (bW 30 d.1 1 a fun ad=>
aN 3 ad a fun ae=>
bW 30 e.1 1 a fun af=>
aN 3 af a fun ag=>
aY .eql 3 false false ae ag fun ah=>some [ah,ah,ag,af,ae,ad]) (some [bA false,ud,ud,ud,ud,ud])).bind fun bx=>eM bx fun bz dl dm dn c0=>fB c0 fun dp dq dr=>
(cJ bz (bW 30 d.1 2 a fun ai=>
aN 3 ai a fun aj=>
bW 30 e.1 2 a fun ak=>
aN 3 ak a fun al=>
aY .eql 3 false false aj al fun am=>some [am,am,al,ak,aj,ai]) (some [bA false,ud,ud,ud,ud,ud])).bind fun c1=>eM c1 fun c2 ds dt du c3=>fB c3 fun dv dw dx=>
(cJ c2 (bW 30 d.1 0 a fun an=>
aN 3 an a fun ao=>
bW 30 e.1 0 a fun ap=>
aN 3 ap a fun aq=>
aY .eql 3 false false ao aq fun ar=>some [ar,ar,aq,ap,ao,an]) (some [bA false,ud,ud,ud,ud,ud])).bind fun c4=>eM c4 fun c5 dy dz e0 c6=>fB c6 fun e1 e2 e3=>bh c5 (some (Out.ret (bA true),a)) (aN 28 l.1 a fun c7=>
aN 28 v.1 a fun c8=>
(C 15 [snap a c7,snap a c8]).bind fun c9=>some (Out.ret c9,a)))) (aN 28 b.1 b.2 fun av=>
(C 16 [snap b.2 av,snap b.2 x]).bind fun g=>
da g 0 fun aw=>
da g 1 fun ax=>
da g 2 fun d5=>
da g 3 fun ay=>
ew 28 b.2 fun h=>
ew 41 h.2 fun i=>
bT 28 h.1 (bN h.1 i.2 aw) i.2 lo fun z=>
bT 41 i.1 (bN i.1 z ax) z lo fun j=>
aN 28 h.1 j fun az=>
aY .sub 3 false true y (iA 1) fun b0=>
(C 16 [snap j az,snap j b0]).bind fun k=>
da k 0 fun b1=>
da k 1 fun b2=>
da k 2 fun d6=>
da k 3 fun a0=>
ew 28 j fun l=>
ew 41 l.2 fun o=>
bT 28 l.1 (bN l.1 o.2 b1) o.2 lo fun a1=>
bT 41 o.1 (bN o.1 a1 b2) a1 lo fun p=>
aN 28 b.1 p fun b3=>
(C 16 [snap p b3,snap p y]).bind fun q=>
da q 0 fun b4=>
da q 1 fun b5=>
da q 2 fun d7=>
da q 3 fun a2=>
ew 28 p fun r=>
ew 41 r.2 fun s=>
bT 28 r.1 (bN r.1 s.2 b4) s.2 lo fun a3=>
bT 41 s.1 (bN s.1 a3 b5) a3 lo fun t=>
aN 28 r.1 t fun b6=>
(C 16 [snap t b6,snap t x]).bind fun u=>
da u 0 fun b7=>
da u 1 fun b8=>
da u 2 fun d8=>
da u 3 fun a4=>
ew 28 t fun v=>
ew 41 v.2 fun w=>
bT 28 v.1 (bN v.1 w.2 b7) w.2 lo fun a5=>
bT 41 w.1 (bN w.1 a5 b8) a5 lo fun c=>
aY .neq 33 false true ay (iA 0) fun b9=>
(cJ b9 (some [bA true,ud,ud]) (aY .neq 33 false true a0 (iA 0) fun a6=>some [a6,a6,a0])).bind fun ba=>fB ba fun bb d9 bc=>cf bc fun db dc=>
(cJ bb (some [bA true,ud,ud]) (aY .neq 33 false true a2 (iA 0) fun a7=>some [a7,a7,a2])).bind fun bd=>fB bd fun be dd bf=>cf bf fun de df=>
(cJ be (some [bA true,ud,ud]) (aY .neq 33 false true a4 (iA 0) fun a8=>some [a8,a8,a4])).bind fun bg=>fB bg fun bi dg bj=>cf bj fun dh di=>bh bi (some (Out.ret (bA false),c)) (bW 28 b.1 0 c fun bk=>
fl 25 bk 0 22 c fun bl=>
eN 22 bl x c fun bm=>
fl 48 bm 2 46 c fun bn=>
(C 17 [snap c bn]).bind fun a9=>
da a9 0 fun bo=>
da a9 1 fun bp=>
ew 30 c fun d=>
bT 30 d.1 (bN d.1 d.2 bo) d.2 lo fun f=>
bW 28 b.1 0 f fun bq=>
fl 25 bq 0 22 f fun br=>
eN 22 br y f fun bs=>
fl 48 bs 2 46 f fun bt=>
(C 17 [snap f bt]).bind fun aa=>
da aa 0 fun bu=>
da aa 1 fun ab=>
ew 30 f fun e=>
bT 30 e.1 (bN e.1 e.2 bu) e.2 lo fun a=>
(cJ bp (some [ab,ab]) (some [bA false,ud])).bind fun bv=>fB bv fun bw dj dk=>
(cJ bw (bW 30 d.1 1 a fun ad=>
aN 3 ad a fun ae=>
bW 30 e.1 1 a fun af=>
aN 3 af a fun ag=>
aY .eql 3 false false ae ag fun ah=>some [ah,ah,ag,af,ae,ad]) (some [bA false,ud,ud,ud,ud,ud])).bind fun bx=>eM bx fun bz dl dm dn c0=>fB c0 fun dp dq dr=>
(cJ bz (bW 30 d.1 2 a fun ai=>
aN 3 ai a fun aj=>
bW 30 e.1 2 a fun ak=>
aN 3 ak a fun al=>
aY .eql 3 false false aj al fun am=>some [am,am,al,ak,aj,ai]) (some [bA false,ud,ud,ud,ud,ud])).bind fun c1=>eM c1 fun c2 ds dt du c3=>fB c3 fun dv dw dx=>
(cJ c2 (bW 30 d.1 0 a fun an=>
aN 3 an a fun ao=>
bW 30 e.1 0 a fun ap=>
aN 3 ap a fun aq=>
aY .eql 3 false false ao aq fun ar=>some [ar,ar,aq,ap,ao,an]) (some [bA false,ud,ud,ud,ud,ud])).bind fun c4=>eM c4 fun c5 dy dz e0 c6=>fB c6 fun e1 e2 e3=>bh c5 (some (Out.ret (bA true),a)) (aN 28 l.1 a fun c7=>
aN 28 v.1 a fun c8=>
(C 15 [snap a c7,snap a c8]).bind fun c9=>some (Out.ret c9,a)))))):=r7
theorem e7:aB (cx C) call rg n 7 [] H lo =
(C 11 [snap H (iA 2)]).bind fun t0=>
da t0 0 fun t1=>
da t0 1 fun t2=>
ew 28 H fun c=>
bT 28 c.1 (bN c.1 c.2 t1) c.2 lo fun H4=>
(C 11 [snap H4 (iA 0)]).bind fun t5=>
da t5 0 fun t6=>
da t5 1 fun t7=>
ew 28 H4 fun v=>
bT 28 v.1 (bN v.1 v.2 t6) v.2 lo fun H9=>
(C 11 [snap H9 (iA 13)]).bind fun ap=>
da ap 0 fun ec=>
da ap 1 fun aq=>
ew 28 H9 fun w=>
bT 28 w.1 (bN w.1 w.2 ec) w.2 lo fun x=>
aN 28 c.1 x fun ed=>
lB 30 [(3,iA 9)] fun ee=>
(C 9 [snap x ed,snap x ee]).bind fun ar=>
da ar 0 fun ef=>
da ar 1 fun au=>
ew 28 x fun y=>
bT 28 y.1 (bN y.1 y.2 ef) y.2 lo fun z=>
aN 28 c.1 z fun eg=>
(C 21 [snap z eg,snap z (iA 0)]).bind fun av=>
da av 0 fun eh=>
da av 1 fun aw=>
ew 28 z fun a0=>
bT 28 a0.1 (bN a0.1 a0.2 eh) a0.2 lo fun h=>
aN 28 c.1 h fun ei=>
(aG prog 50 2 [(0,cY h (iA 0)),(1,cY h (iA 2))]).bind fun ej=>
(C 19 [snap h ei,snap h (A.imm [] true),snap h ej]).bind fun ax=>
da ax 0 fun ek=>
da ax 1 fun ay=>
ew 28 h fun a1=>
bT 28 a1.1 (bN a1.1 a1.2 ek) a1.2 lo fun a2=>
aN 28 c.1 a2 fun el=>
(C 16 [snap a2 el,snap a2 (iA 0)]).bind fun a3=>
da a3 0 fun em=>
da a3 1 fun en=>
da a3 2 fun ij=>
da a3 3 fun az=>
ew 28 a2 fun aj=>
ew 41 aj.2 fun HX=>
bT 28 aj.1 (bN aj.1 HX.2 em) HX.2 lo fun b0=>
bT 41 HX.1 (bN HX.1 b0 en) b0 lo fun d=>
aY .neq 33 false true t2 (iA 0) fun eo=>
(cJ eo (some [bA true,ud,ud]) (aY .neq 33 false true t7 (iA 1) fun b1=>some [b1,b1,t7])).bind fun ep=>fB ep fun er ik es=>cf es fun il im=>
(cJ er (some [bA true,ud,ud]) (aY .neq 33 false true aq (iA 1) fun b2=>some [b2,b2,aq])).bind fun et=>fB et fun eu io ev=>cf ev fun ip iq=>
(cJ eu (some [bA true,ud,ud]) (aY .neq 33 false true au (iA 1) fun b3=>some [b3,b3,au])).bind fun ex=>fB ex fun ey ir ez=>cf ez fun it iu=>
(cJ ey (some [bA true,ud,ud]) (aY .neq 33 false true aw (iA 1) fun b4=>some [b4,b4,aw])).bind fun f0=>fB f0 fun f1 iv f2=>cf f2 fun iw ix=>
(cJ f1 (some [bA true,ud,ud]) (aY .neq 33 false true ay (iA 1) fun b5=>some [b5,b5,ay])).bind fun f3=>fB f3 fun f4 iy f5=>cf f5 fun iz j0=>
(cJ f4 (some [bA true,ud,ud]) (aY .neq 33 false true az (iA 1) fun b6=>some [b6,b6,az])).bind fun f6=>fB f6 fun f7 j1 f8=>cf f8 fun j2 j3=>
(cJ f7 (some [bA true,ud,ud,ud,ud]) (bW 28 c.1 1 d fun b7=>
aN 26 b7 d fun b8=>
eD 26 b8 d fun b9=>
aY .neq 3 false true b9 (iA 2) fun ba=>some [ba,ba,b9,b8,b7])).bind fun f9=>eM f9 fun fa j4 j5 j6 fb=>cf fb fun j7 j8=>
(cJ fa (some [bA true,ud,ud,ud]) (aN 28 c.1 d fun bb=>
(C 13 [snap d bb]).bind fun bc=>
aY .neq 33 false true bc (iA 0) fun bd=>some [bd,bd,bc,bb])).bind fun fc=>eM fc fun fd j9 ja jb jc=>
(cJ fd (some [bA true,ud,ud,ud]) (lB 28 [] fun be=>
(C 13 [snap d be]).bind fun bf=>
aY .neq 33 false true bf (iA 490) fun bg=>some [bg,bg,bf,be])).bind fun fe=>eM fe fun ff jd je jf jg=>bh ff (some (Out.ret (bA false),d)) (aN 28 c.1 d fun fg=>
lB 30 [(0,iA 4),(3,iA 2)] fun fh=>
(C 9 [snap d fg,snap d fh]).bind fun bi=>
da bi 0 fun fi=>
da bi 1 fun fj=>
ew 28 d fun l=>
bT 28 l.1 (bN l.1 l.2 fi) l.2 lo fun a4=>
aN 28 l.1 a4 fun fk=>
lB 30 [(0,iA 5),(3,iA 3)] fun fm=>
(C 9 [snap a4 fk,snap a4 fm]).bind fun bj=>
da bj 0 fun fn=>
da bj 1 fun bk=>
ew 28 a4 fun o=>
bT 28 o.1 (bN o.1 o.2 fn) o.2 lo fun a5=>
aN 28 o.1 a5 fun fo=>
lB 30 [(0,iA 6),(1,iA 1),(3,iA 3)] fun fp=>
(C 9 [snap a5 fo,snap a5 fp]).bind fun bl=>
da bl 0 fun fq=>
da bl 1 fun bm=>
ew 28 a5 fun p=>
bT 28 p.1 (bN p.1 p.2 fq) p.2 lo fun a6=>
aN 28 p.1 a6 fun fr=>
(C 16 [snap a6 fr,snap a6 (iA 1)]).bind fun a7=>
da a7 0 fun fs=>
da a7 1 fun ft=>
da a7 2 fun bn=>
da a7 3 fun bo=>
ew 28 a6 fun a8=>
ew 41 a8.2 fun a9=>
bT 28 a8.1 (bN a8.1 a9.2 fs) a9.2 lo fun bp=>
bT 41 a9.1 (bN a9.1 bp ft) bp lo fun aa=>
aN 28 a8.1 aa fun fu=>
(C 16 [snap aa fu,snap aa (iA 0)]).bind fun ab=>
da ab 0 fun fv=>
da ab 1 fun fw=>
da ab 2 fun jh=>
da ab 3 fun bq=>
ew 28 aa fun e=>
ew 41 e.2 fun ad=>
bT 28 e.1 (bN e.1 ad.2 fv) ad.2 lo fun br=>
bT 41 ad.1 (bN ad.1 br fw) br lo fun i=>
aN 28 e.1 i fun fx=>
(aG prog 50 2 [(0,cY i (iA 0)),(1,cY i (iA 1))]).bind fun fy=>
(C 19 [snap i fx,snap i (A.imm [] true),snap i fy]).bind fun bs=>
da bs 0 fun fz=>
da bs 1 fun bt=>
ew 28 i fun f=>
bT 28 f.1 (bN f.1 f.2 fz) f.2 lo fun j=>
aN 28 e.1 j fun g0=>
(aG prog 50 2 [(0,cY j (iA 0)),(1,cY j (iA 0))]).bind fun g1=>
(C 19 [snap j g0,snap j (A.imm [] true),snap j g1]).bind fun bu=>
da bu 0 fun g2=>
da bu 1 fun bv=>
ew 28 j fun q=>
bT 28 q.1 (bN q.1 q.2 g2) q.2 lo fun g=>
aN 28 e.1 g fun g3=>
(aG prog 50 1 [(0,cY g (iA 0))]).bind fun g4=>
(aG prog 50 2 [(0,cY g (iA 0)),(1,cY g (iA 1))]).bind fun g5=>
(C 19 [snap g g3,snap g g4,snap g g5]).bind fun bw=>
da bw 0 fun g6=>
da bw 1 fun bx=>
ew 28 g fun r=>
bT 28 r.1 (bN r.1 r.2 g6) r.2 lo fun a=>
aY .neq 33 false true fj (iA 0) fun g7=>
(cJ g7 (some [bA true,ud,ud]) (aY .neq 33 false true bk (iA 0) fun bz=>some [bz,bz,bk])).bind fun g8=>fB g8 fun g9 ji ga=>cf ga fun jj jk=>
(cJ g9 (some [bA true,ud,ud]) (aY .neq 33 false true bm (iA 0) fun c0=>some [c0,c0,bm])).bind fun gb=>fB gb fun gc jl gd=>cf gd fun jm jn=>
(cJ gc (some [bA true,ud,ud]) (aY .neq 33 false true bo (iA 0) fun c1=>some [c1,c1,bo])).bind fun ge=>fB ge fun gf jo gg=>cf gg fun jp jq=>
(cJ gf (some [bA true,ud,ud]) (aY .neq 33 false true bq (iA 0) fun c2=>some [c2,c2,bq])).bind fun gh=>fB gh fun gi jr gj=>cf gj fun js jt=>
(cJ gi (some [bA true,ud,ud]) (aY .neq 33 false true bt (iA 0) fun c3=>some [c3,c3,bt])).bind fun gk=>fB gk fun gl ju gm=>cf gm fun jv jw=>
(cJ gl (some [bA true,ud,ud]) (aY .neq 33 false true bv (iA 0) fun c4=>some [c4,c4,bv])).bind fun gn=>fB gn fun go jx gp=>cf gp fun jy jz=>
(cJ go (some [bA true,ud,ud]) (aY .neq 33 false true bx (iA 0) fun c5=>some [c5,c5,bx])).bind fun gq=>fB gq fun gr k0 gs=>cf gs fun k1 k2=>
(cJ gr (some [bA true,ud]) (some [bn,bn])).bind fun gt=>fB gt fun gu k3 k4=>bh gu (some (Out.ret (bA false),a)) (fl 28 e.1 1 26 a fun gv=>
eD 26 gv a fun gw=>
aY .neq 3 false true gw (iA 2) fun gx=>
(cJ gx (some [bA true,ud,ud,ud,ud,ud,ud,ud]) (bW 28 e.1 1 a fun c6=>
aN 26 c6 a fun c7=>
eN 26 c7 (iA 0) a fun c8=>
bW 55 c8 0 a fun c9=>
aN 53 c9 a fun ca=>
eD 53 ca a fun cb=>
aY .neq 3 false true cb (iA 1) fun cc=>some [cc,cc,cb,ca,c9,c8,c7,c6])).bind fun gy=>xC gy fun gz k5 k6 k7 k8 k9 ka kb kc=>
(cJ gz (some [bA true,ud,ud,ud,ud,ud,ud,ud,ud,ud]) (bW 28 e.1 1 a fun cd=>
aN 26 cd a fun ce=>
eN 26 ce (iA 0) a fun cg=>
bW 55 cg 0 a fun ch=>
aN 53 ch a fun ci=>
eN 53 ci (iA 0) a fun cj=>
aN 30 cj a fun ck=>
lB 30 [(0,iA 5),(3,iA 3)] fun cl=>
aY .neq 30 false false ck cl fun cm=>some [cm,cm,cl,ck,cj,ci,ch,cg,ce,cd])).bind fun h0=>xC h0 fun h1 kd ke kf kh ki kj kk h2=>fB h2 fun kl km kn=>
(cJ h1 (some [bA true,ud,ud,ud,ud,ud]) (bW 28 e.1 0 a fun cn=>
bW 25 cn 0 a fun co=>
aN 22 co a fun cp=>
eD 22 cp a fun cq=>
aY .neq 3 false true cq (iA 1) fun cr=>some [cr,cr,cq,cp,co,cn])).bind fun h3=>eM h3 fun h4 ko kq ks h5=>fB h5 fun kt ku kv=>bh h4 (some (Out.ret (bA false),a)) (fl 28 f.1 1 26 a fun h6=>
(aG prog 50 1 [(0,cY a (iA 3))]).bind fun h7=>
(aG prog 50 1 [(0,cY a (iA 3))]).bind fun h8=>
lB 55 [(1,h7),(2,h8)] fun h9=>
(aG prog 50 1 [(0,cY a (iA 0))]).bind fun ha=>
(aG prog 50 1 [(0,cY a (iA 0))]).bind fun hb=>
lB 55 [(1,ha),(2,hb)] fun hc=>
(aG prog 26 2 [(0,cY a h9),(1,cY a hc)]).bind fun hd=>
(C 22 [snap a h6,snap a hd]).bind fun he=>
(kC prog UnOp.not he).bind fun hf=>
(cJ hf (some [bA true,ud,ud,ud,ud,ud,ud,ud,ud,ud,ud,ud]) (bW 28 q.1 1 a fun cs=>
aN 26 cs a fun ct=>
(aG prog 50 1 [(0,cY a (iA 3))]).bind fun cu=>
(aG prog 50 1 [(0,cY a (iA 0))]).bind fun cv=>
lB 55 [(1,cu),(2,cv)] fun cw=>
(aG prog 50 1 [(0,cY a (iA 0))]).bind fun cy=>
(aG prog 50 1 [(0,cY a (iA 0))]).bind fun cz=>
lB 55 [(1,cy),(2,cz)] fun d0=>
(aG prog 26 2 [(0,cY a cw),(1,cY a d0)]).bind fun d1=>
(C 22 [snap a ct,snap a d1]).bind fun d2=>
(kC prog UnOp.not d2).bind fun d3=>some [d3,d3,d2,d1,d0,cz,cy,cw,cv,cu,ct,cs])).bind fun hg=>xC hg fun hh kw ky kz l0 l1 l2 l3 hi=>eM hi fun l4 l5 l6 l7 l8=>
(cJ hh (some [bA true,ud,ud,ud,ud,ud,ud,ud,ud,ud,ud,ud]) (bW 28 r.1 1 a fun d4=>
aN 26 d4 a fun d5=>
(aG prog 50 1 [(0,cY a (iA 0))]).bind fun d6=>
(aG prog 50 1 [(0,cY a (iA 0))]).bind fun d7=>
lB 55 [(1,d6),(2,d7)] fun d8=>
(aG prog 50 1 [(0,cY a (iA 0))]).bind fun d9=>
(aG prog 50 1 [(0,cY a (iA 0))]).bind fun db=>
lB 55 [(1,d9),(2,db)] fun dc=>
(aG prog 26 2 [(0,cY a d8),(1,cY a dc)]).bind fun dd=>
(C 22 [snap a d5,snap a dd]).bind fun de=>
(kC prog UnOp.not de).bind fun df=>some [df,df,de,dd,dc,db,d9,d8,d7,d6,d5,d4])).bind fun hj=>xC hj fun hk l9 la lb lc ld le lf hl=>eM hl fun lg lh li lj lk=>bh hk (some (Out.ret (bA false),a)) (aN 28 f.1 a fun hm=>
(C 16 [snap a hm,snap a (iA 0)]).bind fun ae=>
da ae 0 fun hn=>
da ae 1 fun ho=>
da ae 2 fun ll=>
da ae 3 fun hp=>
ew 28 a fun s=>
ew 41 s.2 fun af=>
bT 28 s.1 (bN s.1 af.2 hn) af.2 lo fun dg=>
bT 41 af.1 (bN af.1 dg ho) dg lo fun b=>
aY .neq 33 false true hp (iA 0) fun hq=>
(cJ hq (some [bA true,ud,ud,ud]) (bW 28 f.1 2 b fun dh=>
aN 3 dh b fun di=>
aY .neq 3 false true di (iA 1) fun dj=>some [dj,dj,di,dh])).bind fun hr=>eM hr fun hs lm ln lp lq=>
(cJ hs (some [bA true,ud,ud,ud,ud,ud]) (bW 28 f.1 0 b fun dk=>
bW 25 dk 0 b fun dl=>
aN 22 dl b fun dm=>
eD 22 dm b fun dn=>
aY .neq 3 false true dn (iA 3) fun dp=>some [dp,dp,dn,dm,dl,dk])).bind fun ht=>eM ht fun hu lr ls lt hv=>fB hv fun lu lv lw=>
(cJ hu (some [bA true,ud,ud,ud,ud,ud,ud]) (bW 28 s.1 1 b fun dq=>
aN 26 dq b fun dr=>
bW 28 f.1 1 b fun ds=>
aN 26 ds b fun dt=>
(C 22 [snap b dr,snap b dt]).bind fun du=>
(kC prog UnOp.not du).bind fun dv=>some [dv,dv,du,dt,ds,dr,dq])).bind fun hw=>eM hw fun hx lx ly lz hy=>fB hy fun m0 m1 hz=>cf hz fun m2 m3=>bh hx (some (Out.ret (bA false),b)) (aN 28 s.1 b fun i0=>
(C 16 [snap b i0,snap b (iA 0)]).bind fun ag=>
da ag 0 fun i1=>
da ag 1 fun i2=>
da ag 2 fun dw=>
da ag 3 fun i3=>
ew 28 b fun ah=>
ew 41 ah.2 fun t=>
bT 28 ah.1 (bN ah.1 t.2 i1) t.2 lo fun dx=>
bT 41 t.1 (bN t.1 dx i2) dx lo fun ai=>
aN 28 ah.1 ai fun i4=>
(C 21 [snap ai i4,snap ai (iA 0)]).bind fun dy=>
da dy 0 fun i5=>
da dy 1 fun dz=>
ew 28 ai fun u=>
bT 28 u.1 (bN u.1 u.2 i5) u.2 lo fun k=>
aY .eql 33 false true i3 (iA 0) fun i6=>
(cJ i6 (aY .eql 33 false true dz (iA 0) fun e0=>some [e0,e0,dz]) (some [bA false,ud,ud])).bind fun i7=>fB i7 fun i8 m4 i9=>cf i9 fun m5 m6=>
(cJ i8 (some [dw,dw]) (some [bA false,ud])).bind fun ia=>fB ia fun ib m7 m8=>
(cJ ib (aN 41 t.1 k fun e1=>
lB 41 [(2,iA 3)] fun e2=>
aY .eql 41 false false e1 e2 fun e3=>some [e3,e3,e2,e1]) (some [bA false,ud,ud,ud])).bind fun ic=>eM ic fun ie m9 ma mb mc=>
(cJ ie (bW 28 u.1 0 k fun e4=>
bW 25 e4 0 k fun e5=>
aN 22 e5 k fun e6=>
eD 22 e6 k fun e8=>
aY .eql 3 false true e8 (iA 2) fun e9=>some [e9,e9,e8,e6,e5,e4]) (some [bA false,ud,ud,ud,ud,ud])).bind fun ig=>eM ig fun ih md me mf ii=>fB ii fun mg mh mi=>some (Out.ret ih,k)))))):=r7
theorem e8 (d:A):aB (cx C) call rg n 8 [d] H lo =
kK d H fun a=>
fl 28 a.1 0 25 a.2 fun t2=>
(C 23 [snap a.2 t2]).bind fun j=>
(kC prog UnOp.not j).bind fun k=>
(cJ k (some [bA true,ud,ud,ud,ud]) (bW 28 a.1 1 a.2 fun e=>
aN 26 e a.2 fun f=>
eD 26 f a.2 fun g=>
aY .gtr 3 false true g (iA 20) fun h=>some [h,h,g,f,e])).bind fun l=>eM l fun o q r s p=>cf p fun t u=>bh o (some (Out.ret (bA false),a.2)) (aI (cx C) call rg n 8 lo 0 (List.length a.2) (fun b c=>bif Nat.beq b 0 then some (Out.ret (bA true),St.H c) else none) (fun b c=>none) (fun i=>some (Out.ret (lk i 2),St.H i)) (fun b c=>some (Out.pan b,St.H c)) n (St.mk [(1,a.1),(2,bA false),(4,iA 0)] a.2)):=r7
theorem e9 (l o:A):aB (cx C) call rg n 9 [l,o] H lo =
kK l H fun b=>
kK o b.2 fun d=>
ew 28 d.2 fun a=>
aN 28 b.1 a.2 fun x=>
(C 13 [snap a.2 x]).bind fun p=>
aY .neq 33 false true p (iA 0) fun y=>bh y (aN 28 a.1 a.2 fun h=>
bT 28 a.1 (bN a.1 a.2 h) a.2 lo fun q=>
aN 28 a.1 q fun i=>some (Out.ret (A.tup [i,p]),q)) (aN 30 d.1 a.2 fun h=>
fl 28 b.1 1 26 a.2 fun i=>
eD 26 i a.2 fun z=>
(C 24 [snap a.2 h,snap a.2 z]).bind fun a0=>
(kC prog UnOp.not a0).bind fun a1=>bh a1 (aN 28 a.1 a.2 fun f=>
bT 28 a.1 (bN a.1 a.2 f) a.2 lo fun r=>
aN 28 a.1 r fun g=>some (Out.ret (A.tup [g,iA 1]),r)) (bW 28 b.1 0 a.2 fun f=>
aN 25 f a.2 fun a2=>
bW 30 d.1 1 a.2 fun g=>
aN 3 g a.2 fun a3=>
aY .add 3 false true a3 (iA 1) fun a4=>
aN 30 d.1 a.2 fun a5=>
lB 75 [(0,iA 1),(1,a5)] fun a6=>
(C 26 [snap a.2 a6]).bind fun a7=>
lB 48 [(1,a4),(2,a7)] fun a8=>
(C 25 [snap a.2 a2,snap a.2 a8]).bind fun s=>
da s 0 fun a9=>
da s 1 fun t=>bif bif apart d.1 A.any then bif apart g A.any then bif apart d.1 A.any then bif apart f A.any then bif apart b.1 A.any then true else false else false else false else false else false then
ew 25 a.2 fun e=>
bT 25 e.1 (bN e.1 e.2 a9) e.2 lo fun c=>
aY .neq 33 false true t (iA 0) fun aa=>bh aa (aN 28 a.1 c fun j=>
bT 28 a.1 (bN a.1 c j) c lo fun u=>
aN 28 a.1 u fun ab=>some (Out.ret (A.tup [ab,t]),u)) (aN 25 e.1 c fun j=>
bW 28 b.1 0 c fun v=>
bT 25 v (bN v c j) c lo fun k=>
aN 28 b.1 k fun ad=>
bT 28 a.1 (bN a.1 k ad) k lo fun w=>
aN 28 a.1 w fun ae=>some (Out.ret (A.tup [ae,iA 0]),w)) else none)):=r7
theorem Q8 (b:A):aB (cx C) call rg n 11 [b] H lo =
ew 28 H fun a=>
(C 30 [snap a.2 b,snap a.2 (iA 1),snap a.2 (iA 12)]).bind fun h=>
(kC prog UnOp.not h).bind fun t2=>bh t2 (aN 28 a.1 a.2 fun c=>
bT 28 a.1 (bN a.1 a.2 c) a.2 lo fun f=>
aN 28 a.1 f fun d=>some (Out.ret (A.tup [d,iA 1]),f)) ((C 31 []).bind fun c=>
(gG prog 26 b b a.2).bind fun e=>
lB 28 [(0,c),(1,e.1)] fun d=>
bT 28 a.1 (bN a.1 e.2 d) e.2 lo fun g=>
aN 28 a.1 g fun i=>some (Out.ret (A.tup [i,iA 0]),g)):=r7
theorem Q9 (f:A):aB (cx C) call rg n 13 [f] H lo =
kK f H fun a=>
fl 28 a.1 1 26 a.2 fun t2=>
eD 26 t2 a.2 fun g=>
(C 30 [snap a.2 g,snap a.2 (iA 1),snap a.2 (iA 12)]).bind fun v=>
(kC prog UnOp.not v).bind fun w=>
(cJ w (some [bA true,ud,ud,ud,ud]) (bW 28 a.1 2 a.2 fun h=>
aN 3 h a.2 fun i=>
(C 30 [snap a.2 i,snap a.2 (iA 0),snap a.2 (iA 4096)]).bind fun j=>
(kC prog UnOp.not j).bind fun k=>some [k,k,j,i,h])).bind fun x=>eM x fun y u8 u9 a8 z=>cf z fun a9 aa=>
(cJ y (some [bA true,ud,ud,ud,ud]) (bW 28 a.1 0 a.2 fun l=>
aN 25 l a.2 fun o=>
(C 33 [snap a.2 o]).bind fun p=>
aY .neq 33 false true p (iA 0) fun q=>some [q,q,p,o,l])).bind fun a0=>eM a0 fun a1 ab ad ae a2=>cf a2 fun af ag=>bh a1 (some (Out.ret (iA 490),a.2)) (fl 28 a.1 1 26 a.2 fun r=>
eD 26 r a.2 fun a3=>aI (cx C) call rg n 13 lo 0 (List.length a.2) (fun c b=>bif Nat.beq c 0 then
bW 28 (lk b 1) 0 (St.H b) fun a4=>
fl 25 a4 0 22 (St.H b) fun s=>
eD 22 s (St.H b) fun a5=>aI (cx C) call rg n 13 lo 1 (List.length (St.H b)) (fun d e=>bif Nat.beq d 2 then some (Out.ret (iA 0),St.H e) else none) (fun d e=>none) (fun t=>some (Out.ret (lk t 2),St.H t)) (fun d e=>some (Out.pan d,St.H e)) n (St.mk [(1,lk b 1),(2,lk b 2),(3,lk b 3),(48,s),(49,a5),(50,iA 0)] (St.H b)) else none) (fun c b=>none) (fun u=>some (Out.ret (lk u 2),St.H u)) (fun c b=>some (Out.pan c,St.H b)) n (St.mk [(1,a.1),(2,iA 0),(3,g),(31,r),(32,a3),(33,iA 0)] a.2)):=r7
theorem Ra (c d:A):aB (cx C) call rg n 15 [c,d] H lo =
kK c H fun b=>
kK d b.2 fun a=>
fl 28 b.1 2 3 a.2 fun q=>
fl 28 a.1 2 3 a.2 fun r=>
aY .eql 3 false false q r fun s=>
(cJ s (bW 28 b.1 1 a.2 fun e=>
aN 26 e a.2 fun f=>
bW 28 a.1 1 a.2 fun g=>
aN 26 g a.2 fun h=>
(C 22 [snap a.2 f,snap a.2 h]).bind fun i=>some [i,i,h,g,f,e]) (some [bA false,ud,ud,ud,ud,ud])).bind fun t=>eM t fun u z a0 a1 v=>fB v fun a2 a3 a4=>
(cJ u (bW 28 b.1 0 a.2 fun j=>
aN 25 j a.2 fun k=>
bW 28 a.1 0 a.2 fun l=>
aN 25 l a.2 fun o=>
(C 40 [snap a.2 k,snap a.2 o]).bind fun p=>some [p,p,o,l,k,j]) (some [bA false,ud,ud,ud,ud,ud])).bind fun w=>eM w fun x a5 a6 a7 y=>fB y fun a8 a9 aa=>some (Out.ret x,a.2):=r7
theorem Rb (x0 x1:A):aB (cx C) call rg n 16 [x0,x1] H lo =
kK x0 H fun d=>
ew 28 d.2 fun b=>
ew 41 b.2 fun a=>
aN 28 d.1 a.2 fun t3=>
(C 13 [snap a.2 t3]).bind fun t4=>
aY .neq 33 false true t4 (iA 0) fun t5=>bh t5 (aN 28 b.1 a.2 fun t6=>
aN 41 a.1 a.2 fun t7=>bif bif apart a.1 b.1 then true else false then
bT 28 b.1 (bN b.1 a.2 t6) a.2 lo fun H8=>
bT 41 a.1 (bN a.1 H8 t7) H8 lo fun H9=>
aN 28 b.1 H9 fun ag=>
aN 41 a.1 H9 fun a3=>some (Out.ret (A.tup [ag,a3,bA false,t4]),H9) else none) (fl 28 d.1 0 25 a.2 fun t7=>
(C 41 [snap a.2 t7,snap a.2 x1]).bind fun t8=>
da t8 0 fun t9=>
da t8 1 fun ag=>
da t8 2 fun a3=>
ew 48 a.2 fun a4=>
ew 25 a4.2 fun u=>
bT 48 a4.1 (bN a4.1 u.2 t9) u.2 lo fun b7=>
bT 25 u.1 (bN u.1 b7 ag) b7 lo fun j=>
aY .neq 33 false true a3 (iA 0) fun bp=>bh bp (aN 28 b.1 j fun ai=>
aN 41 a.1 j fun a5=>bif bif apart a.1 b.1 then true else false then
bT 28 b.1 (bN b.1 j ai) j lo fun q=>
bT 41 a.1 (bN a.1 q a5) q lo fun aj=>
aN 28 b.1 aj fun ak=>
aN 41 a.1 aj fun a6=>some (Out.ret (A.tup [ak,a6,bA false,a3]),aj) else none) (aN 25 u.1 j fun ai=>
bW 28 d.1 0 j fun a5=>
bT 25 a5 (bN a5 j ai) j lo fun q=>
fl 48 a4.1 2 46 q fun ak=>
(C 35 [snap q ak]).bind fun a6=>
da a6 0 fun bq=>
da a6 1 fun b8=>
ew 75 q fun k=>
bT 75 k.1 (bN k.1 k.2 bq) k.2 lo fun h=>
(cJ b8 (bW 75 k.1 0 h fun b9=>
aN 3 b9 h fun ba=>
aY .eql 3 false true ba (iA 2) fun bb=>some [bb,bb,ba,b9]) (some [bA false,ud,ud,ud])).bind fun br=>eM br fun bs cg ch ci cj=>bh bs (aN 28 d.1 h fun bt=>
bW 75 k.1 2 h fun a7=>
aN 41 a7 h fun bu=>bif bif apart a7 b.1 then bif apart k.1 b.1 then true else false else false then
bT 28 b.1 (bN b.1 h bt) h lo fun c=>
bT 41 a.1 (bN a.1 c bu) c lo fun al=>
aN 28 b.1 al fun a8=>
aN 41 a.1 al fun a9=>some (Out.ret (A.tup [a8,a9,bA true,iA 0]),al) else none) (fl 75 k.1 1 30 h fun a7=>
ew 30 h fun e=>
bT 30 e.1 (bN e.1 e.2 a7) e.2 lo fun c=>
(cJ b8 (bW 30 e.1 2 c fun bc=>
aN 3 bc c fun a8=>
bW 28 d.1 2 c fun a9=>
aN 3 a9 c fun bd=>
aY .geq 3 false false a8 bd fun be=>some [be,be,bd,a9,a8,bc]) (some [bA false,ud,ud,ud,ud,ud])).bind fun bv=>eM bv fun bw ck cl cm bx=>fB bx fun cn co cp=>bh bw (fl 28 d.1 1 26 c fun am=>
fl 30 e.1 1 3 c fun bz=>
eN 26 am bz c fun an=>
fl 55 an 0 53 c fun v=>
fl 30 e.1 2 3 c fun c0=>
(C 42 [snap c v,snap c c0,snap c (A.fn (Fn.func 43) [] [])]).bind fun bf=>
da bf 0 fun ao=>
da bf 1 fun c1=>
(kC prog UnOp.not c1).bind fun c2=>bh c2 (aN 30 e.1 c fun aa=>bif bif rz aa then true else false then
(aG prog 53 1 [(0,cY c aa)]).bind fun c3=>bif bif gY 0 e.1 then true else false then
(call 45 [v] c (List.length c)).bind fun ap=>dj ap.1 (fun aq=>
(call 44 [aq,ao,c3] ap.2 lo).bind fun ar=>dj ar.1 (fun au=>
(mj lo au ar.2).bind fun l=>
fl 28 d.1 1 26 l.2 fun w=>
(call 46 [w] l.2 lo).bind fun g=>dj g.1 (fun o=>
bW 28 d.1 1 g.2 fun x=>
bT 26 x (bN x g.2 o) g.2 lo fun f=>
fl 28 d.1 1 26 f fun av=>
fl 30 e.1 1 3 f fun r=>
eN 26 av r f fun aw=>
bW 55 aw 0 f fun y=>
bT 53 y (bN y f l.1) f lo fun i=>
aN 28 d.1 i fun ax=>
aN 41 a.1 i fun z=>bif bif apart a.1 b.1 then true else false then
bT 28 b.1 (bN b.1 i ax) i lo fun a0=>
bT 41 a.1 (bN a.1 a0 z) a0 lo fun p=>
aN 28 b.1 p fun ay=>
aN 41 a.1 p fun a1=>some (Out.ret (A.tup [ay,a1,bA false,iA 0]),p) else none) fun o=>some (Out.pan o,g.2)) fun au=>some (Out.pan au,ar.2)) fun aq=>some (Out.pan aq,ap.2) else none else none) (eN 53 v ao c fun aa=>
fl 30 aa 0 3 c fun c4=>
fl 30 e.1 0 3 c fun c5=>
aY .lss 3 false false c4 c5 fun c6=>bh c6 ((call 45 [v] c lo).bind fun s=>dj s.1 (fun ab=>
aN 30 e.1 s.2 fun w=>
eN 53 ab ao s.2 fun bg=>
bT 30 bg (bN bg s.2 w) s.2 lo fun c7=>
(mj lo ab c7).bind fun az=>
fl 28 d.1 1 26 az.2 fun c8=>
(call 46 [c8] az.2 lo).bind fun a2=>dj a2.1 (fun b0=>
bW 28 d.1 1 a2.2 fun r=>
bT 26 r (bN r a2.2 b0) a2.2 lo fun t=>
fl 28 d.1 1 26 t fun c9=>
fl 30 e.1 1 3 t fun z=>
eN 26 c9 z t fun ca=>
bW 55 ca 0 t fun bi=>
bT 53 bi (bN bi t az.1) t lo fun ad=>
aN 28 d.1 ad fun a1=>
aN 41 a.1 ad fun cb=>bif bif apart a.1 b.1 then true else false then
bT 28 b.1 (bN b.1 ad a1) ad lo fun bj=>
bT 41 a.1 (bN a.1 bj cb) bj lo fun b1=>
aN 28 b.1 b1 fun cc=>
aN 41 a.1 b1 fun cd=>some (Out.ret (A.tup [cc,cd,bA false,iA 0]),b1) else none) fun b0=>some (Out.pan b0,a2.2)) fun ab=>some (Out.pan ab,s.2)) ((mj lo v c).bind fun l=>
fl 28 d.1 1 26 l.2 fun w=>
(call 46 [w] l.2 lo).bind fun g=>dj g.1 (fun o=>
bW 28 d.1 1 g.2 fun x=>
bT 26 x (bN x g.2 o) g.2 lo fun f=>
fl 28 d.1 1 26 f fun av=>
fl 30 e.1 1 3 f fun r=>
eN 26 av r f fun aw=>
bW 55 aw 0 f fun y=>
bT 53 y (bN y f l.1) f lo fun i=>
aN 28 d.1 i fun ax=>
aN 41 a.1 i fun z=>bif bif apart a.1 b.1 then true else false then
bT 28 b.1 (bN b.1 i ax) i lo fun a0=>
bT 41 a.1 (bN a.1 a0 z) a0 lo fun p=>
aN 28 b.1 p fun ay=>
aN 41 a.1 p fun a1=>some (Out.ret (A.tup [ay,a1,bA false,iA 0]),p) else none) fun o=>some (Out.pan o,g.2)))) (aN 28 d.1 c fun ce=>
aN 41 a.1 c fun am=>bif bif apart a.1 b.1 then true else false then
bT 28 b.1 (bN b.1 c ce) c lo fun bk=>
bT 41 a.1 (bN a.1 bk am) bk lo fun b2=>
aN 28 b.1 b2 fun an=>
aN 41 a.1 b2 fun cf=>some (Out.ret (A.tup [an,cf,bA false,iA 0]),b2) else none)))):=r7
theorem Rc (d:A):aB (cx C) call rg n 17 [d] H lo =
ew 30 H fun a=>
(C 47 [snap a.2 d]).bind fun e=>
da e 0 fun t2=>
da e 1 fun o=>
(kC prog UnOp.not o).bind fun p=>
(cJ p (some [bA true,ud,ud,ud]) (eD 50 t2 a.2 fun f=>
aY .neq 3 false true f (iA 5) fun g=>some [g,g,f,t2])).bind fun q=>eM q fun r u7 u8 u9 l9=>
(cJ r (some [bA true,ud,ud,ud,ud]) (eN 50 t2 (iA 0) a.2 fun h=>
aN 3 h a.2 fun i=>
aY .neq 3 false true i (iA 1) fun j=>some [j,j,i,h,t2])).bind fun s=>eM s fun t a7 a8 a9 u=>cf u fun aa ab=>bh t (lB 30 [] fun b=>
bT 30 a.1 (bN a.1 a.2 b) a.2 lo fun k=>
aN 30 a.1 k fun c=>some (Out.ret (A.tup [c,bA false]),k)) (eN 50 t2 (iA 1) a.2 fun b=>
aN 3 b a.2 fun v=>
eN 50 t2 (iA 2) a.2 fun c=>
aN 3 c a.2 fun w=>
eN 50 t2 (iA 3) a.2 fun x=>
aN 3 x a.2 fun y=>
eN 50 t2 (iA 4) a.2 fun z=>
aN 3 z a.2 fun a0=>
lB 30 [(0,v),(1,w),(2,y),(3,a0)] fun a1=>
bT 30 a.1 (bN a.1 a.2 a1) a.2 lo fun l=>
aN 30 a.1 l fun a2=>some (Out.ret (A.tup [a2,bA true]),l)):=r7
theorem Rd (c d:A):aB (cx C) call rg n 22 [c,d] H lo =
eD 26 c H fun f=>
eD 26 d H fun g=>
aY .neq 3 false false f g fun t2=>bh t2 (some (Out.ret (bA false),H)) (aI (cx C) call rg n 22 lo 0 (List.length H) (fun a b=>bif Nat.beq a 0 then some (Out.ret (bA true),St.H b) else none) (fun a b=>none) (fun e=>some (Out.ret (lk e 4),St.H e)) (fun a b=>some (Out.pan a,St.H b)) n (St.mk [(0,c),(1,d),(4,bA false),(5,iA 0)] H)):=r7
theorem Re (b:A):aB (cx C) call rg n 23 [b] H lo =
kK b H fun a=>
fl 25 a.1 0 22 a.2 fun t2=>
eD 22 t2 a.2 fun g=>
aY .leq 3 false true g (iA 40) fun h=>
(cJ h (bW 25 a.1 1 a.2 fun c=>
aN 23 c a.2 fun d=>
eD 23 d a.2 fun e=>
aY .leq 3 false true e (iA 40) fun f=>some [f,f,e,d,c]) (some [bA false,ud,ud,ud,ud])).bind fun i=>eM i fun j l o p k=>cf k fun q r=>some (Out.ret j,a.2):=r7
theorem Rf (c b:A):aB (cx C) call rg n 24 [c,b] H lo =
kK c H fun a=>
fl 30 a.1 0 3 a.2 fun t2=>
(C 30 [snap a.2 t2,snap a.2 (iA 0),snap a.2 (iA 1048576)]).bind fun p=>
(cJ p (bW 30 a.1 1 a.2 fun d=>
aN 3 d a.2 fun e=>
aY .sub 3 false true b (iA 1) fun f=>
(C 30 [snap a.2 e,snap a.2 (iA 0),snap a.2 f]).bind fun g=>some [g,g,f,b,e,d]) (some [bA false,ud,ud,ud,ud,ud])).bind fun q=>eM q fun r x y z s=>fB s fun u9 a1 a2=>
(cJ r (bW 30 a.1 2 a.2 fun h=>
aN 3 h a.2 fun i=>
(C 30 [snap a.2 i,snap a.2 (iA 0),snap a.2 (iA 4095)]).bind fun j=>some [j,j,i,h]) (some [bA false,ud,ud,ud])).bind fun t=>eM t fun u a3 a4 a5 a6=>
(cJ u (bW 30 a.1 3 a.2 fun k=>
aN 3 k a.2 fun l=>
(C 30 [snap a.2 l,snap a.2 (iA 1),snap a.2 (iA 8)]).bind fun o=>some [o,o,l,k]) (some [bA false,ud,ud,ud])).bind fun v=>eM v fun w a7 a8 a9 aa=>some (Out.ret w,a.2):=r7
theorem Rg (g h:A):aB (cx C) call rg n 25 [g,h] H lo =
kK g H fun b=>
kK h b.2 fun d=>
ew 25 d.2 fun a=>
aN 25 b.1 a.2 fun r=>
(C 33 [snap a.2 r]).bind fun s=>
aY .neq 33 false true s (iA 0) fun t=>
(cJ t (some [bA true,ud,ud,ud]) (aN 48 d.1 a.2 fun i=>
(C 56 [snap a.2 i]).bind fun j=>
(kC prog UnOp.not j).bind fun k=>some [k,k,j,i])).bind fun u=>eM u fun v u8 u9 ae af=>bh v (aN 25 a.1 a.2 fun w=>
bT 25 a.1 (bN a.1 a.2 w) a.2 lo fun l=>
aN 25 a.1 l fun e=>some (Out.ret (A.tup [e,iA 60]),l)) (fl 25 b.1 0 22 a.2 fun x=>
eD 22 x a.2 fun e=>
aY .eql 3 false true e (iA 4096) fun y=>bh y (aN 25 a.1 a.2 fun z=>
bT 25 a.1 (bN a.1 a.2 z) a.2 lo fun o=>
aN 25 a.1 o fun a0=>some (Out.ret (A.tup [a0,iA 2]),o)) (fl 25 b.1 0 22 a.2 fun a1=>
fl 25 b.1 0 22 a.2 fun a2=>
eD 22 a2 a.2 fun a3=>
fl 25 b.1 0 22 a.2 fun a4=>
eD 22 a4 a.2 fun a5=>
(eb prog 22 a1 none (some a3) (some a5) a.2).bind fun a6=>
aN 48 d.1 a.2 fun a7=>
(aG prog 22 1 [(0,cY a.2 a7)]).bind fun a8=>
(bG prog 22 22 false a6 a8 a.2 lo).bind fun c=>
bW 25 b.1 0 c.2 fun p=>
bT 22 p (bN p c.2 c.1) c.2 lo fun f=>
aN 25 b.1 f fun a9=>
bT 25 a.1 (bN a.1 f a9) f lo fun q=>
aN 25 a.1 q fun aa=>some (Out.ret (A.tup [aa,iA 0]),q))):=r7
theorem Rh (f:A):aB (cx C) call rg n 26 [f] H lo =
kK f H fun g=>
lB 107 [(0,iA 3)] fun j=>
ew 107 g.2 fun a=>
bT 107 a.1 (bN a.1 a.2 j) a.2 lo fun k=>
(call 57 [g.1] k lo).bind fun c=>dj c.1 (fun d=>
eD 108 d c.2 fun l=>aI (cx C) call rg n 26 lo 0 (List.length (ed lo 3 5 a.1 c.2)) (fun e b=>bif Nat.beq e 0 then
aN 107 (lk b 3) (St.H b) fun o=>
(C 58 [snap (St.H b) o]).bind fun h=>
da h 0 fun p=>
da h 1 fun q=>some (Out.ret p,St.H b) else none) (fun e b=>none) (fun i=>some (Out.ret (lk i 2),St.H i)) (fun e b=>some (Out.pan e,St.H b)) n (St.mk [(2,A.imm [] true),(3,a.1),(9,d),(10,l),(11,iA 0)] (ed lo 3 5 a.1 c.2))) fun d=>some (Out.pan d,c.2):=r7
theorem Ri (a c b:A):aB (cx C) call rg n 30 [a,c,b] H lo =
aY .leq 3 false false c a fun e=>
(cJ e (aY .leq 3 false false a b fun d=>some [d,d,b,a]) (some [bA false,ud,ud,ud])).bind fun f=>eM f fun g h u4 i j=>some (Out.ret g,H):=r7
theorem Rj:aB (cx C) call rg n 31 [] H lo =
ew 25 H fun a=>
aN 25 a.1 a.2 fun c=>
bT 25 a.1 (bN a.1 a.2 c) a.2 lo fun b=>
aN 25 a.1 b fun d=>some (Out.ret d,b):=r7
theorem Rk (d:A):aB (cx C) call rg n 33 [d] H lo =
kK d H fun a=>
fl 25 a.1 0 22 a.2 fun t2=>
eD 22 t2 a.2 fun j=>
aY .gtr 3 false true j (iA 4096) fun k=>
(cJ k (some [bA true,ud,ud,ud]) (bW 25 a.1 0 a.2 fun e=>
aN 22 e a.2 fun f=>
(C 62 [snap a.2 f,snap a.2 (A.fn (Fn.func 63) [] [])]).bind fun g=>some [g,g,f,e])).bind fun l=>eM l fun o q r s t=>bh o (some (Out.ret (iA 60),a.2)) (fl 25 a.1 1 23 a.2 fun h=>
eD 23 h a.2 fun p=>aI (cx C) call rg n 33 lo 0 (List.length a.2) (fun b c=>bif Nat.beq b 0 then some (Out.ret (iA 0),St.H c) else none) (fun b c=>none) (fun i=>some (Out.ret (lk i 2),St.H i)) (fun b c=>some (Out.pan b,St.H c)) n (St.mk [(1,a.1),(2,iA 0),(15,h),(16,p),(17,iA 0)] a.2)):=r7
theorem Rl (g h i c:A):aB (cx C) call rg n 34 [g,h,i,c] H lo =
kK g H fun a=>
fl 55 a.1 1 50 a.2 fun t2=>
eD 50 t2 a.2 fun t=>
aY .neq 3 false false t c fun u=>
(cJ u (some [bA true,ud,ud,ud,ud,ud]) (bW 55 a.1 2 a.2 fun j=>
aN 50 j a.2 fun k=>
eD 50 k a.2 fun l=>
aY .neq 3 false false l c fun o=>some [o,o,c,l,k,j])).bind fun v=>eM v fun w u7 u8 u9 x=>fB x fun a3 a4 a5=>bh w (some (Out.ret (bA false),a.2)) (fl 55 a.1 1 50 a.2 fun p=>
eD 50 p a.2 fun y=>aI (cx C) call rg n 34 lo 0 (List.length a.2) (fun d b=>bif Nat.beq d 0 then
fl 55 (lk b 4) 0 53 (St.H b) fun q=>
eD 53 q (St.H b) fun z=>aI (cx C) call rg n 34 lo 1 (List.length (St.H b)) (fun e f=>bif Nat.beq e 2 then some (Out.ret (bA true),St.H f) else none) (fun e f=>none) (fun r=>some (Out.ret (lk r 8),St.H r)) (fun e f=>some (Out.pan e,St.H f)) n (St.mk [(1,lk b 1),(2,lk b 2),(8,lk b 8),(11,lk b 3),(57,q),(58,z),(59,iA 0)] (St.H b)) else none) (fun d b=>none) (fun s=>some (Out.ret (lk s 8),St.H s)) (fun d b=>some (Out.pan d,St.H b)) n (St.mk [(1,h),(2,i),(3,c),(4,a.1),(8,bA false),(27,p),(28,y),(29,iA 0)] a.2)):=r7
theorem Rm (l:A):aB (cx C) call rg n 35 [l] H lo =
ew 75 H fun b=>
(C 66 [snap b.2 l]).bind fun o=>
da o 0 fun t2=>
da o 1 fun t3=>
ew 107 b.2 fun e=>
bT 107 e.1 (bN e.1 e.2 t2) e.2 lo fun c=>
aY .neq 33 false true t3 (iA 0) fun t6=>
(cJ t6 (some [bA true,ud,ud,ud]) (bW 107 e.1 0 c fun p=>
aN 3 p c fun q=>
aY .neq 3 false true q (iA 3) fun r=>some [r,r,q,p])).bind fun l7=>eM l7 fun u8 u9 ay az b0=>
(cJ u8 (some [bA true,ud,ud,ud,ud]) (bW 107 e.1 3 c fun s=>
aN 105 s c fun t=>
eD 105 t c fun u=>
aY .eql 3 false true u (iA 0) fun v=>some [v,v,u,t,s])).bind fun ae=>eM ae fun af b1 b2 b3 ag=>cf ag fun b4 b5=>bh af (aN 75 b.1 c fun ah=>
bT 75 b.1 (bN b.1 c ah) c lo fun w=>
aN 75 b.1 w fun i=>some (Out.ret (A.tup [i,bA false]),w)) (fl 107 e.1 3 105 c fun ai=>
eN 105 ai (iA 0) c fun i=>
fl 107 i 1 3 c fun aj=>
bW 75 b.1 0 c fun x=>
bT 3 x (bN x c aj) c lo fun ak=>
(call 57 [b.1] ak lo).bind fun a=>dj a.1 (fun f=>
fl 75 b.1 0 3 a.2 fun al=>
aY .neq 3 false true al (iA 1) fun am=>
(cJ am (bW 75 b.1 0 a.2 fun y=>
aN 3 y a.2 fun z=>
aY .neq 3 false true z (iA 2) fun a0=>some [a0,a0,z,y]) (some [bA false,ud,ud,ud])).bind fun an=>eM an fun ao b6 b7 b8 b9=>
(cJ ao (some [bA true,ud,ud,ud,ud,ud,ud]) (bW 107 e.1 3 a.2 fun a1=>
aN 105 a1 a.2 fun a2=>
eD 105 a2 a.2 fun a3=>
eD 108 f a.2 fun a4=>
aY .neq 3 false false a3 a4 fun a5=>some [a5,a5,a4,f,a3,a2,a1])).bind fun ap=>eM ap fun aq ba bb bc ar=>fB ar fun bd be au=>cf au fun bf bg=>bh aq (aN 75 b.1 a.2 fun av=>
bT 75 b.1 (bN b.1 a.2 av) a.2 lo fun a6=>
aN 75 b.1 a6 fun j=>some (Out.ret (A.tup [j,bA false]),a6)) (fl 107 e.1 3 105 a.2 fun a7=>
eD 105 a7 a.2 fun j=>aI (cx C) call rg n 35 lo 0 (List.length a.2) (fun g d=>bif Nat.beq g 0 then
aN 75 (lk d 2) (St.H d) fun k=>
bT 75 (lk d 2) (bN (lk d 2) (St.H d) k) (St.H d) lo fun a8=>
aN 75 (lk d 2) a8 fun aw=>some (Out.ret (A.tup [aw,bA true]),a8) else none) (fun g d=>none) (fun h=>
aN 75 (lk h 2) (St.H h) fun k=>some (Out.ret (A.tup [k,lk h 3]),St.H h)) (fun g d=>some (Out.pan g,St.H d)) n (St.mk [(2,b.1),(3,bA false),(6,f),(53,a7),(54,j),(55,iA 0)] a.2))) fun f=>some (Out.pan f,a.2)):=r7
theorem Rn (g h:A):aB (cx C) call rg n 40 [g,h] H lo =
kK g H fun c=>
kK h c.2 fun a=>
fl 25 c.1 0 22 a.2 fun t=>
eD 22 t a.2 fun u=>
fl 25 a.1 0 22 a.2 fun v=>
eD 22 v a.2 fun w=>
aY .neq 3 false false u w fun x=>
(cJ x (some [bA true,ud,ud,ud,ud,ud,ud,ud]) (bW 25 c.1 1 a.2 fun i=>
aN 23 i a.2 fun j=>
eD 23 j a.2 fun k=>
bW 25 a.1 1 a.2 fun l=>
aN 23 l a.2 fun o=>
eD 23 o a.2 fun p=>
aY .neq 3 false false k p fun q=>some [q,q,p,o,l,k,j,i])).bind fun y=>xC y fun z a0 a1 a2 a3 a4 a5 a6 a7=>bh z (some (Out.ret (bA false),a.2)) (aI (cx C) call rg n 40 lo 0 (List.length a.2) (fun d b=>bif Nat.beq d 0 then aI (cx C) call rg n 40 lo 1 (List.length (St.H b)) (fun e f=>bif Nat.beq e 2 then some (Out.ret (bA true),St.H f) else none) (fun e f=>none) (fun r=>some (Out.ret (lk r 4),St.H r)) (fun e f=>some (Out.pan e,St.H f)) n (St.mk [(2,lk b 2),(3,lk b 3),(4,lk b 4),(6,iA 0)] (St.H b)) else none) (fun d b=>none) (fun s=>some (Out.ret (lk s 4),St.H s)) (fun d b=>some (Out.pan d,St.H b)) n (St.mk [(2,c.1),(3,a.1),(4,bA false),(5,iA 0)] a.2)):=r7
theorem Ro (p f:A):aB (cx C) call rg n 41 [p,f] H lo =
kK p H fun e=>
ew 48 e.2 fun a=>
ew 25 a.2 fun c=>
aN 25 e.1 c.2 fun v=>
(C 70 [snap c.2 v,snap c.2 f]).bind fun q=>
da q 0 fun w=>
da q 1 fun r=>
bT 48 a.1 (bN a.1 c.2 w) c.2 lo fun b=>
aY .neq 33 false true r (iA 0) fun x=>bh x (aN 48 a.1 b fun y=>
aN 25 c.1 b fun g=>bif bif apart c.1 a.1 then true else false then
bT 48 a.1 (bN a.1 b y) b lo fun s=>
bT 25 c.1 (bN c.1 s g) s lo fun h=>
aN 48 a.1 h fun z=>
aN 25 c.1 h fun i=>some (Out.ret (A.tup [z,i,r]),h) else none) (fl 25 e.1 1 23 b fun g=>
fl 48 a.1 0 3 b fun a0=>
fl 48 a.1 1 3 b fun i=>
(C 72 [snap b a0,snap b i]).bind fun a1=>
(C 71 [snap b g,snap b a1]).bind fun a2=>bh a2 (lB 48 [] fun j=>
bT 48 a.1 (bN a.1 b j) b lo fun d=>
aN 48 a.1 d fun k=>
aN 25 e.1 d fun a3=>
(C 73 [snap d a3,snap d f]).bind fun a4=>
bT 48 a.1 (bN a.1 d k) d lo fun t=>
bT 25 c.1 (bN c.1 t a4) t lo fun l=>
aN 48 a.1 l fun a5=>
aN 25 c.1 l fun a6=>some (Out.ret (A.tup [a5,a6,iA 0]),l)) (aN 48 a.1 b fun j=>
aN 25 e.1 b fun a7=>
(C 73 [snap b a7,snap b f]).bind fun k=>
bT 48 a.1 (bN a.1 b j) b lo fun u=>
bT 25 c.1 (bN c.1 u k) u lo fun o=>
aN 48 a.1 o fun a8=>
aN 25 c.1 o fun a9=>some (Out.ret (A.tup [a8,a9,iA 0]),o))):=r7
theorem Rq (c e f:A):aB (cx C) call rg n 42 [c,e,f] H lo =
eD 53 c H fun g=>aI (cx C) call rg n 42 lo 0 (List.length H) (fun b a=>bif Nat.beq b 0 then
aY .lss 3 false false (lk a 9) (lk a 8) fun t2=>
(cJ t2 (eN 53 (lk a 0) (lk a 9) (St.H a) fun h=>
aN 30 h (St.H a) fun i=>qn (cx C) call (lk a 2) [i,lk a 1] (St.H a) fun j=>
aY .eql 3 false true j (iA 0) fun k=>some [k,k,j,lk a 1,i,h,lk a 9,lk a 0,lk a 2]) (some [bA false,ud,ud,ud,ud,ud,ud,ud,ud])).bind fun l=>xC l fun u4 p q r s t u v o=>cf o fun w x=>some (Out.ret (A.tup [lk a 9,u4]),St.H a) else none) (fun b a=>none) (fun d=>some (Out.ret (A.tup [lk d 6,lk d 7]),St.H d)) (fun b a=>some (Out.pan b,St.H a)) n (St.mk [(0,c),(1,e),(2,f),(6,iA 0),(7,bA false),(8,g),(9,iA 0),(10,g)] H):=r7
theorem Rs (b c:A):aB (cx C) call rg n 43 [b,c] H lo =
kK b H fun a=>
fl 30 a.1 2 3 a.2 fun t2=>
aY .sub 3 false false t2 c fun d=>some (Out.ret d,a.2):=r7
theorem Pd (a:A):aB (cx C) call rg n 45 [a] H lo =
(G3 prog 53 a).bind fun c=>bh c (some (Out.ret (fZ (500004 - 500000) (St.H (St.mk [(2,A.imm [] true),(4,c),(3,a),(2,A.imm [] true),(0,a)] H)) (look (St.fr (St.mk [(2,A.imm [] true),(4,c),(3,a),(2,A.imm [] true),(0,a)] H)) (Prod.fst (2,0,500005)))).1,(fZ (500004 - 500000) (St.H (St.mk [(2,A.imm [] true),(4,c),(3,a),(2,A.imm [] true),(0,a)] H)) (look (St.fr (St.mk [(2,A.imm [] true),(4,c),(3,a),(2,A.imm [] true),(0,a)] H)) (Prod.fst (2,0,500005)))).2)) ((aG prog 53 0 []).bind fun d=>
(bG prog 53 53 true d a H lo).bind fun b=>some (Out.ret (fZ (500004 - 500000) (St.H (St.mk [(2,b.1),(7,b.1),(6,a),(5,d),(4,c),(3,a),(2,A.imm [] true),(0,a)] b.2)) (look (St.fr (St.mk [(2,b.1),(7,b.1),(6,a),(5,d),(4,c),(3,a),(2,A.imm [] true),(0,a)] b.2)) (Prod.fst (2,0,500005)))).1,(fZ (500004 - 500000) (St.H (St.mk [(2,b.1),(7,b.1),(6,a),(5,d),(4,c),(3,a),(2,A.imm [] true),(0,a)] b.2)) (look (St.fr (St.mk [(2,b.1),(7,b.1),(6,a),(5,d),(4,c),(3,a),(2,A.imm [] true),(0,a)] b.2)) (Prod.fst (2,0,500005)))).2)):=r7
theorem M6 (a:A):aB (cx C) call rg n 46 [a] H lo =
(G3 prog 26 a).bind fun c=>bh c (some (Out.ret (fZ (500003 - 500000) (St.H (St.mk [(2,A.imm [] true),(4,c),(3,a),(2,A.imm [] true),(0,a)] H)) (look (St.fr (St.mk [(2,A.imm [] true),(4,c),(3,a),(2,A.imm [] true),(0,a)] H)) (Prod.fst (2,0,500004)))).1,(fZ (500003 - 500000) (St.H (St.mk [(2,A.imm [] true),(4,c),(3,a),(2,A.imm [] true),(0,a)] H)) (look (St.fr (St.mk [(2,A.imm [] true),(4,c),(3,a),(2,A.imm [] true),(0,a)] H)) (Prod.fst (2,0,500004)))).2)) ((aG prog 26 0 []).bind fun d=>
(bG prog 26 26 true d a H lo).bind fun b=>some (Out.ret (fZ (500003 - 500000) (St.H (St.mk [(2,b.1),(7,b.1),(6,a),(5,d),(4,c),(3,a),(2,A.imm [] true),(0,a)] b.2)) (look (St.fr (St.mk [(2,b.1),(7,b.1),(6,a),(5,d),(4,c),(3,a),(2,A.imm [] true),(0,a)] b.2)) (Prod.fst (2,0,500004)))).1,(fZ (500003 - 500000) (St.H (St.mk [(2,b.1),(7,b.1),(6,a),(5,d),(4,c),(3,a),(2,A.imm [] true),(0,a)] b.2)) (look (St.fr (St.mk [(2,b.1),(7,b.1),(6,a),(5,d),(4,c),(3,a),(2,A.imm [] true),(0,a)] b.2)) (Prod.fst (2,0,500004)))).2)):=r7
theorem Rt (f:A):aB (cx C) call rg n 47 [f] H lo =
(C 76 [snap H f]).bind fun g=>
da g 0 fun k=>
da g 1 fun t2=>
ew 107 H fun a=>
bT 107 a.1 (bN a.1 a.2 k) a.2 lo fun b=>
aY .neq 33 false true t2 (iA 0) fun l=>
(cJ l (some [bA true,ud,ud,ud]) (bW 107 a.1 0 b fun h=>
aN 3 h b fun i=>
aY .neq 3 false true i (iA 3) fun j=>some [j,j,i,h])).bind fun o=>eM o fun p q r s t=>bh p (some (Out.ret (A.tup [A.imm [] true,bA false]),b)) (aI (cx C) call rg n 47 lo 0 (List.length (eO 1 (St.H (St.mk [(2,A.imm [] true),(3,bA false),(4,a.1),(6,A.imm [] true),(7,iA 0)] b)) (look (St.fr (St.mk [(2,A.imm [] true),(3,bA false),(4,a.1),(6,A.imm [] true),(7,iA 0)] b)) (Prod.fst (6,0,2)))).2) (fun d c=>bif Nat.beq d 0 then some (Out.ret (A.tup [lk c 6,bA true]),St.H c) else none) (fun d c=>none) (fun e=>some (Out.ret (A.tup [lk e 2,lk e 3]),St.H e)) (fun d c=>some (Out.pan d,St.H c)) n (St.mk [(2,A.imm [] true),(3,bA false),(4,a.1),(6,(eO 1 (St.H (St.mk [(2,A.imm [] true),(3,bA false),(4,a.1),(6,A.imm [] true),(7,iA 0)] b)) (look (St.fr (St.mk [(2,A.imm [] true),(3,bA false),(4,a.1),(6,A.imm [] true),(7,iA 0)] b)) (Prod.fst (6,0,2)))).1),(7,iA 0)] (eO 1 (St.H (St.mk [(2,A.imm [] true),(3,bA false),(4,a.1),(6,A.imm [] true),(7,iA 0)] b)) (look (St.fr (St.mk [(2,A.imm [] true),(3,bA false),(4,a.1),(6,A.imm [] true),(7,iA 0)] b)) (Prod.fst (6,0,2)))).2)):=r7
theorem Ru (c d:A):aB (cx C) call rg n 55 [c,d] H lo =
eD 50 c H fun f=>
eD 50 d H fun g=>
aY .neq 3 false false f g fun t2=>bh t2 (some (Out.ret (bA false),H)) (aI (cx C) call rg n 55 lo 0 (List.length H) (fun a b=>bif Nat.beq a 0 then some (Out.ret (bA true),St.H b) else none) (fun a b=>none) (fun e=>some (Out.ret (lk e 4),St.H e)) (fun a b=>some (Out.pan a,St.H b)) n (St.mk [(0,c),(1,d),(4,bA false),(5,iA 0)] H)):=r7
theorem Rv (b:A):aB (cx C) call rg n 56 [b] H lo =
kK b H fun a=>
fl 48 a.1 0 3 a.2 fun t2=>
fl 48 a.1 1 3 a.2 fun g=>
(C 72 [snap a.2 t2,snap a.2 g]).bind fun h=>
(C 64 [snap a.2 h]).bind fun i=>
(cJ i (bW 48 a.1 2 a.2 fun c=>
aN 46 c a.2 fun d=>
eD 46 d a.2 fun e=>
aY .leq 3 false true e (iA 1048576) fun f=>some [f,f,e,d,c]) (some [bA false,ud,ud,ud,ud])).bind fun j=>eM j fun k o p q l=>cf l fun r s=>some (Out.ret k,a.2):=r7
theorem Pe (a:A):aB (cx C) call rg n 57 [a] H lo =
iU a H fun e=>
bW 75 e 0 H fun v=>
iU a H fun t2=>
bW 75 t2 1 H fun f=>
bW 30 f 0 H fun w=>
iU a H fun g=>
bW 75 g 1 H fun h=>
bW 30 h 1 H fun x=>
iU a H fun i=>
bW 75 i 1 H fun j=>
bW 30 j 2 H fun y=>
iU a H fun k=>
bW 75 k 1 H fun l=>
bW 30 l 3 H fun z=>
iU a H fun o=>
bW 75 o 0 H fun a0=>
iU a H fun p=>
bW 75 p 2 H fun q=>
bW 41 q 0 H fun a1=>
iU a H fun r=>
bW 75 r 2 H fun s=>
bW 41 s 1 H fun a2=>
iU a H fun t=>
bW 75 t 2 H fun u=>
bW 41 u 2 H fun a3=>
lB 137 [(0,v),(1,w),(2,x),(3,y),(4,z),(5,a0),(6,a1),(7,a2),(8,a3)] fun a4=>bif bif apart u A.any then bif apart t A.any then bif apart a A.any then bif apart s A.any then bif apart r A.any then bif apart a A.any then bif apart q A.any then bif apart p A.any then bif apart a A.any then bif apart o A.any then bif apart a A.any then bif apart l A.any then bif apart k A.any then bif apart a A.any then bif apart j A.any then bif apart i A.any then bif apart a A.any then bif apart h A.any then bif apart g A.any then bif apart a A.any then bif apart f A.any then bif apart t2 A.any then bif apart a A.any then bif apart e A.any then bif apart a A.any then true else false else false else false else false else false else false else false else false else false else false else false else false else false else false else false else false else false else false else false else false else false else false else false else false else false then
(jF prog 137 H).bind fun b=>
bT 137 b.1 (bN b.1 b.2 a4) b.2 lo fun c=>
iU a c fun a5=>
fl 75 a5 0 3 c fun a6=>
aY .eql 3 false true a6 (iA 1) fun a7=>bh a7 ((eb prog 137 b.1 none (some (iA 5)) none c).bind fun d=>some (Out.ret d,c)) ((eb prog 137 b.1 (some (iA 5)) none none c).bind fun d=>some (Out.ret d,c)) else none:=r7
theorem Rw (f:A):aB (cx C) call rg n 58 [f] H lo =
kK f H fun a=>
aN 107 a.1 a.2 fun h=>
(C 83 [snap a.2 h]).bind fun t2=>
aY .neq 33 false true t2 (iA 0) fun i=>bh i (some (Out.ret (A.tup [A.imm [] true,t2]),a.2)) (bW 107 a.1 0 a.2 fun g=>
aN 3 g a.2 fun j=>
aN 107 a.1 a.2 fun k=>bif bif gY 0 a.1 then bif gY 0 g then bif gY 0 a.1 then true else false else false else false then
(call 84 [] a.2 (List.length a.2)).bind fun b=>dj b.1 (fun c=>
iU c b.2 fun l=>
eN 158 l j b.2 fun o=>
fl 141 o 0 139 b.2 fun p=>dn (cx C) call p [A.imm [] true,k] b.2 lo (fun d e=>some (Out.ret (A.tup [d,iA 0]),e)) fun d e=>some (Out.pan d,e)) fun c=>some (Out.pan c,b.2) else none):=r7
theorem Rx (a b:A):aB (cx C) call rg n 62 [a,b] H lo =
(C 88 [snap H a,snap H b]).bind fun c=>
aY .geq 3 false true c (iA 0) fun d=>some (Out.ret d,H):=r7
theorem Ry (b:A):aB (cx C) call rg n 63 [b] H lo =
kK b H fun a=>
aN 48 a.1 a.2 fun c=>
(C 56 [snap a.2 c]).bind fun t2=>
(kC prog UnOp.not t2).bind fun d=>some (Out.ret d,a.2):=r7
theorem Rz (b:A):aB (cx C) call rg n 64 [b] H lo =
kK b H fun a=>
eN 116 a.1 (iA 0) a.2 fun k=>
aN 3 k a.2 fun t2=>
aY .geq 3 false true t2 (iA 0) fun l=>
(cJ l (eN 116 a.1 (iA 0) a.2 fun c=>
aN 3 c a.2 fun d=>
eN 116 a.1 (iA 1) a.2 fun e=>
aN 3 e a.2 fun f=>
aY .lss 3 false false d f fun g=>some [g,g,f,e,d,c]) (some [bA false,ud,ud,ud,ud,ud])).bind fun o=>eM o fun p t u v q=>fB q fun w x y=>
(cJ p (eN 116 a.1 (iA 1) a.2 fun h=>
aN 3 h a.2 fun i=>
aY .lss 3 false true i (iA 24) fun j=>some [j,j,i,h]) (some [bA false,ud,ud,ud])).bind fun r=>eM r fun s z a0 a1 a2=>some (Out.ret s,a.2):=r7
theorem RA (b d:A):aB (cx C) call rg n 65 [b,d] H lo =
eD 50 b H fun f=>aI (cx C) call rg n 65 lo 0 (List.length H) (fun c a=>bif Nat.beq c 0 then
eD 50 (lk a 0) (St.H a) fun t2=>
eD 50 (lk a 1) (St.H a) fun g=>
aY .lss 3 false false t2 g fun h=>bh h (some (Out.ret (A.v (.int .i64 (-1))),St.H a)) (some (Out.ret (iA 0),St.H a)) else none) (fun c a=>none) (fun e=>some (Out.ret (lk e 4),St.H e)) (fun c a=>some (Out.pan c,St.H a)) n (St.mk [(0,b),(1,d),(4,iA 0),(9,b),(10,f),(11,iA 0)] H):=r7
theorem RB (x:A):aB (cx C) call rg n 66 [x] H lo =
ew 107 H fun a=>
ew 33 a.2 fun b=>
lB 150 [(0,x)] fun t2=>
kK t2 b.2 fun h=>
(call 91 [h.1,iA 0] h.2 lo).bind fun d=>dj d.1 (fun i=>
bT 107 a.1 (bN a.1 d.2 i) d.2 lo fun j=>
iU h.1 j fun e=>
fl 150 e 0 46 j fun t9=>
eD 46 t9 j fun a3=>
aY .eql 3 false true a3 (iA 0) fun k=>
(call 92 [h.1,k] j lo).bind fun c=>dj c.1 (fun l=>
aN 107 a.1 c.2 fun o=>
bT 107 a.1 (bN a.1 c.2 o) c.2 lo fun y=>
bT 33 b.1 (bN b.1 y (iA 0)) y lo fun f=>
aY .neq 20 false true (A.v Value.nilIface) (A.v Value.nilIface) fun a4=>bh a4 (lB 107 [] fun p=>
(mU prog (A.v Value.nilIface) 33 false).bind fun g=>
bT 107 a.1 (bN a.1 f p) f lo fun z=>
bT 33 b.1 (bN b.1 z g) z lo fun q=>
aN 107 a.1 q fun a6=>
aN 33 b.1 q fun a7=>some (Out.ret (A.tup [a6,a7]),q)) (aN 107 a.1 f fun p=>
aN 33 b.1 f fun g=>some (Out.ret (A.tup [p,g]),f))) fun l=>
aY .neq 20 false true l (A.v Value.nilIface) fun o=>bh o (lB 107 [] fun r=>
(mU prog l 33 false).bind fun s=>
bT 107 a.1 (bN a.1 c.2 r) c.2 lo fun a0=>
bT 33 b.1 (bN b.1 a0 s) a0 lo fun t=>
aN 107 a.1 t fun g=>
aN 33 b.1 t fun a8=>some (Out.ret (A.tup [g,a8]),t)) (aN 107 a.1 c.2 fun r=>
aN 33 b.1 c.2 fun s=>some (Out.ret (A.tup [r,s]),c.2))) fun i=>
aY .neq 20 false true i (A.v Value.nilIface) fun t6=>bh t6 (lB 107 [] fun e=>
(mU prog i 33 false).bind fun u=>
bT 107 a.1 (bN a.1 d.2 e) d.2 lo fun H9=>
bT 33 b.1 (bN b.1 H9 u) H9 lo fun w=>
aN 107 a.1 w fun k=>
aN 33 b.1 w fun aa=>some (Out.ret (A.tup [k,aa]),w)) (aN 107 a.1 d.2 fun e=>
aN 33 b.1 d.2 fun u=>some (Out.ret (A.tup [e,u]),d.2)):=r7
theorem RC (c d:A):aB (cx C) call rg n 69 [c,d] H lo =
kK c H fun b=>
kK d b.2 fun a=>
fl 48 b.1 0 3 a.2 fun s=>
fl 48 a.1 0 3 a.2 fun t=>
aY .eql 3 false false s t fun u=>
(cJ u (bW 48 b.1 1 a.2 fun e=>
aN 3 e a.2 fun f=>
bW 48 a.1 1 a.2 fun g=>
aN 3 g a.2 fun h=>
aY .eql 3 false false f h fun i=>some [i,i,h,g,f,e]) (some [bA false,ud,ud,ud,ud,ud])).bind fun v=>eM v fun w u9 a1 a2 x=>fB x fun a3 a4 a5=>
(cJ w (bW 48 b.1 2 a.2 fun j=>
aN 46 j a.2 fun k=>
(aW prog 46 9 k a.2).bind fun l=>
bW 48 a.1 2 a.2 fun o=>
aN 46 o a.2 fun p=>
(aW prog 46 9 p a.2).bind fun q=>
aY .eql 9 false false l q fun r=>some [r,r,q,p,o,l,k,j]) (some [bA false,ud,ud,ud,ud,ud,ud,ud])).bind fun y=>xC y fun z a6 a7 a8 a9 aa ab ad ae=>some (Out.ret z,a.2):=r7
theorem RD (g b:A):aB (cx C) call rg n 70 [g,b] H lo =
kK g H fun c=>
ew 48 c.2 fun a=>
aN 25 c.1 a.2 fun t2=>
(C 33 [snap a.2 t2]).bind fun p=>
aY .neq 33 false true p (iA 0) fun q=>bh q (aN 48 a.1 a.2 fun e=>
bT 48 a.1 (bN a.1 a.2 e) a.2 lo fun h=>
aN 48 a.1 h fun d=>some (Out.ret (A.tup [d,iA 60]),h)) (aY .lss 3 false true b (iA 0) fun e=>
(cJ e (some [bA true,ud,ud,ud,ud,ud]) (bW 25 c.1 0 a.2 fun i=>
aN 22 i a.2 fun d=>
eD 22 d a.2 fun j=>
aY .geq 3 false false b j fun k=>some [k,k,j,d,i,b])).bind fun r=>eM r fun s y z a0 t=>fB t fun a1 a2 a3=>bh s (aN 48 a.1 a.2 fun u=>
bT 48 a.1 (bN a.1 a.2 u) a.2 lo fun l=>
aN 48 a.1 l fun f=>some (Out.ret (A.tup [f,iA 1]),l)) (fl 25 c.1 0 22 a.2 fun v=>
eN 22 v b a.2 fun f=>
aN 48 f a.2 fun w=>
bT 48 a.1 (bN a.1 a.2 w) a.2 lo fun o=>
aN 48 a.1 o fun x=>some (Out.ret (A.tup [x,iA 0]),o))):=r7
theorem RE (b c:A):aB (cx C) call rg n 71 [b,c] H lo =
kK c H fun a=>
aN 115 a.1 a.2 fun d=>
(C 93 [snap a.2 b,snap a.2 d]).bind fun t2=>
aY .geq 3 false true t2 (iA 0) fun e=>some (Out.ret e,a.2):=r7
theorem RF (b c:A):aB (cx C) call rg n 72 [b,c] H lo =
ew 116 H fun a=>
(DR true b [c]).bind fun e=>
(DR false b [c]).bind fun t2=>
lB 116 [(0,e),(1,t2)] fun f=>
bT 116 a.1 (bN a.1 a.2 f) a.2 lo fun d=>
aN 116 a.1 d fun g=>some (Out.ret g,d):=r7
theorem RG (f c:A):aB (cx C) call rg n 73 [f,c] H lo =
kK f H fun b=>
ew 25 b.2 fun a=>
fl 25 b.1 0 22 a.2 fun i=>
(eb prog 22 i none (some c) (some c) a.2).bind fun j=>
fl 25 b.1 0 22 a.2 fun k=>
aY .add 3 false true c (iA 1) fun l=>
(eb prog 22 k (some l) none none a.2).bind fun o=>
(bG prog 22 22 false j o a.2 lo).bind fun d=>
bW 25 b.1 0 d.2 fun g=>
bT 22 g (bN g d.2 d.1) d.2 lo fun e=>
aN 25 b.1 e fun p=>
bT 25 a.1 (bN a.1 e p) e lo fun h=>
aN 25 a.1 h fun q=>some (Out.ret q,h):=r7
theorem RH (d:A):aB (cx C) call rg n 76 [d] H lo =
ew 107 H fun b=>
lB 155 [(0,d)] fun y=>
kK y b.2 fun e=>
(call 95 [e.1,iA 0] e.2 lo).bind fun g=>dj g.1 (fun h=>
ew 107 g.2 fun c=>
bT 107 c.1 (bN c.1 c.2 h) c.2 lo fun a=>
iU e.1 a fun z=>
fl 155 z 2 4 a fun t9=>
(cJ t9 (some [bA true,ud,ud,ud,ud,ud,ud,ud]) (iU e.1 a fun k=>
bW 155 k 1 a fun l=>
aN 3 l a fun o=>
eD 46 d a fun p=>
aY .neq 3 false false o p fun q=>some [q,q,p,d,o,l,k,e.1])).bind fun a1=>xC a1 fun a2 ae af ag ah ai aj ak al=>
(cJ a2 (some [bA true,ud,ud,ud]) (aN 107 c.1 a fun r=>
(C 85 [snap a r]).bind fun s=>
aY .neq 33 false true s (iA 0) fun t=>some [t,t,s,r])).bind fun a3=>eM a3 fun u am an ao ap=>
Ez u false (aN 107 c.1 a fun v=>
(C 86 [snap a v]).bind fun w=>
(aW prog 46 9 w a).bind fun a5=>
(aW prog 46 9 d a).bind fun a6=>some [a6,d,a5,w,v]) (some [ud,ud,ud,ud,ud]) fun a7=>eM a7 fun a8 aq a9 ar aa=>cf aa fun au av=>
(cJ u (some [bA true,ud]) (aY .neq 9 false false a9 a8 fun x=>some [x,x])).bind fun ab=>fB ab fun ad aw ax=>bh ad (lB 107 [] fun i=>
bT 107 b.1 (bN b.1 a i) a lo fun f=>
aN 107 b.1 f fun j=>some (Out.ret (A.tup [j,iA 10]),f)) (aN 107 c.1 a fun i=>
bT 107 b.1 (bN b.1 a i) a lo fun f=>
aN 107 b.1 f fun j=>some (Out.ret (A.tup [j,iA 0]),f))) fun h=>some (Out.pan h,g.2):=r7
theorem RI (b:A):aB (cx C) call rg n 83 [b] H lo =
kK b H fun a=>
aN 107 a.1 a.2 fun c=>
(C 96 [snap a.2 c]).bind fun t2=>
da t2 0 fun d=>
da t2 1 fun e=>
(kC prog UnOp.not e).bind fun f=>bh f (some (Out.ret (iA 1),a.2)) (aY .gtr 3 false true d (iA 16) fun g=>bh g (some (Out.ret (iA 2),a.2)) (some (Out.ret (iA 0),a.2))):=r7
theorem RJ:aB (cx C) call rg n 84 [] H lo =
lB 158 [] fun j=>
kK j H fun e=>
ew 142 e.2 fun a=>
bT 142 a.1 (bN a.1 a.2 e.1) a.2 lo fun b=>
aN 142 a.1 b fun k=>
iU k b fun l=>
eN 158 l (iA 1) b fun o=>
bW 141 o 0 b fun f=>
bT 139 f (bN f b (A.fn (Fn.func 97) [] [])) b lo fun c=>
aN 142 a.1 c fun p=>
iU p c fun q=>
eN 158 q (iA 2) c fun r=>
bW 141 r 0 c fun g=>
bT 139 g (bN g c (A.fn (Fn.func 100) [] [])) c lo fun d=>
aN 142 a.1 d fun s=>
iU s d fun t=>
eN 158 t (iA 3) d fun u=>
bW 141 u 0 d fun h=>
bT 139 h (bN h d (A.fn (Fn.func 101) [] [a.1])) d lo fun i=>
aN 142 a.1 i fun v=>some (Out.ret v,i):=r7
theorem RK (b:A):aB (cx C) call rg n 85 [b] H lo =
kK b H fun a=>
aN 107 a.1 a.2 fun c=>
(C 102 [snap a.2 c]).bind fun t2=>
(kC prog UnOp.not t2).bind fun d=>bh d (some (Out.ret (iA 1),a.2)) (aN 107 a.1 a.2 fun e=>
(C 103 [snap a.2 e]).bind fun f=>
aY .gtr 3 false true f (iA 16) fun g=>bh g (some (Out.ret (iA 2),a.2)) (some (Out.ret (iA 0),a.2))):=r7
theorem RL (k:A):aB (cx C) call rg n 86 [k] H lo =
kK k H fun a=>
fl 107 a.1 0 3 a.2 fun t2=>
aY .eql 3 false true t2 (iA 1) fun r=>bh r ((aG prog 46 1 [(0,cY a.2 (A.v (.int .u8 1)))]).bind fun h=>
fl 107 a.1 1 3 a.2 fun s=>
(C 105 [snap a.2 s]).bind fun c=>
(C 104 [snap a.2 c]).bind fun d=>
(bG prog 46 46 false h d a.2 lo).bind fun l=>some (Out.ret l.1,l.2)) (aY .eql 3 false true t2 (iA 2) fun h=>bh h ((aG prog 46 1 [(0,cY a.2 (A.v (.int .u8 2)))]).bind fun e=>
fl 107 a.1 2 9 a.2 fun c=>
eD 9 c a.2 fun d=>
(aW prog 3 160 d a.2).bind fun i=>
(C 104 [snap a.2 i]).bind fun j=>
(bG prog 46 46 false e j a.2 lo).bind fun b=>bif bif apart a.1 e then true else false then
bW 107 a.1 2 b.2 fun o=>bif bif apart o e then true else false then
aN 9 o b.2 fun t=>
(bG prog 46 9 false b.1 t b.2 lo).bind fun p=>some (Out.ret p.1,p.2) else none else none) ((aG prog 46 1 [(0,cY a.2 (A.v (.int .u8 3)))]).bind fun e=>
fl 107 a.1 3 105 a.2 fun c=>
eD 105 c a.2 fun d=>
(aW prog 3 160 d a.2).bind fun i=>
(C 104 [snap a.2 i]).bind fun j=>
(bG prog 46 46 false e j a.2 lo).bind fun b=>aI (cx C) call rg n 86 lo 0 (List.length b.2) (fun g f=>bif Nat.beq g 1 then some (Out.ret (lk f 3),St.H f) else none) (fun g f=>none) (fun q=>some (Out.ret (lk q 2),St.H q)) (fun g f=>some (Out.pan g,St.H f)) n (St.mk [(1,a.1),(2,A.imm [] true),(3,b.1),(4,iA 0)] b.2))):=r7
theorem RM (c d:A):aB (cx C) call rg n 88 [c,d] H lo =
eD 22 c H fun f=>aI (cx C) call rg n 88 lo 0 (List.length H) (fun a b=>bif Nat.beq a 0 then some (Out.ret (A.v (.int .i64 (-1))),St.H b) else none) (fun a b=>none) (fun e=>some (Out.ret (lk e 4),St.H e)) (fun a b=>some (Out.pan a,St.H b)) n (St.mk [(0,c),(1,d),(4,iA 0),(7,f),(8,iA 0)] H):=r7
theorem Pf (a b:A):aB (cx C) call rg n 89 [a,b] H lo =
(C 106 [snap H a]).bind fun d=>
(C 106 [snap H b]).bind fun c=>bh d (bh c (some (Out.ret (iA 0),H)) (some (Out.ret (A.v (.int .i64 (-1))),H))) (bh c (some (Out.ret (iA 1),H)) (aY .lss 3 false false a b fun t2=>bh t2 (some (Out.ret (A.v (.int .i64 (-1))),H)) (aY .gtr 3 false false a b fun e=>bh e (some (Out.ret (iA 1),H)) (some (Out.ret (iA 0),H))))):=r7
theorem RN (d r:A):aB (cx C) call rg n 91 [d,r] H lo =
ew 107 H fun a=>
(call 107 [d,iA 1] a.2 lo).bind fun H1=>dj H1.1 (fun a2=>
eN 46 a2 (iA 0) H1.2 fun t3=>
aN 5 t3 H1.2 fun t4=>
(aW prog 5 3 t4 H1.2).bind fun t5=>
bW 107 a.1 0 H1.2 fun t6=>
bT 3 t6 (bN t6 H1.2 t5) H1.2 lo fun j=>
fl 107 a.1 0 3 j fun s=>
aY .eql 3 false true s (iA 1) fun a9=>bh a9 ((call 109 [d] j lo).bind fun h=>dj h.1 (fun t=>
(C 108 [snap h.2 t]).bind fun u=>
bW 107 a.1 1 h.2 fun a3=>
bT 3 a3 (bN a3 h.2 u) h.2 lo fun v=>
aN 107 a.1 v fun w=>
bT 107 a.1 (bN a.1 v w) v lo fun a4=>
aN 107 a.1 (ed lo 3 0 a.1 a4) fun aa=>some (Out.ret aa,ed lo 3 0 a.1 a4)) fun t=>some (Out.pan t,h.2)) (aY .eql 3 false true s (iA 2) fun ab=>bh ab ((call 110 [d] j lo).bind fun x=>dj x.1 (fun y=>
(call 107 [d,y] x.2 lo).bind fun c=>dj c.1 (fun i=>
(aW prog 46 9 i c.2).bind fun w=>
bW 107 a.1 2 c.2 fun q=>
bT 9 q (bN q c.2 w) c.2 lo fun z=>
aN 107 a.1 z fun f=>
bT 107 a.1 (bN a.1 z f) z lo fun e=>
aN 107 a.1 (ed lo 3 0 a.1 e) fun k=>some (Out.ret k,ed lo 3 0 a.1 e)) fun i=>some (Out.pan i,c.2)) fun y=>some (Out.pan y,x.2)) (aY .eql 3 false true s (iA 3) fun ad=>bh ad (aY .lss 3 false true r (iA 16) fun u=>
(call 92 [d,u] j lo).bind fun c=>dj c.1 (fun i=>
(call 110 [d] c.2 lo).bind fun g=>dj g.1 (fun a0=>aI (cx C) call rg n 91 lo 0 (List.length (ed lo 3 5 a.1 g.2)) (fun l b=>bif Nat.beq l 1 then
aN 107 (lk b 4) (St.H b) fun f=>
bT 107 (lk b 4) (bN (lk b 4) (St.H b) f) (St.H b) lo fun e=>
aN 107 (lk b 4) (ed lo 3 0 (lk b 4) e) fun k=>some (Out.ret k,ed lo 3 0 (lk b 4) e) else bif Nat.beq l 0 then
aN 107 (lk b 4) (St.H b) fun f=>
bT 107 (lk b 4) (bN (lk b 4) (St.H b) f) (St.H b) lo fun e=>
aN 107 (lk b 4) (ed lo 3 0 (lk b 4) e) fun k=>some (Out.ret k,ed lo 3 0 (lk b 4) e) else none) (fun l b=>none) (fun o=>
aN 107 (lk o 4) (ed lo 3 0 (lk o 4) (St.H o)) fun f=>some (Out.ret f,ed lo 3 0 (lk o 4) (St.H o))) (fun l b=>some (Out.pan l,St.H b)) n (St.mk [(0,d),(1,r),(4,a.1),(36,a0),(37,iA 0)] (ed lo 3 5 a.1 g.2))) fun a0=>some (Out.pan a0,g.2)) fun i=>some (Out.pan i,c.2)) ((call 92 [d,bA false] j lo).bind fun p=>dj p.1 (fun a5=>
aN 107 a.1 p.2 fun ae=>
bT 107 a.1 (bN a.1 p.2 ae) p.2 lo fun g=>
aN 107 a.1 (ed lo 3 0 a.1 g) fun q=>some (Out.ret q,ed lo 3 0 a.1 g)) fun a5=>some (Out.pan a5,p.2))))) fun a2=>some (Out.pan a2,H1.2):=r7
theorem Eg (b a:A):aB (cx C) call rg n 92 [b,a] H lo =
(kC prog UnOp.not a).bind fun c=>bh c ((D7 prog 33 (iA 10)).bind fun d=>Fk d fun a2=>some (Out.pan a2,H)) (some (Out.ret (A.tup []),H)):=r7
theorem RO (c d:A):aB (cx C) call rg n 93 [c,d] H lo =
kK d H fun a=>
eD 23 c a.2 fun e=>aI (cx C) call rg n 93 lo 0 (List.length a.2) (fun b s2=>bif Nat.beq b 0 then some (Out.ret (A.v (.int .i64 (-1))),St.H s2) else none) (fun b s2=>none) (fun a2=>some (Out.ret (lk a2 4),St.H a2)) (fun b s2=>some (Out.pan b,St.H s2)) n (St.mk [(0,c),(3,a.1),(4,iA 0),(7,e),(8,iA 0)] a.2):=r7
theorem RP (b x1:A):aB (cx C) call rg n 95 [b,x1] H lo =
ew 107 H fun a=>
(call 112 [b] a.2 lo).bind fun H1=>dj H1.1 (fun a2=>
aY .eql 5 false true a2 (A.v (.int .u8 1)) fun t3=>bh t3 ((call 113 [b] H1.2 lo).bind fun j=>dj j.1 (fun s=>
aY .rem 160 false true s (A.v (.int .u64 2)) fun t6=>
aY .eql 160 false true t6 (A.v (.int .u64 1)) fun q=>bh q (aY .quo 160 false true s (A.v (.int .u64 2)) fun t=>
(aW prog 160 3 t j.2).bind fun k=>
(kC prog UnOp.neg k).bind fun g=>
aY .sub 3 false true g (iA 1) fun h=>
lB 107 [(0,iA 1),(1,h)] fun i=>
bT 107 a.1 (bN a.1 j.2 i) j.2 lo fun aj=>
aN 107 a.1 (ed lo 3 0 a.1 aj) fun l=>some (Out.ret l,ed lo 3 0 a.1 aj)) (aY .quo 160 false true s (A.v (.int .u64 2)) fun t=>
(aW prog 160 3 t j.2).bind fun k=>
lB 107 [(0,iA 1),(1,k)] fun g=>
bT 107 a.1 (bN a.1 j.2 g) j.2 lo fun ak=>
aN 107 a.1 (ed lo 3 0 a.1 ak) fun i=>some (Out.ret i,ed lo 3 0 a.1 ak))) fun s=>some (Out.pan s,j.2)) (aY .eql 5 false true a2 (A.v (.int .u8 2)) fun t4=>bh t4 ((call 113 [b] H1.2 lo).bind fun c=>dj c.1 (fun u=>
iU b c.2 fun q=>
fl 155 q 2 4 c.2 fun k=>
Ez k false (iU b c.2 fun g=>
bW 155 g 0 c.2 fun h=>
aN 46 h c.2 fun i=>
eD 46 i c.2 fun w=>
iU b c.2 fun l=>
bW 155 l 1 c.2 fun x=>
aN 3 x c.2 fun y=>
aY .sub 3 false false w y fun z=>
(aW prog 3 160 z c.2).bind fun aa=>some [aa,z,y,x,l,b,w,i,h,g,b,u]) (some [ud,ud,ud,ud,ud,ud,ud,ud,ud,ud,ud,ud]) fun b4=>xC b4 fun b5 al b6 b7 b8 b9 ba bb bc=>eM bc fun bd be bf am c3=>
(cJ k (some [bA true,ud]) (aY .gtr 160 false false am b5 fun an=>some [an,an])).bind fun ao=>fB ao fun bg ap c4=>bh bg (iU b c.2 fun ae=>
bW 155 ae 2 c.2 fun a0=>
bT 4 a0 (bN a0 c.2 (bA true)) c.2 lo fun aq=>
lB 107 [] fun af=>
bT 107 a.1 (bN a.1 aq af) aq lo fun ar=>
aN 107 a.1 (ed lo 3 0 a.1 ar) fun o=>some (Out.ret o,ed lo 3 0 a.1 ar)) (iU b c.2 fun ae=>
fl 155 ae 1 3 c.2 fun bi=>
(aW prog 160 3 u c.2).bind fun af=>
aY .add 3 false false bi af fun bj=>
iU b c.2 fun o=>
bW 155 o 1 c.2 fun a1=>
bT 3 a1 (bN a1 c.2 bj) c.2 lo fun e=>
iU b e fun ag=>
fl 155 ag 0 46 e fun r=>
iU b e fun ah=>
fl 155 ah 1 3 e fun bk=>
(aW prog 160 3 u e).bind fun ai=>
aY .sub 3 false false bk ai fun bl=>
iU b e fun bm=>
fl 155 bm 1 3 e fun bn=>
(eb prog 46 r (some bl) (some bn) none e).bind fun bo=>
(aW prog 46 9 bo e).bind fun bp=>
lB 107 [(0,iA 2),(2,bp)] fun bq=>
bT 107 a.1 (bN a.1 e bq) e lo fun au=>
aN 107 a.1 (ed lo 3 0 a.1 au) fun br=>some (Out.ret br,ed lo 3 0 a.1 au))) fun u=>some (Out.pan u,c.2)) (aY .eql 5 false true a2 (A.v (.int .u8 3)) fun t5=>bh t5 ((call 113 [b] H1.2 lo).bind fun f=>dj f.1 (fun a7=>
iU b f.2 fun t=>
fl 155 t 2 4 f.2 fun g=>
Ez g false (iU b f.2 fun h=>
bW 155 h 0 f.2 fun i=>
aN 46 i f.2 fun w=>
eD 46 w f.2 fun l=>
iU b f.2 fun x=>
bW 155 x 1 f.2 fun y=>
aN 3 y f.2 fun z=>
aY .sub 3 false false l z fun aa=>
(aW prog 3 160 aa f.2).bind fun bt=>some [bt,aa,z,y,x,b,l,w,i,h,b,a7]) (some [ud,ud,ud,ud,ud,ud,ud,ud,ud,ud,ud,ud]) fun bu=>xC bu fun al b6 b7 b8 b9 ba bb bd bv=>eM bv fun be bf am bw ao=>
(cJ g (some [bA true,ud]) (aY .gtr 160 false false bw al fun av=>some [av,av])).bind fun bx=>fB bx fun ap c5 c6=>
(cJ ap (some [bA true,ud,ud]) (aY .eql 3 false true x1 (iA 16) fun a0=>some [a0,a0,x1])).bind fun bz=>fB bz fun c0 c7 c1=>cf c1 fun c8 c9=>bh c0 (iU b f.2 fun o=>
bW 155 o 2 f.2 fun a1=>
bT 4 a1 (bN a1 f.2 (bA true)) f.2 lo fun e=>
lB 107 [] fun ag=>
bT 107 a.1 (bN a.1 e ag) e lo fun aw=>
aN 107 a.1 (ed lo 3 0 a.1 aw) fun r=>some (Out.ret r,ed lo 3 0 a.1 aw)) (lB 107 [(0,iA 3)] fun o=>
ew 107 f.2 fun p=>
bT 107 p.1 (bN p.1 p.2 o) p.2 lo fun e=>aI (cx C) call rg n 95 lo 0 (List.length (ed lo 3 5 p.1 e)) (fun a3 d=>bif Nat.beq a3 1 then
aN 107 (lk d 8) (St.H d) fun a4=>
bT 107 (lk d 4) (bN (lk d 4) (St.H d) a4) (St.H d) lo fun ax=>
aN 107 (lk d 4) (ed lo 3 0 (lk d 4) ax) fun ah=>some (Out.ret ah,ed lo 3 0 (lk d 4) ax) else bif Nat.beq a3 0 then
iU (lk d 0) (St.H d) fun a4=>
bW 155 a4 2 (St.H d) fun r=>
bT 4 r (bN r (St.H d) (bA true)) (St.H d) lo fun ay=>
lB 107 [] fun c2=>
bT 107 (lk d 4) (bN (lk d 4) ay c2) ay lo fun az=>
aN 107 (lk d 4) (ed lo 3 0 (lk d 4) az) fun ai=>some (Out.ret ai,ed lo 3 0 (lk d 4) az) else none) (fun a3 d=>none) (fun a8=>
aN 107 (lk a8 4) (ed lo 3 0 (lk a8 4) (St.H a8)) fun a4=>some (Out.ret a4,ed lo 3 0 (lk a8 4) (St.H a8))) (fun a3 d=>some (Out.pan a3,St.H d)) n (St.mk [(0,b),(1,x1),(4,a.1),(7,a7),(8,p.1),(9,A.v (.int .u64 0))] (ed lo 3 5 p.1 e)))) fun a7=>some (Out.pan a7,f.2)) (iU b H1.2 fun t6=>
bW 155 t6 2 H1.2 fun q=>
bT 4 q (bN q H1.2 (bA true)) H1.2 lo fun H8=>
lB 107 [] fun k=>
bT 107 a.1 (bN a.1 H8 k) H8 lo fun b1=>
aN 107 a.1 (ed lo 3 0 a.1 b1) fun h=>some (Out.ret h,ed lo 3 0 a.1 b1))))) fun a2=>some (Out.pan a2,H1.2):=r7
theorem RQ (f:A):aB (cx C) call rg n 96 [f] H lo =
kK f H fun a=>
fl 107 a.1 2 9 a.2 fun t2=>
aY .eql 9 false true t2 (A.v (Value.string (ByteArray.mk #[]))) fun t3=>
(cJ t3 (bW 107 a.1 3 a.2 fun g=>
aN 105 g a.2 fun h=>
eD 105 h a.2 fun i=>
aY .eql 3 false true i (iA 0) fun j=>some [j,j,i,h,g]) (some [bA false,ud,ud,ud,ud])).bind fun l4=>eM l4 fun u5 u6 u7 u8 l8=>cf l8 fun u9 l9=>
fl 107 a.1 1 3 a.2 fun a7=>
aY .eql 3 false true a7 (iA 0) fun a8=>
(cJ a8 (bW 107 a.1 3 a.2 fun k=>
aN 105 k a.2 fun l=>
eD 105 l a.2 fun o=>
aY .eql 3 false true o (iA 0) fun p=>some [p,p,o,l,k]) (some [bA false,ud,ud,ud,ud])).bind fun a9=>eM a9 fun aa b0 b1 b2 ab=>cf ab fun b3 b4=>
fl 107 a.1 1 3 a.2 fun ad=>
aY .eql 3 false true ad (iA 0) fun ae=>
(cJ ae (bW 107 a.1 2 a.2 fun q=>
aN 9 q a.2 fun r=>
aY .eql 9 false true r (A.v (Value.string (ByteArray.mk #[]))) fun s=>some [s,s,r,q]) (some [bA false,ud,ud,ud])).bind fun af=>eM af fun ag b5 b6 b7 b8=>
lB 171 [(1,u5),(2,aa),(3,ag)] fun ah=>
ew 171 a.2 fun HW=>
bT 171 HW.1 (bN HW.1 HW.2 ah) HW.2 lo fun b=>
fl 107 a.1 0 3 b fun ai=>
aY .lss 3 false true ai (iA 1) fun aj=>
(cJ aj (some [bA true,ud,ud,ud]) (bW 107 a.1 0 b fun t=>
aN 3 t b fun u=>
aY .gtr 3 false true u (iA 3) fun w=>some [w,w,u,t])).bind fun ak=>eM ak fun al b9 ba bb bc=>
(cJ al (some [bA true,ud,ud,ud,ud,ud]) (bW 107 a.1 0 b fun x=>
aN 3 x b fun y=>
eN 171 HW.1 y b fun z=>
aN 4 z b fun a0=>
(kC prog UnOp.not a0).bind fun a1=>some [a1,a1,a0,z,y,x])).bind fun am=>eM am fun an bd be bf ao=>fB ao fun bg bi bj=>bh an (some (Out.ret (A.tup [iA 0,bA false]),b)) (fl 107 a.1 0 3 b fun ap=>
aY .lss 3 false true ap (iA 3) fun aq=>bh aq (some (Out.ret (A.tup [iA 0,bA true]),b)) (fl 107 a.1 3 105 b fun a2=>
eD 105 a2 b fun ar=>aI (cx C) call rg n 96 lo 0 (List.length b) (fun d c=>bif Nat.beq d 0 then
aY .add 3 false true (lk c 2) (iA 1) fun au=>some (Out.ret (A.tup [au,bA true]),St.H c) else none) (fun d c=>none) (fun e=>some (Out.ret (A.tup [lk e 2,lk e 3]),St.H e)) (fun d c=>some (Out.pan d,St.H c)) n (St.mk [(2,iA 0),(3,bA false),(55,a2),(56,ar),(57,iA 0)] b))):=r7
theorem M8 (b f:A):aB (cx C) call rg n 97 [b,f] H lo =
kK f H fun c=>
(aG prog 46 1 [(0,cY c.2 (A.v (.int .u8 1)))]).bind fun h=>
(bG prog 46 46 false b h c.2 lo).bind fun a=>bif bif apart c.1 b then true else false then
bW 107 c.1 1 a.2 fun g=>bif bif apart g b then true else false then
aN 3 g a.2 fun i=>
(C 99 [snap a.2 i]).bind fun j=>
(call 98 [a.1,j] a.2 lo).bind fun d=>dj d.1 (fun e=>some (Out.ret e,d.2)) fun e=>some (Out.pan e,d.2) else none else none:=r7
theorem Gk (c d:A):aB (cx C) call rg n 98 [c,d] H lo=aI (cx C) call rg n 98 lo 0 (List.length H) (fun b a=>bif Nat.beq b 0 then
(aW prog 160 5 (lk a 1) (St.H a)).bind fun g=>
(aG prog 46 1 [(0,cY (St.H a) g)]).bind fun t2=>
(bG prog 46 46 false (lk a 0) t2 (St.H a) lo).bind fun e=>some (Out.ret e.1,e.2) else none) (fun b a=>none) (fun f=>some (Out.ret (lk f 4),St.H f)) (fun b a=>some (Out.pan b,St.H a)) n (St.mk [(0,c),(1,d),(4,A.imm [] true)] H):=r7
theorem RR (a:A):aB (cx C) call rg n 99 [a] H lo =
(aW prog 3 160 a H).bind fun b=>
aY .shl 160 false true b (A.v (.int .u64 1)) fun c=>
aY .shr 3 false true a (A.v (.int .u64 63)) fun t2=>
(aW prog 3 160 t2 H).bind fun d=>
aY .xor 160 false false c d fun e=>some (Out.ret e,H):=r7
theorem Hh (b f:A):aB (cx C) call rg n 100 [b,f] H lo =
kK f H fun g=>
(mj lo g.1 g.2).bind fun a=>bif bif rz (A.v (.int .u8 2)) then true else false then
(aG prog 46 1 [(0,cY a.2 (A.v (.int .u8 2)))]).bind fun t2=>
bW 107 a.1 2 a.2 fun h=>
aN 9 h a.2 fun i=>
eD 9 i a.2 fun j=>
(aW prog 3 160 j a.2).bind fun o=>
bW 107 a.1 2 a.2 fun c=>
aN 9 c a.2 fun p=>bif bif apart c b then bif apart a.1 b then bif apart j b then bif apart i b then bif apart h b then bif apart a.1 b then true else false else false else false else false else false else false then
(bG prog 46 46 false b t2 a.2 lo).bind fun k=>bif bif gY 1000 c then bif gY 1000 a.1 then true else false else false then
(call 98 [k.1,o] k.2 lo).bind fun d=>dj d.1 (fun e=>
(bG prog 46 9 false e p d.2 lo).bind fun l=>some (Out.ret l.1,l.2)) fun e=>some (Out.pan e,d.2) else none else none else none:=r7
theorem Ji (a h i:A):aB (cx C) call rg n 101 [a,h,i] H lo =
kK h H fun d=>
(aG prog 46 1 [(0,cY d.2 (A.v (.int .u8 3)))]).bind fun q=>
(bG prog 46 46 false a q d.2 lo).bind fun b=>bif bif apart d.1 a then true else false then
bW 107 d.1 3 b.2 fun j=>bif bif apart j a then true else false then
aN 105 j b.2 fun k=>bif bif apart k a then true else false then
eD 105 k b.2 fun l=>bif bif apart l a then true else false then
(aW prog 3 160 l b.2).bind fun r=>
(call 98 [b.1,r] b.2 lo).bind fun c=>dj c.1 (fun g=>
fl 107 d.1 3 105 c.2 fun o=>
eD 105 o c.2 fun s=>aI (cx C) call rg n 101 lo 0 (List.length c.2) (fun f e=>bif Nat.beq f 0 then some (Out.ret (lk e 0),St.H e) else none) (fun f e=>none) (fun p=>some (Out.ret (lk p 5),St.H p)) (fun f e=>some (Out.pan f,St.H e)) n (St.mk [(0,g),(2,i),(5,A.imm [] true),(17,o),(18,s),(19,iA 0)] c.2)) fun g=>some (Out.pan g,c.2) else none else none else none else none:=r7
theorem MZ (l:A):aB (cx C) call rg n 102 [l] H lo =
kK l H fun a=>
fl 107 a.1 0 3 a.2 fun t2=>
aY .eql 3 false true t2 (iA 1) fun t=>bh t (fl 107 a.1 2 9 a.2 fun i=>
aY .eql 9 false true i (A.v (Value.string (ByteArray.mk #[]))) fun j=>
(cJ j (bW 107 a.1 3 a.2 fun h=>
aN 105 h a.2 fun d=>
eD 105 d a.2 fun e=>
aY .eql 3 false true e (iA 0) fun c=>some [c,c,e,d,h]) (some [bA false,ud,ud,ud,ud])).bind fun u=>eM u fun w o x k y=>cf y fun p q=>some (Out.ret w,a.2)) (aY .eql 3 false true t2 (iA 2) fun z=>bh z (fl 107 a.1 1 3 a.2 fun j=>
aY .eql 3 false true j (iA 0) fun h=>
(cJ h (bW 107 a.1 3 a.2 fun d=>
aN 105 d a.2 fun e=>
eD 105 e a.2 fun c=>
aY .eql 3 false true c (iA 0) fun f=>some [f,f,c,e,d]) (some [bA false,ud,ud,ud,ud])).bind fun l8=>eM l8 fun o x k p q=>cf q fun a1 a3=>some (Out.ret o,a.2)) (aY .eql 3 false true t2 (iA 3) fun i=>bh i (aI (cx C) call rg n 102 lo 0 (List.length a.2) (fun g b=>bif Nat.beq g 1 then
fl 107 (lk b 1) 1 3 (St.H b) fun d=>
aY .eql 3 false true d (iA 0) fun e=>
(cJ e (bW 107 (lk b 1) 2 (St.H b) fun c=>
aN 9 c (St.H b) fun f=>
aY .eql 9 false true f (A.v (Value.string (ByteArray.mk #[]))) fun r=>some [r,r,f,c]) (some [bA false,ud,ud,ud])).bind fun a2=>eM a2 fun k p a1 a4 a5=>some (Out.ret k,St.H b) else bif Nat.beq g 0 then some (Out.ret (bA false),St.H b) else none) (fun g b=>none) (fun s=>some (Out.ret (lk s 2),St.H s)) (fun g b=>some (Out.pan g,St.H b)) n (St.mk [(1,a.1),(2,bA false),(3,iA 0)] a.2)) (some (Out.ret (bA false),a.2)))):=r7
theorem M0 (d:A):aB (cx C) call rg n 103 [d] H lo =
kK d H fun a=>
fl 107 a.1 0 3 a.2 fun t2=>
aY .neq 3 false true t2 (iA 3) fun f=>bh f (some (Out.ret (iA 0),a.2)) (aI (cx C) call rg n 103 lo 0 (List.length a.2) (fun c b=>bif Nat.beq c 0 then
aY .add 3 false true (lk b 3) (iA 1) fun g=>some (Out.ret g,St.H b) else none) (fun c b=>none) (fun e=>some (Out.ret (lk e 2),St.H e)) (fun c b=>some (Out.pan c,St.H b)) n (St.mk [(1,a.1),(2,iA 0),(3,iA 0),(4,iA 0)] a.2)):=r7
theorem M1 (a:A):aB (cx C) call rg n 104 [a] H lo =
aY .lss 160 false true a (A.v (.int .u64 128)) fun d=>bh d ((aW prog 160 5 a H).bind fun b=>
(aG prog 46 1 [(0,cY H b)]).bind fun t2=>some (Out.ret t2,H)) (aY .rem 160 false true a (A.v (.int .u64 128)) fun b=>
aY .add 160 false true b (A.v (.int .u64 128)) fun t2=>
(aW prog 160 5 t2 H).bind fun e=>
(aG prog 46 1 [(0,cY H e)]).bind fun f=>
aY .quo 160 false true a (A.v (.int .u64 128)) fun g=>
(C 104 [snap H g]).bind fun h=>
(bG prog 46 46 false f h H lo).bind fun c=>some (Out.ret c.1,c.2)):=r7
theorem M3 (a:A):aB (cx C) call rg n 105 [a] H lo =
aY .geq 3 false true a (iA 0) fun c=>bh c ((aW prog 3 160 a H).bind fun b=>
aY .mul 160 true false (A.v (.int .u64 2)) b fun t2=>some (Out.ret t2,H)) (aY .add 3 false true a (iA 1) fun b=>
(kC prog UnOp.neg b).bind fun t2=>
(aW prog 3 160 t2 H).bind fun d=>
aY .mul 160 true false (A.v (.int .u64 2)) d fun e=>
aY .add 160 false true e (A.v (.int .u64 1)) fun f=>some (Out.ret f,H)):=r7
theorem M4 (a:A):aB (cx C) call rg n 106 [a] H lo =
aY .neq 3 false false a a fun b=>some (Out.ret b,H):=r7
theorem Hk (b c:A):aB (cx C) call rg n 107 [b,c] H lo =
iU b H fun f=>
fl 150 f 0 46 H fun t2=>
eD 46 t2 H fun g=>
aY .leq 3 false false c g fun h=>
(call 92 [b,h] H lo).bind fun a=>dj a.1 (fun d=>
iU b a.2 fun i=>
fl 150 i 0 46 a.2 fun j=>
(eb prog 46 j none (some c) (some c) a.2).bind fun k=>
iU b a.2 fun l=>
fl 150 l 0 46 a.2 fun o=>
(eb prog 46 o (some c) none none a.2).bind fun p=>
iU b a.2 fun q=>
bW 150 q 0 a.2 fun e=>
bT 46 e (bN e a.2 p) a.2 lo fun r=>some (Out.ret k,r)) fun d=>some (Out.pan d,a.2):=r7
theorem M5 (a:A):aB (cx C) call rg n 108 [a] H lo =
aY .shr 160 false true a (A.v (.int .u64 1)) fun b=>
(aW prog 160 3 b H).bind fun c=>
aY .and 160 false true a (A.v (.int .u64 1)) fun t2=>
(aW prog 160 3 t2 H).bind fun d=>
(kC prog UnOp.neg d).bind fun e=>
aY .xor 3 false false c e fun f=>some (Out.ret f,H):=r7
theorem Hl (c:A):aB (cx C) call rg n 109 [c] H lo=aI (cx C) call rg n 109 lo 0 (List.length H) (fun b a=>bif Nat.beq b 0 then some (Out.ret (lk a 2),St.H a) else none) (fun b a=>none) (fun d=>some (Out.ret (lk d 2),St.H d)) (fun b a=>some (Out.pan b,St.H a)) n (St.mk [(0,c),(2,A.v (.int .u64 0)),(3,iA 0)] H):=r7
theorem Jj (a:A):aB (cx C) call rg n 110 [a] H lo =
(call 109 [a] H lo).bind fun H0=>dj H0.1 (fun b=>
iU a H0.2 fun t2=>
fl 150 t2 0 46 H0.2 fun e=>
eD 46 e H0.2 fun f=>
(aW prog 3 160 f H0.2).bind fun g=>
aY .leq 160 false false b g fun h=>
(call 92 [a,h] H0.2 lo).bind fun c=>dj c.1 (fun d=>
(aW prog 160 3 b c.2).bind fun i=>some (Out.ret i,c.2)) fun d=>some (Out.pan d,c.2)) fun b=>some (Out.pan b,H0.2):=r7
theorem Jk (a:A):aB (cx C) call rg n 112 [a] H lo =
iU a H fun f=>
fl 155 f 1 3 H fun t2=>
iU a H fun g=>
fl 155 g 0 46 H fun h=>
eD 46 h H fun i=>
aY .geq 3 false false t2 i fun j=>bh j (iU a H fun c=>
bW 155 c 2 H fun d=>
bT 4 d (bN d H (bA true)) H lo fun k=>some (Out.ret (A.v (.int .u8 0)),k)) (iU a H fun c=>
fl 155 c 1 3 H fun l=>
aY .add 3 false true l (iA 1) fun o=>
iU a H fun p=>
bW 155 p 1 H fun e=>
bT 3 e (bN e H o) H lo fun b=>
iU a b fun q=>
fl 155 q 0 46 b fun r=>
iU a b fun s=>
fl 155 s 1 3 b fun t=>
aY .sub 3 false true t (iA 1) fun u=>
eN 46 r u b fun w=>
aN 5 w b fun x=>some (Out.ret x,b)):=r7
theorem Hn (c:A):aB (cx C) call rg n 113 [c] H lo=aI (cx C) call rg n 113 lo 0 (List.length H) (fun a b=>bif Nat.beq a 0 then some (Out.ret (A.v (.int .u64 0)),St.H b) else none) (fun a b=>none) (fun d=>some (Out.ret (lk d 2),St.H d)) (fun a b=>some (Out.pan a,St.H b)) n (St.mk [(0,c),(2,A.v (.int .u64 0)),(3,A.v (.int .u64 0)),(4,iA 0)] H):=r7
theorem M7 (c d x4:A):aI (cx C) call rg n 8 lo 0 L kx kg kr kp (m+1) (St.mk [(1,c),(2,d),(4,x4)] H) =
fl 28 c 1 26 H fun t1=>
eD 26 t1 H fun t2=>
aY .lss 3 false false x4 t2 fun t3=>bh t3 (fl 28 c 1 26 H fun t5=>
eN 26 t5 x4 H fun t6=>
aN 55 t6 H fun t7=>
ew 55 H fun b=>
bT 55 b.1 (bN b.1 b.2 t7) b.2 lo fun a=>
fl 55 b.1 0 53 a fun a8=>
eD 53 a8 a fun a9=>
aY .gtr 3 false true a9 (iA 40) fun aa=>
(cJ aa (some [bA true,ud,ud,ud,ud,ud,ud,ud,ud,ud,ud]) (bW 55 b.1 1 a fun h=>
aN 50 h a fun i=>
eD 50 i a fun j=>
aY .gtr 3 false true j (iA 60) fun e=>
(cJ e (bW 55 b.1 1 a fun k=>
aN 50 k a fun l=>
eD 50 l a fun o=>
aY .lss 3 false true o (iA 4094) fun p=>some [p,p,o,l,k]) (some [bA false,ud,ud,ud,ud])).bind fun ab=>eM ab fun f q r s g=>cf g fun t an=>some [f,f,q,r,s,t,e,e,j,i,h])).bind fun ad=>xC ad fun ae ao ap aq f q r s g=>fB g fun t ar af=>cf af fun au av=>
(cJ ae (some [bA true,ud,ud,ud,ud]) (bW 55 b.1 1 a fun u=>
aN 50 u a fun v=>
eD 50 v a fun w=>
aY .gtr 3 false true w (iA 5000) fun x=>some [x,x,w,v,u])).bind fun ag=>eM ag fun ah aw ax ay ai=>cf ai fun az b0=>
(cJ ah (some [bA true,ud,ud,ud,ud]) (bW 55 b.1 2 a fun y=>
aN 50 y a fun z=>
eD 50 z a fun a0=>
aY .gtr 3 false true a0 (iA 5000) fun a1=>some [a1,a1,a0,z,y])).bind fun aj=>eM aj fun ak b1 b2 b3 al=>cf al fun b4 b5=>bh ak (kr (St.mk [(1,c),(2,bA false),(4,x4)] a)) (aY .add 3 false true x4 (iA 1) fun a2=>
np L a fun am=>bif bif Nat.beq (List.length a) L then true else aS L [(4,a2),(1,c),(2,d)] [1,2,4] then aI (cx C) call rg n 8 lo 0 L kx kg kr kp m (St.mk [(1,c),(2,d),(4,a2)] am) else none)) (kx 0 (St.mk [(1,c),(2,d),(4,x4)] H)):=r7
theorem Jl (b f c FB d DW:A):aI (cx C) call rg n 13 lo 0 L kx kg kr kp (m+1) (St.mk [(1,b),(2,f),(3,c),(31,FB),(32,d),(33,DW)] H) =
aY .lss 3 false false DW d fun h=>bh h (eN 26 FB DW H fun i=>
aN 55 i H fun t2=>
ew 55 H fun e=>
bT 55 e.1 (bN e.1 e.2 t2) e.2 lo fun a=>
aN 55 e.1 a fun j=>
fl 28 b 2 3 a fun k=>
(C 34 [snap a j,snap a DW,snap a c,snap a k]).bind fun l=>
(kC prog UnOp.not l).bind fun o=>bh o (kr (St.mk [(1,b),(2,iA 490),(3,c),(31,FB),(32,d),(33,DW)] a)) (aY .add 3 false true DW (iA 1) fun g=>
np L a fun p=>bif bif Nat.beq (List.length a) L then true else aS L [(33,g),(1,b),(2,f),(3,c),(31,FB),(32,d)] [1,2,3,31,32,33] then aI (cx C) call rg n 13 lo 0 L kx kg kr kp m (St.mk [(1,b),(2,f),(3,c),(31,FB),(32,d),(33,g)] p) else none)) (kx 0 (St.mk [(1,b),(2,f),(3,c),(31,FB),(32,d),(33,DW)] H)):=r7
theorem Jm (b i c e f g:A):aI (cx C) call rg n 13 lo 1 L kx kg kr kp (m+1) (St.mk [(1,b),(2,i),(3,c),(48,e),(49,f),(50,g)] H) =
aY .lss 3 false false g f fun t0=>bh t0 (eN 22 e g H fun t1=>
aN 48 t1 H fun t2=>
ew 48 H fun h=>
bT 48 h.1 (bN h.1 h.2 t2) h.2 lo fun x=>
fl 48 h.1 2 46 x fun t6=>
(C 35 [snap x t6]).bind fun t7=>
da t7 0 fun t8=>
da t7 1 fun y=>
ew 75 x fun j=>
bT 75 j.1 (bN j.1 j.2 t8) j.2 lo fun b5=>
ew 30 b5 fun k=>
ew 41 k.2 fun d=>
fl 75 j.1 1 30 d.2 fun b6=>
bW 75 j.1 2 d.2 fun a1=>
aN 41 a1 d.2 fun b7=>bif bif apart a1 k.1 then bif apart j.1 k.1 then true else false else false then
bT 30 k.1 (bN k.1 d.2 b6) d.2 lo fun a2=>
bT 41 d.1 (bN d.1 a2 b7) a2 lo fun a=>
(cJ y (bW 75 j.1 0 a fun a3=>
aN 3 a3 a fun a4=>
aY .eql 3 false true a4 (iA 1) fun a5=>some [a5,a5,a4,a3]) (some [bA false,ud,ud,ud])).bind fun b8=>eM b8 fun b9 c5 c6 c7 c8=>bh b9 (aN 30 k.1 a fun z=>
(C 24 [snap a z,snap a c]).bind fun l=>
(cJ l (bW 48 h.1 0 a fun u=>
aN 3 u a fun v=>
aY .eql 3 false true v (iA 0) fun o=>some [o,o,v,u]) (some [bA false,ud,ud,ud])).bind fun ba=>eM ba fun bb c9 a6 bc ca=>
(cJ bb (bW 48 h.1 1 a fun p=>
aN 3 p a fun q=>
bW 30 k.1 1 a fun r=>
aN 3 r a fun a7=>
aY .add 3 false true a7 (iA 1) fun a8=>
aY .eql 3 false false q a8 fun s=>some [s,s,a8,a7,r,q,p]) (some [bA false,ud,ud,ud,ud,ud,ud])).bind fun bd=>eM bd fun a9 be bf bg aa=>fB aa fun cb ab bi=>cf bi fun bj cc=>
(kC prog UnOp.not a9).bind fun w=>bh w (kr (St.mk [(1,b),(2,iA 490),(3,c),(48,e),(49,f),(50,g)] a)) (aY .add 3 false true g (iA 1) fun t=>
np L a fun bk=>bif bif Nat.beq (List.length a) L then true else aS L [(50,t),(1,b),(2,i),(3,c),(48,e),(49,f)] [1,2,3,48,49,50] then aI (cx C) call rg n 13 lo 1 L kx kg kr kp m (St.mk [(1,b),(2,i),(3,c),(48,e),(49,f),(50,t)] bk) else none)) (bh y (fl 41 d.1 0 3 a fun l=>
aY .sub 3 false true c (iA 1) fun u=>
(C 30 [snap a l,snap a (iA 0),snap a u]).bind fun v=>
(cJ v (bW 41 d.1 1 a fun o=>
aN 3 o a fun ad=>
bW 28 b 2 a fun ae=>
aN 3 ae a fun p=>
aY .sub 3 false true p (iA 1) fun q=>
(C 30 [snap a ad,snap a (iA 0),snap a q]).bind fun r=>some [r,r,q,p,ae,ad,o]) (some [bA false,ud,ud,ud,ud,ud,ud])).bind fun bl=>eM bl fun a6 bc cd a9 bm=>fB bm fun be bf bn=>cf bn fun bg aa=>
(cJ a6 (bW 48 h.1 0 a fun s=>
aN 3 s a fun af=>
bW 41 d.1 0 a fun ag=>
aN 3 ag a fun w=>
aY .add 3 false true w (iA 1) fun t=>
aY .eql 3 false false af t fun ah=>some [ah,ah,t,w,ag,af,s]) (some [bA false,ud,ud,ud,ud,ud,ud])).bind fun bo=>eM bo fun ab bj ce cg bp=>fB bp fun ch ci bq=>cf bq fun cj ck=>
(cJ ab (bW 48 h.1 1 a fun ai=>
aN 3 ai a fun aj=>
aY .eql 3 false true aj (iA 0) fun ak=>some [ak,ak,aj,ai]) (some [bA false,ud,ud,ud])).bind fun br=>eM br fun al cl cm cn co=>
Ez al true (bW 28 b 1 a fun am=>
aN 26 am a fun an=>
bW 41 d.1 0 a fun ao=>
aN 3 ao a fun ap=>
eN 26 an ap a fun aq=>
bW 55 aq 2 a fun ar=>
aN 50 ar a fun au=>
bW 41 d.1 1 a fun av=>
aN 3 av a fun aw=>
eN 50 au aw a fun ax=>
aN 3 ax a fun bs=>
bW 41 d.1 2 a fun ay=>
aN 3 ay a fun bt=>some [bt,ay,bs,ax,aw,av,au,ar,aq,ap,ao,an,am]) (some [ud,ud,ud,ud,ud,ud,ud,ud,ud,ud,ud,ud,ud]) fun bu=>xC bu fun bv cp bw cq cr cs ct cu bx=>eM bx fun cv cw cy cz bz=>cf bz fun d0 d1=>
(cJ al (aY .eql 3 false false bw bv fun az=>some [az,az]) (some [bA false,ud])).bind fun c0=>fB c0 fun c1 d2 d3=>
(kC prog UnOp.not c1).bind fun c2=>bh c2 (kr (St.mk [(1,b),(2,iA 490),(3,c),(48,e),(49,f),(50,g)] a)) (aY .add 3 false true g (iA 1) fun b0=>
np L a fun c3=>bif bif Nat.beq (List.length a) L then true else aS L [(50,b0),(1,b),(2,i),(3,c),(48,e),(49,f)] [1,2,3,48,49,50] then aI (cx C) call rg n 13 lo 1 L kx kg kr kp m (St.mk [(1,b),(2,i),(3,c),(48,e),(49,f),(50,b0)] c3) else none)) ((kC prog UnOp.not y).bind fun z=>bh z (kr (St.mk [(1,b),(2,iA 490),(3,c),(48,e),(49,f),(50,g)] a)) (aY .add 3 false true g (iA 1) fun l=>
np L a fun c4=>bif bif Nat.beq (List.length a) L then true else aS L [(50,l),(1,b),(2,i),(3,c),(48,e),(49,f)] [1,2,3,48,49,50] then aI (cx C) call rg n 13 lo 1 L kx kg kr kp m (St.mk [(1,b),(2,i),(3,c),(48,e),(49,f),(50,l)] c4) else none))) else none) (kx 2 (St.mk [(1,b),(2,i),(3,c),(48,e),(49,f),(50,g)] H)):=r7
theorem Jn (c d x4 b:A):aI (cx C) call rg n 22 lo 0 L kx kg kr kp (m+1) (St.mk [(0,c),(1,d),(4,x4),(5,b)] H) =
eD 26 c H fun z=>
aY .lss 3 false false b z fun t1=>bh t1 (eN 26 c b H fun t2=>
fl 55 t2 0 53 H fun t4=>
eD 53 t4 H fun t5=>
eN 26 d b H fun t6=>
fl 55 t6 0 53 H fun t8=>
eD 53 t8 H fun t9=>
aY .neq 3 false false t5 t9 fun a6=>
(cJ a6 (some [bA true,ud,ud,ud,ud,ud,ud,ud,ud,ud,ud,ud,ud]) (eN 26 c b H fun i=>
bW 55 i 1 H fun j=>
aN 50 j H fun k=>
eN 26 d b H fun l=>
bW 55 l 1 H fun o=>
aN 50 o H fun p=>
(C 55 [snap H k,snap H p]).bind fun q=>
(kC prog UnOp.not q).bind fun r=>some [r,r,q,p,o,l,b,d,k,j,i,b,c])).bind fun a7=>xC a7 fun s ak al am an ao ap aq a8=>eM a8 fun ar au av aw a9=>cf a9 fun ax ay=>
Ez s false (eN 26 c b H fun t=>
bW 55 t 2 H fun u=>
aN 50 u H fun aa=>
eN 26 d b H fun v=>
bW 55 v 2 H fun w=>
aN 50 w H fun ab=>some [ab,w,v,b,d,aa,u,t,b,c]) (some [ud,ud,ud,ud,ud,ud,ud,ud,ud,ud]) fun ad=>xC ad fun ae az b0 b1 b2 af b3 b4 ag=>fB ag fun b5 b6 b7=>
(cJ s (some [bA true,ud,ud]) ((C 55 [snap H af,snap H ae]).bind fun x=>
(kC prog UnOp.not x).bind fun y=>some [y,y,x])).bind fun ah=>fB ah fun ai b8 aj=>cf aj fun b9 ba=>bh ai (kr (St.mk [(0,c),(1,d),(4,bA false),(5,b)] H)) (aI (cx C) call rg n 22 lo 1 (List.length H) (fun e a=>bif Nat.beq e 2 then
aY .add 3 false true (lk a 5) (iA 1) fun f=>
np L (St.H a) fun h=>bif bif Nat.beq (List.length (St.H a)) L then true else aS L ((5,f) :: (17,f) :: (16,lk a 5) :: St.fr a) [0,1,4,5] then aI (cx C) call rg n 22 lo 0 L kx kg kr kp m (St.mk [(0,lk a 0),(1,lk a 1),(4,lk a 4),(5,f)] h) else none else bif Nat.beq e 1 then
aY .add 3 false true (lk a 5) (iA 1) fun f=>
np L (St.H a) fun h=>bif bif Nat.beq (List.length (St.H a)) L then true else aS L ((5,f) :: (17,f) :: (16,lk a 5) :: St.fr a) [0,1,4,5] then aI (cx C) call rg n 22 lo 0 L kx kg kr kp m (St.mk [(0,lk a 0),(1,lk a 1),(4,lk a 4),(5,f)] h) else none else kx e (St.mk [(0,lk a 0),(1,lk a 1),(4,lk a 4),(5,lk a 5)] (St.H a))) (fun e a=>kg e (St.mk [(0,lk a 0),(1,lk a 1),(4,lk a 4),(5,lk a 5)] (St.H a))) (fun g=>kr (St.mk [(0,lk g 0),(1,lk g 1),(4,lk g 4),(5,lk g 5)] (St.H g))) (fun e a=>kp e (St.mk [(0,lk a 0),(1,lk a 1),(4,lk a 4),(5,lk a 5)] (St.H a))) n (St.mk [(0,c),(1,d),(4,x4),(5,b),(6,iA 0)] H))) (kx 0 (St.mk [(0,c),(1,d),(4,x4),(5,b)] H)):=r7
theorem Jo (b d x4 a c:A):aI (cx C) call rg n 22 lo 1 L kx kg kr kp (m+1) (St.mk [(0,b),(1,d),(4,x4),(5,a),(6,c)] H) =
eN 26 b a H fun f=>
fl 55 f 0 53 H fun t2=>
eD 53 t2 H fun g=>
aY .lss 3 false false c g fun h=>bh h (eN 26 b a H fun i=>
fl 55 i 0 53 H fun j=>
eN 53 j c H fun k=>
aN 30 k H fun l=>
eN 26 d a H fun o=>
fl 55 o 0 53 H fun p=>
eN 53 p c H fun q=>
aN 30 q H fun r=>
aY .neq 30 false false l r fun s=>bh s (kr (St.mk [(0,b),(1,d),(4,bA false),(5,a),(6,c)] H)) (aY .add 3 false true c (iA 1) fun e=>
np L H fun t=>bif bif Nat.beq (List.length H) L then true else aS L [(6,e),(0,b),(1,d),(4,x4),(5,a)] [0,1,4,5,6] then aI (cx C) call rg n 22 lo 1 L kx kg kr kp m (St.mk [(0,b),(1,d),(4,x4),(5,a),(6,e)] t) else none)) (kx 2 (St.mk [(0,b),(1,d),(4,x4),(5,a),(6,c)] H)):=r7
theorem Gi (c a x9 b qq:A):aI (cx C) call rg n 26 lo 0 L kx kg kr kp (m+1) (St.mk [(2,c),(3,a),(9,x9),(10,b),(11,qq)] H) =
aY .lss 3 false false qq b fun h=>bh h (eN 108 x9 qq H fun i=>
aN 110 i H fun t2=>
fl 107 a 3 105 H fun j=>
iU t2 H fun k=>
aN 3 k H fun l=>
lB 107 [(0,iA 1),(1,l)] fun o=>
(aG prog 105 1 [(0,cY H o)]).bind fun p=>
(bG prog 105 105 false j p H lo).bind fun d=>
bW 107 a 3 d.2 fun e=>
bT 105 e (bN e d.2 d.1) d.2 lo fun f=>
aY .add 3 false true qq (iA 1) fun g=>
np L f fun q=>bif bif Nat.beq (List.length f) L then true else aS L [(11,g),(2,c),(3,a),(9,x9),(10,b)] [2,3,9,10,11] then aI (cx C) call rg n 26 lo 0 L kx kg kr kp m (St.mk [(2,c),(3,a),(9,x9),(10,b),(11,g)] q) else none) (kx 0 (St.mk [(2,c),(3,a),(9,x9),(10,b),(11,qq)] H)):=r7
theorem Jp (b c A8 A9 sN:A):aI (cx C) call rg n 33 lo 0 L kx kg kr kp (m+1) (St.mk [(1,b),(2,c),(15,A8),(16,A9),(17,sN)] H) =
aY .lss 3 false false sN A9 fun t0=>bh t0 (eN 23 A8 sN H fun t1=>
aN 115 t1 H fun t2=>
(jF prog 115 H).bind fun e=>
bT 115 e.1 (bN e.1 e.2 t2) e.2 lo fun a=>
aN 115 e.1 a fun t5=>
(C 64 [snap a t5]).bind fun t6=>
(kC prog UnOp.not t6).bind fun h=>
Ez h false (aY .gtr 3 false true sN (iA 0) fun i=>
Ez i true (bW 25 b 1 a fun p=>
aN 23 p a fun q=>
aY .sub 3 false true sN (iA 1) fun r=>
eN 23 q r a fun s=>
(eb prog 115 s none none none a).bind fun a7=>
(eb prog 115 e.1 none none none a).bind fun a8=>some [a8,a7,s,r,sN,q,p]) (some [ud,ud,ud,ud,ud,ud,ud]) fun l9=>eM l9 fun j t u v aa=>fB aa fun w x ab=>cf ab fun d y=>some [j,t,u,v,w,x,d,i,i,sN]) (some [ud,ud,ud,ud,ud,ud,ud,ud,ud,ud]) fun l8=>xC l8 fun u9 j t u v w x d y=>fB y fun al am an=>qa d true ((call 65 [j,u9] a lo).bind fun f=>dj f.1 (fun k=>
Ez d true (aY .geq 3 false true k (iA 0) fun g=>some [g]) (some [ud]) fun l=>cf l fun o ao=>
(cJ h (some [bA true,ud]) ((cJ d (some o) (some (bA false))).bind fun z=>some [z,z])).bind fun a0=>fB a0 fun af ap aq=>bh af (kr (St.mk [(1,b),(2,iA 60),(15,A8),(16,A9),(17,sN)] f.2)) (aY .add 3 false true sN (iA 1) fun a1=>
np L f.2 fun ag=>bif bif Nat.beq (List.length f.2) L then true else aS L [(17,a1),(1,b),(2,c),(15,A8),(16,A9)] [1,2,15,16,17] then aI (cx C) call rg n 33 lo 0 L kx kg kr kp m (St.mk [(1,b),(2,c),(15,A8),(16,A9),(17,a1)] ag) else none)) fun k=>kp k (St.mk [(1,b),(2,c),(15,A8),(16,A9),(17,sN)] f.2)) (Ez d true (aY .geq 3 false true (ud) (iA 0) fun ah=>some [ah]) (some [ud]) fun ai=>cf ai fun aj ar=>
(cJ h (some [bA true,ud]) ((cJ d (some aj) (some (bA false))).bind fun g=>some [g,g])).bind fun l=>fB l fun o au a0=>bh o (kr (St.mk [(1,b),(2,iA 60),(15,A8),(16,A9),(17,sN)] a)) (aY .add 3 false true sN (iA 1) fun a2=>
np L a fun ak=>bif bif Nat.beq (List.length a) L then true else aS L [(17,a2),(1,b),(2,c),(15,A8),(16,A9)] [1,2,15,16,17] then aI (cx C) call rg n 33 lo 0 L kx kg kr kp m (St.mk [(1,b),(2,c),(15,A8),(16,A9),(17,a2)] ak) else none))) (kx 0 (St.mk [(1,b),(2,c),(15,A8),(16,A9),(17,sN)] H)):=r7
theorem Jq (d e f x4 x8 b c a:A):aI (cx C) call rg n 34 lo 0 L kx kg kr kp (m+1) (St.mk [(1,d),(2,e),(3,f),(4,x4),(8,x8),(27,b),(28,c),(29,a)] H) =
aY .lss 3 false false a c fun t0=>bh t0 (eN 50 b a H fun t1=>
aN 3 t1 H fun t2=>
(C 30 [snap H t2,snap H (iA 0),snap H (iA 8)]).bind fun t3=>
(kC prog UnOp.not t3).bind fun t4=>
(cJ t4 (some [bA true,ud,ud,ud,ud,ud,ud,ud,ud,ud,ud,ud,ud,ud,ud,ud]) (bW 55 x4 2 H fun i=>
aN 50 i H fun j=>
eN 50 j a H fun k=>
aN 3 k H fun l=>
aY .neq 3 false false l t2 fun g=>
(cJ g (bW 55 x4 2 H fun o=>
aN 50 o H fun p=>
eN 50 p a H fun q=>
aN 3 q H fun r=>
aY .neq 3 false true r (iA 0) fun s=>some [s,s,r,q,a,p,o]) (some [bA false,ud,ud,ud,ud,ud,ud])).bind fun a4=>eM a4 fun h t u v a5=>fB a5 fun w x a6=>cf a6 fun y ab=>some [h,h,t,u,v,w,x,y,g,g,t2,l,k,a,j,i])).bind fun l5=>xC l5 fun u6 u7 u8 u9 ag h t u a9=>xC a9 fun v w x y ah ai aj ak al=>bh u6 (kr (St.mk [(1,d),(2,e),(3,f),(4,x4),(8,bA false),(27,b),(28,c),(29,a)] H)) (aY .add 3 false true a (iA 1) fun z=>
np L H fun aa=>bif bif Nat.beq (List.length H) L then true else aS L [(29,z),(1,d),(2,e),(3,f),(4,x4),(8,x8),(27,b),(28,c)] [1,2,3,4,8,27,28,29] then aI (cx C) call rg n 34 lo 0 L kx kg kr kp m (St.mk [(1,d),(2,e),(3,f),(4,x4),(8,x8),(27,b),(28,c),(29,z)] aa) else none)) (kx 0 (St.mk [(1,d),(2,e),(3,f),(4,x4),(8,x8),(27,b),(28,c),(29,a)] H)):=r7
theorem Jr (c d x8 qq e FD f:A):aI (cx C) call rg n 34 lo 1 L kx kg kr kp (m+1) (St.mk [(1,c),(2,d),(8,x8),(11,qq),(57,e),(58,FD),(59,f)] H) =
aY .lss 3 false false f FD fun q=>bh q (eN 53 e f H fun r=>
aN 30 r H fun t2=>
ew 30 H fun b=>
bT 30 b.1 (bN b.1 b.2 t2) b.2 lo fun a=>
aN 30 b.1 a fun s=>
(C 24 [snap a s,snap a d]).bind fun t=>
(kC prog UnOp.not t).bind fun u=>
(cJ u (some [bA true,ud,ud,ud,ud]) (bW 30 b.1 1 a fun g=>
aN 3 g a fun h=>
aY .neq 3 false false h c fun i=>some [i,i,c,h,g])).bind fun v=>eM v fun w a3 a4 a5 x=>cf x fun a6 a7=>
(cJ w (some [bA true,ud,ud,ud,ud]) (bW 30 b.1 2 a fun j=>
aN 3 j a fun k=>
aY .lss 3 false false k qq fun l=>some [l,l,qq,k,j])).bind fun y=>eM y fun z a8 a9 aa a0=>cf a0 fun ab ad=>bh z (kr (St.mk [(1,c),(2,d),(8,bA false),(11,qq),(57,e),(58,FD),(59,f)] a)) (fl 30 b.1 2 3 a fun a1=>
aY .add 3 false true a1 (iA 1) fun o=>
aY .add 3 false true f (iA 1) fun p=>
np L a fun a2=>bif bif Nat.beq (List.length a) L then true else aS L [(59,p),(11,o),(1,c),(2,d),(8,x8),(57,e),(58,FD)] [1,2,8,11,57,58,59] then aI (cx C) call rg n 34 lo 1 L kx kg kr kp m (St.mk [(1,c),(2,d),(8,x8),(11,o),(57,e),(58,FD),(59,p)] a2) else none)) (kx 2 (St.mk [(1,c),(2,d),(8,x8),(11,qq),(57,e),(58,FD),(59,f)] H)):=r7
theorem Gj (b g c d e xE:A):aI (cx C) call rg n 35 lo 0 L kx kg kr kp (m+1) (St.mk [(2,b),(3,g),(6,c),(53,d),(54,e),(55,xE)] H) =
aY .lss 3 false false xE e fun l=>bh l (eN 105 d xE H fun o=>
aN 107 o H fun t2=>
ew 107 H fun f=>
bT 107 f.1 (bN f.1 f.2 t2) f.2 lo fun a=>
fl 107 f.1 0 3 a fun p=>
aY .neq 3 false true p (iA 1) fun q=>bh q (aN 75 b a fun h=>
bT 75 b (bN b a h) a lo fun r=>kr (St.mk [(2,b),(3,bA false),(6,c),(53,d),(54,e),(55,xE)] r)) (eN 108 c xE a fun h=>
aN 110 h a fun s=>
fl 107 f.1 1 3 a fun t=>
iU s a fun i=>
bT 3 i (bN i a t) a lo fun j=>
aY .add 3 false true xE (iA 1) fun k=>
np L j fun u=>bif bif Nat.beq (List.length j) L then true else aS L [(55,k),(2,b),(3,g),(6,c),(53,d),(54,e)] [2,3,6,53,54,55] then aI (cx C) call rg n 35 lo 0 L kx kg kr kp m (St.mk [(2,b),(3,g),(6,c),(53,d),(54,e),(55,k)] u) else none)) (kx 0 (St.mk [(2,b),(3,g),(6,c),(53,d),(54,e),(55,xE)] H)):=r7
theorem Js (a c x4 b:A):aI (cx C) call rg n 40 lo 0 L kx kg kr kp (m+1) (St.mk [(2,a),(3,c),(4,x4),(5,b)] H) =
fl 25 a 0 22 H fun e=>
eD 22 e H fun t2=>
aY .lss 3 false false b t2 fun f=>bh f (fl 25 a 0 22 H fun g=>
eN 22 g b H fun h=>
aN 48 h H fun i=>
fl 25 c 0 22 H fun j=>
eN 22 j b H fun k=>
aN 48 k H fun l=>
(C 69 [snap H i,snap H l]).bind fun o=>
(kC prog UnOp.not o).bind fun p=>bh p (kr (St.mk [(2,a),(3,c),(4,bA false),(5,b)] H)) (aY .add 3 false true b (iA 1) fun d=>
np L H fun q=>bif bif Nat.beq (List.length H) L then true else aS L [(5,d),(2,a),(3,c),(4,x4)] [2,3,4,5] then aI (cx C) call rg n 40 lo 0 L kx kg kr kp m (St.mk [(2,a),(3,c),(4,x4),(5,d)] q) else none)) (kx 0 (St.mk [(2,a),(3,c),(4,x4),(5,b)] H)):=r7
theorem Jt (a c x4 b:A):aI (cx C) call rg n 40 lo 1 L kx kg kr kp (m+1) (St.mk [(2,a),(3,c),(4,x4),(6,b)] H) =
fl 25 a 1 23 H fun e=>
eD 23 e H fun t2=>
aY .lss 3 false false b t2 fun f=>bh f (fl 25 a 1 23 H fun g=>
eN 23 g b H fun h=>
aN 115 h H fun i=>
fl 25 c 1 23 H fun j=>
eN 23 j b H fun k=>
aN 115 k H fun l=>
aY .neq 115 false false i l fun o=>bh o (kr (St.mk [(2,a),(3,c),(4,bA false),(6,b)] H)) (aY .add 3 false true b (iA 1) fun d=>
np L H fun p=>bif bif Nat.beq (List.length H) L then true else aS L [(6,d),(2,a),(3,c),(4,x4)] [2,3,4,6] then aI (cx C) call rg n 40 lo 1 L kx kg kr kp m (St.mk [(2,a),(3,c),(4,x4),(6,d)] p) else none)) (kx 2 (St.mk [(2,a),(3,c),(4,x4),(6,b)] H)):=r7
theorem Ju (a b c d x7 x8 x9 e:A):aI (cx C) call rg n 42 lo 0 L kx kg kr kp (m+1) (St.mk [(0,a),(1,b),(2,c),(6,d),(7,x7),(8,x8),(9,x9),(10,e)] H) =
aY .lss 3 false false x9 e fun j=>bh j (aY .add 3 false false x9 e fun k=>
(aW prog 3 129 k H).bind fun t2=>
aY .shr 129 false true t2 (A.v (.int .u64 1)) fun l=>
(aW prog 129 3 l H).bind fun g=>
eN 53 a g H fun o=>
aN 30 o H fun p=>dn (cx C) call c [p,b] H lo (fun h f=>
aY .lss 3 false true h (iA 0) fun q=>bh q (aY .add 3 false true g (iA 1) fun i=>
np L f fun r=>bif bif Nat.beq (List.length f) L then true else aS L [(9,i),(0,a),(1,b),(2,c),(6,d),(7,x7),(8,x8),(10,e)] [0,1,2,6,7,8,9,10] then aI (cx C) call rg n 42 lo 0 L kx kg kr kp m (St.mk [(0,a),(1,b),(2,c),(6,d),(7,x7),(8,x8),(9,i),(10,e)] r) else none) (np L f fun s=>bif bif Nat.beq (List.length f) L then true else aS L [(10,g),(0,a),(1,b),(2,c),(6,d),(7,x7),(8,x8),(9,x9)] [0,1,2,6,7,8,9,10] then aI (cx C) call rg n 42 lo 0 L kx kg kr kp m (St.mk [(0,a),(1,b),(2,c),(6,d),(7,x7),(8,x8),(9,x9),(10,g)] s) else none)) fun h f=>kp h (St.mk [(0,a),(1,b),(2,c),(6,d),(7,x7),(8,x8),(9,x9),(10,e)] f)) (kx 0 (St.mk [(0,a),(1,b),(2,c),(6,d),(7,x7),(8,x8),(9,x9),(10,e)] H)):=r7
theorem Jv (a b x4 c x7:A):aI (cx C) call rg n 47 lo 0 L kx kg kr kp (m+1) (St.mk [(2,a),(3,b),(4,x4),(6,c),(7,x7)] H) =
fl 107 x4 3 105 H fun f=>
eD 105 f H fun t2=>
aY .lss 3 false false x7 t2 fun g=>bh g (fl 107 x4 3 105 H fun h=>
eN 105 h x7 H fun i=>
fl 107 i 0 3 H fun j=>
aY .neq 3 false true j (iA 1) fun k=>bh k (kr (St.mk [(2,A.imm [] true),(3,bA false),(4,x4),(6,c),(7,x7)] H)) (fl 107 x4 3 105 H fun l=>
eN 105 l x7 H fun o=>
fl 107 o 1 3 H fun p=>
(aG prog 50 1 [(0,cY H p)]).bind fun q=>
(bG prog 50 50 false c q H lo).bind fun d=>
aY .add 3 false true x7 (iA 1) fun e=>
np L d.2 fun r=>bif bif Nat.beq (List.length d.2) L then true else aS L [(7,e),(6,d.1),(2,a),(3,b),(4,x4)] [2,3,4,6,7] then aI (cx C) call rg n 47 lo 0 L kx kg kr kp m (St.mk [(2,a),(3,b),(4,x4),(6,d.1),(7,e)] r) else none)) (kx 0 (St.mk [(2,a),(3,b),(4,x4),(6,c),(7,x7)] H)):=r7
theorem Jw (a c x4 b:A):aI (cx C) call rg n 55 lo 0 L kx kg kr kp (m+1) (St.mk [(0,a),(1,c),(4,x4),(5,b)] H) =
eD 50 a H fun e=>
aY .lss 3 false false b e fun f=>bh f (eN 50 a b H fun t2=>
aN 3 t2 H fun g=>
eN 50 c b H fun h=>
aN 3 h H fun i=>
aY .neq 3 false false g i fun j=>bh j (kr (St.mk [(0,a),(1,c),(4,bA false),(5,b)] H)) (aY .add 3 false true b (iA 1) fun d=>
np L H fun k=>bif bif Nat.beq (List.length H) L then true else aS L [(5,d),(0,a),(1,c),(4,x4)] [0,1,4,5] then aI (cx C) call rg n 55 lo 0 L kx kg kr kp m (St.mk [(0,a),(1,c),(4,x4),(5,d)] k) else none)) (kx 0 (St.mk [(0,a),(1,c),(4,x4),(5,b)] H)):=r7
theorem Jx (c a x4 x9 b qq:A):aI (cx C) call rg n 65 lo 0 L kx kg kr kp (m+1) (St.mk [(0,c),(1,a),(4,x4),(9,x9),(10,b),(11,qq)] H) =
aY .lss 3 false false qq b fun g=>bh g (eN 50 x9 qq H fun h=>
aN 3 h H fun t2=>
eD 50 a H fun i=>
aY .geq 3 false false qq i fun j=>bh j (kr (St.mk [(0,c),(1,a),(4,iA 1),(9,x9),(10,b),(11,qq)] H)) (eN 50 a qq H fun k=>
aN 3 k H fun l=>
(call 89 [t2,l] H lo).bind fun d=>dj d.1 (fun e=>
aY .neq 3 false true e (iA 0) fun o=>bh o (kr (St.mk [(0,c),(1,a),(4,e),(9,x9),(10,b),(11,qq)] d.2)) (aY .add 3 false true qq (iA 1) fun f=>
np L d.2 fun p=>bif bif Nat.beq (List.length d.2) L then true else aS L [(11,f),(0,c),(1,a),(4,x4),(9,x9),(10,b)] [0,1,4,9,10,11] then aI (cx C) call rg n 65 lo 0 L kx kg kr kp m (St.mk [(0,c),(1,a),(4,x4),(9,x9),(10,b),(11,f)] p) else none)) fun e=>kp e (St.mk [(0,c),(1,a),(4,x4),(9,x9),(10,b),(11,qq)] d.2))) (kx 0 (St.mk [(0,c),(1,a),(4,x4),(9,x9),(10,b),(11,qq)] H)):=r7
theorem Jy (a b d x4:A):aI (cx C) call rg n 86 lo 0 L kx kg kr kp (m+1) (St.mk [(1,a),(2,b),(3,d),(4,x4)] H) =
fl 107 a 3 105 H fun f=>
eD 105 f H fun t2=>
aY .lss 3 false false x4 t2 fun g=>bh g (fl 107 a 3 105 H fun h=>
eN 105 h x4 H fun i=>
aN 107 i H fun j=>
(C 86 [snap H j]).bind fun k=>
(bG prog 46 46 false d k H lo).bind fun c=>
aY .add 3 false true x4 (iA 1) fun e=>
np L c.2 fun l=>bif bif Nat.beq (List.length c.2) L then true else aS L [(4,e),(3,c.1),(1,a),(2,b)] [1,2,3,4] then aI (cx C) call rg n 86 lo 0 L kx kg kr kp m (St.mk [(1,a),(2,b),(3,c.1),(4,e)] l) else none) (kx 1 (St.mk [(1,a),(2,b),(3,d),(4,x4)] H)):=r7
theorem Jz (a b x4 x7 x8:A):aI (cx C) call rg n 88 lo 0 L kx kg kr kp (m+1) (St.mk [(0,a),(1,b),(4,x4),(7,x7),(8,x8)] H) =
aY .lss 3 false false x8 x7 fun e=>bh e (eN 22 a x8 H fun f=>
aN 48 f H fun t2=>dn (cx C) call b [t2] H lo (fun c h3=>bh c (kr (St.mk [(0,a),(1,b),(4,x8),(7,x7),(8,x8)] h3)) (aY .add 3 false true x8 (iA 1) fun d=>
np L h3 fun g=>bif bif Nat.beq (List.length h3) L then true else aS L [(8,d),(0,a),(1,b),(4,x4),(7,x7)] [0,1,4,7,8] then aI (cx C) call rg n 88 lo 0 L kx kg kr kp m (St.mk [(0,a),(1,b),(4,x4),(7,x7),(8,d)] g) else none)) fun c h3=>kp c (St.mk [(0,a),(1,b),(4,x4),(7,x7),(8,x8)] h3)) (kx 0 (St.mk [(0,a),(1,b),(4,x4),(7,x7),(8,x8)] H)):=r7
theorem JA (a b x4 c d:A):aI (cx C) call rg n 91 lo 0 L kx kg kr kp (m+1) (St.mk [(0,a),(1,b),(4,x4),(36,c),(37,d)] H) =
aY .lss 3 false false d c fun l=>bh l (bW 107 x4 3 H fun h=>
aN 105 h H fun t2=>
aY .add 3 false true b (iA 1) fun o=>bif bif gY 3 h then bif gY 3 x4 then true else false else false then
(call 91 [a,o] H lo).bind fun e=>dj e.1 (fun g=>
(aG prog 105 1 [(0,cY e.2 g)]).bind fun p=>
(bG prog 105 105 false t2 p e.2 lo).bind fun f=>
bW 107 x4 3 f.2 fun i=>
bT 105 i (bN i f.2 f.1) f.2 lo fun j=>
aY .add 3 false true d (iA 1) fun k=>
np L j fun q=>bif bif Nat.beq (List.length j) L then true else aS L [(37,k),(0,a),(1,b),(4,x4),(36,c)] [0,1,4,36,37] then aI (cx C) call rg n 91 lo 0 L kx kg kr kp m (St.mk [(0,a),(1,b),(4,x4),(36,c),(37,k)] q) else none) fun g=>kp g (St.mk [(0,A.any),(1,A.any),(4,A.any),(36,A.any),(37,A.any)] e.2) else none) (kx 1 (St.mk [(0,a),(1,b),(4,x4),(36,c),(37,d)] H)):=r7
theorem JB (a b x4 x7 x8:A):aI (cx C) call rg n 93 lo 0 L kx kg kr kp (m+1) (St.mk [(0,a),(3,b),(4,x4),(7,x7),(8,x8)] H) =
aY .lss 3 false false x8 x7 fun d=>bh d (aN 115 b H fun e=>
eN 23 a x8 H fun t2=>
aN 115 t2 H fun f=>
aY .eql 115 false false e f fun g=>bh g (kr (St.mk [(0,a),(3,b),(4,x8),(7,x7),(8,x8)] H)) (aY .add 3 false true x8 (iA 1) fun c=>
np L H fun h=>bif bif Nat.beq (List.length H) L then true else aS L [(8,c),(0,a),(3,b),(4,x4),(7,x7)] [0,3,4,7,8] then aI (cx C) call rg n 93 lo 0 L kx kg kr kp m (St.mk [(0,a),(3,b),(4,x4),(7,x7),(8,c)] h) else none)) (kx 0 (St.mk [(0,a),(3,b),(4,x4),(7,x7),(8,x8)] H)):=r7
theorem JC (a b x4 x7 x8 x9:A):aI (cx C) call rg n 95 lo 0 L kx kg kr kp (m+1) (St.mk [(0,a),(1,b),(4,x4),(7,x7),(8,x8),(9,x9)] H) =
aY .lss 160 false false x9 x7 fun o=>
(cJ o (iU a H fun f=>
bW 155 f 2 H fun t2=>
aN 4 t2 H fun g=>
(kC prog UnOp.not g).bind fun h=>some [h,h,g,t2,f,a]) (some [bA false,ud,ud,ud,ud,ud])).bind fun p=>eM p fun q x u4 y r=>fB r fun z u7 l7=>bh q (bW 107 x8 3 H fun i=>
aN 105 i H fun s=>
aY .add 3 false true b (iA 1) fun t=>bif bif gY 2 i then bif gY 2 x8 then true else false else false then
(call 95 [a,t] H lo).bind fun c=>dj c.1 (fun e=>
(aG prog 105 1 [(0,cY c.2 e)]).bind fun u=>
(bG prog 105 105 false s u c.2 lo).bind fun d=>
bW 107 x8 3 d.2 fun j=>
bT 105 j (bN j d.2 d.1) d.2 lo fun k=>
aY .add 160 false true x9 (A.v (.int .u64 1)) fun l=>
np L k fun w=>bif bif Nat.beq (List.length k) L then true else aS L [(9,l),(0,a),(1,b),(4,x4),(7,x7),(8,x8)] [0,1,4,7,8,9] then aI (cx C) call rg n 95 lo 0 L kx kg kr kp m (St.mk [(0,a),(1,b),(4,x4),(7,x7),(8,x8),(9,l)] w) else none) fun e=>kp e (St.mk [(0,A.any),(1,A.any),(4,A.any),(7,A.any),(8,A.any),(9,A.any)] c.2) else none) (kx 1 (St.mk [(0,a),(1,b),(4,x4),(7,x7),(8,x8),(9,x9)] H)):=r7
theorem JD (e d xE FC a:A):aI (cx C) call rg n 96 lo 0 L kx kg kr kp (m+1) (St.mk [(2,e),(3,d),(55,xE),(56,FC),(57,a)] H) =
aY .lss 3 false false a FC fun i=>bh i (eN 105 xE a H fun j=>
aN 107 j H fun t2=>
ew 107 H fun b=>
bT 107 b.1 (bN b.1 b.2 t2) b.2 lo fun c=>
aN 107 b.1 c fun k=>
(C 96 [snap c k]).bind fun f=>
da f 0 fun l=>
da f 1 fun o=>
(kC prog UnOp.not o).bind fun p=>bh p (kr (St.mk [(2,iA 0),(3,bA false),(55,xE),(56,FC),(57,a)] c)) ((DR false e [l]).bind fun g=>
aY .add 3 false true a (iA 1) fun h=>
np L c fun q=>bif bif Nat.beq (List.length c) L then true else aS L [(57,h),(2,g),(3,d),(55,xE),(56,FC)] [2,3,55,56,57] then aI (cx C) call rg n 96 lo 0 L kx kg kr kp m (St.mk [(2,g),(3,d),(55,xE),(56,FC),(57,h)] q) else none)) (kx 0 (St.mk [(2,e),(3,d),(55,xE),(56,FC),(57,a)] H)):=r7
theorem zC (c a x4:A):aI (cx C) call rg n 98 lo 0 L kx kg kr kp (m+1) (St.mk [(0,c),(1,a),(4,x4)] H) =
aY .geq 160 false true a (A.v (.int .u64 128)) fun e=>bh e ((aW prog 160 5 a H).bind fun f=>
aY .or 5 false true f (A.v (.int .u8 128)) fun t2=>
(aG prog 46 1 [(0,cY H t2)]).bind fun g=>
(bG prog 46 46 false c g H lo).bind fun b=>
aY .shr 160 false true a (A.v (.int .u64 7)) fun d=>
np L b.2 fun h=>bif bif Nat.beq (List.length b.2) L then true else aS L [(1,d),(0,b.1),(4,x4)] [0,1,4] then aI (cx C) call rg n 98 lo 0 L kx kg kr kp m (St.mk [(0,b.1),(1,d),(4,x4)] h) else none) (kx 0 (St.mk [(0,c),(1,a),(4,x4)] H)):=r7
theorem Cf (f b e sN c DV:A):aI (cx C) call rg n 101 lo 0 L kx kg kr kp (m+1) (St.mk [(0,f),(2,b),(5,e),(17,sN),(18,c),(19,DV)] H) =
aY .lss 3 false false DV c fun j=>bh j (eN 105 sN DV H fun k=>
aN 107 k H fun t2=>
ew 107 H fun d=>
bT 107 d.1 (bN d.1 d.2 t2) d.2 lo fun a=>
aN 142 b a fun l=>
fl 107 d.1 0 3 a fun o=>
iU l a fun p=>
eN 158 p o a fun q=>
fl 141 q 0 139 a fun r=>
aN 107 d.1 a fun s=>dn (cx C) call r [f,s] a lo (fun g h=>
aY .add 3 false true DV (iA 1) fun i=>
np L h fun t=>bif bif Nat.beq (List.length h) L then true else aS L [(19,i),(0,g),(2,b),(5,e),(17,sN),(18,c)] [0,2,5,17,18,19] then aI (cx C) call rg n 101 lo 0 L kx kg kr kp m (St.mk [(0,g),(2,b),(5,e),(17,sN),(18,c),(19,i)] t) else none) fun g h=>kp g (St.mk [(0,f),(2,b),(5,e),(17,sN),(18,c),(19,DV)] h)) (kx 0 (St.mk [(0,f),(2,b),(5,e),(17,sN),(18,c),(19,DV)] H)):=r7
theorem Hi (a c b:A):aI (cx C) call rg n 102 lo 0 L kx kg kr kp (m+1) (St.mk [(1,a),(2,c),(3,b)] H) =
fl 107 a 3 105 H fun e=>
eD 105 e H fun t2=>
aY .lss 3 false false b t2 fun f=>bh f (fl 107 a 3 105 H fun g=>
eN 105 g b H fun h=>
aN 107 h H fun i=>
(C 102 [snap H i]).bind fun j=>
(kC prog UnOp.not j).bind fun k=>bh k (kr (St.mk [(1,a),(2,bA false),(3,b)] H)) (aY .add 3 false true b (iA 1) fun d=>
np L H fun l=>bif bif Nat.beq (List.length H) L then true else aS L [(3,d),(1,a),(2,c)] [1,2,3] then aI (cx C) call rg n 102 lo 0 L kx kg kr kp m (St.mk [(1,a),(2,c),(3,d)] l) else none)) (kx 1 (St.mk [(1,a),(2,c),(3,b)] H)):=r7
theorem Hj (a b c x4:A):aI (cx C) call rg n 103 lo 0 L kx kg kr kp (m+1) (St.mk [(1,a),(2,b),(3,c),(4,x4)] H) =
fl 107 a 3 105 H fun f=>
eD 105 f H fun t2=>
aY .lss 3 false false x4 t2 fun g=>bh g (fl 107 a 3 105 H fun h=>
eN 105 h x4 H fun i=>
aN 107 i H fun j=>
(C 103 [snap H j]).bind fun k=>
(DR false c [k]).bind fun d=>
aY .add 3 false true x4 (iA 1) fun e=>
np L H fun l=>bif bif Nat.beq (List.length H) L then true else aS L [(4,e),(3,d),(1,a),(2,b)] [1,2,3,4] then aI (cx C) call rg n 103 lo 0 L kx kg kr kp m (St.mk [(1,a),(2,b),(3,d),(4,e)] l) else none) (kx 0 (St.mk [(1,a),(2,b),(3,c),(4,x4)] H)):=r7
theorem Hm (b e a:A):aI (cx C) call rg n 109 lo 0 L kx kg kr kp (m+1) (St.mk [(0,b),(2,e),(3,a)] H) =
(call 107 [b,iA 1] H lo).bind fun H0=>dj H0.1 (fun f=>
eN 46 f (iA 0) H0.2 fun t2=>
aN 5 t2 H0.2 fun c=>
aY .eql 3 false true a (iA 0) fun s=>
(cJ s (some [bA true,ud,ud]) (aY .neq 5 false true c (A.v (.int .u8 0)) fun j=>some [j,j,c])).bind fun t=>fB t fun u u7 w=>cf w fun u8 l8=>
(cJ u (aY .lss 3 false true a (iA 9) fun g=>
(cJ g (some [bA true,ud,ud]) (aY .leq 5 false true c (A.v (.int .u8 1)) fun k=>some [k,k,c])).bind fun x=>fB x fun h l y=>cf y fun o p=>some [h,h,l,o,g,g,a]) (some [bA false,ud,ud,ud,ud,ud,ud])).bind fun z=>eM z fun a0 h l o p=>fB p fun ad ae a2=>cf a2 fun af ag=>
(call 92 [b,a0] H0.2 lo).bind fun d=>dj d.1 (fun q=>
aY .and 5 false true c (A.v (.int .u8 127)) fun a3=>
(aW prog 5 160 a3 d.2).bind fun a4=>
aY .mul 3 true false (iA 7) a fun a5=>
aY .shl 160 false false a4 a5 fun a6=>
aY .or 160 false false e a6 fun i=>
aY .lss 5 false true c (A.v (.int .u8 128)) fun a7=>bh a7 (kr (St.mk [(0,b),(2,i),(3,a)] d.2)) (aY .add 3 false true a (iA 1) fun r=>
np L d.2 fun a8=>bif bif Nat.beq (List.length d.2) L then true else aS L [(3,r),(2,i),(0,b)] [0,2,3] then aI (cx C) call rg n 109 lo 0 L kx kg kr kp m (St.mk [(0,b),(2,i),(3,r)] a8) else none)) fun q=>kp q (St.mk [(0,b),(2,e),(3,a)] d.2)) fun f=>kp f (St.mk [(0,b),(2,e),(3,a)] H0.2):=r7
theorem Ho (a d e x4:A):aI (cx C) call rg n 113 lo 0 L kx kg kr kp (m+1) (St.mk [(0,a),(2,d),(3,e),(4,x4)] H) =
iU a H fun s=>
fl 155 s 2 4 H fun t2=>
(kC prog UnOp.not t2).bind fun t=>bh t ((call 112 [a] H lo).bind fun b=>dj b.1 (fun c=>
aY .eql 3 false true x4 (iA 9) fun u=>
(cJ u (aY .gtr 5 false true c (A.v (.int .u8 1)) fun k=>some [k,k,c]) (some [bA false,ud,ud])).bind fun w=>fB w fun x u9 y=>cf y fun ab ad=>
(cJ x (some [bA true,ud,ud,ud,ud,ud,ud]) (aY .gtr 3 false true x4 (iA 0) fun h=>
(cJ h (aY .eql 5 false true c (A.v (.int .u8 0)) fun l=>some [l,l,c]) (some [bA false,ud,ud])).bind fun z=>fB z fun i o a0=>cf a0 fun p q=>some [i,i,o,p,h,h,x4])).bind fun a1=>eM a1 fun a2 i o p q=>fB q fun ae af a3=>cf a3 fun ag ah=>bh a2 (iU a b.2 fun j=>
bW 155 j 2 b.2 fun f=>
bT 4 f (bN f b.2 (bA true)) b.2 lo fun a4=>kr (St.mk [(0,a),(2,A.v (.int .u64 0)),(3,e),(4,x4)] a4)) (aY .rem 5 false true c (A.v (.int .u8 128)) fun j=>
(aW prog 5 160 j b.2).bind fun f=>
aY .mul 3 true false (iA 7) x4 fun a6=>
aY .shl 160 false false f a6 fun a7=>
aY .add 160 false false e a7 fun g=>
aY .lss 5 false true c (A.v (.int .u8 128)) fun a8=>bh a8 (kr (St.mk [(0,a),(2,g),(3,g),(4,x4)] b.2)) (aY .add 3 false true x4 (iA 1) fun r=>
np L b.2 fun a9=>bif bif Nat.beq (List.length b.2) L then true else aS L [(4,r),(3,g),(0,a),(2,d)] [0,2,3,4] then aI (cx C) call rg n 113 lo 0 L kx kg kr kp m (St.mk [(0,a),(2,d),(3,g),(4,r)] a9) else none))) fun c=>kp c (St.mk [(0,a),(2,d),(3,e),(4,x4)] b.2)) (kx 0 (St.mk [(0,a),(2,d),(3,e),(4,x4)] H)):=r7
end Go.Proofs.Ytebkhfhcipnfgaa
