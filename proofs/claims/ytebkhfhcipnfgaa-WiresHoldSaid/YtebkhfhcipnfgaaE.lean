/-
 What the interpreter does with the program's functions: equations, by a tool; the kernel checks each.
-/
import Derived.Test.YtebkhfhcipnfgaaEvLaw
import Derived.Test.YtebkhfhcipnfgaaRows
namespace Go.Proofs.Ytebkhfhcipnfgaa
open Go.Proofs.Try (prog)
set_option linter.unusedVariables false
set_option linter.unusedSimpArgs false
set_option maxHeartbeats 4000000
set_option maxRecDepth 100000
set_option linter.defProp false
theorem r8 {α:Sort _} {a b:α} (h:a=b:=by kernel_rfl):a=b:=h
def CK:List ((Nat×Nat)×List Nat):=[((5,30),[1,2,3,6,7,9,11,63,64,65,117,118,119]),((5,23),[1,2,3,6,7,9,10,11,12,63,64,65,89,90,91]),((5,16),[1,2,3,6,7,9,10,11,12,63,64,65,75,76,77]),((5,11),[1,2,3,6,7,63,64,65]),((6,11),[4,8,39,40,41]),((8,5),[1,2,4]),((13,11),[1,2,3,48,49,50]),((13,5),[1,2,3,31,32,33]),((14,10),[1,2,5]),((14,4),[1,2,3]),((18,4),[0,1,4,5]),((19,39),[2,3,6,7,14,15,16,162,163,164]),((19,27),[1,2,3,6,7,14,15,16,83,84,85]),((19,16),[1,2,3,6,7,8,54,55,56]),((19,7),[1,2,3,6,7,8,9,33,34,35]),((20,48),[0,4,7,405,406]),((22,9),[0,1,4,5,6]),((22,4),[0,1,4,5]),((26,3),[2,3,9,10,11]),((33,4),[1,2,15,16,17]),((34,11),[1,2,8,11,57,58,59]),((34,4),[1,2,3,4,8,27,28,29]),((35,9),[2,3,6,53,54,55]),((37,9),[1,2,4]),((37,4),[1,2,3]),((38,10),[1,2,4,5,7]),((38,5),[1,2,4,5,6]),((40,9),[2,3,4,6]),((40,4),[2,3,4,5]),((42,3),[0,1,2,6,7,8,9,10]),((47,6),[2,3,4,6,7]),((50,1000003),[2,4,5]),((54,30),[0,4,6,9,11,15,16,17,177,178,179,185,186,187]),((54,26),[0,4,6,9,11,177,178,179]),((54,15),[0,3,4,6,9,11,98,99,100]),((54,5),[0,3,4,5,6,7,30,31]),((55,4),[0,1,4,5]),((61,3),[0,2,3,4]),((65,2),[0,1,4,9,10,11]),((77,2),[0,1,4,7,8]),((78,4),[0,2,3,6,10,11,12,21,22,23]),((78,1),[0,2,3,10,11,12]),((81,3),[0,4,5,10,11]),((82,3),[1,4,5,9,10,11]),((86,8),[1,2,3,4]),((88,2),[0,1,4,7,8]),((91,11),[0,1,4,36,37]),((93,2),[0,3,4,7,8]),((95,21),[0,1,4,7,8,9]),((96,7),[2,3,55,56,57]),((98,1),[0,1,4]),((101,3),[0,2,5,17,18,19]),((102,8),[1,2,3]),((103,5),[1,2,3,4]),((109,3),[0,2,3]),((111,1),[0,2,3]),((113,3),[0,2,3,4])]
def Hk (f r:Nat):List Nat:=tY f r CK
def ES:List ((Nat×Nat)×List (Nat×Nat×Nat)):=[((91,11),[(4,4,5)]),((91,3000000),[(4,4,0)]),((95,21),[(8,4,5)]),((95,3000000),[(4,4,0)]),((100,2000001),[(3,0,0)]),((61,3),[(3,4,5)]),((26,3),[(3,4,5)]),((47,6),[(6,0,2)]),((19,27),[(16,0,2)]),((19,39),[(6,3,4)]),((45,3000000),[(2,0,5)]),((46,3000000),[(2,0,500004)])]
def JI (f r:Nat):List (Nat×Nat×Nat):=Az f r ES
def EV:List (Nat×Nat):=[(33,115),(57,137)]
def JL (f t:Nat):Bool:=vH f t EV
def Ik:List (Nat×Nat):=[(46,7)]
def NT (f t:Nat):Bool:=vH f t Ik
def CO:List (Nat×Nat):=[(11,10),(12,13),(78,43)]
def Hl (f t:Nat):Bool:=vH f t CO
def CJ:List ((Nat×Nat)×List Nat):=[]
def Hj (f r:Nat):List Nat:=tY f r CJ
def EZ:List (Nat×Nat):=[(91,3),(95,2),(101,5),(98,1000)]
def JP (k:Nat):Nat:=D7 k EZ
def E9:List (Nat×Nat):=[(45,0),(84,0)]
def JZ (k:Nat):Bool:=vH k 0 E9
noncomputable def cx (C:Nat->List A->Option A):Cx:={ P:=prog,glob:=fun _=>none,isOrc:=fun k=>Bw k [20,44,45,46,50,54,57,65,78,84,89,90,91,92,95,97,98,100,101,107,109,110,112,113],isOrcV:=fun k=>Bw k [20,44,45,46,50,54,57,65,78,84,89,90,91,92,95,97,98,100,101,107,109,110,112,113],C:=C,keep:=Hk,wrAt:=NT,acts:=JI,loud:=Hl,arr:=JL,join:=Hj,cut:=JP,fre:=JZ,deep:=fun k=>ij k [] }
theorem NH (C:Nat->List A->Option A):Array.size (Program.funcs (Cx.P (cx C)))=130:=r8
theorem yq {C:Nat->List A->Option A} {m b:Nat} {base:aK} {args:List A} {H:ar} {lo:Nat}:aX (cx C) m base (Array.size (Program.funcs (Cx.P (cx C)))+b) args H lo=base (130+b) args H lo:=zi.trans (Po (fun q=>base (q+b) args H lo) (NH C))
theorem Hm:Nat.ble prog.funcs.size 50=false:=r8
theorem Er:Nat.ble prog.funcs.size 57=false:=r8
theorem Hn:Nat.ble prog.funcs.size 65=false:=r8
theorem Ho:Nat.ble prog.funcs.size 78=false:=r8
theorem Hp:Nat.ble prog.funcs.size 84=false:=r8
theorem Es:Nat.ble prog.funcs.size 89=false:=r8
theorem nW:Nat.ble prog.funcs.size 92=false:=r8
theorem Bq:Nat.ble prog.funcs.size 97=false:=r8
theorem pz:Nat.ble prog.funcs.size 98=false:=r8
theorem xg:Nat.ble prog.funcs.size 100=false:=r8
theorem Fg:Nat.ble prog.funcs.size 101=false:=r8
theorem xh:Nat.ble prog.funcs.size 107=false:=r8
theorem xi:Nat.ble prog.funcs.size 109=false:=r8
theorem Bp:Nat.ble prog.funcs.size 110=false:=r8
variable (C:Nat->List A->Option A) (call:aK) (rg:aK->aK)
variable (n lo L:Nat) (kx kg:Nat->St->Option R) (kr:St->Option R) (kp:A->St->Option R) (m:Nat) (H:ar)
noncomputable abbrev gj {β:Type} (l:List A) (k:A->A->List A->Option β):Option β:=bO l fun a l=>bO l fun b l=>k a b l
noncomputable abbrev fw {β:Type} (l:List A) (k:A->A->A->A->List A->Option β):Option β:=gj l fun a b l=>gj l fun c d l=>k a b c d l
noncomputable abbrev xx {β:Type} (l:List A) (k:A->A->A->A->A->A->A->A->List A->Option β):Option β:=fw l fun a b c d l=>fw l fun e f g h l=>k a b c d e f g h l
noncomputable abbrev ld:=kI prog
noncomputable abbrev Lz:=eI prog
noncomputable abbrev NP:=ic prog
noncomputable abbrev bin:=ka prog
noncomputable abbrev MQ:=j0 prog
noncomputable abbrev fl {β:Type} (t:TypeId) (x:A) (i:Nat) (u:TypeId) (H:ar) (k:A->Option β):Option β:=(Lz t x i H).bind fun a=>(ld u a H).bind k
noncomputable abbrev aS {β:Type} (t:TypeId) (a:A) (H:ar) (k:A->Option β):Option β:=(ld t a H).bind k
noncomputable abbrev cH {β:Type} (t:TypeId) (a:A) (i:Nat) (H:ar) (k:A->Option β):Option β:=(Lz t a i H).bind k
noncomputable abbrev cW {β:Type} (t:TypeId) (a v:A) (H:ar) (lo:Nat) (k:ar->Option β):Option β:=(NP t a v H lo).bind k
noncomputable abbrev bc {β:Type} (o:BinOp) (t:TypeId) (i j:Bool) (x y:A) (k:A->Option β):Option β:=(bin o t i j x y).bind k
noncomputable abbrev fV {β:Type} (t:TypeId) (H:ar) (k:A×ar->Option β):Option β:=(MQ t H).bind k
noncomputable abbrev oe {β:Type} (x:A) (H:ar) (k:A×ar->Option β):Option β:=(wF x H).bind k
noncomputable abbrev qP {β:Type} (x:A) (H:ar) (k:A->Option β):Option β:=(yT x H).bind k
noncomputable abbrev dI {β:Type} (t:TypeId) (x i:A) (H:ar) (k:A->Option β):Option β:=(cC prog t x i H).bind k
noncomputable abbrev fb {β:Type} (x:A) (i:Nat) (k:A->Option β):Option β:=(kU x i).bind k
noncomputable abbrev dU {β:Type} (t:TypeId) (x:A) (H:ar) (k:A->Option β):Option β:=(p3 prog t x H).bind k
noncomputable abbrev mI {β:Type} (t:TypeId) (l:List (Nat×A)) (k:A->Option β):Option β:=(tg prog t l).bind k
noncomputable abbrev jh {β:Type} (L:Nat) (H:ar) (k:ar->Option β):Option β:=(trim L H).bind k
noncomputable abbrev uy {β:Type} {γ:Type} (c:A) (w:Bool) (x y:Option γ) (k:γ->Option β):Option β:=(nT c w x y).bind k
abbrev lk (s:St) (i:Nat):A:=look (St.fr s) i
abbrev ud:A:=A.v undef
theorem e5 (i c d:A):aJ (cx C) call rg n 5 [i,c,d] H lo =
oe i H fun a=>
(C 7 []).bind fun y=>
(kb prog UnOp.not y).bind fun t2=>bh t2 (some (Out.ret (bA false),a.2)) (aS 28 a.1 a.2 fun z=>
(C 8 [snap a.2 z]).bind fun t4=>
(kb prog UnOp.not t4).bind fun t5=>
(c7 t5 (some [bA true,ud,ud,ud]) (cH 28 a.1 2 a.2 fun j=>
aS 3 j a.2 fun k=>
bc .gtr 3 false true k (iA 50) fun l=>some [l,l,k,j])).bind fun l6=>fw l6 fun u7 u8 u9 am an=>
(c7 u7 (some [bA true,ud,ud,ud]) (dU 50 c a.2 fun o=>
bc .gtr 3 false true o (iA 20) fun p=>some [p,p,o,c])).bind fun a4=>fw a4 fun a5 ao ap aq ar=>
(c7 a5 (some [bA true,ud,ud,ud,ud,ud,ud]) (cH 28 a.1 1 a.2 fun q=>
aS 26 q a.2 fun r=>
dU 26 r a.2 fun s=>
(C 18 [snap a.2 d,snap a.2 s]).bind fun t=>
(kb prog UnOp.not t).bind fun u=>some [u,u,t,s,r,q,d])).bind fun a6=>fw a6 fun a7 au av aw a8=>gj a8 fun ax ay a9=>bO a9 fun az b0=>bh a7 (some (Out.ret (bA true),a.2)) (aS 28 a.1 a.2 fun aa=>
(C 19 [snap a.2 aa,snap a.2 c,snap a.2 d]).bind fun v=>
fb v 0 fun ab=>
fb v 1 fun ad=>
fV 28 a.2 fun wb=>
cW 28 wb.1 (cK wb.1 wb.2 ab) wb.2 lo fun b=>
bc .neq 33 false true ad (iA 0) fun ae=>bh ae (fl 28 wb.1 1 26 b fun g=>
dU 26 g b fun h=>
bc .eql 3 false true h (iA 0) fun af=>some (Out.ret af,b)) (fl 28 wb.1 1 26 b fun g=>
dU 26 g b fun h=>
fl 28 a.1 1 26 b fun ag=>
dU 26 ag b fun ah=>
bc .neq 3 false false h ah fun ai=>bh ai (some (Out.ret (bA false),b)) (fl 28 wb.1 1 26 b fun w=>
dU 26 w b fun aj=>aA (cx C) call rg n 5 lo 0 (List.length b) (fun e f=>bif Nat.beq e 0 then some (Out.ret (bA true),St.H f) else none) (fun e f=>none) (fun x=>some (Out.ret (lk x 6),St.H x)) (fun e f=>some (Out.pan e,St.H f)) n (St.mk [(1,c),(2,d),(3,a.1),(6,bA false),(7,wb.1),(63,w),(64,aj),(65,iA 0)] b))))):=r8
theorem e7:aJ (cx C) call rg n 7 [] H lo =
(C 11 [snap H (iA 2)]).bind fun t0=>
fb t0 0 fun t1=>
fb t0 1 fun t2=>
fV 28 H fun c=>
cW 28 c.1 (cK c.1 c.2 t1) c.2 lo fun H4=>
(C 11 [snap H4 (iA 0)]).bind fun t5=>
fb t5 0 fun t6=>
fb t5 1 fun t7=>
fV 28 H4 fun v=>
cW 28 v.1 (cK v.1 v.2 t6) v.2 lo fun H9=>
(C 11 [snap H9 (iA 13)]).bind fun aq=>
fb aq 0 fun ed=>
fb aq 1 fun ar=>
fV 28 H9 fun w=>
cW 28 w.1 (cK w.1 w.2 ed) w.2 lo fun x=>
aS 28 c.1 x fun ee=>
mI 30 [(3,iA 9)] fun ef=>
(C 9 [snap x ee,snap x ef]).bind fun au=>
fb au 0 fun eg=>
fb au 1 fun av=>
fV 28 x fun y=>
cW 28 y.1 (cK y.1 y.2 eg) y.2 lo fun z=>
aS 28 c.1 z fun eh=>
(C 21 [snap z eh,snap z (iA 0)]).bind fun aw=>
fb aw 0 fun ei=>
fb aw 1 fun ax=>
fV 28 z fun a0=>
cW 28 a0.1 (cK a0.1 a0.2 ei) a0.2 lo fun h=>
aS 28 c.1 h fun ej=>
(aI prog 50 2 [(0,cQ h (iA 0)),(1,cQ h (iA 2))]).bind fun ek=>
(C 19 [snap h ej,snap h (A.imm [] true),snap h ek]).bind fun ay=>
fb ay 0 fun el=>
fb ay 1 fun az=>
fV 28 h fun a1=>
cW 28 a1.1 (cK a1.1 a1.2 el) a1.2 lo fun a2=>
aS 28 c.1 a2 fun em=>
(C 16 [snap a2 em,snap a2 (iA 0)]).bind fun a3=>
fb a3 0 fun en=>
fb a3 1 fun eo=>
fb a3 2 fun im=>
fb a3 3 fun b0=>
fV 28 a2 fun ak=>
fV 41 ak.2 fun a4=>
cW 28 ak.1 (cK ak.1 a4.2 en) a4.2 lo fun b1=>
cW 41 a4.1 (cK a4.1 b1 eo) b1 lo fun d=>
bc .neq 33 false true t2 (iA 0) fun ep=>
(c7 ep (some [bA true,ud,ud]) (bc .neq 33 false true t7 (iA 1) fun b2=>some [b2,b2,t7])).bind fun er=>gj er fun es io et=>bO et fun ip iq=>
(c7 es (some [bA true,ud,ud]) (bc .neq 33 false true ar (iA 1) fun b3=>some [b3,b3,ar])).bind fun eu=>gj eu fun ev ir ew=>bO ew fun it iu=>
(c7 ev (some [bA true,ud,ud]) (bc .neq 33 false true av (iA 1) fun b4=>some [b4,b4,av])).bind fun ex=>gj ex fun ey iv ez=>bO ez fun iw ix=>
(c7 ey (some [bA true,ud,ud]) (bc .neq 33 false true ax (iA 1) fun b5=>some [b5,b5,ax])).bind fun f0=>gj f0 fun f1 iy f2=>bO f2 fun iz j0=>
(c7 f1 (some [bA true,ud,ud]) (bc .neq 33 false true az (iA 1) fun b6=>some [b6,b6,az])).bind fun f3=>gj f3 fun f4 j1 f5=>bO f5 fun j2 j3=>
(c7 f4 (some [bA true,ud,ud]) (bc .neq 33 false true b0 (iA 1) fun b7=>some [b7,b7,b0])).bind fun f6=>gj f6 fun f7 j4 f8=>bO f8 fun j5 j6=>
(c7 f7 (some [bA true,ud,ud,ud,ud]) (cH 28 c.1 1 d fun b8=>
aS 26 b8 d fun b9=>
dU 26 b9 d fun ba=>
bc .neq 3 false true ba (iA 2) fun bb=>some [bb,bb,ba,b9,b8])).bind fun f9=>fw f9 fun fa j7 j8 j9 fc=>bO fc fun ja jb=>
(c7 fa (some [bA true,ud,ud,ud]) (aS 28 c.1 d fun bd=>
(C 13 [snap d bd]).bind fun be=>
bc .neq 33 false true be (iA 0) fun bf=>some [bf,bf,be,bd])).bind fun fd=>fw fd fun fe jc jd je jf=>
(c7 fe (some [bA true,ud,ud,ud]) (mI 28 [] fun bg=>
(C 13 [snap d bg]).bind fun bi=>
bc .neq 33 false true bi (iA 490) fun bj=>some [bj,bj,bi,bg])).bind fun ff=>fw ff fun fg jg jh ji jj=>bh fg (some (Out.ret (bA false),d)) (aS 28 c.1 d fun fh=>
mI 30 [(0,iA 4),(3,iA 2)] fun fi=>
(C 9 [snap d fh,snap d fi]).bind fun bk=>
fb bk 0 fun fj=>
fb bk 1 fun fk=>
fV 28 d fun l=>
cW 28 l.1 (cK l.1 l.2 fj) l.2 lo fun a5=>
aS 28 l.1 a5 fun fm=>
mI 30 [(0,iA 5),(3,iA 3)] fun fn=>
(C 9 [snap a5 fm,snap a5 fn]).bind fun bl=>
fb bl 0 fun fo=>
fb bl 1 fun bm=>
fV 28 a5 fun o=>
cW 28 o.1 (cK o.1 o.2 fo) o.2 lo fun a6=>
aS 28 o.1 a6 fun fp=>
mI 30 [(0,iA 6),(1,iA 1),(3,iA 3)] fun fq=>
(C 9 [snap a6 fp,snap a6 fq]).bind fun bn=>
fb bn 0 fun fr=>
fb bn 1 fun bo=>
fV 28 a6 fun p=>
cW 28 p.1 (cK p.1 p.2 fr) p.2 lo fun a7=>
aS 28 p.1 a7 fun fs=>
(C 16 [snap a7 fs,snap a7 (iA 1)]).bind fun a8=>
fb a8 0 fun ft=>
fb a8 1 fun fu=>
fb a8 2 fun bp=>
fb a8 3 fun bq=>
fV 28 a7 fun a9=>
fV 41 a9.2 fun aa=>
cW 28 a9.1 (cK a9.1 aa.2 ft) aa.2 lo fun br=>
cW 41 aa.1 (cK aa.1 br fu) br lo fun ab=>
aS 28 a9.1 ab fun fv=>
(C 16 [snap ab fv,snap ab (iA 0)]).bind fun ad=>
fb ad 0 fun fx=>
fb ad 1 fun fy=>
fb ad 2 fun jk=>
fb ad 3 fun bs=>
fV 28 ab fun e=>
fV 41 e.2 fun ae=>
cW 28 e.1 (cK e.1 ae.2 fx) ae.2 lo fun bt=>
cW 41 ae.1 (cK ae.1 bt fy) bt lo fun i=>
aS 28 e.1 i fun fz=>
(aI prog 50 2 [(0,cQ i (iA 0)),(1,cQ i (iA 1))]).bind fun g0=>
(C 19 [snap i fz,snap i (A.imm [] true),snap i g0]).bind fun bu=>
fb bu 0 fun g1=>
fb bu 1 fun bv=>
fV 28 i fun f=>
cW 28 f.1 (cK f.1 f.2 g1) f.2 lo fun j=>
aS 28 e.1 j fun g2=>
(aI prog 50 2 [(0,cQ j (iA 0)),(1,cQ j (iA 0))]).bind fun g3=>
(C 19 [snap j g2,snap j (A.imm [] true),snap j g3]).bind fun bw=>
fb bw 0 fun g4=>
fb bw 1 fun bx=>
fV 28 j fun q=>
cW 28 q.1 (cK q.1 q.2 g4) q.2 lo fun g=>
aS 28 e.1 g fun g5=>
(aI prog 50 1 [(0,cQ g (iA 0))]).bind fun g6=>
(aI prog 50 2 [(0,cQ g (iA 0)),(1,cQ g (iA 1))]).bind fun g7=>
(C 19 [snap g g5,snap g g6,snap g g7]).bind fun bz=>
fb bz 0 fun g8=>
fb bz 1 fun c0=>
fV 28 g fun r=>
cW 28 r.1 (cK r.1 r.2 g8) r.2 lo fun a=>
bc .neq 33 false true fk (iA 0) fun g9=>
(c7 g9 (some [bA true,ud,ud]) (bc .neq 33 false true bm (iA 0) fun c1=>some [c1,c1,bm])).bind fun ga=>gj ga fun gb jl gc=>bO gc fun jm jn=>
(c7 gb (some [bA true,ud,ud]) (bc .neq 33 false true bo (iA 0) fun c2=>some [c2,c2,bo])).bind fun gd=>gj gd fun ge jo gf=>bO gf fun jp jq=>
(c7 ge (some [bA true,ud,ud]) (bc .neq 33 false true bq (iA 0) fun c3=>some [c3,c3,bq])).bind fun gg=>gj gg fun gh jr gi=>bO gi fun js jt=>
(c7 gh (some [bA true,ud,ud]) (bc .neq 33 false true bs (iA 0) fun c4=>some [c4,c4,bs])).bind fun gk=>gj gk fun gl ju gm=>bO gm fun jv jw=>
(c7 gl (some [bA true,ud,ud]) (bc .neq 33 false true bv (iA 0) fun c5=>some [c5,c5,bv])).bind fun gn=>gj gn fun go jx gp=>bO gp fun jy jz=>
(c7 go (some [bA true,ud,ud]) (bc .neq 33 false true bx (iA 0) fun c6=>some [c6,c6,bx])).bind fun gq=>gj gq fun gr k0 gs=>bO gs fun k1 k2=>
(c7 gr (some [bA true,ud,ud]) (bc .neq 33 false true c0 (iA 0) fun c8=>some [c8,c8,c0])).bind fun gt=>gj gt fun gu k3 gv=>bO gv fun k4 k5=>
(c7 gu (some [bA true,ud]) (some [bp,bp])).bind fun gw=>gj gw fun gx k6 k7=>bh gx (some (Out.ret (bA false),a)) (fl 28 e.1 1 26 a fun gy=>
dU 26 gy a fun gz=>
bc .neq 3 false true gz (iA 2) fun h0=>
(c7 h0 (some [bA true,ud,ud,ud,ud,ud,ud,ud]) (cH 28 e.1 1 a fun c9=>
aS 26 c9 a fun ca=>
dI 26 ca (iA 0) a fun cb=>
cH 55 cb 0 a fun cc=>
aS 53 cc a fun cd=>
dU 53 cd a fun ce=>
bc .neq 3 false true ce (iA 1) fun cf=>some [cf,cf,ce,cd,cc,cb,ca,c9])).bind fun h1=>xx h1 fun h2 k8 k9 ka kc kd ke kf kh=>
(c7 h2 (some [bA true,ud,ud,ud,ud,ud,ud,ud,ud,ud]) (cH 28 e.1 1 a fun cg=>
aS 26 cg a fun ch=>
dI 26 ch (iA 0) a fun ci=>
cH 55 ci 0 a fun cj=>
aS 53 cj a fun ck=>
dI 53 ck (iA 0) a fun cl=>
aS 30 cl a fun cm=>
mI 30 [(0,iA 5),(3,iA 3)] fun cn=>
bc .neq 30 false false cm cn fun co=>some [co,co,cn,cm,cl,ck,cj,ci,ch,cg])).bind fun h3=>xx h3 fun h4 ki kj kk kl km kn ko h5=>gj h5 fun kq ks kt=>
(c7 h4 (some [bA true,ud,ud,ud,ud,ud]) (cH 28 e.1 0 a fun cp=>
cH 25 cp 0 a fun cq=>
aS 22 cq a fun cr=>
dU 22 cr a fun cs=>
bc .neq 3 false true cs (iA 1) fun ct=>some [ct,ct,cs,cr,cq,cp])).bind fun h6=>fw h6 fun h7 ku kv kw h8=>gj h8 fun ky kz l0=>bh h7 (some (Out.ret (bA false),a)) (fl 28 f.1 1 26 a fun h9=>
(aI prog 50 1 [(0,cQ a (iA 3))]).bind fun ha=>
(aI prog 50 1 [(0,cQ a (iA 3))]).bind fun hb=>
mI 55 [(1,ha),(2,hb)] fun hc=>
(aI prog 50 1 [(0,cQ a (iA 0))]).bind fun hd=>
(aI prog 50 1 [(0,cQ a (iA 0))]).bind fun he=>
mI 55 [(1,hd),(2,he)] fun hf=>
(aI prog 26 2 [(0,cQ a hc),(1,cQ a hf)]).bind fun hg=>
(C 22 [snap a h9,snap a hg]).bind fun hh=>
(kb prog UnOp.not hh).bind fun hi=>
(c7 hi (some [bA true,ud,ud,ud,ud,ud,ud,ud,ud,ud,ud,ud]) (cH 28 q.1 1 a fun cu=>
aS 26 cu a fun cv=>
(aI prog 50 1 [(0,cQ a (iA 3))]).bind fun cw=>
(aI prog 50 1 [(0,cQ a (iA 0))]).bind fun cy=>
mI 55 [(1,cw),(2,cy)] fun cz=>
(aI prog 50 1 [(0,cQ a (iA 0))]).bind fun d0=>
(aI prog 50 1 [(0,cQ a (iA 0))]).bind fun d1=>
mI 55 [(1,d0),(2,d1)] fun d2=>
(aI prog 26 2 [(0,cQ a cz),(1,cQ a d2)]).bind fun d3=>
(C 22 [snap a cv,snap a d3]).bind fun d4=>
(kb prog UnOp.not d4).bind fun d5=>some [d5,d5,d4,d3,d2,d1,d0,cz,cy,cw,cv,cu])).bind fun hj=>xx hj fun hk l1 l2 l3 l4 l5 l6 l7 hl=>fw hl fun l8 l9 la lb lc=>
(c7 hk (some [bA true,ud,ud,ud,ud,ud,ud,ud,ud,ud,ud,ud]) (cH 28 r.1 1 a fun d6=>
aS 26 d6 a fun d7=>
(aI prog 50 1 [(0,cQ a (iA 0))]).bind fun d8=>
(aI prog 50 1 [(0,cQ a (iA 0))]).bind fun d9=>
mI 55 [(1,d8),(2,d9)] fun da=>
(aI prog 50 1 [(0,cQ a (iA 0))]).bind fun db=>
(aI prog 50 1 [(0,cQ a (iA 0))]).bind fun dc=>
mI 55 [(1,db),(2,dc)] fun dd=>
(aI prog 26 2 [(0,cQ a da),(1,cQ a dd)]).bind fun de=>
(C 22 [snap a d7,snap a de]).bind fun df=>
(kb prog UnOp.not df).bind fun dg=>some [dg,dg,df,de,dd,dc,db,da,d9,d8,d7,d6])).bind fun hm=>xx hm fun hn ld le lf lg lh li lj ho=>fw ho fun lk ll lm ln lp=>bh hn (some (Out.ret (bA false),a)) (aS 28 f.1 a fun hp=>
(C 16 [snap a hp,snap a (iA 0)]).bind fun af=>
fb af 0 fun hq=>
fb af 1 fun hr=>
fb af 2 fun lq=>
fb af 3 fun hs=>
fV 28 a fun s=>
fV 41 s.2 fun ag=>
cW 28 s.1 (cK s.1 ag.2 hq) ag.2 lo fun dh=>
cW 41 ag.1 (cK ag.1 dh hr) dh lo fun b=>
bc .neq 33 false true hs (iA 0) fun ht=>
(c7 ht (some [bA true,ud,ud,ud]) (cH 28 f.1 2 b fun di=>
aS 3 di b fun dj=>
bc .neq 3 false true dj (iA 1) fun dk=>some [dk,dk,dj,di])).bind fun hu=>fw hu fun hv lr ls lt lu=>
(c7 hv (some [bA true,ud,ud,ud,ud,ud]) (cH 28 f.1 0 b fun dl=>
cH 25 dl 0 b fun dm=>
aS 22 dm b fun dn=>
dU 22 dn b fun dp=>
bc .neq 3 false true dp (iA 3) fun dq=>some [dq,dq,dp,dn,dm,dl])).bind fun hw=>fw hw fun hx lv lw lx hy=>gj hy fun ly lz m0=>
(c7 hx (some [bA true,ud,ud,ud,ud,ud,ud]) (cH 28 s.1 1 b fun dr=>
aS 26 dr b fun ds=>
cH 28 f.1 1 b fun dt=>
aS 26 dt b fun du=>
(C 22 [snap b ds,snap b du]).bind fun dv=>
(kb prog UnOp.not dv).bind fun dw=>some [dw,dw,dv,du,dt,ds,dr])).bind fun hz=>fw hz fun i0 m1 m2 m3 i1=>gj i1 fun m4 m5 i2=>bO i2 fun m6 m7=>bh i0 (some (Out.ret (bA false),b)) (aS 28 s.1 b fun i3=>
(C 16 [snap b i3,snap b (iA 0)]).bind fun ah=>
fb ah 0 fun i4=>
fb ah 1 fun i5=>
fb ah 2 fun dx=>
fb ah 3 fun i6=>
fV 28 b fun ai=>
fV 41 ai.2 fun t=>
cW 28 ai.1 (cK ai.1 t.2 i4) t.2 lo fun dy=>
cW 41 t.1 (cK t.1 dy i5) dy lo fun aj=>
aS 28 ai.1 aj fun i7=>
(C 21 [snap aj i7,snap aj (iA 0)]).bind fun dz=>
fb dz 0 fun i8=>
fb dz 1 fun e0=>
fV 28 aj fun u=>
cW 28 u.1 (cK u.1 u.2 i8) u.2 lo fun k=>
bc .eql 33 false true i6 (iA 0) fun i9=>
(c7 i9 (bc .eql 33 false true e0 (iA 0) fun e1=>some [e1,e1,e0]) (some [bA false,ud,ud])).bind fun ia=>gj ia fun ib m8 ic=>bO ic fun m9 ma=>
(c7 ib (some [dx,dx]) (some [bA false,ud])).bind fun ie=>gj ie fun ig mb mc=>
(c7 ig (aS 41 t.1 k fun e2=>
mI 41 [(2,iA 3)] fun e3=>
bc .eql 41 false false e2 e3 fun e4=>some [e4,e4,e3,e2]) (some [bA false,ud,ud,ud])).bind fun ih=>fw ih fun ii md me mf mg=>
(c7 ii (cH 28 u.1 0 k fun e5=>
cH 25 e5 0 k fun e6=>
aS 22 e6 k fun e8=>
dU 22 e8 k fun e9=>
bc .eql 3 false true e9 (iA 2) fun ea=>some [ea,ea,e9,e8,e6,e5]) (some [bA false,ud,ud,ud,ud,ud])).bind fun ij=>fw ij fun ik mh mi mj il=>gj il fun mk ml mm=>some (Out.ret ik,k)))))):=r8
theorem e8 (d:A):aJ (cx C) call rg n 8 [d] H lo =
oe d H fun a=>
fl 28 a.1 0 25 a.2 fun t2=>
(C 23 [snap a.2 t2]).bind fun j=>
(kb prog UnOp.not j).bind fun k=>
(c7 k (some [bA true,ud,ud,ud,ud]) (cH 28 a.1 1 a.2 fun e=>
aS 26 e a.2 fun f=>
dU 26 f a.2 fun g=>
bc .gtr 3 false true g (iA 20) fun h=>some [h,h,g,f,e])).bind fun l=>fw l fun o q r s p=>bO p fun t u=>bh o (some (Out.ret (bA false),a.2)) (aA (cx C) call rg n 8 lo 0 (List.length a.2) (fun b c=>bif Nat.beq b 0 then some (Out.ret (bA true),St.H c) else none) (fun b c=>none) (fun i=>some (Out.ret (lk i 2),St.H i)) (fun b c=>some (Out.pan b,St.H c)) n (St.mk [(1,a.1),(2,bA false),(4,iA 0)] a.2)):=r8
theorem e9 (l o:A):aJ (cx C) call rg n 9 [l,o] H lo =
oe l H fun b=>
oe o b.2 fun d=>
fV 28 d.2 fun a=>
aS 28 b.1 a.2 fun x=>
(C 13 [snap a.2 x]).bind fun p=>
bc .neq 33 false true p (iA 0) fun y=>bh y (aS 28 a.1 a.2 fun h=>
cW 28 a.1 (cK a.1 a.2 h) a.2 lo fun q=>
aS 28 a.1 q fun i=>some (Out.ret (A.tup [i,p]),q)) (aS 30 d.1 a.2 fun h=>
fl 28 b.1 1 26 a.2 fun i=>
dU 26 i a.2 fun z=>
(C 24 [snap a.2 h,snap a.2 z]).bind fun a0=>
(kb prog UnOp.not a0).bind fun a1=>bh a1 (aS 28 a.1 a.2 fun f=>
cW 28 a.1 (cK a.1 a.2 f) a.2 lo fun r=>
aS 28 a.1 r fun g=>some (Out.ret (A.tup [g,iA 1]),r)) (cH 28 b.1 0 a.2 fun f=>
aS 25 f a.2 fun a2=>
cH 30 d.1 1 a.2 fun g=>
aS 3 g a.2 fun a3=>
bc .add 3 false true a3 (iA 1) fun a4=>
aS 30 d.1 a.2 fun a5=>
mI 75 [(0,iA 1),(1,a5)] fun a6=>
(C 26 [snap a.2 a6]).bind fun a7=>
mI 48 [(1,a4),(2,a7)] fun a8=>
(C 25 [snap a.2 a2,snap a.2 a8]).bind fun s=>
fb s 0 fun a9=>
fb s 1 fun t=>bif bif apart d.1 A.any then bif apart g A.any then bif apart d.1 A.any then bif apart f A.any then bif apart b.1 A.any then true else false else false else false else false else false then
fV 25 a.2 fun e=>
cW 25 e.1 (cK e.1 e.2 a9) e.2 lo fun c=>
bc .neq 33 false true t (iA 0) fun aa=>bh aa (aS 28 a.1 c fun j=>
cW 28 a.1 (cK a.1 c j) c lo fun u=>
aS 28 a.1 u fun ab=>some (Out.ret (A.tup [ab,t]),u)) (aS 25 e.1 c fun j=>
cH 28 b.1 0 c fun v=>
cW 25 v (cK v c j) c lo fun k=>
aS 28 b.1 k fun ad=>
cW 28 a.1 (cK a.1 k ad) k lo fun w=>
aS 28 a.1 w fun ae=>some (Out.ret (A.tup [ae,iA 0]),w)) else none)):=r8
theorem MS (b:A):aJ (cx C) call rg n 11 [b] H lo =
fV 28 H fun a=>
(C 30 [snap a.2 b,snap a.2 (iA 1),snap a.2 (iA 12)]).bind fun h=>
(kb prog UnOp.not h).bind fun t2=>bh t2 (aS 28 a.1 a.2 fun c=>
cW 28 a.1 (cK a.1 a.2 c) a.2 lo fun f=>
aS 28 a.1 f fun d=>some (Out.ret (A.tup [d,iA 1]),f)) ((C 31 []).bind fun c=>
(fM prog 26 b b a.2).bind fun e=>
mI 28 [(0,c),(1,e.1)] fun d=>
cW 28 a.1 (cK a.1 e.2 d) e.2 lo fun g=>
aS 28 a.1 g fun i=>some (Out.ret (A.tup [i,iA 0]),g)):=r8
theorem MT (f:A):aJ (cx C) call rg n 13 [f] H lo =
oe f H fun a=>
fl 28 a.1 1 26 a.2 fun t2=>
dU 26 t2 a.2 fun g=>
(C 30 [snap a.2 g,snap a.2 (iA 1),snap a.2 (iA 12)]).bind fun v=>
(kb prog UnOp.not v).bind fun w=>
(c7 w (some [bA true,ud,ud,ud,ud]) (cH 28 a.1 2 a.2 fun h=>
aS 3 h a.2 fun i=>
(C 30 [snap a.2 i,snap a.2 (iA 0),snap a.2 (iA 4096)]).bind fun j=>
(kb prog UnOp.not j).bind fun k=>some [k,k,j,i,h])).bind fun x=>fw x fun y u8 u9 a8 z=>bO z fun a9 aa=>
(c7 y (some [bA true,ud,ud,ud,ud]) (cH 28 a.1 0 a.2 fun l=>
aS 25 l a.2 fun o=>
(C 33 [snap a.2 o]).bind fun p=>
bc .neq 33 false true p (iA 0) fun q=>some [q,q,p,o,l])).bind fun a0=>fw a0 fun a1 ab ad ae a2=>bO a2 fun af ag=>bh a1 (some (Out.ret (iA 490),a.2)) (fl 28 a.1 1 26 a.2 fun r=>
dU 26 r a.2 fun a3=>aA (cx C) call rg n 13 lo 0 (List.length a.2) (fun c b=>bif Nat.beq c 0 then
cH 28 (lk b 1) 0 (St.H b) fun a4=>
fl 25 a4 0 22 (St.H b) fun s=>
dU 22 s (St.H b) fun a5=>aA (cx C) call rg n 13 lo 1 (List.length (St.H b)) (fun d e=>bif Nat.beq d 2 then some (Out.ret (iA 0),St.H e) else none) (fun d e=>none) (fun t=>some (Out.ret (lk t 2),St.H t)) (fun d e=>some (Out.pan d,St.H e)) n (St.mk [(1,lk b 1),(2,lk b 2),(3,lk b 3),(48,s),(49,a5),(50,iA 0)] (St.H b)) else none) (fun c b=>none) (fun u=>some (Out.ret (lk u 2),St.H u)) (fun c b=>some (Out.pan c,St.H b)) n (St.mk [(1,a.1),(2,iA 0),(3,g),(31,r),(32,a3),(33,iA 0)] a.2)):=r8
theorem MU (b c:A):aJ (cx C) call rg n 18 [b,c] H lo =
dU 50 b H fun d=>
bc .neq 3 false false d c fun e=>bh e (some (Out.ret (bA false),H)) (aA (cx C) call rg n 18 lo 0 (List.length H) (fun a s2=>bif Nat.beq a 0 then some (Out.ret (bA true),St.H s2) else none) (fun a s2=>none) (fun a2=>some (Out.ret (lk a2 4),St.H a2)) (fun a s2=>some (Out.pan a,St.H s2)) n (St.mk [(0,b),(1,c),(4,bA false),(5,iA 0)] H)):=r8
theorem MV (x0 j x2:A):aJ (cx C) call rg n 19 [x0,j,x2] H lo =
oe x0 H fun k=>
fV 28 k.2 fun e=>
aS 28 k.1 e.2 fun t2=>
(C 13 [snap e.2 t2]).bind fun x=>
bc .neq 33 false true x (iA 0) fun t4=>bh t4 (aS 28 e.1 e.2 fun t5=>
cW 28 e.1 (cK e.1 e.2 t5) e.2 lo fun H6=>
aS 28 e.1 H6 fun y=>some (Out.ret (A.tup [y,x]),H6)) (fl 28 k.1 1 26 e.2 fun t6=>
dU 26 t6 e.2 fun y=>
dU 50 j e.2 fun t8=>aA (cx C) call rg n 19 lo 0 (List.length e.2) (fun l b=>bif Nat.beq l 0 then
dU 50 (lk b 2) (St.H b) fun z=>
bc .neq 3 false false z (lk b 8) fun ah=>bh ah (aS 28 (lk b 6) (St.H b) fun a0=>
cW 28 (lk b 6) (cK (lk b 6) (St.H b) a0) (St.H b) lo fun a6=>
aS 28 (lk b 6) a6 fun a1=>some (Out.ret (A.tup [a1,iA 1]),a6)) (dU 50 (lk b 2) (St.H b) fun a0=>aA (cx C) call rg n 19 lo 1 (List.length (St.H b)) (fun o a=>bif Nat.beq o 2 then
fl 28 (lk a 3) 2 3 (St.H a) fun ai=>
bc .eql 3 false true ai (iA 4096) fun aj=>bh aj (aS 28 (lk a 6) (St.H a) fun ak=>
cW 28 (lk a 6) (cK (lk a 6) (St.H a) ak) (St.H a) lo fun a7=>
aS 28 (lk a 6) a7 fun al=>some (Out.ret (A.tup [al,iA 2]),a7)) ((dq prog 50 (lk a 8) (lk a 8) (St.H a)).bind fun g=>
(nw prog 97 g.2).bind fun f=>
fl 28 (lk a 3) 1 26 f.2 fun h=>
dU 26 h f.2 fun i=>aA (cx C) call rg n 19 lo 2 (List.length (et 1 (St.H (St.mk [(1,lk a 1),(2,lk a 2),(3,lk a 3),(6,lk a 6),(7,lk a 7),(14,g.1),(15,f.1),(16,A.imm [] true),(83,h),(84,i),(85,iA 0)] f.2)) (look (St.fr (St.mk [(1,lk a 1),(2,lk a 2),(3,lk a 3),(6,lk a 6),(7,lk a 7),(14,g.1),(15,f.1),(16,A.imm [] true),(83,h),(84,i),(85,iA 0)] f.2)) (Prod.fst (16,0,2)))).2) (fun p c=>bif Nat.beq p 4 then
fl 28 (lk c 3) 0 25 (St.H c) fun am=>
fl 28 (lk c 3) 2 3 (St.H c) fun an=>
bc .add 3 false true an (iA 1) fun ao=>
mI 28 [(0,am),(2,ao)] fun ap=>
cW 28 (lk c 6) (cK (lk c 6) (St.H c) ap) (St.H c) lo fun q=>
fl 28 (lk c 3) 1 26 q fun a8=>
dU 26 a8 q fun aq=>aA (cx C) call rg n 19 lo 3 (List.length (ig lo 2 4 (lk c 6) q)) (fun r d=>bif Nat.beq r 6 then
aS 28 (lk d 6) (St.H d) fun a2=>
aS 28 (lk d 6) (St.H d) fun ar=>
fl 28 (lk d 3) 2 3 (St.H d) fun au=>
(C 51 [snap (St.H d) ar,snap (St.H d) au,snap (St.H d) (lk d 16)]).bind fun av=>
((call 50 [a2,av] (St.H d) (List.length (St.H d))).bind fun aw=>zC (List.length (St.H d)) aw).bind fun aa=>
fb aa 0 fun ax=>
fb aa 1 fun ay=>
cW 28 (lk d 6) (cK (lk d 6) (St.H d) ax) (St.H d) lo fun ab=>
aS 28 (lk d 6) ab fun az=>some (Out.ret (A.tup [az,ay]),ab) else none) (fun r d=>none) (fun s=>
aS 28 (lk s 6) (St.H s) fun a2=>some (Out.ret (A.tup [a2,lk s 7]),St.H s)) (fun r d=>some (Out.pan r,St.H d)) n (St.mk [(2,lk c 2),(3,lk c 3),(6,lk c 6),(7,lk c 7),(14,lk c 14),(15,lk c 15),(16,lk c 16),(162,a8),(163,aq),(164,iA 0)] (ig lo 2 4 (lk c 6) q)) else none) (fun p c=>none) (fun t=>
aS 28 (lk t 6) (St.H t) fun b0=>some (Out.ret (A.tup [b0,lk t 7]),St.H t)) (fun p c=>some (Out.pan p,St.H c)) n (St.mk [(1,lk a 1),(2,lk a 2),(3,lk a 3),(6,lk a 6),(7,lk a 7),(14,g.1),(15,f.1),(16,(et 1 (St.H (St.mk [(1,lk a 1),(2,lk a 2),(3,lk a 3),(6,lk a 6),(7,lk a 7),(14,g.1),(15,f.1),(16,A.imm [] true),(83,h),(84,i),(85,iA 0)] f.2)) (look (St.fr (St.mk [(1,lk a 1),(2,lk a 2),(3,lk a 3),(6,lk a 6),(7,lk a 7),(14,g.1),(15,f.1),(16,A.imm [] true),(83,h),(84,i),(85,iA 0)] f.2)) (Prod.fst (16,0,2)))).1),(83,h),(84,i),(85,iA 0)] (et 1 (St.H (St.mk [(1,lk a 1),(2,lk a 2),(3,lk a 3),(6,lk a 6),(7,lk a 7),(14,g.1),(15,f.1),(16,A.imm [] true),(83,h),(84,i),(85,iA 0)] f.2)) (look (St.fr (St.mk [(1,lk a 1),(2,lk a 2),(3,lk a 3),(6,lk a 6),(7,lk a 7),(14,g.1),(15,f.1),(16,A.imm [] true),(83,h),(84,i),(85,iA 0)] f.2)) (Prod.fst (16,0,2)))).2)) else none) (fun o a=>none) (fun u=>
aS 28 (lk u 6) (St.H u) fun a1=>some (Out.ret (A.tup [a1,lk u 7]),St.H u)) (fun o a=>some (Out.pan o,St.H a)) n (St.mk [(1,lk b 1),(2,lk b 2),(3,lk b 3),(6,lk b 6),(7,lk b 7),(8,lk b 8),(54,lk b 2),(55,a0),(56,iA 0)] (St.H b))) else none) (fun l b=>none) (fun w=>
aS 28 (lk w 6) (St.H w) fun z=>some (Out.ret (A.tup [z,lk w 7]),St.H w)) (fun l b=>some (Out.pan l,St.H b)) n (St.mk [(1,j),(2,x2),(3,k.1),(6,e.1),(7,x),(8,y),(9,A.v (.int .i64 (-1))),(33,j),(34,t8),(35,iA 0)] e.2)):=r8
theorem MW (c d:A):aJ (cx C) call rg n 22 [c,d] H lo =
dU 26 c H fun f=>
dU 26 d H fun g=>
bc .neq 3 false false f g fun t2=>bh t2 (some (Out.ret (bA false),H)) (aA (cx C) call rg n 22 lo 0 (List.length H) (fun a b=>bif Nat.beq a 0 then some (Out.ret (bA true),St.H b) else none) (fun a b=>none) (fun e=>some (Out.ret (lk e 4),St.H e)) (fun a b=>some (Out.pan a,St.H b)) n (St.mk [(0,c),(1,d),(4,bA false),(5,iA 0)] H)):=r8
theorem MX (b:A):aJ (cx C) call rg n 23 [b] H lo =
oe b H fun a=>
fl 25 a.1 0 22 a.2 fun t2=>
dU 22 t2 a.2 fun g=>
bc .leq 3 false true g (iA 40) fun h=>
(c7 h (cH 25 a.1 1 a.2 fun c=>
aS 23 c a.2 fun d=>
dU 23 d a.2 fun e=>
bc .leq 3 false true e (iA 40) fun f=>some [f,f,e,d,c]) (some [bA false,ud,ud,ud,ud])).bind fun i=>fw i fun j l o p k=>bO k fun q r=>some (Out.ret j,a.2):=r8
theorem MY (c b:A):aJ (cx C) call rg n 24 [c,b] H lo =
oe c H fun a=>
fl 30 a.1 0 3 a.2 fun t2=>
(C 30 [snap a.2 t2,snap a.2 (iA 0),snap a.2 (iA 1048576)]).bind fun p=>
(c7 p (cH 30 a.1 1 a.2 fun d=>
aS 3 d a.2 fun e=>
bc .sub 3 false true b (iA 1) fun f=>
(C 30 [snap a.2 e,snap a.2 (iA 0),snap a.2 f]).bind fun g=>some [g,g,f,b,e,d]) (some [bA false,ud,ud,ud,ud,ud])).bind fun q=>fw q fun r x y z s=>gj s fun u9 a1 a2=>
(c7 r (cH 30 a.1 2 a.2 fun h=>
aS 3 h a.2 fun i=>
(C 30 [snap a.2 i,snap a.2 (iA 0),snap a.2 (iA 4095)]).bind fun j=>some [j,j,i,h]) (some [bA false,ud,ud,ud])).bind fun t=>fw t fun u a3 a4 a5 a6=>
(c7 u (cH 30 a.1 3 a.2 fun k=>
aS 3 k a.2 fun l=>
(C 30 [snap a.2 l,snap a.2 (iA 1),snap a.2 (iA 8)]).bind fun o=>some [o,o,l,k]) (some [bA false,ud,ud,ud])).bind fun v=>fw v fun w a7 a8 a9 aa=>some (Out.ret w,a.2):=r8
theorem MZ (g h:A):aJ (cx C) call rg n 25 [g,h] H lo =
oe g H fun b=>
oe h b.2 fun d=>
fV 25 d.2 fun a=>
aS 25 b.1 a.2 fun r=>
(C 33 [snap a.2 r]).bind fun s=>
bc .neq 33 false true s (iA 0) fun t=>
(c7 t (some [bA true,ud,ud,ud]) (aS 48 d.1 a.2 fun i=>
(C 56 [snap a.2 i]).bind fun j=>
(kb prog UnOp.not j).bind fun k=>some [k,k,j,i])).bind fun u=>fw u fun v u8 u9 ae af=>bh v (aS 25 a.1 a.2 fun w=>
cW 25 a.1 (cK a.1 a.2 w) a.2 lo fun l=>
aS 25 a.1 l fun e=>some (Out.ret (A.tup [e,iA 60]),l)) (fl 25 b.1 0 22 a.2 fun x=>
dU 22 x a.2 fun e=>
bc .eql 3 false true e (iA 4096) fun y=>bh y (aS 25 a.1 a.2 fun z=>
cW 25 a.1 (cK a.1 a.2 z) a.2 lo fun o=>
aS 25 a.1 o fun a0=>some (Out.ret (A.tup [a0,iA 2]),o)) (fl 25 b.1 0 22 a.2 fun a1=>
fl 25 b.1 0 22 a.2 fun a2=>
dU 22 a2 a.2 fun a3=>
fl 25 b.1 0 22 a.2 fun a4=>
dU 22 a4 a.2 fun a5=>
(ef prog 22 a1 none (some a3) (some a5) a.2).bind fun a6=>
aS 48 d.1 a.2 fun a7=>
(aI prog 22 1 [(0,cQ a.2 a7)]).bind fun a8=>
(bV prog 22 22 false a6 a8 a.2 lo).bind fun c=>
cH 25 b.1 0 c.2 fun p=>
cW 22 p (cK p c.2 c.1) c.2 lo fun f=>
aS 25 b.1 f fun a9=>
cW 25 a.1 (cK a.1 f a9) f lo fun q=>
aS 25 a.1 q fun aa=>some (Out.ret (A.tup [aa,iA 0]),q))):=r8
theorem M0 (f:A):aJ (cx C) call rg n 26 [f] H lo =
oe f H fun g=>
mI 107 [(0,iA 3)] fun j=>
fV 107 g.2 fun a=>
cW 107 a.1 (cK a.1 a.2 j) a.2 lo fun k=>
(call 57 [g.1] k lo).bind fun c=>dX c.1 (fun d=>
dU 108 d c.2 fun l=>aA (cx C) call rg n 26 lo 0 (List.length (ig lo 3 5 a.1 c.2)) (fun e b=>bif Nat.beq e 0 then
aS 107 (lk b 3) (St.H b) fun o=>
(C 58 [snap (St.H b) o]).bind fun h=>
fb h 0 fun p=>
fb h 1 fun q=>some (Out.ret p,St.H b) else none) (fun e b=>none) (fun i=>some (Out.ret (lk i 2),St.H i)) (fun e b=>some (Out.pan e,St.H b)) n (St.mk [(2,A.imm [] true),(3,a.1),(9,d),(10,l),(11,iA 0)] (ig lo 3 5 a.1 c.2))) fun d=>some (Out.pan d,c.2):=r8
theorem M1 (a c b:A):aJ (cx C) call rg n 30 [a,c,b] H lo =
bc .leq 3 false false c a fun e=>
(c7 e (bc .leq 3 false false a b fun d=>some [d,d,b,a]) (some [bA false,ud,ud,ud])).bind fun f=>fw f fun g h u4 i j=>some (Out.ret g,H):=r8
theorem M3:aJ (cx C) call rg n 31 [] H lo =
fV 25 H fun a=>
aS 25 a.1 a.2 fun c=>
cW 25 a.1 (cK a.1 a.2 c) a.2 lo fun b=>
aS 25 a.1 b fun d=>some (Out.ret d,b):=r8
theorem M4 (d:A):aJ (cx C) call rg n 33 [d] H lo =
oe d H fun a=>
fl 25 a.1 0 22 a.2 fun t2=>
dU 22 t2 a.2 fun j=>
bc .gtr 3 false true j (iA 4096) fun k=>
(c7 k (some [bA true,ud,ud,ud]) (cH 25 a.1 0 a.2 fun e=>
aS 22 e a.2 fun f=>
(C 62 [snap a.2 f,snap a.2 (A.fn (Fn.func 63) [] [])]).bind fun g=>some [g,g,f,e])).bind fun l=>fw l fun o q r s t=>bh o (some (Out.ret (iA 60),a.2)) (fl 25 a.1 1 23 a.2 fun h=>
dU 23 h a.2 fun p=>aA (cx C) call rg n 33 lo 0 (List.length a.2) (fun b c=>bif Nat.beq b 0 then some (Out.ret (iA 0),St.H c) else none) (fun b c=>none) (fun i=>some (Out.ret (lk i 2),St.H i)) (fun b c=>some (Out.pan b,St.H c)) n (St.mk [(1,a.1),(2,iA 0),(15,h),(16,p),(17,iA 0)] a.2)):=r8
theorem M5 (g h i c:A):aJ (cx C) call rg n 34 [g,h,i,c] H lo =
oe g H fun a=>
fl 55 a.1 1 50 a.2 fun t2=>
dU 50 t2 a.2 fun t=>
bc .neq 3 false false t c fun u=>
(c7 u (some [bA true,ud,ud,ud,ud,ud]) (cH 55 a.1 2 a.2 fun j=>
aS 50 j a.2 fun k=>
dU 50 k a.2 fun l=>
bc .neq 3 false false l c fun o=>some [o,o,c,l,k,j])).bind fun v=>fw v fun w u7 u8 u9 x=>gj x fun a3 a4 a5=>bh w (some (Out.ret (bA false),a.2)) (fl 55 a.1 1 50 a.2 fun p=>
dU 50 p a.2 fun y=>aA (cx C) call rg n 34 lo 0 (List.length a.2) (fun d b=>bif Nat.beq d 0 then
fl 55 (lk b 4) 0 53 (St.H b) fun q=>
dU 53 q (St.H b) fun z=>aA (cx C) call rg n 34 lo 1 (List.length (St.H b)) (fun e f=>bif Nat.beq e 2 then some (Out.ret (bA true),St.H f) else none) (fun e f=>none) (fun r=>some (Out.ret (lk r 8),St.H r)) (fun e f=>some (Out.pan e,St.H f)) n (St.mk [(1,lk b 1),(2,lk b 2),(8,lk b 8),(11,lk b 3),(57,q),(58,z),(59,iA 0)] (St.H b)) else none) (fun d b=>none) (fun s=>some (Out.ret (lk s 8),St.H s)) (fun d b=>some (Out.pan d,St.H b)) n (St.mk [(1,h),(2,i),(3,c),(4,a.1),(8,bA false),(27,p),(28,y),(29,iA 0)] a.2)):=r8
theorem M6 (l:A):aJ (cx C) call rg n 35 [l] H lo =
fV 75 H fun b=>
(C 66 [snap b.2 l]).bind fun o=>
fb o 0 fun t2=>
fb o 1 fun t3=>
fV 107 b.2 fun e=>
cW 107 e.1 (cK e.1 e.2 t2) e.2 lo fun c=>
bc .neq 33 false true t3 (iA 0) fun t6=>
(c7 t6 (some [bA true,ud,ud,ud]) (cH 107 e.1 0 c fun p=>
aS 3 p c fun q=>
bc .neq 3 false true q (iA 3) fun r=>some [r,r,q,p])).bind fun l7=>fw l7 fun u8 u9 ay az b0=>
(c7 u8 (some [bA true,ud,ud,ud,ud]) (cH 107 e.1 3 c fun s=>
aS 105 s c fun t=>
dU 105 t c fun u=>
bc .eql 3 false true u (iA 0) fun v=>some [v,v,u,t,s])).bind fun ae=>fw ae fun af b1 b2 b3 ag=>bO ag fun b4 b5=>bh af (aS 75 b.1 c fun ah=>
cW 75 b.1 (cK b.1 c ah) c lo fun w=>
aS 75 b.1 w fun i=>some (Out.ret (A.tup [i,bA false]),w)) (fl 107 e.1 3 105 c fun ai=>
dI 105 ai (iA 0) c fun i=>
fl 107 i 1 3 c fun aj=>
cH 75 b.1 0 c fun x=>
cW 3 x (cK x c aj) c lo fun ak=>
(call 57 [b.1] ak lo).bind fun a=>dX a.1 (fun f=>
fl 75 b.1 0 3 a.2 fun al=>
bc .neq 3 false true al (iA 1) fun am=>
(c7 am (cH 75 b.1 0 a.2 fun y=>
aS 3 y a.2 fun z=>
bc .neq 3 false true z (iA 2) fun a0=>some [a0,a0,z,y]) (some [bA false,ud,ud,ud])).bind fun an=>fw an fun ao b6 b7 b8 b9=>
(c7 ao (some [bA true,ud,ud,ud,ud,ud,ud]) (cH 107 e.1 3 a.2 fun a1=>
aS 105 a1 a.2 fun a2=>
dU 105 a2 a.2 fun a3=>
dU 108 f a.2 fun a4=>
bc .neq 3 false false a3 a4 fun a5=>some [a5,a5,a4,f,a3,a2,a1])).bind fun ap=>fw ap fun aq ba bb bd ar=>gj ar fun be bf au=>bO au fun bg bi=>bh aq (aS 75 b.1 a.2 fun av=>
cW 75 b.1 (cK b.1 a.2 av) a.2 lo fun a6=>
aS 75 b.1 a6 fun j=>some (Out.ret (A.tup [j,bA false]),a6)) (fl 107 e.1 3 105 a.2 fun a7=>
dU 105 a7 a.2 fun j=>aA (cx C) call rg n 35 lo 0 (List.length a.2) (fun g d=>bif Nat.beq g 0 then
aS 75 (lk d 2) (St.H d) fun k=>
cW 75 (lk d 2) (cK (lk d 2) (St.H d) k) (St.H d) lo fun a8=>
aS 75 (lk d 2) a8 fun aw=>some (Out.ret (A.tup [aw,bA true]),a8) else none) (fun g d=>none) (fun h=>
aS 75 (lk h 2) (St.H h) fun k=>some (Out.ret (A.tup [k,lk h 3]),St.H h)) (fun g d=>some (Out.pan g,St.H d)) n (St.mk [(2,b.1),(3,bA false),(6,f),(53,a7),(54,j),(55,iA 0)] a.2))) fun f=>some (Out.pan f,a.2)):=r8
theorem M7 (a b:A):aJ (cx C) call rg n 48 [a,b] H lo =
(C 77 [snap H a,snap H b]).bind fun c=>
bc .geq 3 false true c (iA 0) fun d=>some (Out.ret d,H):=r8
theorem M8 (a d:A):aJ (cx C) call rg n 49 [a,d] H lo =
dU 50 a H fun g=>
bc .add 3 false true g (iA 1) fun e=>
(dq prog 50 e e H).bind fun b=>
(kT prog 50 b.1 a b.2 lo).bind fun c=>
dU 50 a c.2 fun h=>
dI 50 b.1 h c.2 fun f=>
cW 3 f (cK f c.2 d) c.2 lo fun i=>some (Out.ret b.1,i):=r8
theorem M9 (j k:A):aJ (cx C) call rg n 50 [j,k] H lo =
oe j H fun g=>
fV 28 g.2 fun c=>
fV 33 c.2 fun a=>
(Cz prog k).bind fun l=>bif Nat.ble lo (List.length a.2) then
(rg (wy 130 call (List.length a.2) (uv (cx C) call rg n 50 lo 0 (List.length a.2) [(2,g.1),(4,c.1),(5,a.1)])) l.1 (A.yld (List.length a.2) :: l.2) (a.2++[aw.rng ml.ready]) lo).bind fun o=>dX o.1 (fun q=>nd (List.length a.2) o.2 (fun b=>
aS 28 g.1 b fun e=>
cW 28 c.1 (cK c.1 b e) b lo fun f=>
cW 33 a.1 (cK a.1 f (iA 0)) f lo fun d=>
aS 28 c.1 d fun h=>
aS 33 a.1 d fun i=>some (Out.ret (A.tup [h,i]),d)) (fun p b=>bif Nat.beq p 0 then
aS 28 g.1 b fun e=>
cW 28 c.1 (cK c.1 b e) b lo fun f=>
cW 33 a.1 (cK a.1 f (iA 0)) f lo fun d=>
aS 28 c.1 d fun h=>
aS 33 a.1 d fun i=>some (Out.ret (A.tup [h,i]),d) else none) (fun p b=>none) fun b=>
aS 28 c.1 b fun e=>
aS 33 a.1 b fun r=>some (Out.ret (A.tup [e,r]),b)) fun q=>none else none:=r8
theorem Na (a b c:A):aJ (cx C) call rg n 51 [a,b,c] H lo =
oe a H fun d=>
oe b d.2 fun e=>
oe c e.2 fun f=>some (Out.ret (A.fn (Fn.func 78) [] [f.1,d.1,e.1]),f.2):=r8
theorem Nb (c d:A):aJ (cx C) call rg n 55 [c,d] H lo =
dU 50 c H fun f=>
dU 50 d H fun g=>
bc .neq 3 false false f g fun t2=>bh t2 (some (Out.ret (bA false),H)) (aA (cx C) call rg n 55 lo 0 (List.length H) (fun a b=>bif Nat.beq a 0 then some (Out.ret (bA true),St.H b) else none) (fun a b=>none) (fun e=>some (Out.ret (lk e 4),St.H e)) (fun a b=>some (Out.pan a,St.H b)) n (St.mk [(0,c),(1,d),(4,bA false),(5,iA 0)] H)):=r8
theorem Nc (b:A):aJ (cx C) call rg n 56 [b] H lo =
oe b H fun a=>
fl 48 a.1 0 3 a.2 fun t2=>
fl 48 a.1 1 3 a.2 fun g=>
(C 72 [snap a.2 t2,snap a.2 g]).bind fun h=>
(C 64 [snap a.2 h]).bind fun i=>
(c7 i (cH 48 a.1 2 a.2 fun c=>
aS 46 c a.2 fun d=>
dU 46 d a.2 fun e=>
bc .leq 3 false true e (iA 1048576) fun f=>some [f,f,e,d,c]) (some [bA false,ud,ud,ud,ud])).bind fun j=>fw j fun k o p q l=>bO l fun r s=>some (Out.ret k,a.2):=r8
theorem Lx (a:A):aJ (cx C) call rg n 57 [a] H lo =
qP a H fun e=>
cH 75 e 0 H fun v=>
qP a H fun t2=>
cH 75 t2 1 H fun f=>
cH 30 f 0 H fun w=>
qP a H fun g=>
cH 75 g 1 H fun h=>
cH 30 h 1 H fun x=>
qP a H fun i=>
cH 75 i 1 H fun j=>
cH 30 j 2 H fun y=>
qP a H fun k=>
cH 75 k 1 H fun l=>
cH 30 l 3 H fun z=>
qP a H fun o=>
cH 75 o 0 H fun a0=>
qP a H fun p=>
cH 75 p 2 H fun q=>
cH 41 q 0 H fun a1=>
qP a H fun r=>
cH 75 r 2 H fun s=>
cH 41 s 1 H fun a2=>
qP a H fun t=>
cH 75 t 2 H fun u=>
cH 41 u 2 H fun a3=>
mI 137 [(0,v),(1,w),(2,x),(3,y),(4,z),(5,a0),(6,a1),(7,a2),(8,a3)] fun a4=>bif bif apart u A.any then bif apart t A.any then bif apart a A.any then bif apart s A.any then bif apart r A.any then bif apart a A.any then bif apart q A.any then bif apart p A.any then bif apart a A.any then bif apart o A.any then bif apart a A.any then bif apart l A.any then bif apart k A.any then bif apart a A.any then bif apart j A.any then bif apart i A.any then bif apart a A.any then bif apart h A.any then bif apart g A.any then bif apart a A.any then bif apart f A.any then bif apart t2 A.any then bif apart a A.any then bif apart e A.any then bif apart a A.any then true else false else false else false else false else false else false else false else false else false else false else false else false else false else false else false else false else false else false else false else false else false else false else false else false else false then
(jd prog 137 H).bind fun b=>
cW 137 b.1 (cK b.1 b.2 a4) b.2 lo fun c=>
qP a c fun a5=>
fl 75 a5 0 3 c fun a6=>
bc .eql 3 false true a6 (iA 1) fun a7=>bh a7 ((ef prog 137 b.1 none (some (iA 5)) none c).bind fun d=>some (Out.ret d,c)) ((ef prog 137 b.1 (some (iA 5)) none none c).bind fun d=>some (Out.ret d,c)) else none:=r8
theorem Nd (f:A):aJ (cx C) call rg n 58 [f] H lo =
oe f H fun a=>
aS 107 a.1 a.2 fun h=>
(C 83 [snap a.2 h]).bind fun t2=>
bc .neq 33 false true t2 (iA 0) fun i=>bh i (some (Out.ret (A.tup [A.imm [] true,t2]),a.2)) (cH 107 a.1 0 a.2 fun g=>
aS 3 g a.2 fun j=>
aS 107 a.1 a.2 fun k=>bif bif jl 0 a.1 then bif jl 0 g then bif jl 0 a.1 then true else false else false else false then
(call 84 [] a.2 (List.length a.2)).bind fun b=>dX b.1 (fun c=>
qP c b.2 fun l=>
dI 158 l j b.2 fun o=>
fl 141 o 0 139 b.2 fun p=>cN (cx C) call p [A.imm [] true,k] b.2 lo (fun d e=>some (Out.ret (A.tup [d,iA 0]),e)) fun d e=>some (Out.pan d,e)) fun c=>some (Out.pan c,b.2) else none):=r8
theorem Nf (a b:A):aJ (cx C) call rg n 62 [a,b] H lo =
(C 88 [snap H a,snap H b]).bind fun c=>
bc .geq 3 false true c (iA 0) fun d=>some (Out.ret d,H):=r8
theorem Ng (b:A):aJ (cx C) call rg n 63 [b] H lo =
oe b H fun a=>
aS 48 a.1 a.2 fun c=>
(C 56 [snap a.2 c]).bind fun t2=>
(kb prog UnOp.not t2).bind fun d=>some (Out.ret d,a.2):=r8
theorem Nh (b:A):aJ (cx C) call rg n 64 [b] H lo =
oe b H fun a=>
dI 116 a.1 (iA 0) a.2 fun k=>
aS 3 k a.2 fun t2=>
bc .geq 3 false true t2 (iA 0) fun l=>
(c7 l (dI 116 a.1 (iA 0) a.2 fun c=>
aS 3 c a.2 fun d=>
dI 116 a.1 (iA 1) a.2 fun e=>
aS 3 e a.2 fun f=>
bc .lss 3 false false d f fun g=>some [g,g,f,e,d,c]) (some [bA false,ud,ud,ud,ud,ud])).bind fun o=>fw o fun p t u v q=>gj q fun w x y=>
(c7 p (dI 116 a.1 (iA 1) a.2 fun h=>
aS 3 h a.2 fun i=>
bc .lss 3 false true i (iA 24) fun j=>some [j,j,i,h]) (some [bA false,ud,ud,ud])).bind fun r=>fw r fun s z a0 a1 a2=>some (Out.ret s,a.2):=r8
theorem Ni (b d:A):aJ (cx C) call rg n 65 [b,d] H lo =
dU 50 b H fun f=>aA (cx C) call rg n 65 lo 0 (List.length H) (fun c a=>bif Nat.beq c 0 then
dU 50 (lk a 0) (St.H a) fun t2=>
dU 50 (lk a 1) (St.H a) fun g=>
bc .lss 3 false false t2 g fun h=>bh h (some (Out.ret (A.v (.int .i64 (-1))),St.H a)) (some (Out.ret (iA 0),St.H a)) else none) (fun c a=>none) (fun e=>some (Out.ret (lk e 4),St.H e)) (fun c a=>some (Out.pan c,St.H a)) n (St.mk [(0,b),(1,d),(4,iA 0),(9,b),(10,f),(11,iA 0)] H):=r8
theorem Nj (x:A):aJ (cx C) call rg n 66 [x] H lo =
fV 107 H fun a=>
fV 33 a.2 fun b=>
mI 150 [(0,x)] fun t2=>
oe t2 b.2 fun h=>
(call 91 [h.1,iA 0] h.2 lo).bind fun d=>dX d.1 (fun i=>
cW 107 a.1 (cK a.1 d.2 i) d.2 lo fun j=>
qP h.1 j fun e=>
fl 150 e 0 46 j fun t9=>
dU 46 t9 j fun a3=>
bc .eql 3 false true a3 (iA 0) fun k=>
(call 92 [h.1,k] j lo).bind fun c=>dX c.1 (fun l=>
aS 107 a.1 c.2 fun o=>
cW 107 a.1 (cK a.1 c.2 o) c.2 lo fun y=>
cW 33 b.1 (cK b.1 y (iA 0)) y lo fun f=>
bc .neq 20 false true (A.v Value.nilIface) (A.v Value.nilIface) fun a4=>bh a4 (mI 107 [] fun p=>
(lZ prog (A.v Value.nilIface) 33 false).bind fun g=>
cW 107 a.1 (cK a.1 f p) f lo fun z=>
cW 33 b.1 (cK b.1 z g) z lo fun q=>
aS 107 a.1 q fun a6=>
aS 33 b.1 q fun a7=>some (Out.ret (A.tup [a6,a7]),q)) (aS 107 a.1 f fun p=>
aS 33 b.1 f fun g=>some (Out.ret (A.tup [p,g]),f))) fun l=>
bc .neq 20 false true l (A.v Value.nilIface) fun o=>bh o (mI 107 [] fun r=>
(lZ prog l 33 false).bind fun s=>
cW 107 a.1 (cK a.1 c.2 r) c.2 lo fun a0=>
cW 33 b.1 (cK b.1 a0 s) a0 lo fun t=>
aS 107 a.1 t fun g=>
aS 33 b.1 t fun a8=>some (Out.ret (A.tup [g,a8]),t)) (aS 107 a.1 c.2 fun r=>
aS 33 b.1 c.2 fun s=>some (Out.ret (A.tup [r,s]),c.2))) fun i=>
bc .neq 20 false true i (A.v Value.nilIface) fun t6=>bh t6 (mI 107 [] fun e=>
(lZ prog i 33 false).bind fun u=>
cW 107 a.1 (cK a.1 d.2 e) d.2 lo fun H9=>
cW 33 b.1 (cK b.1 H9 u) H9 lo fun w=>
aS 107 a.1 w fun k=>
aS 33 b.1 w fun aa=>some (Out.ret (A.tup [k,aa]),w)) (aS 107 a.1 d.2 fun e=>
aS 33 b.1 d.2 fun u=>some (Out.ret (A.tup [e,u]),d.2)):=r8
theorem Nk (b c:A):aJ (cx C) call rg n 72 [b,c] H lo =
fV 116 H fun a=>
(Ci true b [c]).bind fun e=>
(Ci false b [c]).bind fun t2=>
mI 116 [(0,e),(1,t2)] fun f=>
cW 116 a.1 (cK a.1 a.2 f) a.2 lo fun d=>
aS 116 a.1 d fun g=>some (Out.ret g,d):=r8
theorem Nl (c d:A):aJ (cx C) call rg n 77 [c,d] H lo =
dU 50 c H fun f=>aA (cx C) call rg n 77 lo 0 (List.length H) (fun a b=>bif Nat.beq a 0 then some (Out.ret (A.v (.int .i64 (-1))),St.H b) else none) (fun a b=>none) (fun e=>some (Out.ret (lk e 4),St.H e)) (fun a b=>some (Out.pan a,St.H b)) n (St.mk [(0,c),(1,d),(4,iA 0),(7,f),(8,iA 0)] H):=r8
theorem Nm (b c d e:A):aJ (cx C) call rg n 78 [b,c,d,e] H lo =
aS 50 c H fun f=>
dU 50 f H fun g=>aA (cx C) call rg n 78 lo 0 (List.length H) (fun a s2=>bif Nat.beq a 0 then some (Out.ret (A.tup []),St.H s2) else none) (fun a s2=>none) (fun a2=>some (Out.ret (A.tup []),St.H a2)) (fun a s2=>some (Out.pan a,St.H s2)) n (St.mk [(0,b),(2,d),(3,e),(10,f),(11,g),(12,iA 0)] H):=r8
theorem Nn (b:A):aJ (cx C) call rg n 83 [b] H lo =
oe b H fun a=>
aS 107 a.1 a.2 fun c=>
(C 96 [snap a.2 c]).bind fun t2=>
fb t2 0 fun d=>
fb t2 1 fun e=>
(kb prog UnOp.not e).bind fun f=>bh f (some (Out.ret (iA 1),a.2)) (bc .gtr 3 false true d (iA 16) fun g=>bh g (some (Out.ret (iA 2),a.2)) (some (Out.ret (iA 0),a.2))):=r8
theorem Np:aJ (cx C) call rg n 84 [] H lo =
mI 158 [] fun j=>
oe j H fun e=>
fV 142 e.2 fun a=>
cW 142 a.1 (cK a.1 a.2 e.1) a.2 lo fun b=>
aS 142 a.1 b fun k=>
qP k b fun l=>
dI 158 l (iA 1) b fun o=>
cH 141 o 0 b fun f=>
cW 139 f (cK f b (A.fn (Fn.func 97) [] [])) b lo fun c=>
aS 142 a.1 c fun p=>
qP p c fun q=>
dI 158 q (iA 2) c fun r=>
cH 141 r 0 c fun g=>
cW 139 g (cK g c (A.fn (Fn.func 100) [] [])) c lo fun d=>
aS 142 a.1 d fun s=>
qP s d fun t=>
dI 158 t (iA 3) d fun u=>
cH 141 u 0 d fun h=>
cW 139 h (cK h d (A.fn (Fn.func 101) [] [a.1])) d lo fun i=>
aS 142 a.1 i fun v=>some (Out.ret v,i):=r8
theorem Nq (c d:A):aJ (cx C) call rg n 88 [c,d] H lo =
dU 22 c H fun f=>aA (cx C) call rg n 88 lo 0 (List.length H) (fun a b=>bif Nat.beq a 0 then some (Out.ret (A.v (.int .i64 (-1))),St.H b) else none) (fun a b=>none) (fun e=>some (Out.ret (lk e 4),St.H e)) (fun a b=>some (Out.pan a,St.H b)) n (St.mk [(0,c),(1,d),(4,iA 0),(7,f),(8,iA 0)] H):=r8
theorem Ly (a b:A):aJ (cx C) call rg n 89 [a,b] H lo =
(C 106 [snap H a]).bind fun d=>
(C 106 [snap H b]).bind fun c=>bh d (bh c (some (Out.ret (iA 0),H)) (some (Out.ret (A.v (.int .i64 (-1))),H))) (bh c (some (Out.ret (iA 1),H)) (bc .lss 3 false false a b fun t2=>bh t2 (some (Out.ret (A.v (.int .i64 (-1))),H)) (bc .gtr 3 false false a b fun e=>bh e (some (Out.ret (iA 1),H)) (some (Out.ret (iA 0),H))))):=r8
theorem Nr (d r:A):aJ (cx C) call rg n 91 [d,r] H lo =
fV 107 H fun a=>
(call 107 [d,iA 1] a.2 lo).bind fun H1=>dX H1.1 (fun a2=>
dI 46 a2 (iA 0) H1.2 fun t3=>
aS 5 t3 H1.2 fun t4=>
(bH prog 5 3 t4 H1.2).bind fun t5=>
cH 107 a.1 0 H1.2 fun t6=>
cW 3 t6 (cK t6 H1.2 t5) H1.2 lo fun j=>
fl 107 a.1 0 3 j fun s=>
bc .eql 3 false true s (iA 1) fun a9=>bh a9 ((call 109 [d] j lo).bind fun h=>dX h.1 (fun t=>
(C 108 [snap h.2 t]).bind fun u=>
cH 107 a.1 1 h.2 fun a3=>
cW 3 a3 (cK a3 h.2 u) h.2 lo fun v=>
aS 107 a.1 v fun w=>
cW 107 a.1 (cK a.1 v w) v lo fun a4=>
aS 107 a.1 (ig lo 3 0 a.1 a4) fun aa=>some (Out.ret aa,ig lo 3 0 a.1 a4)) fun t=>some (Out.pan t,h.2)) (bc .eql 3 false true s (iA 2) fun ab=>bh ab ((call 110 [d] j lo).bind fun x=>dX x.1 (fun y=>
(call 107 [d,y] x.2 lo).bind fun c=>dX c.1 (fun i=>
(bH prog 46 9 i c.2).bind fun w=>
cH 107 a.1 2 c.2 fun q=>
cW 9 q (cK q c.2 w) c.2 lo fun z=>
aS 107 a.1 z fun f=>
cW 107 a.1 (cK a.1 z f) z lo fun e=>
aS 107 a.1 (ig lo 3 0 a.1 e) fun k=>some (Out.ret k,ig lo 3 0 a.1 e)) fun i=>some (Out.pan i,c.2)) fun y=>some (Out.pan y,x.2)) (bc .eql 3 false true s (iA 3) fun ad=>bh ad (bc .lss 3 false true r (iA 16) fun u=>
(call 92 [d,u] j lo).bind fun c=>dX c.1 (fun i=>
(call 110 [d] c.2 lo).bind fun g=>dX g.1 (fun a0=>aA (cx C) call rg n 91 lo 0 (List.length (ig lo 3 5 a.1 g.2)) (fun l b=>bif Nat.beq l 1 then
aS 107 (lk b 4) (St.H b) fun f=>
cW 107 (lk b 4) (cK (lk b 4) (St.H b) f) (St.H b) lo fun e=>
aS 107 (lk b 4) (ig lo 3 0 (lk b 4) e) fun k=>some (Out.ret k,ig lo 3 0 (lk b 4) e) else bif Nat.beq l 0 then
aS 107 (lk b 4) (St.H b) fun f=>
cW 107 (lk b 4) (cK (lk b 4) (St.H b) f) (St.H b) lo fun e=>
aS 107 (lk b 4) (ig lo 3 0 (lk b 4) e) fun k=>some (Out.ret k,ig lo 3 0 (lk b 4) e) else none) (fun l b=>none) (fun o=>
aS 107 (lk o 4) (ig lo 3 0 (lk o 4) (St.H o)) fun f=>some (Out.ret f,ig lo 3 0 (lk o 4) (St.H o))) (fun l b=>some (Out.pan l,St.H b)) n (St.mk [(0,d),(1,r),(4,a.1),(36,a0),(37,iA 0)] (ig lo 3 5 a.1 g.2))) fun a0=>some (Out.pan a0,g.2)) fun i=>some (Out.pan i,c.2)) ((call 92 [d,bA false] j lo).bind fun p=>dX p.1 (fun a5=>
aS 107 a.1 p.2 fun ae=>
cW 107 a.1 (cK a.1 p.2 ae) p.2 lo fun g=>
aS 107 a.1 (ig lo 3 0 a.1 g) fun q=>some (Out.ret q,ig lo 3 0 a.1 g)) fun a5=>some (Out.pan a5,p.2))))) fun a2=>some (Out.pan a2,H1.2):=r8
theorem Cu (b a:A):aJ (cx C) call rg n 92 [b,a] H lo =
(kb prog UnOp.not a).bind fun c=>bh c ((Ch prog 33 (iA 10)).bind fun d=>Du d fun a2=>some (Out.pan a2,H)) (some (Out.ret (A.tup []),H)):=r8
theorem Ns (f:A):aJ (cx C) call rg n 96 [f] H lo =
oe f H fun a=>
fl 107 a.1 2 9 a.2 fun t2=>
bc .eql 9 false true t2 (A.v (Value.string (ByteArray.mk #[]))) fun t3=>
(c7 t3 (cH 107 a.1 3 a.2 fun g=>
aS 105 g a.2 fun h=>
dU 105 h a.2 fun i=>
bc .eql 3 false true i (iA 0) fun j=>some [j,j,i,h,g]) (some [bA false,ud,ud,ud,ud])).bind fun l4=>fw l4 fun u5 u6 u7 u8 l8=>bO l8 fun u9 l9=>
fl 107 a.1 1 3 a.2 fun a7=>
bc .eql 3 false true a7 (iA 0) fun a8=>
(c7 a8 (cH 107 a.1 3 a.2 fun k=>
aS 105 k a.2 fun l=>
dU 105 l a.2 fun o=>
bc .eql 3 false true o (iA 0) fun p=>some [p,p,o,l,k]) (some [bA false,ud,ud,ud,ud])).bind fun a9=>fw a9 fun aa b0 b1 b2 ab=>bO ab fun b3 b4=>
fl 107 a.1 1 3 a.2 fun ad=>
bc .eql 3 false true ad (iA 0) fun ae=>
(c7 ae (cH 107 a.1 2 a.2 fun q=>
aS 9 q a.2 fun r=>
bc .eql 9 false true r (A.v (Value.string (ByteArray.mk #[]))) fun s=>some [s,s,r,q]) (some [bA false,ud,ud,ud])).bind fun af=>fw af fun ag b5 b6 b7 b8=>
mI 171 [(1,u5),(2,aa),(3,ag)] fun ah=>
fV 171 a.2 fun wb=>
cW 171 wb.1 (cK wb.1 wb.2 ah) wb.2 lo fun b=>
fl 107 a.1 0 3 b fun ai=>
bc .lss 3 false true ai (iA 1) fun aj=>
(c7 aj (some [bA true,ud,ud,ud]) (cH 107 a.1 0 b fun t=>
aS 3 t b fun u=>
bc .gtr 3 false true u (iA 3) fun w=>some [w,w,u,t])).bind fun ak=>fw ak fun al b9 ba bb bd=>
(c7 al (some [bA true,ud,ud,ud,ud,ud]) (cH 107 a.1 0 b fun x=>
aS 3 x b fun y=>
dI 171 wb.1 y b fun z=>
aS 4 z b fun a0=>
(kb prog UnOp.not a0).bind fun a1=>some [a1,a1,a0,z,y,x])).bind fun am=>fw am fun an be bf bg ao=>gj ao fun bi bj bk=>bh an (some (Out.ret (A.tup [iA 0,bA false]),b)) (fl 107 a.1 0 3 b fun ap=>
bc .lss 3 false true ap (iA 3) fun aq=>bh aq (some (Out.ret (A.tup [iA 0,bA true]),b)) (fl 107 a.1 3 105 b fun a2=>
dU 105 a2 b fun ar=>aA (cx C) call rg n 96 lo 0 (List.length b) (fun d c=>bif Nat.beq d 0 then
bc .add 3 false true (lk c 2) (iA 1) fun au=>some (Out.ret (A.tup [au,bA true]),St.H c) else none) (fun d c=>none) (fun e=>some (Out.ret (A.tup [lk e 2,lk e 3]),St.H e)) (fun d c=>some (Out.pan d,St.H c)) n (St.mk [(2,iA 0),(3,bA false),(55,a2),(56,ar),(57,iA 0)] b))):=r8
theorem JY (b f:A):aJ (cx C) call rg n 97 [b,f] H lo =
oe f H fun c=>
(aI prog 46 1 [(0,cQ c.2 (A.v (.int .u8 1)))]).bind fun h=>
(bV prog 46 46 false b h c.2 lo).bind fun a=>bif bif apart c.1 b then true else false then
cH 107 c.1 1 a.2 fun g=>bif bif apart g b then true else false then
aS 3 g a.2 fun i=>
(C 99 [snap a.2 i]).bind fun j=>
(call 98 [a.1,j] a.2 lo).bind fun d=>dX d.1 (fun e=>some (Out.ret e,d.2)) fun e=>some (Out.pan e,d.2) else none else none:=r8
theorem Ec (c d:A):aJ (cx C) call rg n 98 [c,d] H lo=aA (cx C) call rg n 98 lo 0 (List.length H) (fun b a=>bif Nat.beq b 0 then
(bH prog 160 5 (lk a 1) (St.H a)).bind fun g=>
(aI prog 46 1 [(0,cQ (St.H a) g)]).bind fun t2=>
(bV prog 46 46 false (lk a 0) t2 (St.H a) lo).bind fun e=>some (Out.ret e.1,e.2) else none) (fun b a=>none) (fun f=>some (Out.ret (lk f 4),St.H f)) (fun b a=>some (Out.pan b,St.H a)) n (St.mk [(0,c),(1,d),(4,A.imm [] true)] H):=r8
theorem Nt (a:A):aJ (cx C) call rg n 99 [a] H lo =
(bH prog 3 160 a H).bind fun b=>
bc .shl 160 false true b (A.v (.int .u64 1)) fun c=>
bc .shr 3 false true a (A.v (.int .u64 63)) fun t2=>
(bH prog 3 160 t2 H).bind fun d=>
bc .xor 160 false false c d fun e=>some (Out.ret e,H):=r8
theorem E3 (b f:A):aJ (cx C) call rg n 100 [b,f] H lo =
oe f H fun g=>
(sf lo g.1 g.2).bind fun a=>bif bif sB (A.v (.int .u8 2)) then true else false then
(aI prog 46 1 [(0,cQ a.2 (A.v (.int .u8 2)))]).bind fun t2=>
cH 107 a.1 2 a.2 fun h=>
aS 9 h a.2 fun i=>
dU 9 i a.2 fun j=>
(bH prog 3 160 j a.2).bind fun o=>
cH 107 a.1 2 a.2 fun c=>
aS 9 c a.2 fun p=>bif bif apart c b then bif apart a.1 b then bif apart j b then bif apart i b then bif apart h b then bif apart a.1 b then true else false else false else false else false else false else false then
(bV prog 46 46 false b t2 a.2 lo).bind fun k=>bif bif jl 1000 c then bif jl 1000 a.1 then true else false else false then
(call 98 [k.1,o] k.2 lo).bind fun d=>dX d.1 (fun e=>
(bV prog 46 9 false e p d.2 lo).bind fun l=>some (Out.ret l.1,l.2)) fun e=>some (Out.pan e,d.2) else none else none else none:=r8
theorem GB (a h i:A):aJ (cx C) call rg n 101 [a,h,i] H lo =
oe h H fun d=>
(aI prog 46 1 [(0,cQ d.2 (A.v (.int .u8 3)))]).bind fun q=>
(bV prog 46 46 false a q d.2 lo).bind fun b=>bif bif apart d.1 a then true else false then
cH 107 d.1 3 b.2 fun j=>bif bif apart j a then true else false then
aS 105 j b.2 fun k=>bif bif apart k a then true else false then
dU 105 k b.2 fun l=>bif bif apart l a then true else false then
(bH prog 3 160 l b.2).bind fun r=>
(call 98 [b.1,r] b.2 lo).bind fun c=>dX c.1 (fun g=>
fl 107 d.1 3 105 c.2 fun o=>
dU 105 o c.2 fun s=>aA (cx C) call rg n 101 lo 0 (List.length c.2) (fun f e=>bif Nat.beq f 0 then some (Out.ret (lk e 0),St.H e) else none) (fun f e=>none) (fun p=>some (Out.ret (lk p 5),St.H p)) (fun f e=>some (Out.pan f,St.H e)) n (St.mk [(0,g),(2,i),(5,A.imm [] true),(17,o),(18,s),(19,iA 0)] c.2)) fun g=>some (Out.pan g,c.2) else none else none else none else none:=r8
theorem JR (a:A):aJ (cx C) call rg n 106 [a] H lo =
bc .neq 3 false false a a fun b=>some (Out.ret b,H):=r8
theorem E4 (b c:A):aJ (cx C) call rg n 107 [b,c] H lo =
qP b H fun f=>
fl 150 f 0 46 H fun t2=>
dU 46 t2 H fun g=>
bc .leq 3 false false c g fun h=>
(call 92 [b,h] H lo).bind fun a=>dX a.1 (fun d=>
qP b a.2 fun i=>
fl 150 i 0 46 a.2 fun j=>
(ef prog 46 j none (some c) (some c) a.2).bind fun k=>
qP b a.2 fun l=>
fl 150 l 0 46 a.2 fun o=>
(ef prog 46 o (some c) none none a.2).bind fun p=>
qP b a.2 fun q=>
cH 150 q 0 a.2 fun e=>
cW 46 e (cK e a.2 p) a.2 lo fun r=>some (Out.ret k,r)) fun d=>some (Out.pan d,a.2):=r8
theorem JS (a:A):aJ (cx C) call rg n 108 [a] H lo =
bc .shr 160 false true a (A.v (.int .u64 1)) fun b=>
(bH prog 160 3 b H).bind fun c=>
bc .and 160 false true a (A.v (.int .u64 1)) fun t2=>
(bH prog 160 3 t2 H).bind fun d=>
(kb prog UnOp.neg d).bind fun e=>
bc .xor 3 false false c e fun f=>some (Out.ret f,H):=r8
theorem E5 (c:A):aJ (cx C) call rg n 109 [c] H lo=aA (cx C) call rg n 109 lo 0 (List.length H) (fun b a=>bif Nat.beq b 0 then some (Out.ret (lk a 2),St.H a) else none) (fun b a=>none) (fun d=>some (Out.ret (lk d 2),St.H d)) (fun b a=>some (Out.pan b,St.H a)) n (St.mk [(0,c),(2,A.v (.int .u64 0)),(3,iA 0)] H):=r8
theorem GC (a:A):aJ (cx C) call rg n 110 [a] H lo =
(call 109 [a] H lo).bind fun H0=>dX H0.1 (fun b=>
qP a H0.2 fun t2=>
fl 150 t2 0 46 H0.2 fun e=>
dU 46 e H0.2 fun f=>
(bH prog 3 160 f H0.2).bind fun g=>
bc .leq 160 false false b g fun h=>
(call 92 [a,h] H0.2 lo).bind fun c=>dX c.1 (fun d=>
(bH prog 160 3 b c.2).bind fun i=>some (Out.ret i,c.2)) fun d=>some (Out.pan d,c.2)) fun b=>some (Out.pan b,H0.2):=r8
theorem JT (s t r u x7 pJ pK g:A):aA (cx C) call rg n 5 lo 0 L kx kg kr kp (m+1) (St.mk [(1,s),(2,t),(3,r),(6,u),(7,x7),(63,pJ),(64,pK),(65,g)] H) =
bc .lss 3 false false g pK fun t0=>bh t0 (dI 26 pJ g H fun t1=>
aS 55 t1 H fun t2=>
fV 55 H fun o=>
cW 55 o.1 (cK o.1 o.2 t2) o.2 lo fun l=>
fl 28 r 1 26 l fun t6=>
dI 26 t6 g l fun t7=>
fl 55 t7 0 53 l fun w=>
dU 53 w l fun a9=>aA (cx C) call rg n 5 lo 1 (List.length l) (fun h b=>bif Nat.beq h 2 then
dU 50 (lk b 1) (St.H b) fun p=>aA (cx C) call rg n 5 lo 2 (List.length (St.H b)) (fun i a=>bif Nat.beq i 4 then
cH 55 (lk a 10) 0 (St.H a) fun q=>
aS 53 q (St.H a) fun aa=>
dU 53 aa (St.H a) fun ab=>
bc .neq 3 false false ab (lk a 12) fun ad=>
(c7 ad (some [bA true,ud,ud,ud,ud,ud,ud,ud]) (cH 55 (lk a 10) 2 (St.H a) fun x=>
aS 50 x (St.H a) fun y=>
dU 50 y (St.H a) fun z=>
cH 28 (lk a 3) 2 (St.H a) fun a0=>
aS 3 a0 (St.H a) fun a1=>
bc .add 3 false true a1 (iA 1) fun a2=>
bc .neq 3 false false z a2 fun a3=>some [a3,a3,a2,a1,a0,z,y,x])).bind fun ae=>xx ae fun af aj ak al am an ao ap aq=>bh af (kr (St.mk [(1,lk a 1),(2,lk a 2),(3,lk a 3),(6,bA false),(7,lk a 7),(63,lk a 63),(64,lk a 64),(65,lk a 65)] (St.H a))) (fl 28 (lk a 7) 1 26 (St.H a) fun a4=>
dU 26 a4 (St.H a) fun ag=>aA (cx C) call rg n 5 lo 3 (List.length (St.H a)) (fun j c=>bif Nat.beq j 6 then
bc .add 3 false true (lk c 65) (iA 1) fun k=>
jh L (St.H c) fun v=>bif bif Nat.beq (List.length (St.H c)) L then true else aF L ((65,k) :: (156,k) :: St.fr c) [1,2,3,6,7,63,64,65] then aA (cx C) call rg n 5 lo 0 L kx kg kr kp m (St.mk [(1,lk c 1),(2,lk c 2),(3,lk c 3),(6,lk c 6),(7,lk c 7),(63,lk c 63),(64,lk c 64),(65,k)] v) else none else bif Nat.beq j 1 then
bc .add 3 false true (lk c 65) (iA 1) fun k=>
jh L (St.H c) fun v=>bif bif Nat.beq (List.length (St.H c)) L then true else aF L ((65,k) :: (156,k) :: St.fr c) [1,2,3,6,7,63,64,65] then aA (cx C) call rg n 5 lo 0 L kx kg kr kp m (St.mk [(1,lk c 1),(2,lk c 2),(3,lk c 3),(6,lk c 6),(7,lk c 7),(63,lk c 63),(64,lk c 64),(65,k)] v) else none else kx j (St.mk [(1,lk c 1),(2,lk c 2),(3,lk c 3),(6,lk c 6),(7,lk c 7),(63,lk c 63),(64,lk c 64),(65,lk c 65)] (St.H c))) (fun j c=>kg j (St.mk [(1,lk c 1),(2,lk c 2),(3,lk c 3),(6,lk c 6),(7,lk c 7),(63,lk c 63),(64,lk c 64),(65,lk c 65)] (St.H c))) (fun d=>kr (St.mk [(1,lk d 1),(2,lk d 2),(3,lk d 3),(6,lk d 6),(7,lk d 7),(63,lk d 63),(64,lk d 64),(65,lk d 65)] (St.H d))) (fun j c=>kp j (St.mk [(1,lk c 1),(2,lk c 2),(3,lk c 3),(6,lk c 6),(7,lk c 7),(63,lk c 63),(64,lk c 64),(65,lk c 65)] (St.H c))) n (St.mk [(1,lk a 1),(2,lk a 2),(3,lk a 3),(6,lk a 6),(7,lk a 7),(9,lk a 9),(11,lk a 11),(63,lk a 63),(64,lk a 64),(65,lk a 65),(117,a4),(118,ag),(119,iA 0)] (St.H a))) else bif Nat.beq i 1 then
bc .add 3 false true (lk a 65) (iA 1) fun q=>
jh L (St.H a) fun ah=>bif bif Nat.beq (List.length (St.H a)) L then true else aF L ((65,q) :: (156,q) :: St.fr a) [1,2,3,6,7,63,64,65] then aA (cx C) call rg n 5 lo 0 L kx kg kr kp m (St.mk [(1,lk a 1),(2,lk a 2),(3,lk a 3),(6,lk a 6),(7,lk a 7),(63,lk a 63),(64,lk a 64),(65,q)] ah) else none else kx i (St.mk [(1,lk a 1),(2,lk a 2),(3,lk a 3),(6,lk a 6),(7,lk a 7),(63,lk a 63),(64,lk a 64),(65,lk a 65)] (St.H a))) (fun i a=>kg i (St.mk [(1,lk a 1),(2,lk a 2),(3,lk a 3),(6,lk a 6),(7,lk a 7),(63,lk a 63),(64,lk a 64),(65,lk a 65)] (St.H a))) (fun e=>kr (St.mk [(1,lk e 1),(2,lk e 2),(3,lk e 3),(6,lk e 6),(7,lk e 7),(63,lk e 63),(64,lk e 64),(65,lk e 65)] (St.H e))) (fun i a=>kp i (St.mk [(1,lk a 1),(2,lk a 2),(3,lk a 3),(6,lk a 6),(7,lk a 7),(63,lk a 63),(64,lk a 64),(65,lk a 65)] (St.H a))) n (St.mk [(1,lk b 1),(2,lk b 2),(3,lk b 3),(6,lk b 6),(7,lk b 7),(9,lk b 9),(10,lk b 10),(11,lk b 11),(12,lk b 12),(63,lk b 63),(64,lk b 64),(65,lk b 65),(89,lk b 1),(90,p),(91,iA 0)] (St.H b)) else bif Nat.beq h 1 then
bc .add 3 false true (lk b 65) (iA 1) fun p=>
jh L (St.H b) fun ai=>bif bif Nat.beq (List.length (St.H b)) L then true else aF L ((65,p) :: (156,p) :: St.fr b) [1,2,3,6,7,63,64,65] then aA (cx C) call rg n 5 lo 0 L kx kg kr kp m (St.mk [(1,lk b 1),(2,lk b 2),(3,lk b 3),(6,lk b 6),(7,lk b 7),(63,lk b 63),(64,lk b 64),(65,p)] ai) else none else kx h (St.mk [(1,lk b 1),(2,lk b 2),(3,lk b 3),(6,lk b 6),(7,lk b 7),(63,lk b 63),(64,lk b 64),(65,lk b 65)] (St.H b))) (fun h b=>kg h (St.mk [(1,lk b 1),(2,lk b 2),(3,lk b 3),(6,lk b 6),(7,lk b 7),(63,lk b 63),(64,lk b 64),(65,lk b 65)] (St.H b))) (fun f=>kr (St.mk [(1,lk f 1),(2,lk f 2),(3,lk f 3),(6,lk f 6),(7,lk f 7),(63,lk f 63),(64,lk f 64),(65,lk f 65)] (St.H f))) (fun h b=>kp h (St.mk [(1,lk b 1),(2,lk b 2),(3,lk b 3),(6,lk b 6),(7,lk b 7),(63,lk b 63),(64,lk b 64),(65,lk b 65)] (St.H b))) n (St.mk [(1,s),(2,t),(3,r),(6,u),(7,x7),(9,g),(10,o.1),(11,bA false),(12,iA 0),(63,pJ),(64,pK),(65,g),(75,w),(76,a9),(77,iA 0)] l)) (kx 0 (St.mk [(1,s),(2,t),(3,r),(6,u),(7,x7),(63,pJ),(64,pK),(65,g)] H)):=r8
theorem JU (d e a f x7 x9 g gm j pJ pK h b c DI:A):aA (cx C) call rg n 5 lo 1 L kx kg kr kp (m+1) (St.mk [(1,d),(2,e),(3,a),(6,f),(7,x7),(9,x9),(10,g),(11,gm),(12,j),(63,pJ),(64,pK),(65,h),(75,b),(76,c),(77,DI)] H) =
bc .lss 3 false false DI c fun p=>bh p (dI 53 b DI H fun q=>
aS 30 q H fun t2=>
fV 30 H fun k=>
cW 30 k.1 (cK k.1 k.2 t2) k.2 lo fun i=>
fl 30 k.1 2 3 i fun r=>
fl 28 a 2 3 i fun s=>
bc .eql 3 false false r s fun t=>bh t (bc .add 3 false true DI (iA 1) fun l=>
jh L i fun u=>bif bif Nat.beq (List.length i) L then true else aF L [(77,l),(11,bA true),(1,d),(2,e),(3,a),(6,f),(7,x7),(9,x9),(10,g),(12,j),(63,pJ),(64,pK),(65,h),(75,b),(76,c)] [1,2,3,6,7,9,10,11,12,63,64,65,75,76,77] then aA (cx C) call rg n 5 lo 1 L kx kg kr kp m (St.mk [(1,d),(2,e),(3,a),(6,f),(7,x7),(9,x9),(10,g),(11,bA true),(12,j),(63,pJ),(64,pK),(65,h),(75,b),(76,c),(77,l)] u) else none) (bc .add 3 false true j (iA 1) fun l=>
bc .add 3 false true DI (iA 1) fun o=>
jh L i fun v=>bif bif Nat.beq (List.length i) L then true else aF L [(77,o),(12,l),(1,d),(2,e),(3,a),(6,f),(7,x7),(9,x9),(10,g),(11,gm),(63,pJ),(64,pK),(65,h),(75,b),(76,c)] [1,2,3,6,7,9,10,11,12,63,64,65,75,76,77] then aA (cx C) call rg n 5 lo 1 L kx kg kr kp m (St.mk [(1,d),(2,e),(3,a),(6,f),(7,x7),(9,x9),(10,g),(11,gm),(12,l),(63,pJ),(64,pK),(65,h),(75,b),(76,c),(77,o)] v) else none)) (kx 2 (St.mk [(1,d),(2,e),(3,a),(6,f),(7,x7),(9,x9),(10,g),(11,gm),(12,j),(63,pJ),(64,pK),(65,h),(75,b),(76,c),(77,DI)] H)):=r8
theorem JV (d e f g x7 x9 h gm i pJ pK j a b c:A):aA (cx C) call rg n 5 lo 2 L kx kg kr kp (m+1) (St.mk [(1,d),(2,e),(3,f),(6,g),(7,x7),(9,x9),(10,h),(11,gm),(12,i),(63,pJ),(64,pK),(65,j),(89,a),(90,b),(91,c)] H) =
bc .lss 3 false false c b fun o=>bh o (dI 50 a c H fun p=>
aS 3 p H fun t2=>
(c7 gm (bc .neq 3 false false t2 x9 fun k=>some [k,k,x9,t2]) (some [bA false,ud,ud,ud])).bind fun q=>fw q fun u4 s t u v=>
bc .add 3 false true c (iA 1) fun l=>
jh L H fun r=>bif bif Nat.beq (List.length H) L then true else aF L [(91,l),(11,u4),(1,d),(2,e),(3,f),(6,g),(7,x7),(9,x9),(10,h),(12,i),(63,pJ),(64,pK),(65,j),(89,a),(90,b)] [1,2,3,6,7,9,10,11,12,63,64,65,89,90,91] then aA (cx C) call rg n 5 lo 2 L kx kg kr kp m (St.mk [(1,d),(2,e),(3,f),(6,g),(7,x7),(9,x9),(10,h),(11,u4),(12,i),(63,pJ),(64,pK),(65,j),(89,a),(90,b),(91,l)] r) else none) (kx 4 (St.mk [(1,d),(2,e),(3,f),(6,g),(7,x7),(9,x9),(10,h),(11,gm),(12,i),(63,pJ),(64,pK),(65,j),(89,a),(90,b),(91,c)] H)):=r8
theorem JW (h b d j x7 x9 gm pJ pK i e f c:A):aA (cx C) call rg n 5 lo 3 L kx kg kr kp (m+1) (St.mk [(1,h),(2,b),(3,d),(6,j),(7,x7),(9,x9),(11,gm),(63,pJ),(64,pK),(65,i),(117,e),(118,f),(119,c)] H) =
bc .lss 3 false false c f fun t0=>bh t0 (dI 26 e c H fun t1=>
aS 55 t1 H fun t2=>
fV 55 H fun g=>
cW 55 g.1 (cK g.1 g.2 t2) g.2 lo fun a=>
(kb prog UnOp.not gm).bind fun t5=>
(c7 t5 (dI 50 b x9 a fun l=>
aS 3 l a fun o=>
dI 50 b c a fun p=>
aS 3 p a fun q=>
bc .eql 3 false false o q fun r=>some [r,r,q,p,c,b,o,l,x9,b]) (some [bA false,ud,ud,ud,ud,ud,ud,ud,ud,ud])).bind fun l6=>xx l6 fun s u8 u9 ay az b0 b1 b2 af=>gj af fun b3 b4 b5=>
uy s true (cH 55 g.1 2 a fun t=>
aS 50 t a fun u=>
dU 50 u a fun v=>
cH 28 d 2 a fun w=>
aS 3 w a fun x=>
bc .add 3 false true x (iA 1) fun y=>
bc .neq 3 false false v y fun k=>
uy k false (cH 55 g.1 2 a fun z=>
aS 50 z a fun ag=>
cH 28 d 2 a fun a0=>
aS 3 a0 a fun ah=>some [ah,a0,ag,z]) (some [ud,ud,ud,ud]) fun ai=>fw ai fun a1 a2 a3 a4 b6=>some [a1,a2,a3,a4,k,k,y,x,w,v,u,t]) (some [ud,ud,ud,ud,ud,ud,ud,ud,ud,ud,ud,ud]) fun aj=>xx aj fun ak b7 al b8 a5 b9 ba a1 am=>fw am fun a2 a3 a4 bb bd=>
uy a5 false (dI 50 al ak a fun a6=>
aS 3 a6 a fun a7=>
bc .neq 3 false true a7 (iA 0) fun an=>some [an,a7,a6]) (some [ud,ud,ud]) fun ao=>gj ao fun ap be aq=>bO aq fun bf bg=>
(c7 s ((c7 a5 (some (bA true)) (some ap)).bind fun a8=>some [a8,a8]) (some [bA false,ud])).bind fun ar=>gj ar fun au bi bj=>bh au (kr (St.mk [(1,h),(2,b),(3,d),(6,bA false),(7,x7),(9,x9),(11,gm),(63,pJ),(64,pK),(65,i),(117,e),(118,f),(119,c)] a)) (bc .add 3 false true c (iA 1) fun a9=>
jh L a fun av=>bif bif Nat.beq (List.length a) L then true else aF L [(119,a9),(1,h),(2,b),(3,d),(6,j),(7,x7),(9,x9),(11,gm),(63,pJ),(64,pK),(65,i),(117,e),(118,f)] [1,2,3,6,7,9,11,63,64,65,117,118,119] then aA (cx C) call rg n 5 lo 3 L kx kg kr kp m (St.mk [(1,h),(2,b),(3,d),(6,j),(7,x7),(9,x9),(11,gm),(63,pJ),(64,pK),(65,i),(117,e),(118,f),(119,a9)] av) else none)) (kx 6 (St.mk [(1,h),(2,b),(3,d),(6,j),(7,x7),(9,x9),(11,gm),(63,pJ),(64,pK),(65,i),(117,e),(118,f),(119,c)] H)):=r8
theorem JX (c e d:A):aA (cx C) call rg n 8 lo 0 L kx kg kr kp (m+1) (St.mk [(1,c),(2,e),(4,d)] H) =
fl 28 c 1 26 H fun t1=>
dU 26 t1 H fun t2=>
bc .lss 3 false false d t2 fun t3=>bh t3 (fl 28 c 1 26 H fun t5=>
dI 26 t5 d H fun t6=>
aS 55 t6 H fun t7=>
fV 55 H fun b=>
cW 55 b.1 (cK b.1 b.2 t7) b.2 lo fun a=>
fl 55 b.1 0 53 a fun a9=>
dU 53 a9 a fun aa=>
bc .gtr 3 false true aa (iA 40) fun ab=>
(c7 ab (some [bA true,ud,ud,ud,ud,ud,ud,ud,ud,ud,ud]) (cH 55 b.1 1 a fun i=>
aS 50 i a fun j=>
dU 50 j a fun k=>
bc .gtr 3 false true k (iA 60) fun f=>
(c7 f (cH 55 b.1 1 a fun l=>
aS 50 l a fun o=>
dU 50 o a fun p=>
bc .lss 3 false true p (iA 4094) fun q=>some [q,q,p,o,l]) (some [bA false,ud,ud,ud,ud])).bind fun ad=>fw ad fun g r s t h=>bO h fun u ao=>some [g,g,r,s,t,u,f,f,k,j,i])).bind fun ae=>xx ae fun af ap aq ar g r s t h=>gj h fun u au ag=>bO ag fun av aw=>
(c7 af (some [bA true,ud,ud,ud,ud]) (cH 55 b.1 1 a fun v=>
aS 50 v a fun w=>
dU 50 w a fun x=>
bc .gtr 3 false true x (iA 5000) fun y=>some [y,y,x,w,v])).bind fun ah=>fw ah fun ai ax ay az aj=>bO aj fun b0 b1=>
(c7 ai (some [bA true,ud,ud,ud,ud]) (cH 55 b.1 2 a fun z=>
aS 50 z a fun a0=>
dU 50 a0 a fun a1=>
bc .gtr 3 false true a1 (iA 5000) fun a2=>some [a2,a2,a1,a0,z])).bind fun ak=>fw ak fun al b2 b3 b4 am=>bO am fun b5 b6=>bh al (kr (St.mk [(1,c),(2,bA false),(4,d)] a)) (bc .add 3 false true d (iA 1) fun a3=>
jh L a fun an=>bif bif Nat.beq (List.length a) L then true else aF L [(4,a3),(1,c),(2,e)] [1,2,4] then aA (cx C) call rg n 8 lo 0 L kx kg kr kp m (St.mk [(1,c),(2,e),(4,a3)] an) else none)) (kx 0 (St.mk [(1,c),(2,e),(4,d)] H)):=r8
theorem GD (b f c DE d wv:A):aA (cx C) call rg n 13 lo 0 L kx kg kr kp (m+1) (St.mk [(1,b),(2,f),(3,c),(31,DE),(32,d),(33,wv)] H) =
bc .lss 3 false false wv d fun h=>bh h (dI 26 DE wv H fun i=>
aS 55 i H fun t2=>
fV 55 H fun e=>
cW 55 e.1 (cK e.1 e.2 t2) e.2 lo fun a=>
aS 55 e.1 a fun j=>
fl 28 b 2 3 a fun k=>
(C 34 [snap a j,snap a wv,snap a c,snap a k]).bind fun l=>
(kb prog UnOp.not l).bind fun o=>bh o (kr (St.mk [(1,b),(2,iA 490),(3,c),(31,DE),(32,d),(33,wv)] a)) (bc .add 3 false true wv (iA 1) fun g=>
jh L a fun p=>bif bif Nat.beq (List.length a) L then true else aF L [(33,g),(1,b),(2,f),(3,c),(31,DE),(32,d)] [1,2,3,31,32,33] then aA (cx C) call rg n 13 lo 0 L kx kg kr kp m (St.mk [(1,b),(2,f),(3,c),(31,DE),(32,d),(33,g)] p) else none)) (kx 0 (St.mk [(1,b),(2,f),(3,c),(31,DE),(32,d),(33,wv)] H)):=r8
theorem GF (b g c xD xE e:A):aA (cx C) call rg n 13 lo 1 L kx kg kr kp (m+1) (St.mk [(1,b),(2,g),(3,c),(48,xD),(49,xE),(50,e)] H) =
bc .lss 3 false false e xE fun t0=>bh t0 (dI 22 xD e H fun t1=>
aS 48 t1 H fun t2=>
fV 48 H fun f=>
cW 48 f.1 (cK f.1 f.2 t2) f.2 lo fun v=>
fl 48 f.1 2 46 v fun t6=>
(C 35 [snap v t6]).bind fun y=>
fb y 0 fun t8=>
fb y 1 fun w=>
fV 75 v fun h=>
cW 75 h.1 (cK h.1 h.2 t8) h.2 lo fun b3=>
fV 30 b3 fun i=>
fV 41 i.2 fun d=>
fl 75 h.1 1 30 d.2 fun b4=>
cH 75 h.1 2 d.2 fun z=>
aS 41 z d.2 fun b5=>bif bif apart z i.1 then bif apart h.1 i.1 then true else false else false then
cW 30 i.1 (cK i.1 d.2 b4) d.2 lo fun a0=>
cW 41 d.1 (cK d.1 a0 b5) a0 lo fun a=>
(c7 w (cH 75 h.1 0 a fun a1=>
aS 3 a1 a fun a2=>
bc .eql 3 false true a2 (iA 1) fun a3=>some [a3,a3,a2,a1]) (some [bA false,ud,ud,ud])).bind fun b6=>fw b6 fun b7 c4 c5 c6 c8=>bh b7 (aS 30 i.1 a fun x=>
(C 24 [snap a x,snap a c]).bind fun j=>
(c7 j (cH 48 f.1 0 a fun s=>
aS 3 s a fun t=>
bc .eql 3 false true t (iA 0) fun k=>some [k,k,t,s]) (some [bA false,ud,ud,ud])).bind fun b8=>fw b8 fun b9 c9 a4 ba ca=>
(c7 b9 (cH 48 f.1 1 a fun l=>
aS 3 l a fun o=>
cH 30 i.1 1 a fun p=>
aS 3 p a fun a5=>
bc .add 3 false true a5 (iA 1) fun a6=>
bc .eql 3 false false o a6 fun q=>some [q,q,a6,a5,p,o,l]) (some [bA false,ud,ud,ud,ud,ud,ud])).bind fun bb=>fw bb fun a7 bd be bf a8=>gj a8 fun cb a9 bg=>bO bg fun bi cc=>
(kb prog UnOp.not a7).bind fun u=>bh u (kr (St.mk [(1,b),(2,iA 490),(3,c),(48,xD),(49,xE),(50,e)] a)) (bc .add 3 false true e (iA 1) fun r=>
jh L a fun bj=>bif bif Nat.beq (List.length a) L then true else aF L [(50,r),(1,b),(2,g),(3,c),(48,xD),(49,xE)] [1,2,3,48,49,50] then aA (cx C) call rg n 13 lo 1 L kx kg kr kp m (St.mk [(1,b),(2,g),(3,c),(48,xD),(49,xE),(50,r)] bj) else none)) (bh w (fl 41 d.1 0 3 a fun j=>
bc .sub 3 false true c (iA 1) fun s=>
(C 30 [snap a j,snap a (iA 0),snap a s]).bind fun t=>
(c7 t (cH 41 d.1 1 a fun k=>
aS 3 k a fun aa=>
cH 28 b 2 a fun ab=>
aS 3 ab a fun l=>
bc .sub 3 false true l (iA 1) fun o=>
(C 30 [snap a aa,snap a (iA 0),snap a o]).bind fun p=>some [p,p,o,l,ab,aa,k]) (some [bA false,ud,ud,ud,ud,ud,ud])).bind fun bk=>fw bk fun a4 ba cd a7 bl=>gj bl fun bd be bm=>bO bm fun bf a8=>
(c7 a4 (cH 48 f.1 0 a fun q=>
aS 3 q a fun ad=>
cH 41 d.1 0 a fun ae=>
aS 3 ae a fun u=>
bc .add 3 false true u (iA 1) fun r=>
bc .eql 3 false false ad r fun af=>some [af,af,r,u,ae,ad,q]) (some [bA false,ud,ud,ud,ud,ud,ud])).bind fun bn=>fw bn fun a9 bi ce cf bo=>gj bo fun cg ch bp=>bO bp fun ci cj=>
(c7 a9 (cH 48 f.1 1 a fun ag=>
aS 3 ag a fun ah=>
bc .eql 3 false true ah (iA 0) fun ai=>some [ai,ai,ah,ag]) (some [bA false,ud,ud,ud])).bind fun bq=>fw bq fun aj ck cl cm cn=>
uy aj true (cH 28 b 1 a fun ak=>
aS 26 ak a fun al=>
cH 41 d.1 0 a fun am=>
aS 3 am a fun an=>
dI 26 al an a fun ao=>
cH 55 ao 2 a fun ap=>
aS 50 ap a fun aq=>
cH 41 d.1 1 a fun ar=>
aS 3 ar a fun au=>
dI 50 aq au a fun av=>
aS 3 av a fun br=>
cH 41 d.1 2 a fun aw=>
aS 3 aw a fun bs=>some [bs,aw,br,av,au,ar,aq,ap,ao,an,am,al,ak]) (some [ud,ud,ud,ud,ud,ud,ud,ud,ud,ud,ud,ud,ud]) fun bt=>xx bt fun bu co bv cp cq cr cs ct bw=>fw bw fun cu cv cw cy bx=>bO bx fun cz d0=>
(c7 aj (bc .eql 3 false false bv bu fun ax=>some [ax,ax]) (some [bA false,ud])).bind fun bz=>gj bz fun c0 d1 d2=>
(kb prog UnOp.not c0).bind fun c1=>bh c1 (kr (St.mk [(1,b),(2,iA 490),(3,c),(48,xD),(49,xE),(50,e)] a)) (bc .add 3 false true e (iA 1) fun ay=>
jh L a fun c2=>bif bif Nat.beq (List.length a) L then true else aF L [(50,ay),(1,b),(2,g),(3,c),(48,xD),(49,xE)] [1,2,3,48,49,50] then aA (cx C) call rg n 13 lo 1 L kx kg kr kp m (St.mk [(1,b),(2,g),(3,c),(48,xD),(49,xE),(50,ay)] c2) else none)) ((kb prog UnOp.not w).bind fun x=>bh x (kr (St.mk [(1,b),(2,iA 490),(3,c),(48,xD),(49,xE),(50,e)] a)) (bc .add 3 false true e (iA 1) fun j=>
jh L a fun c3=>bif bif Nat.beq (List.length a) L then true else aF L [(50,j),(1,b),(2,g),(3,c),(48,xD),(49,xE)] [1,2,3,48,49,50] then aA (cx C) call rg n 13 lo 1 L kx kg kr kp m (St.mk [(1,b),(2,g),(3,c),(48,xD),(49,xE),(50,j)] c3) else none))) else none) (kx 2 (St.mk [(1,b),(2,g),(3,c),(48,xD),(49,xE),(50,e)] H)):=r8
theorem GG (a b c x5:A):aA (cx C) call rg n 18 lo 0 L kx kg kr kp (m+1) (St.mk [(0,a),(1,b),(4,c),(5,x5)] H) =
bc .lss 3 false false x5 b fun h=>bh h (dI 50 a x5 H fun i=>
aS 3 i H fun t2=>
bc .lss 3 false true t2 (iA 0) fun j=>
(c7 j (some [bA true,ud,ud,ud,ud,ud,ud]) (dI 50 a x5 H fun d=>
aS 3 d H fun e=>
bc .gtr 3 false false e x5 fun f=>some [f,f,x5,e,d,x5,a])).bind fun k=>fw k fun l y z u8 o=>gj o fun u9 a2 p=>bO p fun a3 a4=>bh l (kr (St.mk [(0,a),(1,b),(4,bA false),(5,x5)] H)) (dI 50 a x5 H fun q=>
aS 3 q H fun r=>
dI 50 a r H fun s=>
aS 3 s H fun t=>
dI 50 a x5 H fun u=>
aS 3 u H fun v=>
bc .neq 3 false false t v fun w=>bh w (kr (St.mk [(0,a),(1,b),(4,bA false),(5,x5)] H)) (bc .add 3 false true x5 (iA 1) fun g=>
jh L H fun x=>bif bif Nat.beq (List.length H) L then true else aF L [(5,g),(0,a),(1,b),(4,c)] [0,1,4,5] then aA (cx C) call rg n 18 lo 0 L kx kg kr kp m (St.mk [(0,a),(1,b),(4,c),(5,g)] x) else none))) (kx 0 (St.mk [(0,a),(1,b),(4,c),(5,x5)] H)):=r8
theorem GH (b c d a x7 x8 x9 wv DF DG:A):aA (cx C) call rg n 19 lo 0 L kx kg kr kp (m+1) (St.mk [(1,b),(2,c),(3,d),(6,a),(7,x7),(8,x8),(9,x9),(33,wv),(34,DF),(35,DG)] H) =
bc .lss 3 false false DG DF fun g=>bh g (dI 50 wv DG H fun h=>
aS 3 h H fun t2=>
bc .add 3 false true x9 (iA 1) fun i=>
bc .sub 3 false true x8 (iA 1) fun j=>
(C 30 [snap H t2,snap H i,snap H j]).bind fun k=>
(kb prog UnOp.not k).bind fun l=>bh l (aS 28 a H fun e=>
cW 28 a (cK a H e) H lo fun f=>kr (St.mk [(1,b),(2,c),(3,d),(6,a),(7,iA 1),(8,x8),(9,x9),(33,wv),(34,DF),(35,DG)] f)) (bc .add 3 false true DG (iA 1) fun e=>
jh L H fun f=>bif bif Nat.beq (List.length H) L then true else aF L [(35,e),(9,t2),(1,b),(2,c),(3,d),(6,a),(7,x7),(8,x8),(33,wv),(34,DF)] [1,2,3,6,7,8,9,33,34,35] then aA (cx C) call rg n 19 lo 0 L kx kg kr kp m (St.mk [(1,b),(2,c),(3,d),(6,a),(7,x7),(8,x8),(9,t2),(33,wv),(34,DF),(35,e)] f) else none)) (kx 0 (St.mk [(1,b),(2,c),(3,d),(6,a),(7,x7),(8,x8),(9,x9),(33,wv),(34,DF),(35,DG)] H)):=r8
theorem GI (d b e a x7 x8 c pT wx:A):aA (cx C) call rg n 19 lo 1 L kx kg kr kp (m+1) (St.mk [(1,d),(2,b),(3,e),(6,a),(7,x7),(8,x8),(54,c),(55,pT),(56,wx)] H) =
bc .lss 3 false false wx pT fun k=>bh k (dI 50 c wx H fun l=>
aS 3 l H fun t2=>
(C 30 [snap H t2,snap H (iA 0),snap H wx]).bind fun o=>
(kb prog UnOp.not o).bind fun p=>
(c7 p (some [bA true,ud,ud,ud,ud,ud,ud]) (dI 50 b t2 H fun h=>
aS 3 h H fun i=>
bc .neq 3 false false i t2 fun j=>some [j,j,t2,i,h,t2,b])).bind fun q=>fw q fun r u v w s=>gj s fun x y t=>bO t fun z a0=>bh r (aS 28 a H fun f=>
cW 28 a (cK a H f) H lo fun g=>kr (St.mk [(1,d),(2,b),(3,e),(6,a),(7,iA 1),(8,x8),(54,c),(55,pT),(56,wx)] g)) (bc .add 3 false true wx (iA 1) fun f=>
jh L H fun g=>bif bif Nat.beq (List.length H) L then true else aF L [(56,f),(1,d),(2,b),(3,e),(6,a),(7,x7),(8,x8),(54,c),(55,pT)] [1,2,3,6,7,8,54,55,56] then aA (cx C) call rg n 19 lo 1 L kx kg kr kp m (St.mk [(1,d),(2,b),(3,e),(6,a),(7,x7),(8,x8),(54,c),(55,pT),(56,f)] g) else none)) (kx 2 (St.mk [(1,d),(2,b),(3,e),(6,a),(7,x7),(8,x8),(54,c),(55,pT),(56,wx)] H)):=r8
theorem GJ (g d h j x7 c e oh yL i b:A):aA (cx C) call rg n 19 lo 2 L kx kg kr kp (m+1) (St.mk [(1,g),(2,d),(3,h),(6,j),(7,x7),(14,c),(15,e),(16,oh),(83,yL),(84,i),(85,b)] H) =
bc .lss 3 false false b i fun t0=>bh t0 (dI 26 yL b H fun t1=>
aS 55 t1 H fun t2=>
fV 55 H fun k=>
cW 55 k.1 (cK k.1 k.2 t2) k.2 lo fun a=>
fl 55 k.1 0 53 a fun t6=>
dU 53 t6 a fun t7=>
bc .gtr 3 false true t7 (iA 0) fun t8=>
(c7 t8 (cH 55 k.1 0 a fun t9=>
aS 53 t9 a fun a5=>
dI 53 a5 (iA 0) a fun a6=>
cH 30 a6 2 a fun a7=>
aS 3 a7 a fun a8=>
cH 28 h 2 a fun a9=>
aS 3 a9 a fun aa=>
bc .eql 3 false false a8 aa fun ab=>some [ab,ab,aa,a9,a8,a7,a6,a5,t9]) (some [bA false,ud,ud,ud,ud,ud,ud,ud,ud])).bind fun l9=>xx l9 fun ad bo bp bq br bs bt bu az=>bO az fun bv bw=>
uy ad true (some [b,g]) (some [ud,ud]) fun b0=>gj b0 fun b1 b2 bx=>
(c7 ad ((C 48 [snap a b2,snap a b1]).bind fun ae=>
(kb prog UnOp.not ae).bind fun af=>some [af,af,ae]) (some [bA false,ud,ud])).bind fun b3=>gj b3 fun b4 bz b5=>bO b5 fun c0 c1=>bh b4 (fl 55 k.1 0 53 a fun z=>
dI 53 z (iA 0) a fun r=>
fl 30 r 3 3 a fun a0=>
dI 50 c b a fun q=>
cW 3 q (cK q a a0) a lo fun f=>
dI 50 d b f fun s=>
aS 3 s f fun b6=>
(ee prog 97 e b6 true f).bind fun ag=>
fb ag 0 fun ah=>
fb ag 1 fun b7=>
(c7 b7 (dI 50 c b f fun ai=>
aS 3 ai f fun l=>
bc .neq 3 false false ah l fun o=>some [o,o,l,ai,b,c,ah]) (some [bA false,ud,ud,ud,ud,ud,ud])).bind fun aj=>fw aj fun b8 c2 c3 c4 b9=>gj b9 fun c5 c6 ba=>bO ba fun c8 c9=>bh b8 (dI 50 d b f fun p=>
aS 3 p f fun a1=>
(gG prog 97 e a1 (iA 0) f lo).bind fun ak=>
(aI prog 50 1 [(0,cQ ak b)]).bind fun a2=>
(bV prog 50 50 false oh a2 ak lo).bind fun t=>
bc .add 3 false true b (iA 1) fun u=>
jh L t.2 fun bb=>bif bif Nat.beq (List.length t.2) L then true else aF L [(85,u),(16,t.1),(1,g),(2,d),(3,h),(6,j),(7,x7),(14,c),(15,e),(83,yL),(84,i)] [1,2,3,6,7,14,15,16,83,84,85] then aA (cx C) call rg n 19 lo 2 L kx kg kr kp m (St.mk [(1,g),(2,d),(3,h),(6,j),(7,x7),(14,c),(15,e),(16,t.1),(83,yL),(84,i),(85,u)] bb) else none) (dI 50 d b f fun p=>
aS 3 p f fun a1=>
dI 50 c b f fun bd=>
aS 3 bd f fun a2=>
(gG prog 97 e a1 a2 f lo).bind fun al=>
(aI prog 50 1 [(0,cQ al b)]).bind fun u=>
(bV prog 50 50 false oh u al lo).bind fun v=>
bc .add 3 false true b (iA 1) fun am=>
jh L v.2 fun be=>bif bif Nat.beq (List.length v.2) L then true else aF L [(85,am),(16,v.1),(1,g),(2,d),(3,h),(6,j),(7,x7),(14,c),(15,e),(83,yL),(84,i)] [1,2,3,6,7,14,15,16,83,84,85] then aA (cx C) call rg n 19 lo 2 L kx kg kr kp m (St.mk [(1,g),(2,d),(3,h),(6,j),(7,x7),(14,c),(15,e),(16,v.1),(83,yL),(84,i),(85,am)] be) else none)) (dI 50 d b a fun bf=>
aS 3 bf a fun z=>
(ee prog 97 e z true a).bind fun r=>
fb r 0 fun an=>
fb r 1 fun a0=>
(c7 a0 (dI 50 c b a fun q=>
aS 3 q a fun ao=>
bc .neq 3 false false an ao fun s=>some [s,s,ao,q,b,c,an]) (some [bA false,ud,ud,ud,ud,ud,ud])).bind fun bg=>fw bg fun bi ca cb cc bj=>gj bj fun cd ce bk=>bO bk fun cf aj=>bh bi (dI 50 d b a fun l=>
aS 3 l a fun o=>
(gG prog 97 e o (iA 0) a lo).bind fun ap=>
(aI prog 50 1 [(0,cQ ap b)]).bind fun a3=>
(bV prog 50 50 false oh a3 ap lo).bind fun w=>
bc .add 3 false true b (iA 1) fun x=>
jh L w.2 fun bl=>bif bif Nat.beq (List.length w.2) L then true else aF L [(85,x),(16,w.1),(1,g),(2,d),(3,h),(6,j),(7,x7),(14,c),(15,e),(83,yL),(84,i)] [1,2,3,6,7,14,15,16,83,84,85] then aA (cx C) call rg n 19 lo 2 L kx kg kr kp m (St.mk [(1,g),(2,d),(3,h),(6,j),(7,x7),(14,c),(15,e),(16,w.1),(83,yL),(84,i),(85,x)] bl) else none) (dI 50 d b a fun l=>
aS 3 l a fun o=>
dI 50 c b a fun bm=>
aS 3 bm a fun a3=>
(gG prog 97 e o a3 a lo).bind fun aq=>
(aI prog 50 1 [(0,cQ aq b)]).bind fun x=>
(bV prog 50 50 false oh x aq lo).bind fun y=>
bc .add 3 false true b (iA 1) fun p=>
jh L y.2 fun bn=>bif bif Nat.beq (List.length y.2) L then true else aF L [(85,p),(16,y.1),(1,g),(2,d),(3,h),(6,j),(7,x7),(14,c),(15,e),(83,yL),(84,i)] [1,2,3,6,7,14,15,16,83,84,85] then aA (cx C) call rg n 19 lo 2 L kx kg kr kp m (St.mk [(1,g),(2,d),(3,h),(6,j),(7,x7),(14,c),(15,e),(16,y.1),(83,yL),(84,i),(85,p)] bn) else none))) (kx 4 (St.mk [(1,g),(2,d),(3,h),(6,j),(7,x7),(14,c),(15,e),(16,oh),(83,yL),(84,i),(85,b)] H)):=r8
theorem GK (e h b x7 f g oh i j c:A):aA (cx C) call rg n 19 lo 3 L kx kg kr kp (m+1) (St.mk [(2,e),(3,h),(6,b),(7,x7),(14,f),(15,g),(16,oh),(162,i),(163,j),(164,c)] H) =
bc .lss 3 false false c j fun t0=>bh t0 (dI 26 i c H fun t1=>
aS 55 t1 H fun t2=>
fV 55 H fun d=>
cW 55 d.1 (cK d.1 d.2 t2) d.2 lo fun a=>
fl 55 d.1 0 53 a fun k=>
dU 53 k a fun t7=>
bc .gtr 3 false true t7 (iA 0) fun y=>
uy y true (dI 53 k (iA 0) a fun z=>
cH 30 z 2 a fun a0=>
aS 3 a0 a fun ad=>
cH 28 h 2 a fun a1=>
aS 3 a1 a fun ae=>some [ae,a1,ad,a0,z,k]) (some [ud,ud,ud,ud,ud,ud]) fun l9=>fw l9 fun ag aw ah ax ai=>gj ai fun ay az b0=>
(c7 y (bc .eql 3 false false ah ag fun a2=>some [a2,a2]) (some [bA false,ud])).bind fun aj=>gj aj fun ak b1 b2=>bh ak ((ef prog 53 k (some (iA 1)) none none a).bind fun al=>
fl 28 b 1 26 a fun am=>
fl 55 d.1 1 50 a fun p=>
dI 50 f c a fun q=>
aS 3 q a fun r=>
(C 49 [snap a p,snap a r]).bind fun an=>
fl 55 d.1 2 50 a fun s=>
dI 50 e c a fun t=>
aS 3 t a fun u=>
(ee prog 97 g u false a).bind fun v=>
(C 49 [snap a s,snap a v]).bind fun w=>
mI 55 [(0,al),(1,an),(2,w)] fun x=>
(aI prog 26 1 [(0,cQ a x)]).bind fun ao=>
(bV prog 26 26 false am ao a lo).bind fun l=>
cH 28 b 1 l.2 fun a3=>
cW 26 a3 (cK a3 l.2 l.1) l.2 lo fun a4=>
bc .add 3 false true c (iA 1) fun a5=>
jh L a4 fun ap=>bif bif Nat.beq (List.length a4) L then true else aF L [(164,a5),(2,e),(3,h),(6,b),(7,x7),(14,f),(15,g),(16,oh),(162,i),(163,j)] [2,3,6,7,14,15,16,162,163,164] then aA (cx C) call rg n 19 lo 3 L kx kg kr kp m (St.mk [(2,e),(3,h),(6,b),(7,x7),(14,f),(15,g),(16,oh),(162,i),(163,j),(164,a5)] ap) else none) (fl 28 b 1 26 a fun aq=>
fl 55 d.1 1 50 a fun ar=>
dI 50 f c a fun p=>
aS 3 p a fun q=>
(C 49 [snap a ar,snap a q]).bind fun r=>
fl 55 d.1 2 50 a fun au=>
dI 50 e c a fun s=>
aS 3 s a fun t=>
(ee prog 97 g t false a).bind fun u=>
(C 49 [snap a au,snap a u]).bind fun v=>
mI 55 [(0,k),(1,r),(2,v)] fun w=>
(aI prog 26 1 [(0,cQ a w)]).bind fun x=>
(bV prog 26 26 false aq x a lo).bind fun o=>
cH 28 b 1 o.2 fun a6=>
cW 26 a6 (cK a6 o.2 o.1) o.2 lo fun a7=>
bc .add 3 false true c (iA 1) fun a8=>
jh L a7 fun av=>bif bif Nat.beq (List.length a7) L then true else aF L [(164,a8),(2,e),(3,h),(6,b),(7,x7),(14,f),(15,g),(16,oh),(162,i),(163,j)] [2,3,6,7,14,15,16,162,163,164] then aA (cx C) call rg n 19 lo 3 L kx kg kr kp m (St.mk [(2,e),(3,h),(6,b),(7,x7),(14,f),(15,g),(16,oh),(162,i),(163,j),(164,a8)] av) else none)) (kx 6 (St.mk [(2,e),(3,h),(6,b),(7,x7),(14,f),(15,g),(16,oh),(162,i),(163,j),(164,c)] H)):=r8
theorem GL (b c g x5:A):aA (cx C) call rg n 22 lo 0 L kx kg kr kp (m+1) (St.mk [(0,b),(1,c),(4,g),(5,x5)] H) =
dU 26 b H fun z=>
bc .lss 3 false false x5 z fun t1=>bh t1 (dI 26 b x5 H fun t2=>
fl 55 t2 0 53 H fun t4=>
dU 53 t4 H fun t5=>
dI 26 c x5 H fun t6=>
fl 55 t6 0 53 H fun t8=>
dU 53 t8 H fun t9=>
bc .neq 3 false false t5 t9 fun a6=>
(c7 a6 (some [bA true,ud,ud,ud,ud,ud,ud,ud,ud,ud,ud,ud,ud]) (dI 26 b x5 H fun i=>
cH 55 i 1 H fun j=>
aS 50 j H fun k=>
dI 26 c x5 H fun l=>
cH 55 l 1 H fun o=>
aS 50 o H fun p=>
(C 55 [snap H k,snap H p]).bind fun q=>
(kb prog UnOp.not q).bind fun r=>some [r,r,q,p,o,l,x5,c,k,j,i,x5,b])).bind fun a7=>xx a7 fun s ak al am an ao ap aq a8=>fw a8 fun ar au av aw a9=>bO a9 fun ax ay=>
uy s false (dI 26 b x5 H fun t=>
cH 55 t 2 H fun u=>
aS 50 u H fun aa=>
dI 26 c x5 H fun v=>
cH 55 v 2 H fun w=>
aS 50 w H fun ab=>some [ab,w,v,x5,c,aa,u,t,x5,b]) (some [ud,ud,ud,ud,ud,ud,ud,ud,ud,ud]) fun ad=>xx ad fun ae az b0 b1 b2 af b3 b4 ag=>gj ag fun b5 b6 b7=>
(c7 s (some [bA true,ud,ud]) ((C 55 [snap H af,snap H ae]).bind fun x=>
(kb prog UnOp.not x).bind fun y=>some [y,y,x])).bind fun ah=>gj ah fun ai b8 aj=>bO aj fun b9 ba=>bh ai (kr (St.mk [(0,b),(1,c),(4,bA false),(5,x5)] H)) (aA (cx C) call rg n 22 lo 1 (List.length H) (fun d a=>bif Nat.beq d 2 then
bc .add 3 false true (lk a 5) (iA 1) fun e=>
jh L (St.H a) fun h=>bif bif Nat.beq (List.length (St.H a)) L then true else aF L ((5,e) :: (17,e) :: (16,lk a 5) :: St.fr a) [0,1,4,5] then aA (cx C) call rg n 22 lo 0 L kx kg kr kp m (St.mk [(0,lk a 0),(1,lk a 1),(4,lk a 4),(5,e)] h) else none else bif Nat.beq d 1 then
bc .add 3 false true (lk a 5) (iA 1) fun e=>
jh L (St.H a) fun h=>bif bif Nat.beq (List.length (St.H a)) L then true else aF L ((5,e) :: (17,e) :: (16,lk a 5) :: St.fr a) [0,1,4,5] then aA (cx C) call rg n 22 lo 0 L kx kg kr kp m (St.mk [(0,lk a 0),(1,lk a 1),(4,lk a 4),(5,e)] h) else none else kx d (St.mk [(0,lk a 0),(1,lk a 1),(4,lk a 4),(5,lk a 5)] (St.H a))) (fun d a=>kg d (St.mk [(0,lk a 0),(1,lk a 1),(4,lk a 4),(5,lk a 5)] (St.H a))) (fun f=>kr (St.mk [(0,lk f 0),(1,lk f 1),(4,lk f 4),(5,lk f 5)] (St.H f))) (fun d a=>kp d (St.mk [(0,lk a 0),(1,lk a 1),(4,lk a 4),(5,lk a 5)] (St.H a))) n (St.mk [(0,b),(1,c),(4,g),(5,x5),(6,iA 0)] H))) (kx 0 (St.mk [(0,b),(1,c),(4,g),(5,x5)] H)):=r8
theorem GM (a c d x5 b:A):aA (cx C) call rg n 22 lo 1 L kx kg kr kp (m+1) (St.mk [(0,a),(1,c),(4,d),(5,x5),(6,b)] H) =
dI 26 a x5 H fun f=>
fl 55 f 0 53 H fun t2=>
dU 53 t2 H fun g=>
bc .lss 3 false false b g fun h=>bh h (dI 26 a x5 H fun i=>
fl 55 i 0 53 H fun j=>
dI 53 j b H fun k=>
aS 30 k H fun l=>
dI 26 c x5 H fun o=>
fl 55 o 0 53 H fun p=>
dI 53 p b H fun q=>
aS 30 q H fun r=>
bc .neq 30 false false l r fun s=>bh s (kr (St.mk [(0,a),(1,c),(4,bA false),(5,x5),(6,b)] H)) (bc .add 3 false true b (iA 1) fun e=>
jh L H fun t=>bif bif Nat.beq (List.length H) L then true else aF L [(6,e),(0,a),(1,c),(4,d),(5,x5)] [0,1,4,5,6] then aA (cx C) call rg n 22 lo 1 L kx kg kr kp m (St.mk [(0,a),(1,c),(4,d),(5,x5),(6,e)] t) else none)) (kx 2 (St.mk [(0,a),(1,c),(4,d),(5,x5),(6,b)] H)):=r8
theorem Ea (c a x9 b gm:A):aA (cx C) call rg n 26 lo 0 L kx kg kr kp (m+1) (St.mk [(2,c),(3,a),(9,x9),(10,b),(11,gm)] H) =
bc .lss 3 false false gm b fun h=>bh h (dI 108 x9 gm H fun i=>
aS 110 i H fun t2=>
fl 107 a 3 105 H fun j=>
qP t2 H fun k=>
aS 3 k H fun l=>
mI 107 [(0,iA 1),(1,l)] fun o=>
(aI prog 105 1 [(0,cQ H o)]).bind fun p=>
(bV prog 105 105 false j p H lo).bind fun d=>
cH 107 a 3 d.2 fun e=>
cW 105 e (cK e d.2 d.1) d.2 lo fun f=>
bc .add 3 false true gm (iA 1) fun g=>
jh L f fun q=>bif bif Nat.beq (List.length f) L then true else aF L [(11,g),(2,c),(3,a),(9,x9),(10,b)] [2,3,9,10,11] then aA (cx C) call rg n 26 lo 0 L kx kg kr kp m (St.mk [(2,c),(3,a),(9,x9),(10,b),(11,g)] q) else none) (kx 0 (St.mk [(2,c),(3,a),(9,x9),(10,b),(11,gm)] H)):=r8
theorem GN (c e d oh a:A):aA (cx C) call rg n 33 lo 0 L kx kg kr kp (m+1) (St.mk [(1,c),(2,e),(15,d),(16,oh),(17,a)] H) =
bc .lss 3 false false a oh fun t0=>bh t0 (dI 23 d a H fun t1=>
aS 115 t1 H fun t2=>
(jd prog 115 H).bind fun g=>
cW 115 g.1 (cK g.1 g.2 t2) g.2 lo fun b=>
aS 115 g.1 b fun t5=>
(C 64 [snap b t5]).bind fun t6=>
(kb prog UnOp.not t6).bind fun j=>
uy j false (bc .gtr 3 false true a (iA 0) fun k=>
uy k true (cH 25 c 1 b fun r=>
aS 23 r b fun s=>
bc .sub 3 false true a (iA 1) fun t=>
dI 23 s t b fun u=>
(ef prog 115 u none none none b).bind fun a9=>
(ef prog 115 g.1 none none none b).bind fun aa=>some [aa,a9,u,t,a,s,r]) (some [ud,ud,ud,ud,ud,ud,ud]) fun l9=>fw l9 fun l v w x ad=>gj ad fun y z ae=>bO ae fun f a0=>some [l,v,w,x,y,z,f,k,k,a]) (some [ud,ud,ud,ud,ud,ud,ud,ud,ud,ud]) fun l8=>xx l8 fun u9 l v w x y z f a0=>gj a0 fun an ao ap=>nT f true ((call 65 [l,u9] b lo).bind fun h=>dX h.1 (fun o=>
uy f true (bc .geq 3 false true o (iA 0) fun i=>some [i]) (some [ud]) fun p=>bO p fun q aq=>
(c7 j (some [bA true,ud]) ((c7 f (some q) (some (bA false))).bind fun a1=>some [a1,a1])).bind fun a2=>gj a2 fun ah ar au=>bh ah (kr (St.mk [(1,c),(2,iA 60),(15,d),(16,oh),(17,a)] h.2)) (bc .add 3 false true a (iA 1) fun a3=>
jh L h.2 fun ai=>bif bif Nat.beq (List.length h.2) L then true else aF L [(17,a3),(1,c),(2,e),(15,d),(16,oh)] [1,2,15,16,17] then aA (cx C) call rg n 33 lo 0 L kx kg kr kp m (St.mk [(1,c),(2,e),(15,d),(16,oh),(17,a3)] ai) else none)) fun o=>kp o (St.mk [(1,c),(2,e),(15,d),(16,oh),(17,a)] h.2)) (uy f true (bc .geq 3 false true (ud) (iA 0) fun aj=>some [aj]) (some [ud]) fun ak=>bO ak fun al av=>
(c7 j (some [bA true,ud]) ((c7 f (some al) (some (bA false))).bind fun i=>some [i,i])).bind fun p=>gj p fun q aw a2=>bh q (kr (St.mk [(1,c),(2,iA 60),(15,d),(16,oh),(17,a)] b)) (bc .add 3 false true a (iA 1) fun a4=>
jh L b fun am=>bif bif Nat.beq (List.length b) L then true else aF L [(17,a4),(1,c),(2,e),(15,d),(16,oh)] [1,2,15,16,17] then aA (cx C) call rg n 33 lo 0 L kx kg kr kp m (St.mk [(1,c),(2,e),(15,d),(16,oh),(17,a4)] am) else none))) (kx 0 (St.mk [(1,c),(2,e),(15,d),(16,oh),(17,a)] H)):=r8
theorem GO (e f g b x8 c d a:A):aA (cx C) call rg n 34 lo 0 L kx kg kr kp (m+1) (St.mk [(1,e),(2,f),(3,g),(4,b),(8,x8),(27,c),(28,d),(29,a)] H) =
bc .lss 3 false false a d fun t0=>bh t0 (dI 50 c a H fun t1=>
aS 3 t1 H fun t2=>
(C 30 [snap H t2,snap H (iA 0),snap H (iA 8)]).bind fun t3=>
(kb prog UnOp.not t3).bind fun t4=>
(c7 t4 (some [bA true,ud,ud,ud,ud,ud,ud,ud,ud,ud,ud,ud,ud,ud,ud,ud]) (cH 55 b 2 H fun j=>
aS 50 j H fun k=>
dI 50 k a H fun l=>
aS 3 l H fun o=>
bc .neq 3 false false o t2 fun h=>
(c7 h (cH 55 b 2 H fun p=>
aS 50 p H fun q=>
dI 50 q a H fun r=>
aS 3 r H fun s=>
bc .neq 3 false true s (iA 0) fun t=>some [t,t,s,r,a,q,p]) (some [bA false,ud,ud,ud,ud,ud,ud])).bind fun a5=>fw a5 fun i u v w a6=>gj a6 fun x y a7=>bO a7 fun z ad=>some [i,i,u,v,w,x,y,z,h,h,t2,o,l,a,k,j])).bind fun l5=>xx l5 fun u6 u7 u8 u9 ah i u v aa=>xx aa fun w x y z ai aj ak al am=>bh u6 (kr (St.mk [(1,e),(2,f),(3,g),(4,b),(8,bA false),(27,c),(28,d),(29,a)] H)) (bc .add 3 false true a (iA 1) fun a0=>
jh L H fun ab=>bif bif Nat.beq (List.length H) L then true else aF L [(29,a0),(1,e),(2,f),(3,g),(4,b),(8,x8),(27,c),(28,d)] [1,2,3,4,8,27,28,29] then aA (cx C) call rg n 34 lo 0 L kx kg kr kp m (St.mk [(1,e),(2,f),(3,g),(4,b),(8,x8),(27,c),(28,d),(29,a0)] ab) else none)) (kx 0 (St.mk [(1,e),(2,f),(3,g),(4,b),(8,x8),(27,c),(28,d),(29,a)] H)):=r8
theorem GP (c d x8 gm e DH f:A):aA (cx C) call rg n 34 lo 1 L kx kg kr kp (m+1) (St.mk [(1,c),(2,d),(8,x8),(11,gm),(57,e),(58,DH),(59,f)] H) =
bc .lss 3 false false f DH fun q=>bh q (dI 53 e f H fun r=>
aS 30 r H fun t2=>
fV 30 H fun b=>
cW 30 b.1 (cK b.1 b.2 t2) b.2 lo fun a=>
aS 30 b.1 a fun s=>
(C 24 [snap a s,snap a d]).bind fun t=>
(kb prog UnOp.not t).bind fun u=>
(c7 u (some [bA true,ud,ud,ud,ud]) (cH 30 b.1 1 a fun g=>
aS 3 g a fun h=>
bc .neq 3 false false h c fun i=>some [i,i,c,h,g])).bind fun v=>fw v fun w a3 a4 a5 x=>bO x fun a6 a7=>
(c7 w (some [bA true,ud,ud,ud,ud]) (cH 30 b.1 2 a fun j=>
aS 3 j a fun k=>
bc .lss 3 false false k gm fun l=>some [l,l,gm,k,j])).bind fun y=>fw y fun z a8 a9 aa a0=>bO a0 fun ab ad=>bh z (kr (St.mk [(1,c),(2,d),(8,bA false),(11,gm),(57,e),(58,DH),(59,f)] a)) (fl 30 b.1 2 3 a fun a1=>
bc .add 3 false true a1 (iA 1) fun o=>
bc .add 3 false true f (iA 1) fun p=>
jh L a fun a2=>bif bif Nat.beq (List.length a) L then true else aF L [(59,p),(11,o),(1,c),(2,d),(8,x8),(57,e),(58,DH)] [1,2,8,11,57,58,59] then aA (cx C) call rg n 34 lo 1 L kx kg kr kp m (St.mk [(1,c),(2,d),(8,x8),(11,o),(57,e),(58,DH),(59,p)] a2) else none)) (kx 2 (St.mk [(1,c),(2,d),(8,x8),(11,gm),(57,e),(58,DH),(59,f)] H)):=r8
theorem Eb (b g c d e pT:A):aA (cx C) call rg n 35 lo 0 L kx kg kr kp (m+1) (St.mk [(2,b),(3,g),(6,c),(53,d),(54,e),(55,pT)] H) =
bc .lss 3 false false pT e fun l=>bh l (dI 105 d pT H fun o=>
aS 107 o H fun t2=>
fV 107 H fun f=>
cW 107 f.1 (cK f.1 f.2 t2) f.2 lo fun a=>
fl 107 f.1 0 3 a fun p=>
bc .neq 3 false true p (iA 1) fun q=>bh q (aS 75 b a fun h=>
cW 75 b (cK b a h) a lo fun r=>kr (St.mk [(2,b),(3,bA false),(6,c),(53,d),(54,e),(55,pT)] r)) (dI 108 c pT a fun h=>
aS 110 h a fun s=>
fl 107 f.1 1 3 a fun t=>
qP s a fun i=>
cW 3 i (cK i a t) a lo fun j=>
bc .add 3 false true pT (iA 1) fun k=>
jh L j fun u=>bif bif Nat.beq (List.length j) L then true else aF L [(55,k),(2,b),(3,g),(6,c),(53,d),(54,e)] [2,3,6,53,54,55] then aA (cx C) call rg n 35 lo 0 L kx kg kr kp m (St.mk [(2,b),(3,g),(6,c),(53,d),(54,e),(55,k)] u) else none)) (kx 0 (St.mk [(2,b),(3,g),(6,c),(53,d),(54,e),(55,pT)] H)):=r8
theorem GQ (a b c x5:A):aA (cx C) call rg n 55 lo 0 L kx kg kr kp (m+1) (St.mk [(0,a),(1,b),(4,c),(5,x5)] H) =
dU 50 a H fun e=>
bc .lss 3 false false x5 e fun f=>bh f (dI 50 a x5 H fun t2=>
aS 3 t2 H fun g=>
dI 50 b x5 H fun h=>
aS 3 h H fun i=>
bc .neq 3 false false g i fun j=>bh j (kr (St.mk [(0,a),(1,b),(4,bA false),(5,x5)] H)) (bc .add 3 false true x5 (iA 1) fun d=>
jh L H fun k=>bif bif Nat.beq (List.length H) L then true else aF L [(5,d),(0,a),(1,b),(4,c)] [0,1,4,5] then aA (cx C) call rg n 55 lo 0 L kx kg kr kp m (St.mk [(0,a),(1,b),(4,c),(5,d)] k) else none)) (kx 0 (St.mk [(0,a),(1,b),(4,c),(5,x5)] H)):=r8
theorem GR (c a d x9 b gm:A):aA (cx C) call rg n 65 lo 0 L kx kg kr kp (m+1) (St.mk [(0,c),(1,a),(4,d),(9,x9),(10,b),(11,gm)] H) =
bc .lss 3 false false gm b fun h=>bh h (dI 50 x9 gm H fun i=>
aS 3 i H fun t2=>
dU 50 a H fun j=>
bc .geq 3 false false gm j fun k=>bh k (kr (St.mk [(0,c),(1,a),(4,iA 1),(9,x9),(10,b),(11,gm)] H)) (dI 50 a gm H fun l=>
aS 3 l H fun o=>
(call 89 [t2,o] H lo).bind fun e=>dX e.1 (fun f=>
bc .neq 3 false true f (iA 0) fun p=>bh p (kr (St.mk [(0,c),(1,a),(4,f),(9,x9),(10,b),(11,gm)] e.2)) (bc .add 3 false true gm (iA 1) fun g=>
jh L e.2 fun q=>bif bif Nat.beq (List.length e.2) L then true else aF L [(11,g),(0,c),(1,a),(4,d),(9,x9),(10,b)] [0,1,4,9,10,11] then aA (cx C) call rg n 65 lo 0 L kx kg kr kp m (St.mk [(0,c),(1,a),(4,d),(9,x9),(10,b),(11,g)] q) else none)) fun f=>kp f (St.mk [(0,c),(1,a),(4,d),(9,x9),(10,b),(11,gm)] e.2))) (kx 0 (St.mk [(0,c),(1,a),(4,d),(9,x9),(10,b),(11,gm)] H)):=r8
theorem GS (a b c x7 x8:A):aA (cx C) call rg n 77 lo 0 L kx kg kr kp (m+1) (St.mk [(0,a),(1,b),(4,c),(7,x7),(8,x8)] H) =
bc .lss 3 false false x8 x7 fun e=>bh e (dI 50 a x8 H fun f=>
aS 3 f H fun t2=>
bc .eql 3 false false b t2 fun g=>bh g (kr (St.mk [(0,a),(1,b),(4,x8),(7,x7),(8,x8)] H)) (bc .add 3 false true x8 (iA 1) fun d=>
jh L H fun h=>bif bif Nat.beq (List.length H) L then true else aF L [(8,d),(0,a),(1,b),(4,c),(7,x7)] [0,1,4,7,8] then aA (cx C) call rg n 77 lo 0 L kx kg kr kp m (St.mk [(0,a),(1,b),(4,c),(7,x7),(8,d)] h) else none)) (kx 0 (St.mk [(0,a),(1,b),(4,c),(7,x7),(8,x8)] H)):=r8
theorem GU (h f i g gm e:A):aA (cx C) call rg n 78 lo 0 L kx kg kr kp (m+1) (St.mk [(0,h),(2,f),(3,i),(10,g),(11,gm),(12,e)] H) =
bc .lss 3 false false e gm fun l=>bh l (dI 50 g e H fun o=>
aS 3 o H fun t2=>
fl 28 f 1 26 H fun p=>
dI 26 p t2 H fun q=>
fl 55 q 2 50 H fun k=>
dU 50 k H fun r=>aA (cx C) call rg n 78 lo 1 (List.length H) (fun b a=>bif Nat.beq b 2 then
bc .add 3 false true (lk a 12) (iA 1) fun c=>
jh L (St.H a) fun j=>bif bif Nat.beq (List.length (St.H a)) L then true else aF L ((12,c) :: (47,c) :: St.fr a) [0,2,3,10,11,12] then aA (cx C) call rg n 78 lo 0 L kx kg kr kp m (St.mk [(0,lk a 0),(2,lk a 2),(3,lk a 3),(10,lk a 10),(11,lk a 11),(12,c)] j) else none else bif Nat.beq b 1 then
bc .add 3 false true (lk a 12) (iA 1) fun c=>
jh L (St.H a) fun j=>bif bif Nat.beq (List.length (St.H a)) L then true else aF L ((12,c) :: (47,c) :: St.fr a) [0,2,3,10,11,12] then aA (cx C) call rg n 78 lo 0 L kx kg kr kp m (St.mk [(0,lk a 0),(2,lk a 2),(3,lk a 3),(10,lk a 10),(11,lk a 11),(12,c)] j) else none else kx b (St.mk [(0,lk a 0),(2,lk a 2),(3,lk a 3),(10,lk a 10),(11,lk a 11),(12,lk a 12)] (St.H a))) (fun b a=>kg b (St.mk [(0,lk a 0),(2,lk a 2),(3,lk a 3),(10,lk a 10),(11,lk a 11),(12,lk a 12)] (St.H a))) (fun d=>kr (St.mk [(0,lk d 0),(2,lk d 2),(3,lk d 3),(10,lk d 10),(11,lk d 11),(12,lk d 12)] (St.H d))) (fun b a=>kp b (St.mk [(0,lk a 0),(2,lk a 2),(3,lk a 3),(10,lk a 10),(11,lk a 11),(12,lk a 12)] (St.H a))) n (St.mk [(0,h),(2,f),(3,i),(6,t2),(10,g),(11,gm),(12,e),(21,k),(22,r),(23,iA 0)] H)) (kx 0 (St.mk [(0,h),(2,f),(3,i),(10,g),(11,gm),(12,e)] H)):=r8
theorem GV (b e c a f gm g yJ zH yK:A):aA (cx C) call rg n 78 lo 1 L kx kg kr kp (m+1) (St.mk [(0,b),(2,e),(3,c),(6,a),(10,f),(11,gm),(12,g),(21,yJ),(22,zH),(23,yK)] H) =
bc .lss 3 false false yK zH fun x=>bh x (dI 50 yJ yK H fun y=>
aS 3 y H fun t2=>
mI 41 [(0,a),(1,yK),(2,t2)] fun z=>
fV 41 H fun i=>
cW 41 i.1 (cK i.1 i.2 z) i.2 lo fun h=>
aS 3 c h fun t6=>
bc .geq 3 false false yK t6 fun d=>
uy d true (some b) (some (ud)) fun t8=>
uy d true (some a) (some (ud)) fun t9=>
uy d true (bc .add 3 false true t9 (iA 1) fun k=>some k) (some (ud)) fun k=>
uy d true (aS 41 i.1 h fun l=>some l) (some (ud)) fun l=>
uy d true (mI 75 [(0,iA 2),(2,l)] fun o=>some o) (some (ud)) fun o=>
uy d true ((C 26 [snap h o]).bind fun p=>some p) (some (ud)) fun p=>
uy d true (mI 48 [(0,k),(2,p)] fun q=>some q) (some (ud)) fun q=>nT d true (cN (cx C) call t8 [q] h lo (fun r j=>
(c7 d ((kb prog UnOp.not r).bind fun s=>some [s,s]) (some [bA false,ud])).bind fun a3=>gj a3 fun t a8 a9=>bh t (kr (St.mk [(0,b),(2,e),(3,c),(6,a),(10,f),(11,gm),(12,g),(21,yJ),(22,zH),(23,yK)] j)) (bc .add 3 false true yK (iA 1) fun u=>
jh L j fun a4=>bif bif Nat.beq (List.length j) L then true else aF L [(23,u),(0,b),(2,e),(3,c),(6,a),(10,f),(11,gm),(12,g),(21,yJ),(22,zH)] [0,2,3,6,10,11,12,21,22,23] then aA (cx C) call rg n 78 lo 1 L kx kg kr kp m (St.mk [(0,b),(2,e),(3,c),(6,a),(10,f),(11,gm),(12,g),(21,yJ),(22,zH),(23,u)] a4) else none)) fun r j=>kp r (St.mk [(0,b),(2,e),(3,c),(6,a),(10,f),(11,gm),(12,g),(21,yJ),(22,zH),(23,yK)] j)) ((c7 d ((kb prog UnOp.not (ud)).bind fun v=>some [v,v]) (some [bA false,ud])).bind fun a5=>gj a5 fun a6 t aa=>bh a6 (kr (St.mk [(0,b),(2,e),(3,c),(6,a),(10,f),(11,gm),(12,g),(21,yJ),(22,zH),(23,yK)] h)) (bc .add 3 false true yK (iA 1) fun w=>
jh L h fun a7=>bif bif Nat.beq (List.length h) L then true else aF L [(23,w),(0,b),(2,e),(3,c),(6,a),(10,f),(11,gm),(12,g),(21,yJ),(22,zH)] [0,2,3,6,10,11,12,21,22,23] then aA (cx C) call rg n 78 lo 1 L kx kg kr kp m (St.mk [(0,b),(2,e),(3,c),(6,a),(10,f),(11,gm),(12,g),(21,yJ),(22,zH),(23,w)] a7) else none))) (kx 2 (St.mk [(0,b),(2,e),(3,c),(6,a),(10,f),(11,gm),(12,g),(21,yJ),(22,zH),(23,yK)] H)):=r8
theorem GW (a b c x7 x8:A):aA (cx C) call rg n 88 lo 0 L kx kg kr kp (m+1) (St.mk [(0,a),(1,b),(4,c),(7,x7),(8,x8)] H) =
bc .lss 3 false false x8 x7 fun f=>bh f (dI 22 a x8 H fun g=>
aS 48 g H fun t2=>cN (cx C) call b [t2] H lo (fun d h3=>bh d (kr (St.mk [(0,a),(1,b),(4,x8),(7,x7),(8,x8)] h3)) (bc .add 3 false true x8 (iA 1) fun e=>
jh L h3 fun h=>bif bif Nat.beq (List.length h3) L then true else aF L [(8,e),(0,a),(1,b),(4,c),(7,x7)] [0,1,4,7,8] then aA (cx C) call rg n 88 lo 0 L kx kg kr kp m (St.mk [(0,a),(1,b),(4,c),(7,x7),(8,e)] h) else none)) fun d h3=>kp d (St.mk [(0,a),(1,b),(4,c),(7,x7),(8,x8)] h3)) (kx 0 (St.mk [(0,a),(1,b),(4,c),(7,x7),(8,x8)] H)):=r8
theorem GX (b c a d e:A):aA (cx C) call rg n 91 lo 0 L kx kg kr kp (m+1) (St.mk [(0,b),(1,c),(4,a),(36,d),(37,e)] H) =
bc .lss 3 false false e d fun o=>bh o (cH 107 a 3 H fun i=>
aS 105 i H fun t2=>
bc .add 3 false true c (iA 1) fun p=>bif bif jl 3 i then bif jl 3 a then true else false else false then
(call 91 [b,p] H lo).bind fun f=>dX f.1 (fun h=>
(aI prog 105 1 [(0,cQ f.2 h)]).bind fun q=>
(bV prog 105 105 false t2 q f.2 lo).bind fun g=>
cH 107 a 3 g.2 fun j=>
cW 105 j (cK j g.2 g.1) g.2 lo fun k=>
bc .add 3 false true e (iA 1) fun l=>
jh L k fun r=>bif bif Nat.beq (List.length k) L then true else aF L [(37,l),(0,b),(1,c),(4,a),(36,d)] [0,1,4,36,37] then aA (cx C) call rg n 91 lo 0 L kx kg kr kp m (St.mk [(0,b),(1,c),(4,a),(36,d),(37,l)] r) else none) fun h=>kp h (St.mk [(0,A.any),(1,A.any),(4,A.any),(36,A.any),(37,A.any)] f.2) else none) (kx 1 (St.mk [(0,b),(1,c),(4,a),(36,d),(37,e)] H)):=r8
theorem GY (e d pT wx a:A):aA (cx C) call rg n 96 lo 0 L kx kg kr kp (m+1) (St.mk [(2,e),(3,d),(55,pT),(56,wx),(57,a)] H) =
bc .lss 3 false false a wx fun i=>bh i (dI 105 pT a H fun j=>
aS 107 j H fun t2=>
fV 107 H fun b=>
cW 107 b.1 (cK b.1 b.2 t2) b.2 lo fun c=>
aS 107 b.1 c fun k=>
(C 96 [snap c k]).bind fun f=>
fb f 0 fun l=>
fb f 1 fun o=>
(kb prog UnOp.not o).bind fun p=>bh p (kr (St.mk [(2,iA 0),(3,bA false),(55,pT),(56,wx),(57,a)] c)) ((Ci false e [l]).bind fun g=>
bc .add 3 false true a (iA 1) fun h=>
jh L c fun q=>bif bif Nat.beq (List.length c) L then true else aF L [(57,h),(2,g),(3,d),(55,pT),(56,wx)] [2,3,55,56,57] then aA (cx C) call rg n 96 lo 0 L kx kg kr kp m (St.mk [(2,g),(3,d),(55,pT),(56,wx),(57,h)] q) else none)) (kx 0 (St.mk [(2,e),(3,d),(55,pT),(56,wx),(57,a)] H)):=r8
theorem ya (d a b:A):aA (cx C) call rg n 98 lo 0 L kx kg kr kp (m+1) (St.mk [(0,d),(1,a),(4,b)] H) =
bc .geq 160 false true a (A.v (.int .u64 128)) fun f=>bh f ((bH prog 160 5 a H).bind fun g=>
bc .or 5 false true g (A.v (.int .u8 128)) fun t2=>
(aI prog 46 1 [(0,cQ H t2)]).bind fun h=>
(bV prog 46 46 false d h H lo).bind fun c=>
bc .shr 160 false true a (A.v (.int .u64 7)) fun e=>
jh L c.2 fun i=>bif bif Nat.beq (List.length c.2) L then true else aF L [(1,e),(0,c.1),(4,b)] [0,1,4] then aA (cx C) call rg n 98 lo 0 L kx kg kr kp m (St.mk [(0,c.1),(1,e),(4,b)] i) else none) (kx 0 (St.mk [(0,d),(1,a),(4,b)] H)):=r8
theorem AN (e b x5 c DC DD:A):aA (cx C) call rg n 101 lo 0 L kx kg kr kp (m+1) (St.mk [(0,e),(2,b),(5,x5),(17,c),(18,DC),(19,DD)] H) =
bc .lss 3 false false DD DC fun i=>bh i (dI 105 c DD H fun j=>
aS 107 j H fun t2=>
fV 107 H fun d=>
cW 107 d.1 (cK d.1 d.2 t2) d.2 lo fun a=>
aS 142 b a fun k=>
fl 107 d.1 0 3 a fun l=>
qP k a fun o=>
dI 158 o l a fun p=>
fl 141 p 0 139 a fun q=>
aS 107 d.1 a fun r=>cN (cx C) call q [e,r] a lo (fun f g=>
bc .add 3 false true DD (iA 1) fun h=>
jh L g fun s=>bif bif Nat.beq (List.length g) L then true else aF L [(19,h),(0,f),(2,b),(5,x5),(17,c),(18,DC)] [0,2,5,17,18,19] then aA (cx C) call rg n 101 lo 0 L kx kg kr kp m (St.mk [(0,f),(2,b),(5,x5),(17,c),(18,DC),(19,h)] s) else none) fun f g=>kp f (St.mk [(0,e),(2,b),(5,x5),(17,c),(18,DC),(19,DD)] g)) (kx 0 (St.mk [(0,e),(2,b),(5,x5),(17,c),(18,DC),(19,DD)] H)):=r8
theorem E6 (b e a:A):aA (cx C) call rg n 109 lo 0 L kx kg kr kp (m+1) (St.mk [(0,b),(2,e),(3,a)] H) =
(call 107 [b,iA 1] H lo).bind fun H0=>dX H0.1 (fun f=>
dI 46 f (iA 0) H0.2 fun t2=>
aS 5 t2 H0.2 fun c=>
bc .eql 3 false true a (iA 0) fun s=>
(c7 s (some [bA true,ud,ud]) (bc .neq 5 false true c (A.v (.int .u8 0)) fun j=>some [j,j,c])).bind fun t=>gj t fun u u7 w=>bO w fun u8 l8=>
(c7 u (bc .lss 3 false true a (iA 9) fun g=>
(c7 g (some [bA true,ud,ud]) (bc .leq 5 false true c (A.v (.int .u8 1)) fun k=>some [k,k,c])).bind fun x=>gj x fun h l y=>bO y fun o p=>some [h,h,l,o,g,g,a]) (some [bA false,ud,ud,ud,ud,ud,ud])).bind fun z=>fw z fun a0 h l o p=>gj p fun ad ae a2=>bO a2 fun af ag=>
(call 92 [b,a0] H0.2 lo).bind fun d=>dX d.1 (fun q=>
bc .and 5 false true c (A.v (.int .u8 127)) fun a3=>
(bH prog 5 160 a3 d.2).bind fun a4=>
bc .mul 3 true false (iA 7) a fun a5=>
bc .shl 160 false false a4 a5 fun a6=>
bc .or 160 false false e a6 fun i=>
bc .lss 5 false true c (A.v (.int .u8 128)) fun a7=>bh a7 (kr (St.mk [(0,b),(2,i),(3,a)] d.2)) (bc .add 3 false true a (iA 1) fun r=>
jh L d.2 fun a8=>bif bif Nat.beq (List.length d.2) L then true else aF L [(3,r),(2,i),(0,b)] [0,2,3] then aA (cx C) call rg n 109 lo 0 L kx kg kr kp m (St.mk [(0,b),(2,i),(3,r)] a8) else none)) fun q=>kp q (St.mk [(0,b),(2,e),(3,a)] d.2)) fun f=>kp f (St.mk [(0,b),(2,e),(3,a)] H0.2):=r8
theorem E7 (n lo b lo':Nat) (g f x5 i:A) (H:ar):uv (cx C) call rg n 50 lo 0 b [(2,g),(4,f),(5,x5)] [i] H lo'=bif Nat.ble lo' lo then Ez H b (fV 48 H fun c=>
cW 48 c.1 (cK c.1 c.2 i) c.2 lo fun H1=>Ez H1 b (fl 28 g 0 25 (List.set H1 b (aw.rng ml.busy)) fun p=>
aS 48 c.1 (List.set H1 b (aw.rng ml.busy)) fun q=>
(C 25 [snap (List.set H1 b (aw.rng ml.busy)) p,snap (List.set H1 b (aw.rng ml.busy)) q]).bind fun j=>
fb j 0 fun r=>
fb j 1 fun k=>
fV 25 (List.set H1 b (aw.rng ml.busy)) fun d=>
cW 25 d.1 (cK d.1 d.2 r) d.2 lo fun a=>
bc .neq 33 false true k (iA 0) fun s=>bh s (aS 28 f a fun h=>
cW 28 f (cK f a h) a lo fun l=>
cW 33 x5 (cK x5 l k) l lo fun e=>B8 e b (some (Out.ret (bA false),List.set e b (aw.rng (ml.done FR.ret))))) (aS 25 d.1 a fun h=>
cH 28 g 0 a fun o=>
cW 25 o (cK o a h) a lo fun e=>B8 e b (some (Out.ret (bA true),List.set e b (aw.rng ml.ready)))))) else none:=r8
end Go.Proofs.Ytebkhfhcipnfgaa
