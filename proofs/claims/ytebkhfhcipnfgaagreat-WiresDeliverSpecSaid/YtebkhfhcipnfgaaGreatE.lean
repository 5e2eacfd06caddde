/-
 What the interpreter does with the program's functions: equations, by a tool; the kernel checks each.
-/
import Derived.Test.YtebkhfhcipnfgaaGreatIns
import Derived.Test.YtebkhfhcipnfgaaGreatRows
namespace Go.Proofs.YtebkhfhcipnfgaaGreat
open Go.Proofs.Tryz (prog)
set_option linter.unusedVariables false
set_option linter.unusedSimpArgs false
set_option maxHeartbeats 4000000
set_option maxRecDepth 100000
set_option linter.defProp false
def FA:List ((Nat×Nat)×List Nat):=[((6,5),[1,2,4]),((7,39),[2,3,6,7,14,15,16,162,163,164]),((7,27),[1,2,3,6,7,14,15,16,83,84,85]),((7,16),[1,2,3,6,7,8,54,55,56]),((7,7),[1,2,3,6,7,8,9,33,34,35]),((8,26),[3,6,7,11,16]),((8,20),[2,3,6,7,9,11,12,13,14,15]),((8,15),[2,3,6,7,9,11,12]),((8,10),[1,2,3,6,7,9,10]),((10,8),[1,2,4,5,7,8]),((20,11),[1,2,3,48,49,50]),((20,5),[1,2,3,31,32,33]),((21,9),[0,1,4,5,6]),((21,4),[0,1,4,5]),((26,1000003),[2,4,5]),((28,10),[1,2,5]),((28,4),[1,2,3]),((29,2),[0,1,4,5]),((30,4),[0,1,4,5]),((33,2),[0,1,2,6,7]),((35,9),[2,3,4,6]),((35,4),[2,3,4,5]),((37,9),[2,3,6,53,54,55]),((38,3),[0,1,2,6,7,8,9,10]),((46,2),[0,3,4,5]),((54,3),[2,3,9,10,11]),((55,4),[1,2,15,16,17]),((56,11),[1,2,8,11,57,58,59]),((56,4),[1,2,3,4,8,27,28,29]),((57,4),[0,1,4,5]),((58,2),[0,1,4,7,8]),((59,4),[0,2,3,6,10,11,12,21,22,23]),((59,1),[0,2,3,10,11,12]),((61,9),[1,2,4]),((61,4),[1,2,3]),((62,10),[1,2,4,5,7]),((62,5),[1,2,4,5,6]),((64,2),[0,1,4,5]),((77,2),[1,2,3,6,7]),((79,6),[2,3,4,6,7]),((85,2),[0,1,4,9,10,11]),((90,3),[0,2,3,4]),((91,2),[0,3,4,7,8]),((93,11),[0,1,4,36,37]),((99,2),[0,1,4,7,8]),((102,8),[1,2,3,4]),((106,3),[0,2,3]),((108,1),[0,2,3]),((109,21),[0,1,4,7,8,9]),((110,7),[2,3,55,56,57]),((112,1),[0,1,4]),((115,3),[0,2,5,17,18,19]),((117,8),[1,2,3]),((118,5),[1,2,3,4]),((122,3),[0,2,3,4])]
def L5 (f r:Nat):List Nat:=vU f r FA
def I2:List ((Nat×Nat)×List (Nat×Nat×Nat)):=[((93,11),[(4,4,5)]),((93,3000000),[(4,4,0)]),((109,21),[(8,4,5)]),((109,3000000),[(4,4,0)]),((114,2000001),[(3,0,0)]),((90,3),[(3,4,5)]),((54,3),[(3,4,5)]),((79,6),[(6,0,2)]),((7,27),[(16,0,2)]),((7,39),[(6,3,4)]),((41,3000000),[(2,0,500005)]),((42,3000000),[(2,0,500004)]),((8,10),[(9,0,2)]),((8,15),[(11,3,4)]),((8,20),[(14,1,5)]),((8,26),[(11,3,0)]),((12,2000020),[(13,0,0)])]
def Qq (f r:Nat):List (Nat×Nat×Nat):=De f r I2
def I5:List (Nat×Nat):=[(55,99),(73,134)]
def Qs (f t:Nat):Bool:=xE f t I5
def Ny:List (Nat×Nat):=[(41,7),(42,7),(13,69)]
def XB (f t:Nat):Bool:=xE f t Ny
def FD:List (Nat×Nat):=[(18,10),(59,43)]
def L6 (f t:Nat):Bool:=xE f t FD
def Fz:List ((Nat×Nat)×List Nat):=[]
def L4 (f r:Nat):List Nat:=vU f r Fz
def I9:List (Nat×Nat):=[(93,3),(109,2),(115,5),(112,1000)]
def Qx (k:Nat):Nat:=uf k I9
def Jo:List (Nat×Nat):=[(41,0),(98,0)]
def QS (k:Nat):Bool:=xE k 0 Jo
noncomputable def cx (C:Nat->List A->Option A):Cx:={ P:=prog,glob:=fun _=>none,isOrc:=fun k=>D8 k [26,40,41,42,59,73,85,92,93,94,98,100,104,106,107,109,111,112,114,115,121,122],isOrcV:=fun k=>D8 k [26,40,41,42,59,73,85,92,93,94,98,100,104,106,107,109,111,112,114,115,121,122],C:=C,keep:=L5,wrAt:=XB,acts:=Qq,loud:=L6,arr:=Qs,join:=L4,cut:=Qx,fre:=QS,deep:=fun k=>jq k [],ins:=fun k=>uf k [(40,4)],insOK:=Jq Js }
theorem L8:Nat.ble prog.funcs.size 40=false:=r7
theorem Ir:Nat.ble prog.funcs.size 41=false:=r7
theorem D4:Nat.ble prog.funcs.size 42=false:=r7
theorem It:Nat.ble prog.funcs.size 73=false:=r7
theorem L9:Nat.ble prog.funcs.size 85=false:=r7
theorem pC:Nat.ble prog.funcs.size 94=false:=r7
theorem Ma:Nat.ble prog.funcs.size 98=false:=r7
theorem D1:Nat.ble prog.funcs.size 100=false:=r7
theorem zp:Nat.ble prog.funcs.size 104=false:=r7
theorem zq:Nat.ble prog.funcs.size 106=false:=r7
theorem D2:Nat.ble prog.funcs.size 107=false:=r7
theorem zr:Nat.ble prog.funcs.size 111=false:=r7
theorem nd:Nat.ble prog.funcs.size 112=false:=r7
theorem zs:Nat.ble prog.funcs.size 114=false:=r7
theorem Jw:Nat.ble prog.funcs.size 115=false:=r7
theorem D3:Nat.ble prog.funcs.size 121=false:=r7
theorem zt:Nat.ble prog.funcs.size 122=false:=r7
variable (C:Nat->List A->Option A) (call:bo) (rg:bo->bo)
variable (n lo L:Nat) (kx kg:Nat->St->Option R) (kr:St->Option R) (kp:A->St->Option R) (m:Nat) (H:aC)
noncomputable abbrev fh {β:Type} (l:List A) (k:A->A->List A->Option β):Option β:=bl l fun a l=>bl l fun b l=>k a b l
noncomputable abbrev dH {β:Type} (l:List A) (k:A->A->A->A->List A->Option β):Option β:=fh l fun a b l=>fh l fun c d l=>k a b c d l
noncomputable abbrev pK {β:Type} (l:List A) (k:A->A->A->A->A->A->A->A->List A->Option β):Option β:=dH l fun a b c d l=>dH l fun e f g h l=>k a b c d e f g h l
noncomputable abbrev ld:=lh prog
noncomputable abbrev Tf:=fG prog
noncomputable abbrev Xz:=ji prog
noncomputable abbrev bin:=jX prog
noncomputable abbrev VY:=lQ prog
noncomputable abbrev fl {β:Type} (t:TypeId) (x:A) (i:Nat) (u:TypeId) (H:aC) (k:A->Option β):Option β:=(Tf t x i H).bind fun a=>(ld u a H).bind k
noncomputable abbrev aK {β:Type} (t:TypeId) (a:A) (H:aC) (k:A->Option β):Option β:=(ld t a H).bind k
noncomputable abbrev bU {β:Type} (t:TypeId) (a:A) (i:Nat) (H:aC) (k:A->Option β):Option β:=(Tf t a i H).bind k
noncomputable abbrev bO {β:Type} (t:TypeId) (a v:A) (H:aC) (lo:Nat) (k:aC->Option β):Option β:=(Xz t a v H lo).bind k
noncomputable abbrev aX {β:Type} (o:BinOp) (t:TypeId) (i j:Bool) (x y:A) (k:A->Option β):Option β:=(bin o t i j x y).bind k
noncomputable abbrev eb {β:Type} (t:TypeId) (H:aC) (k:A×aC->Option β):Option β:=(VY t H).bind k
noncomputable abbrev gz {β:Type} (x:A) (H:aC) (k:A×aC->Option β):Option β:=(yC x H).bind k
noncomputable abbrev jt {β:Type} (x:A) (H:aC) (k:A->Option β):Option β:=(Ba x H).bind k
noncomputable abbrev dx {β:Type} (t:TypeId) (x i:A) (H:aC) (k:A->Option β):Option β:=(dj prog t x i H).bind k
noncomputable abbrev dw {β:Type} (x:A) (i:Nat) (k:A->Option β):Option β:=(mO x i).bind k
noncomputable abbrev ee {β:Type} (t:TypeId) (x:A) (H:aC) (k:A->Option β):Option β:=(rk prog t x H).bind k
noncomputable abbrev hX {β:Type} (t:TypeId) (l:List (Nat×A)) (k:A->Option β):Option β:=(vf prog t l).bind k
noncomputable abbrev kH {β:Type} (L:Nat) (H:aC) (k:aC->Option β):Option β:=(trim L H).bind k
noncomputable abbrev ox {β:Type} {γ:Type} (c:A) (w:Bool) (x y:Option γ) (k:γ->Option β):Option β:=(pA c w x y).bind k
abbrev lk (s:St) (i:Nat):A:=look (St.fr s) i
abbrev ud:A:=A.v undef
theorem e4 (s c:A):aF (cx C) call rg n 4 [s,c] H lo =
gz s H fun a=>
(C 5 []).bind fun t1=>
(jj prog UnOp.not t1).bind fun t2=>aW t2 (some (Out.ret (bA false),a.2)) (aK 28 a.1 a.2 fun t3=>
(C 6 [snap a.2 t3]).bind fun t4=>
(jj prog UnOp.not t4).bind fun t5=>aW t5 (some (Out.ret (bA true),a.2)) (aK 28 a.1 a.2 fun t6=>
(C 12 [snap a.2 t6,snap a.2 c]).bind fun h=>
dw h 0 fun t8=>
dw h 1 fun t9=>
dw h 2 fun t=>
dw h 3 fun u=>
eb 28 a.2 fun i=>
eb 39 i.2 fun d=>
bO 28 i.1 (bN i.1 d.2 t8) d.2 lo fun v=>
bO 39 d.1 (bN d.1 v t9) v lo fun j=>
aK 28 a.1 j fun au=>
(C 13 [snap j au,snap j c]).bind fun k=>
dw k 0 fun av=>
dw k 1 fun aw=>
dw k 2 fun w=>
dw k 3 fun x=>
eb 28 j fun l=>
eb 39 l.2 fun e=>
bO 28 l.1 (bN l.1 e.2 av) e.2 lo fun y=>
bO 39 e.1 (bN e.1 y aw) y lo fun o=>
aK 28 a.1 o fun ax=>
(C 14 [snap o ax,snap o c]).bind fun z=>
dw z 0 fun ay=>
dw z 1 fun a0=>
eb 28 o fun BW=>
bO 28 BW.1 (bN BW.1 BW.2 ay) BW.2 lo fun p=>
aK 28 a.1 p fun az=>
(C 15 [snap p az,snap p c]).bind fun a1=>
dw a1 0 fun b0=>
dw a1 1 fun a2=>
eb 28 p fun f=>
bO 28 f.1 (bN f.1 f.2 b0) f.2 lo fun q=>
aK 28 a.1 q fun b1=>
(C 16 [snap q b1,snap q c]).bind fun a3=>
dw a3 0 fun b2=>
dw a3 1 fun a4=>
eb 28 q fun BH=>
bO 28 BH.1 (bN BH.1 BH.2 b2) BH.2 lo fun r=>
aK 28 a.1 r fun b3=>
(C 17 [snap r b3,snap r c]).bind fun a5=>
dw a5 0 fun b4=>
dw a5 1 fun a6=>
eb 28 r fun g=>
bO 28 g.1 (bN g.1 g.2 b4) g.2 lo fun b=>
aK 28 i.1 b fun b5=>
aK 28 l.1 b fun b6=>
(C 11 [snap b b5,snap b b6]).bind fun b7=>
(cC b7 (aK 39 d.1 b fun a7=>
aK 39 e.1 b fun a8=>
aX .eql 39 false false a7 a8 fun a9=>some [a9,a9,a8,a7]) (some [bA false,ud,ud,ud])).bind fun b8=>dH b8 fun b9 bm bn bo bp=>
(cC b9 (aX .eql 4 false false t w fun aa=>some [aa,aa,w,t]) (some [bA false,ud,ud,ud])).bind fun ba=>dH ba fun bb bq br bs bt=>
(cC bb (aX .eql 32 false false u x fun ab=>some [ab,ab,x,u]) (some [bA false,ud,ud,ud])).bind fun bc=>dH bc fun bd bu bv bw bx=>
(cC bd (aK 28 BW.1 b fun ad=>
aK 28 f.1 b fun ae=>
(C 11 [snap b ad,snap b ae]).bind fun af=>some [af,af,ae,ad]) (some [bA false,ud,ud,ud])).bind fun be=>dH be fun bf bz c0 c1 c2=>
(cC bf (aX .eql 32 false false a0 a2 fun ag=>some [ag,ag,a2,a0]) (some [bA false,ud,ud,ud])).bind fun bg=>dH bg fun bh c3 c4 c5 c6=>
(cC bh (aK 28 BH.1 b fun ah=>
aK 28 g.1 b fun ai=>
(C 11 [snap b ah,snap b ai]).bind fun aj=>some [aj,aj,ai,ah]) (some [bA false,ud,ud,ud])).bind fun bi=>dH bi fun bj c7 c8 c9 ca=>
(cC bj (aX .eql 32 false false a4 a6 fun ak=>some [ak,ak,a6,a4]) (some [bA false,ud,ud,ud])).bind fun bk=>dH bk fun bl cb cc cd ce=>some (Out.ret bl,b))):=r7
theorem e5:aF (cx C) call rg n 5 [] H lo =
(C 18 [snap H (iA 2)]).bind fun t0=>
dw t0 0 fun t1=>
dw t0 1 fun t2=>
eb 28 H fun c=>
bO 28 c.1 (bN c.1 c.2 t1) c.2 lo fun H4=>
(C 18 [snap H4 (iA 0)]).bind fun t5=>
dw t5 0 fun t6=>
dw t5 1 fun t7=>
eb 28 H4 fun v=>
bO 28 v.1 (bN v.1 v.2 t6) v.2 lo fun H9=>
(C 18 [snap H9 (iA 13)]).bind fun ap=>
dw ap 0 fun ef=>
dw ap 1 fun aq=>
eb 28 H9 fun w=>
bO 28 w.1 (bN w.1 w.2 ef) w.2 lo fun x=>
aK 28 c.1 x fun eg=>
hX 46 [(3,iA 9)] fun eh=>
(C 19 [snap x eg,snap x eh]).bind fun ar=>
dw ar 0 fun ei=>
dw ar 1 fun au=>
eb 28 x fun y=>
bO 28 y.1 (bN y.1 y.2 ei) y.2 lo fun z=>
aK 28 c.1 z fun ej=>
(C 9 [snap z ej,snap z (iA 0)]).bind fun av=>
dw av 0 fun ek=>
dw av 1 fun aw=>
eb 28 z fun a0=>
bO 28 a0.1 (bN a0.1 a0.2 ek) a0.2 lo fun h=>
aK 28 c.1 h fun el=>
(aP prog 29 2 [(0,di h (iA 0)),(1,di h (iA 2))]).bind fun em=>
(C 7 [snap h el,snap h (A.imm [] true),snap h em]).bind fun ax=>
dw ax 0 fun en=>
dw ax 1 fun ay=>
eb 28 h fun a1=>
bO 28 a1.1 (bN a1.1 a1.2 en) a1.2 lo fun a2=>
aK 28 c.1 a2 fun eo=>
(C 12 [snap a2 eo,snap a2 (iA 0)]).bind fun a3=>
dw a3 0 fun ep=>
dw a3 1 fun er=>
dw a3 2 fun im=>
dw a3 3 fun az=>
eb 28 a2 fun aj=>
eb 39 aj.2 fun BH=>
bO 28 aj.1 (bN aj.1 BH.2 ep) BH.2 lo fun b0=>
bO 39 BH.1 (bN BH.1 b0 er) b0 lo fun d=>
aX .neq 32 false true t2 (iA 0) fun es=>
(cC es (some [bA true,ud,ud]) (aX .neq 32 false true t7 (iA 1) fun b1=>some [b1,b1,t7])).bind fun et=>fh et fun eu io ev=>bl ev fun ip iq=>
(cC eu (some [bA true,ud,ud]) (aX .neq 32 false true aq (iA 1) fun b2=>some [b2,b2,aq])).bind fun ew=>fh ew fun ex ir ey=>bl ey fun it iu=>
(cC ex (some [bA true,ud,ud]) (aX .neq 32 false true au (iA 1) fun b3=>some [b3,b3,au])).bind fun ez=>fh ez fun f0 iv f1=>bl f1 fun iw ix=>
(cC f0 (some [bA true,ud,ud]) (aX .neq 32 false true aw (iA 1) fun b4=>some [b4,b4,aw])).bind fun f2=>fh f2 fun f3 iy f4=>bl f4 fun iz j0=>
(cC f3 (some [bA true,ud,ud]) (aX .neq 32 false true ay (iA 1) fun b5=>some [b5,b5,ay])).bind fun f5=>fh f5 fun f6 j1 f7=>bl f7 fun j2 j3=>
(cC f6 (some [bA true,ud,ud]) (aX .neq 32 false true az (iA 1) fun b6=>some [b6,b6,az])).bind fun f8=>fh f8 fun f9 j4 fa=>bl fa fun j5 j6=>
(cC f9 (some [bA true,ud,ud,ud,ud]) (bU 28 c.1 1 d fun b7=>
aK 26 b7 d fun b8=>
ee 26 b8 d fun b9=>
aX .neq 3 false true b9 (iA 2) fun ba=>some [ba,ba,b9,b8,b7])).bind fun fb=>dH fb fun fc j7 j8 j9 fd=>bl fd fun ja jb=>
(cC fc (some [bA true,ud,ud,ud]) (aK 28 c.1 d fun bb=>
(C 20 [snap d bb]).bind fun bc=>
aX .neq 32 false true bc (iA 0) fun bd=>some [bd,bd,bc,bb])).bind fun fe=>dH fe fun ff jc jd je jf=>
(cC ff (some [bA true,ud,ud,ud]) (hX 28 [] fun be=>
(C 20 [snap d be]).bind fun bf=>
aX .neq 32 false true bf (iA 490) fun bg=>some [bg,bg,bf,be])).bind fun fg=>dH fg fun fi jg jh ji jk=>aW fi (some (Out.ret (bA false),d)) (aK 28 c.1 d fun fj=>
hX 46 [(0,iA 4),(3,iA 2)] fun fk=>
(C 19 [snap d fj,snap d fk]).bind fun bh=>
dw bh 0 fun fm=>
dw bh 1 fun fn=>
eb 28 d fun l=>
bO 28 l.1 (bN l.1 l.2 fm) l.2 lo fun a4=>
aK 28 l.1 a4 fun fo=>
hX 46 [(0,iA 5),(3,iA 3)] fun fp=>
(C 19 [snap a4 fo,snap a4 fp]).bind fun bi=>
dw bi 0 fun fq=>
dw bi 1 fun bj=>
eb 28 a4 fun o=>
bO 28 o.1 (bN o.1 o.2 fq) o.2 lo fun a5=>
aK 28 o.1 a5 fun fr=>
hX 46 [(0,iA 6),(1,iA 1),(3,iA 3)] fun fs=>
(C 19 [snap a5 fr,snap a5 fs]).bind fun bk=>
dw bk 0 fun ft=>
dw bk 1 fun bm=>
eb 28 a5 fun p=>
bO 28 p.1 (bN p.1 p.2 ft) p.2 lo fun a6=>
aK 28 p.1 a6 fun fu=>
(C 12 [snap a6 fu,snap a6 (iA 1)]).bind fun a7=>
dw a7 0 fun fv=>
dw a7 1 fun fw=>
dw a7 2 fun bn=>
dw a7 3 fun bo=>
eb 28 a6 fun a8=>
eb 39 a8.2 fun a9=>
bO 28 a8.1 (bN a8.1 a9.2 fv) a9.2 lo fun bp=>
bO 39 a9.1 (bN a9.1 bp fw) bp lo fun aa=>
aK 28 a8.1 aa fun fx=>
(C 12 [snap aa fx,snap aa (iA 0)]).bind fun ab=>
dw ab 0 fun fy=>
dw ab 1 fun fz=>
dw ab 2 fun jl=>
dw ab 3 fun bq=>
eb 28 aa fun e=>
eb 39 e.2 fun ad=>
bO 28 e.1 (bN e.1 ad.2 fy) ad.2 lo fun br=>
bO 39 ad.1 (bN ad.1 br fz) br lo fun i=>
aK 28 e.1 i fun g0=>
(aP prog 29 2 [(0,di i (iA 0)),(1,di i (iA 1))]).bind fun g1=>
(C 7 [snap i g0,snap i (A.imm [] true),snap i g1]).bind fun bs=>
dw bs 0 fun g2=>
dw bs 1 fun bt=>
eb 28 i fun f=>
bO 28 f.1 (bN f.1 f.2 g2) f.2 lo fun j=>
aK 28 e.1 j fun g3=>
(aP prog 29 2 [(0,di j (iA 0)),(1,di j (iA 0))]).bind fun g4=>
(C 7 [snap j g3,snap j (A.imm [] true),snap j g4]).bind fun bu=>
dw bu 0 fun g5=>
dw bu 1 fun bv=>
eb 28 j fun q=>
bO 28 q.1 (bN q.1 q.2 g5) q.2 lo fun g=>
aK 28 e.1 g fun g6=>
(aP prog 29 1 [(0,di g (iA 0))]).bind fun g7=>
(aP prog 29 2 [(0,di g (iA 0)),(1,di g (iA 1))]).bind fun g8=>
(C 7 [snap g g6,snap g g7,snap g g8]).bind fun bw=>
dw bw 0 fun g9=>
dw bw 1 fun bx=>
eb 28 g fun r=>
bO 28 r.1 (bN r.1 r.2 g9) r.2 lo fun a=>
aX .neq 32 false true fn (iA 0) fun ga=>
(cC ga (some [bA true,ud,ud]) (aX .neq 32 false true bj (iA 0) fun bz=>some [bz,bz,bj])).bind fun gb=>fh gb fun gc jm gd=>bl gd fun jn jo=>
(cC gc (some [bA true,ud,ud]) (aX .neq 32 false true bm (iA 0) fun c0=>some [c0,c0,bm])).bind fun ge=>fh ge fun gf jp gg=>bl gg fun jq jr=>
(cC gf (some [bA true,ud,ud]) (aX .neq 32 false true bo (iA 0) fun c1=>some [c1,c1,bo])).bind fun gh=>fh gh fun gi js gj=>bl gj fun jt ju=>
(cC gi (some [bA true,ud,ud]) (aX .neq 32 false true bq (iA 0) fun c2=>some [c2,c2,bq])).bind fun gk=>fh gk fun gl jv gm=>bl gm fun jw jx=>
(cC gl (some [bA true,ud,ud]) (aX .neq 32 false true bt (iA 0) fun c3=>some [c3,c3,bt])).bind fun gn=>fh gn fun go jy gp=>bl gp fun jz k0=>
(cC go (some [bA true,ud,ud]) (aX .neq 32 false true bv (iA 0) fun c4=>some [c4,c4,bv])).bind fun gq=>fh gq fun gr k1 gs=>bl gs fun k2 k3=>
(cC gr (some [bA true,ud,ud]) (aX .neq 32 false true bx (iA 0) fun c5=>some [c5,c5,bx])).bind fun gt=>fh gt fun gu k4 gv=>bl gv fun k5 k6=>
(cC gu (some [bA true,ud]) (some [bn,bn])).bind fun gw=>fh gw fun gx k7 k8=>aW gx (some (Out.ret (bA false),a)) (fl 28 e.1 1 26 a fun gy=>
ee 26 gy a fun gz=>
aX .neq 3 false true gz (iA 2) fun h0=>
(cC h0 (some [bA true,ud,ud,ud,ud,ud,ud,ud]) (bU 28 e.1 1 a fun c6=>
aK 26 c6 a fun c7=>
dx 26 c7 (iA 0) a fun c8=>
bU 50 c8 0 a fun c9=>
aK 48 c9 a fun ca=>
ee 48 ca a fun cb=>
aX .neq 3 false true cb (iA 1) fun cc=>some [cc,cc,cb,ca,c9,c8,c7,c6])).bind fun h1=>pK h1 fun h2 k9 ka kb kc kd ke kf kh=>
(cC h2 (some [bA true,ud,ud,ud,ud,ud,ud,ud,ud,ud]) (bU 28 e.1 1 a fun cd=>
aK 26 cd a fun ce=>
dx 26 ce (iA 0) a fun cf=>
bU 50 cf 0 a fun cg=>
aK 48 cg a fun ch=>
dx 48 ch (iA 0) a fun ci=>
aK 46 ci a fun cj=>
hX 46 [(0,iA 5),(3,iA 3)] fun ck=>
aX .neq 46 false false cj ck fun cl=>some [cl,cl,ck,cj,ci,ch,cg,cf,ce,cd])).bind fun h3=>pK h3 fun h4 ki kj kk kl km kn ko h5=>fh h5 fun kq ks kt=>
(cC h4 (some [bA true,ud,ud,ud,ud,ud]) (bU 28 e.1 0 a fun cm=>
bU 25 cm 0 a fun cn=>
aK 22 cn a fun co=>
ee 22 co a fun cp=>
aX .neq 3 false true cp (iA 1) fun cq=>some [cq,cq,cp,co,cn,cm])).bind fun h6=>dH h6 fun h7 ku kv kw h8=>fh h8 fun ky kz l0=>aW h7 (some (Out.ret (bA false),a)) (fl 28 f.1 1 26 a fun h9=>
(aP prog 29 1 [(0,di a (iA 3))]).bind fun ha=>
(aP prog 29 1 [(0,di a (iA 3))]).bind fun hb=>
hX 50 [(1,ha),(2,hb)] fun hc=>
(aP prog 29 1 [(0,di a (iA 0))]).bind fun hd=>
(aP prog 29 1 [(0,di a (iA 0))]).bind fun he=>
hX 50 [(1,hd),(2,he)] fun hf=>
(aP prog 26 2 [(0,di a hc),(1,di a hf)]).bind fun hg=>
(C 21 [snap a h9,snap a hg]).bind fun hh=>
(jj prog UnOp.not hh).bind fun hi=>
(cC hi (some [bA true,ud,ud,ud,ud,ud,ud,ud,ud,ud,ud,ud]) (bU 28 q.1 1 a fun cr=>
aK 26 cr a fun cs=>
(aP prog 29 1 [(0,di a (iA 3))]).bind fun ct=>
(aP prog 29 1 [(0,di a (iA 0))]).bind fun cu=>
hX 50 [(1,ct),(2,cu)] fun cv=>
(aP prog 29 1 [(0,di a (iA 0))]).bind fun cw=>
(aP prog 29 1 [(0,di a (iA 0))]).bind fun cy=>
hX 50 [(1,cw),(2,cy)] fun cz=>
(aP prog 26 2 [(0,di a cv),(1,di a cz)]).bind fun d0=>
(C 21 [snap a cs,snap a d0]).bind fun d1=>
(jj prog UnOp.not d1).bind fun d2=>some [d2,d2,d1,d0,cz,cy,cw,cv,cu,ct,cs,cr])).bind fun hj=>pK hj fun hk l1 l2 l3 l4 l5 l6 l7 hl=>dH hl fun l8 l9 la lb lc=>
(cC hk (some [bA true,ud,ud,ud,ud,ud,ud,ud,ud,ud,ud,ud]) (bU 28 r.1 1 a fun d3=>
aK 26 d3 a fun d4=>
(aP prog 29 1 [(0,di a (iA 0))]).bind fun d5=>
(aP prog 29 1 [(0,di a (iA 0))]).bind fun d6=>
hX 50 [(1,d5),(2,d6)] fun d7=>
(aP prog 29 1 [(0,di a (iA 0))]).bind fun d8=>
(aP prog 29 1 [(0,di a (iA 0))]).bind fun d9=>
hX 50 [(1,d8),(2,d9)] fun da=>
(aP prog 26 2 [(0,di a d7),(1,di a da)]).bind fun db=>
(C 21 [snap a d4,snap a db]).bind fun dc=>
(jj prog UnOp.not dc).bind fun dd=>some [dd,dd,dc,db,da,d9,d8,d7,d6,d5,d4,d3])).bind fun hm=>pK hm fun hn ld le lf lg lh li lj ho=>dH ho fun lk ll lm ln lp=>aW hn (some (Out.ret (bA false),a)) (aK 28 f.1 a fun hp=>
(C 12 [snap a hp,snap a (iA 0)]).bind fun ae=>
dw ae 0 fun hq=>
dw ae 1 fun hr=>
dw ae 2 fun lq=>
dw ae 3 fun hs=>
eb 28 a fun s=>
eb 39 s.2 fun af=>
bO 28 s.1 (bN s.1 af.2 hq) af.2 lo fun de=>
bO 39 af.1 (bN af.1 de hr) de lo fun b=>
aX .neq 32 false true hs (iA 0) fun ht=>
(cC ht (some [bA true,ud,ud,ud]) (bU 28 f.1 2 b fun df=>
aK 3 df b fun dg=>
aX .neq 3 false true dg (iA 1) fun dh=>some [dh,dh,dg,df])).bind fun hu=>dH hu fun hv lr ls lt lu=>
(cC hv (some [bA true,ud,ud,ud,ud,ud]) (bU 28 f.1 0 b fun dj=>
bU 25 dj 0 b fun dk=>
aK 22 dk b fun dl=>
ee 22 dl b fun dm=>
aX .neq 3 false true dm (iA 3) fun dn=>some [dn,dn,dm,dl,dk,dj])).bind fun hw=>dH hw fun hx lv lw lx hy=>fh hy fun ly lz m0=>
(cC hx (some [bA true,ud,ud,ud,ud,ud,ud]) (bU 28 s.1 1 b fun dp=>
aK 26 dp b fun dq=>
bU 28 f.1 1 b fun dr=>
aK 26 dr b fun ds=>
(C 21 [snap b dq,snap b ds]).bind fun dt=>
(jj prog UnOp.not dt).bind fun du=>some [du,du,dt,ds,dr,dq,dp])).bind fun hz=>dH hz fun i0 m1 m2 m3 i1=>fh i1 fun m4 m5 i2=>bl i2 fun m6 m7=>aW i0 (some (Out.ret (bA false),b)) (aK 28 s.1 b fun i3=>
(C 12 [snap b i3,snap b (iA 0)]).bind fun ag=>
dw ag 0 fun i4=>
dw ag 1 fun i5=>
dw ag 2 fun dv=>
dw ag 3 fun i6=>
eb 28 b fun ah=>
eb 39 ah.2 fun t=>
bO 28 ah.1 (bN ah.1 t.2 i4) t.2 lo fun dy=>
bO 39 t.1 (bN t.1 dy i5) dy lo fun ai=>
aK 28 ah.1 ai fun i7=>
(C 9 [snap ai i7,snap ai (iA 0)]).bind fun dz=>
dw dz 0 fun i8=>
dw dz 1 fun e0=>
eb 28 ai fun u=>
bO 28 u.1 (bN u.1 u.2 i8) u.2 lo fun k=>
aX .eql 32 false true i6 (iA 0) fun i9=>
(cC i9 (aX .eql 32 false true e0 (iA 0) fun e1=>some [e1,e1,e0]) (some [bA false,ud,ud])).bind fun ia=>fh ia fun ib m8 ic=>bl ic fun m9 ma=>
(cC ib (some [dv,dv]) (some [bA false,ud])).bind fun ie=>fh ie fun ig mb mc=>
(cC ig (aK 39 t.1 k fun e2=>
hX 39 [(2,iA 3)] fun e3=>
aX .eql 39 false false e2 e3 fun e4=>some [e4,e4,e3,e2]) (some [bA false,ud,ud,ud])).bind fun ih=>dH ih fun ii md me mf mg=>
(cC ii (bU 28 u.1 0 k fun e6=>
bU 25 e6 0 k fun e7=>
aK 22 e7 k fun e8=>
ee 22 e8 k fun e9=>
aX .eql 3 false true e9 (iA 2) fun ea=>some [ea,ea,e9,e8,e7,e6]) (some [bA false,ud,ud,ud,ud,ud])).bind fun ij=>dH ij fun ik mh mi mj il=>fh il fun mk ml mm=>some (Out.ret ik,k)))))):=r7
theorem e6 (d:A):aF (cx C) call rg n 6 [d] H lo =
gz d H fun a=>
fl 28 a.1 0 25 a.2 fun t2=>
(C 22 [snap a.2 t2]).bind fun j=>
(jj prog UnOp.not j).bind fun k=>
(cC k (some [bA true,ud,ud,ud,ud]) (bU 28 a.1 1 a.2 fun e=>
aK 26 e a.2 fun f=>
ee 26 f a.2 fun g=>
aX .gtr 3 false true g (iA 20) fun h=>some [h,h,g,f,e])).bind fun l=>dH l fun o q r s p=>bl p fun t u=>aW o (some (Out.ret (bA false),a.2)) (aN (cx C) call rg n 6 lo 0 (List.length a.2) (fun b c=>bif Nat.beq b 0 then some (Out.ret (bA true),St.H c) else none) (fun b c=>none) (fun i=>some (Out.ret (lk i 2),St.H i)) (fun b c=>some (Out.pan b,St.H c)) n (St.mk [(1,a.1),(2,bA false),(4,iA 0)] a.2)):=r7
theorem V0 (c d:A):aF (cx C) call rg n 11 [c,d] H lo =
gz c H fun b=>
gz d b.2 fun a=>
fl 28 b.1 2 3 a.2 fun q=>
fl 28 a.1 2 3 a.2 fun r=>
aX .eql 3 false false q r fun s=>
(cC s (bU 28 b.1 1 a.2 fun e=>
aK 26 e a.2 fun f=>
bU 28 a.1 1 a.2 fun g=>
aK 26 g a.2 fun h=>
(C 21 [snap a.2 f,snap a.2 h]).bind fun i=>some [i,i,h,g,f,e]) (some [bA false,ud,ud,ud,ud,ud])).bind fun t=>dH t fun u z a0 a1 v=>fh v fun a2 a3 a4=>
(cC u (bU 28 b.1 0 a.2 fun j=>
aK 25 j a.2 fun k=>
bU 28 a.1 0 a.2 fun l=>
aK 25 l a.2 fun o=>
(C 35 [snap a.2 k,snap a.2 o]).bind fun p=>some [p,p,o,l,k,j]) (some [bA false,ud,ud,ud,ud,ud])).bind fun w=>dH w fun x a5 a6 a7 y=>fh y fun a8 a9 aa=>some (Out.ret x,a.2):=r7
theorem V1 (x0 x1:A):aF (cx C) call rg n 12 [x0,x1] H lo =
gz x0 H fun d=>
eb 28 d.2 fun b=>
eb 39 b.2 fun a=>
aK 28 d.1 a.2 fun t3=>
(C 20 [snap a.2 t3]).bind fun t4=>
aX .neq 32 false true t4 (iA 0) fun t5=>aW t5 (aK 28 b.1 a.2 fun t6=>
aK 39 a.1 a.2 fun t7=>bif bif apart a.1 b.1 then true else false then
bO 28 b.1 (bN b.1 a.2 t6) a.2 lo fun H8=>
bO 39 a.1 (bN a.1 H8 t7) H8 lo fun H9=>
aK 28 b.1 H9 fun ag=>
aK 39 a.1 H9 fun a3=>some (Out.ret (A.tup [ag,a3,bA false,t4]),H9) else none) (fl 28 d.1 0 25 a.2 fun t7=>
(C 36 [snap a.2 t7,snap a.2 x1]).bind fun t8=>
dw t8 0 fun t9=>
dw t8 1 fun ag=>
dw t8 2 fun a3=>
eb 68 a.2 fun a4=>
eb 25 a4.2 fun u=>
bO 68 a4.1 (bN a4.1 u.2 t9) u.2 lo fun b7=>
bO 25 u.1 (bN u.1 b7 ag) b7 lo fun j=>
aX .neq 32 false true a3 (iA 0) fun bo=>aW bo (aK 28 b.1 j fun ai=>
aK 39 a.1 j fun a5=>bif bif apart a.1 b.1 then true else false then
bO 28 b.1 (bN b.1 j ai) j lo fun q=>
bO 39 a.1 (bN a.1 q a5) q lo fun aj=>
aK 28 b.1 aj fun ak=>
aK 39 a.1 aj fun a6=>some (Out.ret (A.tup [ak,a6,bA false,a3]),aj) else none) (aK 25 u.1 j fun ai=>
bU 28 d.1 0 j fun a5=>
bO 25 a5 (bN a5 j ai) j lo fun q=>
fl 68 a4.1 2 66 q fun ak=>
(C 37 [snap q ak]).bind fun a6=>
dw a6 0 fun bp=>
dw a6 1 fun b8=>
eb 72 q fun k=>
bO 72 k.1 (bN k.1 k.2 bp) k.2 lo fun h=>
(cC b8 (bU 72 k.1 0 h fun b9=>
aK 3 b9 h fun ba=>
aX .eql 3 false true ba (iA 2) fun bb=>some [bb,bb,ba,b9]) (some [bA false,ud,ud,ud])).bind fun bq=>dH bq fun br cf cg ch ci=>aW br (aK 28 d.1 h fun bs=>
bU 72 k.1 2 h fun a7=>
aK 39 a7 h fun bt=>bif bif apart a7 b.1 then bif apart k.1 b.1 then true else false else false then
bO 28 b.1 (bN b.1 h bs) h lo fun c=>
bO 39 a.1 (bN a.1 c bt) c lo fun al=>
aK 28 b.1 al fun a8=>
aK 39 a.1 al fun a9=>some (Out.ret (A.tup [a8,a9,bA true,iA 0]),al) else none) (fl 72 k.1 1 46 h fun a7=>
eb 46 h fun e=>
bO 46 e.1 (bN e.1 e.2 a7) e.2 lo fun c=>
(cC b8 (bU 46 e.1 2 c fun bc=>
aK 3 bc c fun a8=>
bU 28 d.1 2 c fun a9=>
aK 3 a9 c fun bd=>
aX .geq 3 false false a8 bd fun be=>some [be,be,bd,a9,a8,bc]) (some [bA false,ud,ud,ud,ud,ud])).bind fun bu=>dH bu fun bv cj ck cl bw=>fh bw fun cm cn co=>aW bv (fl 28 d.1 1 26 c fun am=>
fl 46 e.1 1 3 c fun bx=>
dx 26 am bx c fun an=>
fl 50 an 0 48 c fun v=>
fl 46 e.1 2 3 c fun bz=>
(C 38 [snap c v,snap c bz,snap c (A.fn (Fn.func 39) [] [])]).bind fun bf=>
dw bf 0 fun ao=>
dw bf 1 fun c0=>
(jj prog UnOp.not c0).bind fun c1=>aW c1 (aK 46 e.1 c fun aa=>bif bif qt aa then true else false then
(aP prog 48 1 [(0,di c aa)]).bind fun c2=>bif bif iy 0 e.1 then true else false then
(call 41 [v] c (List.length c)).bind fun ap=>dL ap.1 (fun aq=>
(call 40 [aq,ao,c2] ap.2 lo).bind fun ar=>dL ar.1 (fun au=>
(mP lo au ar.2).bind fun l=>
fl 28 d.1 1 26 l.2 fun w=>
(call 42 [w] l.2 lo).bind fun g=>dL g.1 (fun o=>
bU 28 d.1 1 g.2 fun x=>
bO 26 x (bN x g.2 o) g.2 lo fun f=>
fl 28 d.1 1 26 f fun av=>
fl 46 e.1 1 3 f fun r=>
dx 26 av r f fun aw=>
bU 50 aw 0 f fun y=>
bO 48 y (bN y f l.1) f lo fun i=>
aK 28 d.1 i fun ax=>
aK 39 a.1 i fun z=>bif bif apart a.1 b.1 then true else false then
bO 28 b.1 (bN b.1 i ax) i lo fun a0=>
bO 39 a.1 (bN a.1 a0 z) a0 lo fun p=>
aK 28 b.1 p fun ay=>
aK 39 a.1 p fun a1=>some (Out.ret (A.tup [ay,a1,bA false,iA 0]),p) else none) fun o=>some (Out.pan o,g.2)) fun au=>some (Out.pan au,ar.2)) fun aq=>some (Out.pan aq,ap.2) else none else none) (dx 48 v ao c fun aa=>
fl 46 aa 0 3 c fun c3=>
fl 46 e.1 0 3 c fun c4=>
aX .lss 3 false false c3 c4 fun c5=>aW c5 ((call 41 [v] c lo).bind fun s=>dL s.1 (fun ab=>
aK 46 e.1 s.2 fun w=>
dx 48 ab ao s.2 fun bg=>
bO 46 bg (bN bg s.2 w) s.2 lo fun c6=>
(mP lo ab c6).bind fun az=>
fl 28 d.1 1 26 az.2 fun c7=>
(call 42 [c7] az.2 lo).bind fun a2=>dL a2.1 (fun b0=>
bU 28 d.1 1 a2.2 fun r=>
bO 26 r (bN r a2.2 b0) a2.2 lo fun t=>
fl 28 d.1 1 26 t fun c8=>
fl 46 e.1 1 3 t fun z=>
dx 26 c8 z t fun c9=>
bU 50 c9 0 t fun bh=>
bO 48 bh (bN bh t az.1) t lo fun ad=>
aK 28 d.1 ad fun a1=>
aK 39 a.1 ad fun ca=>bif bif apart a.1 b.1 then true else false then
bO 28 b.1 (bN b.1 ad a1) ad lo fun bi=>
bO 39 a.1 (bN a.1 bi ca) bi lo fun b1=>
aK 28 b.1 b1 fun cb=>
aK 39 a.1 b1 fun cc=>some (Out.ret (A.tup [cb,cc,bA false,iA 0]),b1) else none) fun b0=>some (Out.pan b0,a2.2)) fun ab=>some (Out.pan ab,s.2)) ((mP lo v c).bind fun l=>
fl 28 d.1 1 26 l.2 fun w=>
(call 42 [w] l.2 lo).bind fun g=>dL g.1 (fun o=>
bU 28 d.1 1 g.2 fun x=>
bO 26 x (bN x g.2 o) g.2 lo fun f=>
fl 28 d.1 1 26 f fun av=>
fl 46 e.1 1 3 f fun r=>
dx 26 av r f fun aw=>
bU 50 aw 0 f fun y=>
bO 48 y (bN y f l.1) f lo fun i=>
aK 28 d.1 i fun ax=>
aK 39 a.1 i fun z=>bif bif apart a.1 b.1 then true else false then
bO 28 b.1 (bN b.1 i ax) i lo fun a0=>
bO 39 a.1 (bN a.1 a0 z) a0 lo fun p=>
aK 28 b.1 p fun ay=>
aK 39 a.1 p fun a1=>some (Out.ret (A.tup [ay,a1,bA false,iA 0]),p) else none) fun o=>some (Out.pan o,g.2)))) (aK 28 d.1 c fun cd=>
aK 39 a.1 c fun am=>bif bif apart a.1 b.1 then true else false then
bO 28 b.1 (bN b.1 c cd) c lo fun bj=>
bO 39 a.1 (bN a.1 bj am) bj lo fun b2=>
aK 28 b.1 b2 fun an=>
aK 39 a.1 b2 fun ce=>some (Out.ret (A.tup [an,ce,bA false,iA 0]),b2) else none)))):=r7
theorem V2 (x0 x1:A):aF (cx C) call rg n 13 [x0,x1] H lo =
gz x0 H fun e=>
eb 28 e.2 fun b=>
eb 39 b.2 fun a=>
aK 28 e.1 a.2 fun t3=>
(C 28 [snap a.2 t3]).bind fun t4=>
aX .neq 32 false true t4 (iA 0) fun t5=>aW t5 (hX 28 [] fun t6=>
hX 39 [] fun t=>
bO 28 b.1 (bN b.1 a.2 t6) a.2 lo fun H8=>
bO 39 a.1 (bN a.1 H8 t) H8 lo fun u=>
aK 28 b.1 u fun v=>
aK 39 a.1 u fun p=>some (Out.ret (A.tup [v,p,bA false,t4]),u)) (fl 28 e.1 0 25 a.2 fun t=>
(C 43 [snap a.2 t,snap a.2 x1]).bind fun w=>
dw w 0 fun t9=>
dw w 1 fun v=>
dw w 2 fun p=>
eb 68 a.2 fun h=>
eb 25 h.2 fun k=>
bO 68 h.1 (bN h.1 k.2 t9) k.2 lo fun ae=>
bO 25 k.1 (bN k.1 ae v) ae lo fun j=>
aX .neq 32 false true p (iA 0) fun ao=>aW ao (hX 28 [] fun x=>
hX 39 [] fun q=>
bO 28 b.1 (bN b.1 j x) j lo fun c=>
bO 39 a.1 (bN a.1 c q) c lo fun y=>
aK 28 b.1 y fun z=>
aK 39 a.1 y fun ap=>some (Out.ret (A.tup [z,ap,bA false,p]),y)) (aK 25 k.1 j fun x=>
bU 28 e.1 0 j fun q=>
bO 25 q (bN q j x) j lo fun c=>
fl 68 h.1 0 3 c fun z=>
fl 68 h.1 1 3 c fun aq=>
aX .eql 3 false false z aq fun ar=>aW ar (aK 28 e.1 c fun au=>
hX 39 [] fun a0=>
bO 28 b.1 (bN b.1 c au) c lo fun af=>
bO 39 a.1 (bN a.1 af a0) af lo fun a1=>
aK 28 b.1 a1 fun l=>
aK 39 a.1 a1 fun i=>some (Out.ret (A.tup [l,i,bA false,iA 0]),a1)) (fl 68 h.1 1 3 c fun a0=>
aX .eql 3 false true a0 (iA 0) fun av=>aW av (fl 68 h.1 2 66 c fun l=>
(C 44 [snap c l]).bind fun i=>
dw i 0 fun a2=>
dw i 1 fun aw=>
eb 39 c fun d=>
bO 39 d.1 (bN d.1 d.2 a2) d.2 lo fun g=>
aK 28 e.1 g fun ax=>
aK 39 d.1 g fun a3=>bif bif apart d.1 b.1 then true else false then
bO 28 b.1 (bN b.1 g ax) g lo fun ag=>
bO 39 a.1 (bN a.1 ag a3) ag lo fun a4=>
aK 28 b.1 a4 fun a5=>
aK 39 a.1 a4 fun o=>some (Out.ret (A.tup [a5,o,bA true,iA 0]),a4) else none) (fl 68 h.1 2 66 c fun l=>
(C 45 [snap c l]).bind fun i=>
dw i 0 fun a2=>
dw i 1 fun aw=>
eb 46 c fun d=>
bO 46 d.1 (bN d.1 d.2 a2) d.2 lo fun g=>
fl 46 d.1 2 3 g fun a3=>
fl 28 e.1 2 3 g fun ay=>
aX .geq 3 false false a3 ay fun a5=>aW a5 ((aP prog 26 0 []).bind fun o=>
fl 28 e.1 1 26 g fun az=>
(bK prog 26 26 true o az g lo).bind fun r=>
bU 28 e.1 1 r.2 fun s=>
bO 26 s (bN s r.2 r.1) r.2 lo fun f=>
fl 28 e.1 1 26 f fun b0=>
fl 46 d.1 1 3 f fun b1=>
fl 28 e.1 1 26 f fun b2=>
fl 46 d.1 1 3 f fun b3=>
dx 26 b2 b3 f fun b4=>
fl 50 b4 0 48 f fun b5=>
aK 46 d.1 f fun b6=>
(C 46 [snap f b5,snap f b6]).bind fun b7=>
dx 26 b0 b1 f fun b8=>
bU 50 b8 0 f fun ah=>
bO 48 ah (bN ah f b7) f lo fun a6=>
aK 28 e.1 a6 fun b9=>
hX 39 [] fun ba=>
bO 28 b.1 (bN b.1 a6 b9) a6 lo fun ai=>
bO 39 a.1 (bN a.1 ai ba) ai lo fun a7=>
aK 28 b.1 a7 fun bb=>
aK 39 a.1 a7 fun bc=>some (Out.ret (A.tup [bb,bc,bA false,iA 0]),a7)) (aK 28 e.1 g fun o=>
hX 39 [] fun bd=>
bO 28 b.1 (bN b.1 g o) g lo fun aj=>
bO 39 a.1 (bN a.1 aj bd) aj lo fun a8=>
aK 28 b.1 a8 fun s=>
aK 39 a.1 a8 fun be=>some (Out.ret (A.tup [s,be,bA false,iA 0]),a8)))))):=r7
theorem V3 (h i:A):aF (cx C) call rg n 14 [h,i] H lo =
gz h H fun c=>
eb 28 c.2 fun a=>
aK 28 c.1 a.2 fun t2=>
(C 20 [snap a.2 t2]).bind fun j=>
aX .neq 32 false true j (iA 0) fun r=>aW r (aK 28 a.1 a.2 fun s=>
bO 28 a.1 (bN a.1 a.2 s) a.2 lo fun k=>
aK 28 a.1 k fun e=>some (Out.ret (A.tup [e,j]),k)) (fl 28 c.1 0 25 a.2 fun t=>
(C 47 [snap a.2 t,snap a.2 i]).bind fun e=>
dw e 0 fun u=>
dw e 1 fun l=>
eb 25 a.2 fun d=>
bO 25 d.1 (bN d.1 d.2 u) d.2 lo fun b=>
aX .neq 32 false true l (iA 0) fun v=>aW v (aK 28 a.1 b fun f=>
bO 28 a.1 (bN a.1 b f) b lo fun o=>
aK 28 a.1 o fun w=>some (Out.ret (A.tup [w,l]),o)) (aK 25 d.1 b fun f=>
bU 28 c.1 0 b fun p=>
bO 25 p (bN p b f) b lo fun g=>
aK 28 c.1 g fun x=>
bO 28 a.1 (bN a.1 g x) g lo fun q=>
aK 28 a.1 q fun y=>some (Out.ret (A.tup [y,iA 0]),q))):=r7
theorem V4 (h i:A):aF (cx C) call rg n 15 [h,i] H lo =
gz h H fun b=>
eb 28 b.2 fun a=>
aK 28 b.1 a.2 fun t2=>
(C 28 [snap a.2 t2]).bind fun j=>
aX .neq 32 false true j (iA 0) fun p=>aW p (hX 28 [] fun q=>
bO 28 a.1 (bN a.1 a.2 q) a.2 lo fun k=>
aK 28 a.1 k fun e=>some (Out.ret (A.tup [e,j]),k)) (fl 28 b.1 0 25 a.2 fun r=>
(C 48 [snap a.2 r,snap a.2 i]).bind fun e=>
dw e 0 fun s=>
dw e 1 fun l=>
bU 28 b.1 0 a.2 fun o=>
bO 25 o (bN o a.2 s) a.2 lo fun c=>
aX .neq 32 false true l (iA 0) fun t=>aW t (hX 28 [] fun f=>
bO 28 a.1 (bN a.1 c f) c lo fun d=>
aK 28 a.1 d fun g=>some (Out.ret (A.tup [g,l]),d)) (aK 28 b.1 c fun f=>
bO 28 a.1 (bN a.1 c f) c lo fun d=>
aK 28 a.1 d fun g=>some (Out.ret (A.tup [g,iA 0]),d))):=r7
theorem V5 (h i:A):aF (cx C) call rg n 16 [h,i] H lo =
gz h H fun c=>
eb 28 c.2 fun a=>
aK 28 c.1 a.2 fun t2=>
(C 20 [snap a.2 t2]).bind fun j=>
aX .neq 32 false true j (iA 0) fun r=>aW r (aK 28 a.1 a.2 fun s=>
bO 28 a.1 (bN a.1 a.2 s) a.2 lo fun k=>
aK 28 a.1 k fun e=>some (Out.ret (A.tup [e,j]),k)) (fl 28 c.1 0 25 a.2 fun t=>
(C 49 [snap a.2 t,snap a.2 i]).bind fun e=>
dw e 0 fun u=>
dw e 1 fun l=>
eb 25 a.2 fun d=>
bO 25 d.1 (bN d.1 d.2 u) d.2 lo fun b=>
aX .neq 32 false true l (iA 0) fun v=>aW v (aK 28 a.1 b fun f=>
bO 28 a.1 (bN a.1 b f) b lo fun o=>
aK 28 a.1 o fun w=>some (Out.ret (A.tup [w,l]),o)) (aK 25 d.1 b fun f=>
bU 28 c.1 0 b fun p=>
bO 25 p (bN p b f) b lo fun g=>
aK 28 c.1 g fun x=>
bO 28 a.1 (bN a.1 g x) g lo fun q=>
aK 28 a.1 q fun y=>some (Out.ret (A.tup [y,iA 0]),q))):=r7
theorem V6 (h i:A):aF (cx C) call rg n 17 [h,i] H lo =
gz h H fun b=>
eb 28 b.2 fun a=>
aK 28 b.1 a.2 fun t2=>
(C 28 [snap a.2 t2]).bind fun j=>
aX .neq 32 false true j (iA 0) fun p=>aW p (hX 28 [] fun q=>
bO 28 a.1 (bN a.1 a.2 q) a.2 lo fun k=>
aK 28 a.1 k fun e=>some (Out.ret (A.tup [e,j]),k)) (fl 28 b.1 0 25 a.2 fun r=>
(C 50 [snap a.2 r,snap a.2 i]).bind fun e=>
dw e 0 fun s=>
dw e 1 fun l=>
bU 28 b.1 0 a.2 fun o=>
bO 25 o (bN o a.2 s) a.2 lo fun c=>
aX .neq 32 false true l (iA 0) fun t=>aW t (hX 28 [] fun f=>
bO 28 a.1 (bN a.1 c f) c lo fun d=>
aK 28 a.1 d fun g=>some (Out.ret (A.tup [g,l]),d)) (aK 28 b.1 c fun f=>
bO 28 a.1 (bN a.1 c f) c lo fun d=>
aK 28 a.1 d fun g=>some (Out.ret (A.tup [g,iA 0]),d))):=r7
theorem V7 (b:A):aF (cx C) call rg n 18 [b] H lo =
eb 28 H fun a=>
(C 23 [snap a.2 b,snap a.2 (iA 1),snap a.2 (iA 12)]).bind fun h=>
(jj prog UnOp.not h).bind fun t2=>aW t2 (aK 28 a.1 a.2 fun c=>
bO 28 a.1 (bN a.1 a.2 c) a.2 lo fun f=>
aK 28 a.1 f fun d=>some (Out.ret (A.tup [d,iA 1]),f)) ((C 51 []).bind fun c=>
(gW prog 26 b b a.2).bind fun e=>
hX 28 [(0,c),(1,e.1)] fun d=>
bO 28 a.1 (bN a.1 e.2 d) e.2 lo fun g=>
aK 28 a.1 g fun i=>some (Out.ret (A.tup [i,iA 0]),g)):=r7
theorem V8 (l o:A):aF (cx C) call rg n 19 [l,o] H lo =
gz l H fun b=>
gz o b.2 fun d=>
eb 28 d.2 fun a=>
aK 28 b.1 a.2 fun x=>
(C 20 [snap a.2 x]).bind fun p=>
aX .neq 32 false true p (iA 0) fun y=>aW y (aK 28 a.1 a.2 fun h=>
bO 28 a.1 (bN a.1 a.2 h) a.2 lo fun q=>
aK 28 a.1 q fun i=>some (Out.ret (A.tup [i,p]),q)) (aK 46 d.1 a.2 fun h=>
fl 28 b.1 1 26 a.2 fun i=>
ee 26 i a.2 fun z=>
(C 52 [snap a.2 h,snap a.2 z]).bind fun a0=>
(jj prog UnOp.not a0).bind fun a1=>aW a1 (aK 28 a.1 a.2 fun f=>
bO 28 a.1 (bN a.1 a.2 f) a.2 lo fun r=>
aK 28 a.1 r fun g=>some (Out.ret (A.tup [g,iA 1]),r)) (bU 28 b.1 0 a.2 fun f=>
aK 25 f a.2 fun a2=>
bU 46 d.1 1 a.2 fun g=>
aK 3 g a.2 fun a3=>
aX .add 3 false true a3 (iA 1) fun a4=>
aK 46 d.1 a.2 fun a5=>
hX 72 [(0,iA 1),(1,a5)] fun a6=>
(C 54 [snap a.2 a6]).bind fun a7=>
hX 68 [(1,a4),(2,a7)] fun a8=>
(C 53 [snap a.2 a2,snap a.2 a8]).bind fun s=>
dw s 0 fun a9=>
dw s 1 fun t=>bif bif apart d.1 A.any then bif apart g A.any then bif apart d.1 A.any then bif apart f A.any then bif apart b.1 A.any then true else false else false else false else false else false then
eb 25 a.2 fun e=>
bO 25 e.1 (bN e.1 e.2 a9) e.2 lo fun c=>
aX .neq 32 false true t (iA 0) fun aa=>aW aa (aK 28 a.1 c fun j=>
bO 28 a.1 (bN a.1 c j) c lo fun u=>
aK 28 a.1 u fun ab=>some (Out.ret (A.tup [ab,t]),u)) (aK 25 e.1 c fun j=>
bU 28 b.1 0 c fun v=>
bO 25 v (bN v c j) c lo fun k=>
aK 28 b.1 k fun ad=>
bO 28 a.1 (bN a.1 k ad) k lo fun w=>
aK 28 a.1 w fun ae=>some (Out.ret (A.tup [ae,iA 0]),w)) else none)):=r7
theorem V9 (f:A):aF (cx C) call rg n 20 [f] H lo =
gz f H fun a=>
fl 28 a.1 1 26 a.2 fun t2=>
ee 26 t2 a.2 fun g=>
(C 23 [snap a.2 g,snap a.2 (iA 1),snap a.2 (iA 12)]).bind fun v=>
(jj prog UnOp.not v).bind fun w=>
(cC w (some [bA true,ud,ud,ud,ud]) (bU 28 a.1 2 a.2 fun h=>
aK 3 h a.2 fun i=>
(C 23 [snap a.2 i,snap a.2 (iA 0),snap a.2 (iA 4096)]).bind fun j=>
(jj prog UnOp.not j).bind fun k=>some [k,k,j,i,h])).bind fun x=>dH x fun y u8 u9 a8 z=>bl z fun a9 aa=>
(cC y (some [bA true,ud,ud,ud,ud]) (bU 28 a.1 0 a.2 fun l=>
aK 25 l a.2 fun o=>
(C 55 [snap a.2 o]).bind fun p=>
aX .neq 32 false true p (iA 0) fun q=>some [q,q,p,o,l])).bind fun a0=>dH a0 fun a1 ab ad ae a2=>bl a2 fun af ag=>aW a1 (some (Out.ret (iA 490),a.2)) (fl 28 a.1 1 26 a.2 fun r=>
ee 26 r a.2 fun a3=>aN (cx C) call rg n 20 lo 0 (List.length a.2) (fun c b=>bif Nat.beq c 0 then
bU 28 (lk b 1) 0 (St.H b) fun a4=>
fl 25 a4 0 22 (St.H b) fun s=>
ee 22 s (St.H b) fun a5=>aN (cx C) call rg n 20 lo 1 (List.length (St.H b)) (fun d e=>bif Nat.beq d 2 then some (Out.ret (iA 0),St.H e) else none) (fun d e=>none) (fun t=>some (Out.ret (lk t 2),St.H t)) (fun d e=>some (Out.pan d,St.H e)) n (St.mk [(1,lk b 1),(2,lk b 2),(3,lk b 3),(48,s),(49,a5),(50,iA 0)] (St.H b)) else none) (fun c b=>none) (fun u=>some (Out.ret (lk u 2),St.H u)) (fun c b=>some (Out.pan c,St.H b)) n (St.mk [(1,a.1),(2,iA 0),(3,g),(31,r),(32,a3),(33,iA 0)] a.2)):=r7
theorem Wa (c d:A):aF (cx C) call rg n 21 [c,d] H lo =
ee 26 c H fun f=>
ee 26 d H fun g=>
aX .neq 3 false false f g fun t2=>aW t2 (some (Out.ret (bA false),H)) (aN (cx C) call rg n 21 lo 0 (List.length H) (fun a b=>bif Nat.beq a 0 then some (Out.ret (bA true),St.H b) else none) (fun a b=>none) (fun e=>some (Out.ret (lk e 4),St.H e)) (fun a b=>some (Out.pan a,St.H b)) n (St.mk [(0,c),(1,d),(4,bA false),(5,iA 0)] H)):=r7
theorem Wb (b:A):aF (cx C) call rg n 22 [b] H lo =
gz b H fun a=>
fl 25 a.1 0 22 a.2 fun t2=>
ee 22 t2 a.2 fun g=>
aX .leq 3 false true g (iA 40) fun h=>
(cC h (bU 25 a.1 1 a.2 fun c=>
aK 23 c a.2 fun d=>
ee 23 d a.2 fun e=>
aX .leq 3 false true e (iA 40) fun f=>some [f,f,e,d,c]) (some [bA false,ud,ud,ud,ud])).bind fun i=>dH i fun j l o p k=>bl k fun q r=>some (Out.ret j,a.2):=r7
theorem Wc (a c b:A):aF (cx C) call rg n 23 [a,c,b] H lo =
aX .leq 3 false false c a fun e=>
(cC e (aX .leq 3 false false a b fun d=>some [d,d,b,a]) (some [bA false,ud,ud,ud])).bind fun f=>dH f fun g h u4 i j=>some (Out.ret g,H):=r7
theorem Wd (f:A):aF (cx C) call rg n 28 [f] H lo =
gz f H fun a=>
fl 28 a.1 1 26 a.2 fun t2=>
ee 26 t2 a.2 fun w=>
aX .lss 3 false true w (iA 1) fun x=>
(cC x (some [bA true,ud,ud,ud,ud]) (bU 28 a.1 1 a.2 fun g=>
aK 26 g a.2 fun h=>
ee 26 h a.2 fun i=>
aX .gtr 3 false true i (iA 12) fun j=>some [j,j,i,h,g])).bind fun y=>dH y fun z u7 u8 u9 l9=>bl l9 fun aa ab=>
(cC z (some [bA true,ud,ud,ud,ud]) (bU 28 a.1 2 a.2 fun k=>
aK 3 k a.2 fun l=>
(C 60 [snap a.2 l,snap a.2 (iA 0),snap a.2 (iA 4096)]).bind fun o=>
(jj prog UnOp.not o).bind fun p=>some [p,p,o,l,k])).bind fun a1=>dH a1 fun a2 ad ae af a3=>bl a3 fun ag ah=>
(cC a2 (some [bA true,ud,ud,ud,ud]) (bU 28 a.1 0 a.2 fun q=>
aK 25 q a.2 fun r=>
(C 61 [snap a.2 r]).bind fun s=>
aX .neq 32 false true s (iA 0) fun t=>some [t,t,s,r,q])).bind fun a4=>dH a4 fun a5 ai aj ak a6=>bl a6 fun al am=>aW a5 (some (Out.ret (iA 490),a.2)) (aN (cx C) call rg n 28 lo 0 (List.length a.2) (fun c b=>bif Nat.beq c 0 then aN (cx C) call rg n 28 lo 1 (List.length (St.H b)) (fun d e=>bif Nat.beq d 2 then some (Out.ret (iA 0),St.H e) else none) (fun d e=>none) (fun u=>some (Out.ret (lk u 2),St.H u)) (fun d e=>some (Out.pan d,St.H e)) n (St.mk [(1,lk b 1),(2,lk b 2),(5,iA 0)] (St.H b)) else none) (fun c b=>none) (fun v=>some (Out.ret (lk v 2),St.H v)) (fun c b=>some (Out.pan c,St.H b)) n (St.mk [(1,a.1),(2,iA 0),(3,iA 0)] a.2)):=r7
theorem We (g h:A):aF (cx C) call rg n 35 [g,h] H lo =
gz g H fun c=>
gz h c.2 fun a=>
fl 25 c.1 0 22 a.2 fun t=>
ee 22 t a.2 fun u=>
fl 25 a.1 0 22 a.2 fun v=>
ee 22 v a.2 fun w=>
aX .neq 3 false false u w fun x=>
(cC x (some [bA true,ud,ud,ud,ud,ud,ud,ud]) (bU 25 c.1 1 a.2 fun i=>
aK 23 i a.2 fun j=>
ee 23 j a.2 fun k=>
bU 25 a.1 1 a.2 fun l=>
aK 23 l a.2 fun o=>
ee 23 o a.2 fun p=>
aX .neq 3 false false k p fun q=>some [q,q,p,o,l,k,j,i])).bind fun y=>pK y fun z a0 a1 a2 a3 a4 a5 a6 a7=>aW z (some (Out.ret (bA false),a.2)) (aN (cx C) call rg n 35 lo 0 (List.length a.2) (fun d b=>bif Nat.beq d 0 then aN (cx C) call rg n 35 lo 1 (List.length (St.H b)) (fun e f=>bif Nat.beq e 2 then some (Out.ret (bA true),St.H f) else none) (fun e f=>none) (fun r=>some (Out.ret (lk r 4),St.H r)) (fun e f=>some (Out.pan e,St.H f)) n (St.mk [(2,lk b 2),(3,lk b 3),(4,lk b 4),(6,iA 0)] (St.H b)) else none) (fun d b=>none) (fun s=>some (Out.ret (lk s 4),St.H s)) (fun d b=>some (Out.pan d,St.H b)) n (St.mk [(2,c.1),(3,a.1),(4,bA false),(5,iA 0)] a.2)):=r7
theorem Wf (p f:A):aF (cx C) call rg n 36 [p,f] H lo =
gz p H fun e=>
eb 68 e.2 fun a=>
eb 25 a.2 fun c=>
aK 25 e.1 c.2 fun v=>
(C 68 [snap c.2 v,snap c.2 f]).bind fun q=>
dw q 0 fun w=>
dw q 1 fun r=>
bO 68 a.1 (bN a.1 c.2 w) c.2 lo fun b=>
aX .neq 32 false true r (iA 0) fun x=>aW x (aK 68 a.1 b fun y=>
aK 25 c.1 b fun g=>bif bif apart c.1 a.1 then true else false then
bO 68 a.1 (bN a.1 b y) b lo fun s=>
bO 25 c.1 (bN c.1 s g) s lo fun h=>
aK 68 a.1 h fun z=>
aK 25 c.1 h fun i=>some (Out.ret (A.tup [z,i,r]),h) else none) (fl 25 e.1 1 23 b fun g=>
fl 68 a.1 0 3 b fun a0=>
fl 68 a.1 1 3 b fun i=>
(C 70 [snap b a0,snap b i]).bind fun a1=>
(C 69 [snap b g,snap b a1]).bind fun a2=>aW a2 (hX 68 [] fun j=>
bO 68 a.1 (bN a.1 b j) b lo fun d=>
aK 68 a.1 d fun k=>
aK 25 e.1 d fun a3=>
(C 71 [snap d a3,snap d f]).bind fun a4=>
bO 68 a.1 (bN a.1 d k) d lo fun t=>
bO 25 c.1 (bN c.1 t a4) t lo fun l=>
aK 68 a.1 l fun a5=>
aK 25 c.1 l fun a6=>some (Out.ret (A.tup [a5,a6,iA 0]),l)) (aK 68 a.1 b fun j=>
aK 25 e.1 b fun a7=>
(C 71 [snap b a7,snap b f]).bind fun k=>
bO 68 a.1 (bN a.1 b j) b lo fun u=>
bO 25 c.1 (bN c.1 u k) u lo fun o=>
aK 68 a.1 o fun a8=>
aK 25 c.1 o fun a9=>some (Out.ret (A.tup [a8,a9,iA 0]),o))):=r7
theorem Wg (l:A):aF (cx C) call rg n 37 [l] H lo =
eb 72 H fun b=>
(C 72 [snap b.2 l]).bind fun o=>
dw o 0 fun t2=>
dw o 1 fun t3=>
eb 108 b.2 fun e=>
bO 108 e.1 (bN e.1 e.2 t2) e.2 lo fun c=>
aX .neq 32 false true t3 (iA 0) fun t6=>
(cC t6 (some [bA true,ud,ud,ud]) (bU 108 e.1 0 c fun p=>
aK 3 p c fun q=>
aX .neq 3 false true q (iA 3) fun r=>some [r,r,q,p])).bind fun l7=>dH l7 fun u8 u9 ay az b0=>
(cC u8 (some [bA true,ud,ud,ud,ud]) (bU 108 e.1 3 c fun s=>
aK 106 s c fun t=>
ee 106 t c fun u=>
aX .eql 3 false true u (iA 0) fun v=>some [v,v,u,t,s])).bind fun ae=>dH ae fun af b1 b2 b3 ag=>bl ag fun b4 b5=>aW af (aK 72 b.1 c fun ah=>
bO 72 b.1 (bN b.1 c ah) c lo fun w=>
aK 72 b.1 w fun i=>some (Out.ret (A.tup [i,bA false]),w)) (fl 108 e.1 3 106 c fun ai=>
dx 106 ai (iA 0) c fun i=>
fl 108 i 1 3 c fun aj=>
bU 72 b.1 0 c fun x=>
bO 3 x (bN x c aj) c lo fun ak=>
(call 73 [b.1] ak lo).bind fun a=>dL a.1 (fun f=>
fl 72 b.1 0 3 a.2 fun al=>
aX .neq 3 false true al (iA 1) fun am=>
(cC am (bU 72 b.1 0 a.2 fun y=>
aK 3 y a.2 fun z=>
aX .neq 3 false true z (iA 2) fun a0=>some [a0,a0,z,y]) (some [bA false,ud,ud,ud])).bind fun an=>dH an fun ao b6 b7 b8 b9=>
(cC ao (some [bA true,ud,ud,ud,ud,ud,ud]) (bU 108 e.1 3 a.2 fun a1=>
aK 106 a1 a.2 fun a2=>
ee 106 a2 a.2 fun a3=>
ee 111 f a.2 fun a4=>
aX .neq 3 false false a3 a4 fun a5=>some [a5,a5,a4,f,a3,a2,a1])).bind fun ap=>dH ap fun aq ba bb bc ar=>fh ar fun bd be au=>bl au fun bf bg=>aW aq (aK 72 b.1 a.2 fun av=>
bO 72 b.1 (bN b.1 a.2 av) a.2 lo fun a6=>
aK 72 b.1 a6 fun j=>some (Out.ret (A.tup [j,bA false]),a6)) (fl 108 e.1 3 106 a.2 fun a7=>
ee 106 a7 a.2 fun j=>aN (cx C) call rg n 37 lo 0 (List.length a.2) (fun g d=>bif Nat.beq g 0 then
aK 72 (lk d 2) (St.H d) fun k=>
bO 72 (lk d 2) (bN (lk d 2) (St.H d) k) (St.H d) lo fun a8=>
aK 72 (lk d 2) a8 fun aw=>some (Out.ret (A.tup [aw,bA true]),a8) else none) (fun g d=>none) (fun h=>
aK 72 (lk h 2) (St.H h) fun k=>some (Out.ret (A.tup [k,lk h 3]),St.H h)) (fun g d=>some (Out.pan g,St.H d)) n (St.mk [(2,b.1),(3,bA false),(6,f),(53,a7),(54,j),(55,iA 0)] a.2))) fun f=>some (Out.pan f,a.2)):=r7
theorem Wh (c e f:A):aF (cx C) call rg n 38 [c,e,f] H lo =
ee 48 c H fun g=>aN (cx C) call rg n 38 lo 0 (List.length H) (fun b a=>bif Nat.beq b 0 then
aX .lss 3 false false (lk a 9) (lk a 8) fun t2=>
(cC t2 (dx 48 (lk a 0) (lk a 9) (St.H a) fun h=>
aK 46 h (St.H a) fun i=>qK (cx C) call (lk a 2) [i,lk a 1] (St.H a) fun j=>
aX .eql 3 false true j (iA 0) fun k=>some [k,k,j,lk a 1,i,h,lk a 9,lk a 0,lk a 2]) (some [bA false,ud,ud,ud,ud,ud,ud,ud,ud])).bind fun l=>pK l fun u4 p q r s t u v o=>bl o fun w x=>some (Out.ret (A.tup [lk a 9,u4]),St.H a) else none) (fun b a=>none) (fun d=>some (Out.ret (A.tup [lk d 6,lk d 7]),St.H d)) (fun b a=>some (Out.pan b,St.H a)) n (St.mk [(0,c),(1,e),(2,f),(6,iA 0),(7,bA false),(8,g),(9,iA 0),(10,g)] H):=r7
theorem Wi (b c:A):aF (cx C) call rg n 39 [b,c] H lo =
gz b H fun a=>
fl 46 a.1 2 3 a.2 fun t2=>
aX .sub 3 false false t2 c fun d=>some (Out.ret d,a.2):=r7
theorem Td (a:A):aF (cx C) call rg n 41 [a] H lo =
(I1 prog 48 a).bind fun c=>aW c (some (Out.ret (gx (500004 - 500000) (St.H (St.mk [(2,A.imm [] true),(4,c),(3,a),(2,A.imm [] true),(0,a)] H)) (look (St.fr (St.mk [(2,A.imm [] true),(4,c),(3,a),(2,A.imm [] true),(0,a)] H)) (Prod.fst (2,0,500005)))).1,(gx (500004 - 500000) (St.H (St.mk [(2,A.imm [] true),(4,c),(3,a),(2,A.imm [] true),(0,a)] H)) (look (St.fr (St.mk [(2,A.imm [] true),(4,c),(3,a),(2,A.imm [] true),(0,a)] H)) (Prod.fst (2,0,500005)))).2)) ((aP prog 48 0 []).bind fun d=>
(bK prog 48 48 true d a H lo).bind fun b=>some (Out.ret (gx (500004 - 500000) (St.H (St.mk [(2,b.1),(7,b.1),(6,a),(5,d),(4,c),(3,a),(2,A.imm [] true),(0,a)] b.2)) (look (St.fr (St.mk [(2,b.1),(7,b.1),(6,a),(5,d),(4,c),(3,a),(2,A.imm [] true),(0,a)] b.2)) (Prod.fst (2,0,500005)))).1,(gx (500004 - 500000) (St.H (St.mk [(2,b.1),(7,b.1),(6,a),(5,d),(4,c),(3,a),(2,A.imm [] true),(0,a)] b.2)) (look (St.fr (St.mk [(2,b.1),(7,b.1),(6,a),(5,d),(4,c),(3,a),(2,A.imm [] true),(0,a)] b.2)) (Prod.fst (2,0,500005)))).2)):=r7
theorem QJ (a:A):aF (cx C) call rg n 42 [a] H lo =
(I1 prog 26 a).bind fun c=>aW c (some (Out.ret (gx (500003 - 500000) (St.H (St.mk [(2,A.imm [] true),(4,c),(3,a),(2,A.imm [] true),(0,a)] H)) (look (St.fr (St.mk [(2,A.imm [] true),(4,c),(3,a),(2,A.imm [] true),(0,a)] H)) (Prod.fst (2,0,500004)))).1,(gx (500003 - 500000) (St.H (St.mk [(2,A.imm [] true),(4,c),(3,a),(2,A.imm [] true),(0,a)] H)) (look (St.fr (St.mk [(2,A.imm [] true),(4,c),(3,a),(2,A.imm [] true),(0,a)] H)) (Prod.fst (2,0,500004)))).2)) ((aP prog 26 0 []).bind fun d=>
(bK prog 26 26 true d a H lo).bind fun b=>some (Out.ret (gx (500003 - 500000) (St.H (St.mk [(2,b.1),(7,b.1),(6,a),(5,d),(4,c),(3,a),(2,A.imm [] true),(0,a)] b.2)) (look (St.fr (St.mk [(2,b.1),(7,b.1),(6,a),(5,d),(4,c),(3,a),(2,A.imm [] true),(0,a)] b.2)) (Prod.fst (2,0,500004)))).1,(gx (500003 - 500000) (St.H (St.mk [(2,b.1),(7,b.1),(6,a),(5,d),(4,c),(3,a),(2,A.imm [] true),(0,a)] b.2)) (look (St.fr (St.mk [(2,b.1),(7,b.1),(6,a),(5,d),(4,c),(3,a),(2,A.imm [] true),(0,a)] b.2)) (Prod.fst (2,0,500004)))).2)):=r7
theorem Wj (p g:A):aF (cx C) call rg n 43 [p,g] H lo =
gz p H fun e=>
eb 68 e.2 fun c=>
eb 25 c.2 fun a=>
aK 25 e.1 a.2 fun u=>
(C 76 [snap a.2 u,snap a.2 g]).bind fun q=>
aX .neq 32 false true q (iA 0) fun v=>aW v (hX 68 [] fun w=>
hX 25 [] fun h=>
bO 68 c.1 (bN c.1 a.2 w) a.2 lo fun r=>
bO 25 a.1 (bN a.1 r h) r lo fun i=>
aK 68 c.1 i fun x=>
aK 25 a.1 i fun y=>some (Out.ret (A.tup [x,y,q]),i)) (fl 25 e.1 0 22 a.2 fun h=>
dx 22 h g a.2 fun z=>
aK 68 z a.2 fun t9=>
eb 68 a.2 fun d=>
bO 68 d.1 (bN d.1 d.2 t9) d.2 lo fun b=>
aK 25 e.1 b fun a1=>
fl 68 d.1 0 3 b fun a2=>
fl 68 d.1 1 3 b fun a3=>
(C 77 [snap b a1,snap b a2,snap b a3]).bind fun a4=>aW a4 (hX 68 [] fun j=>
bO 68 d.1 (bN d.1 b j) b lo fun f=>
aK 68 d.1 f fun k=>
aK 25 e.1 f fun a5=>
(C 78 [snap f a5,snap f g]).bind fun a6=>
bO 68 c.1 (bN c.1 f k) f lo fun s=>
bO 25 a.1 (bN a.1 s a6) s lo fun l=>
aK 68 c.1 l fun a7=>
aK 25 a.1 l fun a8=>some (Out.ret (A.tup [a7,a8,iA 0]),l)) (aK 68 d.1 b fun j=>
aK 25 e.1 b fun a9=>
(C 78 [snap b a9,snap b g]).bind fun k=>
bO 68 c.1 (bN c.1 b j) b lo fun t=>
bO 25 a.1 (bN a.1 t k) t lo fun o=>
aK 68 c.1 o fun aa=>
aK 25 a.1 o fun ab=>some (Out.ret (A.tup [aa,ab,iA 0]),o))):=r7
theorem Wk (d:A):aF (cx C) call rg n 44 [d] H lo =
eb 39 H fun a=>
(C 79 [snap a.2 d]).bind fun e=>
dw e 0 fun t2=>
dw e 1 fun o=>
(jj prog UnOp.not o).bind fun p=>
(cC p (some [bA true,ud,ud,ud]) (ee 29 t2 a.2 fun f=>
aX .neq 3 false true f (iA 4) fun g=>some [g,g,f,t2])).bind fun q=>dH q fun r u7 u8 u9 l9=>
(cC r (some [bA true,ud,ud,ud,ud]) (dx 29 t2 (iA 0) a.2 fun h=>
aK 3 h a.2 fun i=>
aX .neq 3 false true i (iA 2) fun j=>some [j,j,i,h,t2])).bind fun s=>dH s fun t a5 a6 a7 u=>bl u fun a8 a9=>aW t (hX 39 [] fun b=>
bO 39 a.1 (bN a.1 a.2 b) a.2 lo fun k=>
aK 39 a.1 k fun c=>some (Out.ret (A.tup [c,bA false]),k)) (dx 29 t2 (iA 1) a.2 fun b=>
aK 3 b a.2 fun v=>
dx 29 t2 (iA 2) a.2 fun c=>
aK 3 c a.2 fun w=>
dx 29 t2 (iA 3) a.2 fun x=>
aK 3 x a.2 fun y=>
hX 39 [(0,v),(1,w),(2,y)] fun z=>
bO 39 a.1 (bN a.1 a.2 z) a.2 lo fun l=>
aK 39 a.1 l fun a0=>some (Out.ret (A.tup [a0,bA true]),l)):=r7
theorem Wl (d:A):aF (cx C) call rg n 45 [d] H lo =
eb 46 H fun a=>
(C 79 [snap a.2 d]).bind fun e=>
dw e 0 fun t2=>
dw e 1 fun o=>
(jj prog UnOp.not o).bind fun p=>
(cC p (some [bA true,ud,ud,ud]) (ee 29 t2 a.2 fun f=>
aX .neq 3 false true f (iA 5) fun g=>some [g,g,f,t2])).bind fun q=>dH q fun r u7 u8 u9 l9=>
(cC r (some [bA true,ud,ud,ud,ud]) (dx 29 t2 (iA 0) a.2 fun h=>
aK 3 h a.2 fun i=>
aX .neq 3 false true i (iA 1) fun j=>some [j,j,i,h,t2])).bind fun s=>dH s fun t a7 a8 a9 u=>bl u fun aa ab=>aW t (hX 46 [] fun b=>
bO 46 a.1 (bN a.1 a.2 b) a.2 lo fun k=>
aK 46 a.1 k fun c=>some (Out.ret (A.tup [c,bA false]),k)) (dx 29 t2 (iA 1) a.2 fun b=>
aK 3 b a.2 fun v=>
dx 29 t2 (iA 2) a.2 fun c=>
aK 3 c a.2 fun w=>
dx 29 t2 (iA 3) a.2 fun x=>
aK 3 x a.2 fun y=>
dx 29 t2 (iA 4) a.2 fun z=>
aK 3 z a.2 fun a0=>
hX 46 [(0,v),(1,w),(2,y),(3,a0)] fun a1=>
bO 46 a.1 (bN a.1 a.2 a1) a.2 lo fun l=>
aK 46 a.1 l fun a2=>some (Out.ret (A.tup [a2,bA true]),l)):=r7
theorem Wm (k l:A):aF (cx C) call rg n 46 [k,l] H lo =
gz l H fun d=>aN (cx C) call rg n 46 lo 0 (List.length d.2) (fun c a=>bif Nat.beq c 0 then
(aP prog 48 0 []).bind fun t2=>
(dA prog 48 (lk a 0) none (some (lk a 5)) none (St.H a)).bind fun w=>
(bK prog 48 48 false t2 w (St.H a) lo).bind fun b=>
ee 48 (lk a 0) b.2 fun x=>
aX .lss 3 false false (lk a 5) x fun o=>
ox o true (dx 48 (lk a 0) (lk a 5) b.2 fun p=>
bU 46 p 2 b.2 fun q=>
aK 3 q b.2 fun y=>
bU 46 (lk a 3) 2 b.2 fun r=>
aK 3 r b.2 fun z=>some [z,r,y,q,p,lk a 5,lk a 0]) (some [ud,ud,ud,ud,ud,ud,ud]) fun l7=>dH l7 fun u8 u9 a3 aj a4=>fh a4 fun ak al a5=>bl a5 fun am an=>
(cC o (aX .eql 3 false false a3 u8 fun s=>some [s,s]) (some [bA false,ud])).bind fun a6=>fh a6 fun a7 ao ap=>aW a7 (dx 48 (lk a 0) (lk a 5) b.2 fun e=>
fl 46 e 0 3 b.2 fun a8=>
fl 46 (lk a 3) 0 3 b.2 fun a9=>
aX .geq 3 false false a8 a9 fun aa=>aW aa (dx 48 (lk a 0) (lk a 5) b.2 fun f=>
aK 46 f b.2 fun g=>
bO 46 (lk a 3) (bN (lk a 3) b.2 g) b.2 lo fun h=>
aX .add 3 false true (lk a 5) (iA 1) fun ab=>
aK 46 (lk a 3) h fun i=>
(aP prog 48 1 [(0,di h i)]).bind fun ad=>
(bK prog 48 48 false b.1 ad h lo).bind fun BW=>
(dA prog 48 (lk a 0) (some ab) none none BW.2).bind fun ae=>
(bK prog 48 48 false BW.1 ae BW.2 lo).bind fun t=>some (Out.ret t.1,t.2)) (aX .add 3 false true (lk a 5) (iA 1) fun f=>
aK 46 (lk a 3) b.2 fun g=>
(aP prog 48 1 [(0,di b.2 g)]).bind fun af=>
(bK prog 48 48 false b.1 af b.2 lo).bind fun KB=>
(dA prog 48 (lk a 0) (some f) none none KB.2).bind fun i=>
(bK prog 48 48 false KB.1 i KB.2 lo).bind fun ME=>some (Out.ret ME.1,ME.2))) (aK 46 (lk a 3) b.2 fun e=>
(aP prog 48 1 [(0,di b.2 e)]).bind fun ag=>
(bK prog 48 48 false b.1 ag b.2 lo).bind fun j=>
(dA prog 48 (lk a 0) (some (lk a 5)) none none j.2).bind fun ah=>
(bK prog 48 48 false j.1 ah j.2 lo).bind fun u=>some (Out.ret u.1,u.2)) else none) (fun c a=>none) (fun v=>some (Out.ret (lk v 4),St.H v)) (fun c a=>some (Out.pan c,St.H a)) n (St.mk [(0,k),(3,d.1),(4,A.imm [] true),(5,iA 0)] d.2):=r7
theorem Wn (e b:A):aF (cx C) call rg n 47 [e,b] H lo =
gz e H fun c=>
eb 25 c.2 fun a=>
aK 25 c.1 a.2 fun t2=>
(C 68 [snap a.2 t2,snap a.2 b]).bind fun f=>
dw f 0 fun p=>
dw f 1 fun g=>
aX .neq 32 false true g (iA 0) fun j=>aW j (aK 25 a.1 a.2 fun d=>
bO 25 a.1 (bN a.1 a.2 d) a.2 lo fun h=>
aK 25 a.1 h fun k=>some (Out.ret (A.tup [k,g]),h)) (aK 25 c.1 a.2 fun d=>
(C 71 [snap a.2 d,snap a.2 b]).bind fun l=>
bO 25 a.1 (bN a.1 a.2 l) a.2 lo fun i=>
aK 25 a.1 i fun o=>some (Out.ret (A.tup [o,iA 0]),i)):=r7
theorem Wo (e b:A):aF (cx C) call rg n 48 [e,b] H lo =
gz e H fun c=>
eb 25 c.2 fun a=>
aK 25 c.1 a.2 fun t2=>
(C 76 [snap a.2 t2,snap a.2 b]).bind fun f=>
aX .neq 32 false true f (iA 0) fun i=>aW i (hX 25 [] fun d=>
bO 25 a.1 (bN a.1 a.2 d) a.2 lo fun g=>
aK 25 a.1 g fun j=>some (Out.ret (A.tup [j,f]),g)) (aK 25 c.1 a.2 fun d=>
(C 78 [snap a.2 d,snap a.2 b]).bind fun k=>
bO 25 a.1 (bN a.1 a.2 k) a.2 lo fun h=>
aK 25 a.1 h fun l=>some (Out.ret (A.tup [l,iA 0]),h)):=r7
theorem Wp (g h:A):aF (cx C) call rg n 49 [g,h] H lo =
gz g H fun e=>
eb 25 e.2 fun a=>
aK 25 e.1 a.2 fun t2=>
(C 68 [snap a.2 t2,snap a.2 h]).bind fun i=>
dw i 0 fun o=>
dw i 1 fun j=>
eb 68 a.2 fun c=>
bO 68 c.1 (bN c.1 c.2 o) c.2 lo fun b=>
aX .neq 32 false true j (iA 0) fun p=>aW p (aK 25 a.1 b fun f=>
bO 25 a.1 (bN a.1 b f) b lo fun k=>
aK 25 a.1 k fun d=>some (Out.ret (A.tup [d,j]),k)) (aK 25 e.1 b fun f=>
aK 68 c.1 b fun q=>
(C 53 [snap b f,snap b q]).bind fun d=>
dw d 0 fun r=>
dw d 1 fun s=>
bO 25 a.1 (bN a.1 b r) b lo fun l=>
aK 25 a.1 l fun t=>some (Out.ret (A.tup [t,s]),l)):=r7
theorem Wq (f c:A):aF (cx C) call rg n 50 [f,c] H lo =
gz f H fun b=>
eb 25 b.2 fun a=>
aK 25 b.1 a.2 fun t2=>
(C 76 [snap a.2 t2,snap a.2 c]).bind fun g=>
aX .neq 32 false true g (iA 0) fun k=>aW k (hX 25 [] fun d=>
bO 25 a.1 (bN a.1 a.2 d) a.2 lo fun h=>
aK 25 a.1 h fun e=>some (Out.ret (A.tup [e,g]),h)) (aK 25 b.1 a.2 fun d=>
fl 25 b.1 0 22 a.2 fun e=>
dx 22 e c a.2 fun l=>
aK 68 l a.2 fun o=>
(C 65 [snap a.2 d,snap a.2 o]).bind fun i=>
dw i 0 fun p=>
dw i 1 fun q=>
bO 25 a.1 (bN a.1 a.2 p) a.2 lo fun j=>
aK 25 a.1 j fun r=>some (Out.ret (A.tup [r,q]),j)):=r7
theorem Wr:aF (cx C) call rg n 51 [] H lo =
eb 25 H fun a=>
aK 25 a.1 a.2 fun c=>
bO 25 a.1 (bN a.1 a.2 c) a.2 lo fun b=>
aK 25 a.1 b fun d=>some (Out.ret d,b):=r7
theorem Ws (c b:A):aF (cx C) call rg n 52 [c,b] H lo =
gz c H fun a=>
fl 46 a.1 0 3 a.2 fun t2=>
(C 23 [snap a.2 t2,snap a.2 (iA 0),snap a.2 (iA 1048576)]).bind fun p=>
(cC p (bU 46 a.1 1 a.2 fun d=>
aK 3 d a.2 fun e=>
aX .sub 3 false true b (iA 1) fun f=>
(C 23 [snap a.2 e,snap a.2 (iA 0),snap a.2 f]).bind fun g=>some [g,g,f,b,e,d]) (some [bA false,ud,ud,ud,ud,ud])).bind fun q=>dH q fun r x y z s=>fh s fun u9 a1 a2=>
(cC r (bU 46 a.1 2 a.2 fun h=>
aK 3 h a.2 fun i=>
(C 23 [snap a.2 i,snap a.2 (iA 0),snap a.2 (iA 4095)]).bind fun j=>some [j,j,i,h]) (some [bA false,ud,ud,ud])).bind fun t=>dH t fun u a3 a4 a5 a6=>
(cC u (bU 46 a.1 3 a.2 fun k=>
aK 3 k a.2 fun l=>
(C 23 [snap a.2 l,snap a.2 (iA 1),snap a.2 (iA 8)]).bind fun o=>some [o,o,l,k]) (some [bA false,ud,ud,ud])).bind fun v=>dH v fun w a7 a8 a9 aa=>some (Out.ret w,a.2):=r7
theorem Wt (g h:A):aF (cx C) call rg n 53 [g,h] H lo =
gz g H fun b=>
gz h b.2 fun d=>
eb 25 d.2 fun a=>
aK 25 b.1 a.2 fun r=>
(C 55 [snap a.2 r]).bind fun s=>
aX .neq 32 false true s (iA 0) fun t=>
(cC t (some [bA true,ud,ud,ud]) (aK 68 d.1 a.2 fun i=>
(C 80 [snap a.2 i]).bind fun j=>
(jj prog UnOp.not j).bind fun k=>some [k,k,j,i])).bind fun u=>dH u fun v u8 u9 ae af=>aW v (aK 25 a.1 a.2 fun w=>
bO 25 a.1 (bN a.1 a.2 w) a.2 lo fun l=>
aK 25 a.1 l fun e=>some (Out.ret (A.tup [e,iA 60]),l)) (fl 25 b.1 0 22 a.2 fun x=>
ee 22 x a.2 fun e=>
aX .eql 3 false true e (iA 4096) fun y=>aW y (aK 25 a.1 a.2 fun z=>
bO 25 a.1 (bN a.1 a.2 z) a.2 lo fun o=>
aK 25 a.1 o fun a0=>some (Out.ret (A.tup [a0,iA 2]),o)) (fl 25 b.1 0 22 a.2 fun a1=>
fl 25 b.1 0 22 a.2 fun a2=>
ee 22 a2 a.2 fun a3=>
fl 25 b.1 0 22 a.2 fun a4=>
ee 22 a4 a.2 fun a5=>
(dA prog 22 a1 none (some a3) (some a5) a.2).bind fun a6=>
aK 68 d.1 a.2 fun a7=>
(aP prog 22 1 [(0,di a.2 a7)]).bind fun a8=>
(bK prog 22 22 false a6 a8 a.2 lo).bind fun c=>
bU 25 b.1 0 c.2 fun p=>
bO 22 p (bN p c.2 c.1) c.2 lo fun f=>
aK 25 b.1 f fun a9=>
bO 25 a.1 (bN a.1 f a9) f lo fun q=>
aK 25 a.1 q fun aa=>some (Out.ret (A.tup [aa,iA 0]),q))):=r7
theorem Wu (f:A):aF (cx C) call rg n 54 [f] H lo =
gz f H fun g=>
hX 108 [(0,iA 3)] fun j=>
eb 108 g.2 fun a=>
bO 108 a.1 (bN a.1 a.2 j) a.2 lo fun k=>
(call 73 [g.1] k lo).bind fun c=>dL c.1 (fun d=>
ee 111 d c.2 fun l=>aN (cx C) call rg n 54 lo 0 (List.length (eM lo 3 5 a.1 c.2)) (fun e b=>bif Nat.beq e 0 then
aK 108 (lk b 3) (St.H b) fun o=>
(C 81 [snap (St.H b) o]).bind fun h=>
dw h 0 fun p=>
dw h 1 fun q=>some (Out.ret p,St.H b) else none) (fun e b=>none) (fun i=>some (Out.ret (lk i 2),St.H i)) (fun e b=>some (Out.pan e,St.H b)) n (St.mk [(2,A.imm [] true),(3,a.1),(9,d),(10,l),(11,iA 0)] (eM lo 3 5 a.1 c.2))) fun d=>some (Out.pan d,c.2):=r7
theorem Wv (d:A):aF (cx C) call rg n 55 [d] H lo =
gz d H fun a=>
fl 25 a.1 0 22 a.2 fun t2=>
ee 22 t2 a.2 fun j=>
aX .gtr 3 false true j (iA 4096) fun k=>
(cC k (some [bA true,ud,ud,ud]) (bU 25 a.1 0 a.2 fun e=>
aK 22 e a.2 fun f=>
(C 82 [snap a.2 f,snap a.2 (A.fn (Fn.func 83) [] [])]).bind fun g=>some [g,g,f,e])).bind fun l=>dH l fun o q r s t=>aW o (some (Out.ret (iA 60),a.2)) (fl 25 a.1 1 23 a.2 fun h=>
ee 23 h a.2 fun p=>aN (cx C) call rg n 55 lo 0 (List.length a.2) (fun b c=>bif Nat.beq b 0 then some (Out.ret (iA 0),St.H c) else none) (fun b c=>none) (fun i=>some (Out.ret (lk i 2),St.H i)) (fun b c=>some (Out.pan b,St.H c)) n (St.mk [(1,a.1),(2,iA 0),(15,h),(16,p),(17,iA 0)] a.2)):=r7
theorem Ww (g h i c:A):aF (cx C) call rg n 56 [g,h,i,c] H lo =
gz g H fun a=>
fl 50 a.1 1 29 a.2 fun t2=>
ee 29 t2 a.2 fun t=>
aX .neq 3 false false t c fun u=>
(cC u (some [bA true,ud,ud,ud,ud,ud]) (bU 50 a.1 2 a.2 fun j=>
aK 29 j a.2 fun k=>
ee 29 k a.2 fun l=>
aX .neq 3 false false l c fun o=>some [o,o,c,l,k,j])).bind fun v=>dH v fun w u7 u8 u9 x=>fh x fun a3 a4 a5=>aW w (some (Out.ret (bA false),a.2)) (fl 50 a.1 1 29 a.2 fun p=>
ee 29 p a.2 fun y=>aN (cx C) call rg n 56 lo 0 (List.length a.2) (fun d b=>bif Nat.beq d 0 then
fl 50 (lk b 4) 0 48 (St.H b) fun q=>
ee 48 q (St.H b) fun z=>aN (cx C) call rg n 56 lo 1 (List.length (St.H b)) (fun e f=>bif Nat.beq e 2 then some (Out.ret (bA true),St.H f) else none) (fun e f=>none) (fun r=>some (Out.ret (lk r 8),St.H r)) (fun e f=>some (Out.pan e,St.H f)) n (St.mk [(1,lk b 1),(2,lk b 2),(8,lk b 8),(11,lk b 3),(57,q),(58,z),(59,iA 0)] (St.H b)) else none) (fun d b=>none) (fun s=>some (Out.ret (lk s 8),St.H s)) (fun d b=>some (Out.pan d,St.H b)) n (St.mk [(1,h),(2,i),(3,c),(4,a.1),(8,bA false),(27,p),(28,y),(29,iA 0)] a.2)):=r7
theorem Wx (c d:A):aF (cx C) call rg n 57 [c,d] H lo =
ee 29 c H fun f=>
ee 29 d H fun g=>
aX .neq 3 false false f g fun t2=>aW t2 (some (Out.ret (bA false),H)) (aN (cx C) call rg n 57 lo 0 (List.length H) (fun a b=>bif Nat.beq a 0 then some (Out.ret (bA true),St.H b) else none) (fun a b=>none) (fun e=>some (Out.ret (lk e 4),St.H e)) (fun a b=>some (Out.pan a,St.H b)) n (St.mk [(0,c),(1,d),(4,bA false),(5,iA 0)] H)):=r7
theorem Wy (a c b:A):aF (cx C) call rg n 60 [a,c,b] H lo =
aX .geq 3 false false a c fun e=>
(cC e (aX .leq 3 false false a b fun d=>some [d,d,b,a]) (some [bA false,ud,ud,ud])).bind fun f=>dH f fun g h u4 i j=>some (Out.ret g,H):=r7
theorem Wz (f:A):aF (cx C) call rg n 61 [f] H lo =
gz f H fun a=>
fl 25 a.1 0 22 a.2 fun t2=>
ee 22 t2 a.2 fun i=>
aX .gtr 3 false true i (iA 4096) fun j=>aW j (some (Out.ret (iA 60),a.2)) (aN (cx C) call rg n 61 lo 0 (List.length a.2) (fun c b=>bif Nat.beq c 0 then aN (cx C) call rg n 61 lo 1 (List.length (St.H b)) (fun d e=>bif Nat.beq d 2 then some (Out.ret (iA 0),St.H e) else none) (fun d e=>none) (fun g=>some (Out.ret (lk g 2),St.H g)) (fun d e=>some (Out.pan d,St.H e)) n (St.mk [(1,lk b 1),(2,lk b 2),(4,iA 0)] (St.H b)) else none) (fun c b=>none) (fun h=>some (Out.ret (lk h 2),St.H h)) (fun c b=>some (Out.pan c,St.H b)) n (St.mk [(1,a.1),(2,iA 0),(3,iA 0)] a.2)):=r7
theorem WA (i h:A):aF (cx C) call rg n 62 [i,h] H lo =
gz i H fun c=>
fl 28 c.1 1 26 c.2 fun t2=>
dx 26 t2 h c.2 fun t=>
aK 50 t c.2 fun u=>
eb 50 c.2 fun d=>
bO 50 d.1 (bN d.1 d.2 u) d.2 lo fun a=>
fl 50 d.1 1 29 a fun v=>
ee 29 v a fun w=>
fl 28 c.1 2 3 a fun x=>
aX .neq 3 false false w x fun y=>
(cC y (some [bA true,ud,ud,ud,ud,ud,ud]) (bU 50 d.1 2 a fun j=>
aK 29 j a fun k=>
ee 29 k a fun l=>
bU 28 c.1 2 a fun o=>
aK 3 o a fun p=>
aX .neq 3 false false l p fun q=>some [q,q,p,o,l,k,j])).bind fun z=>dH z fun a0 a3 a4 a5 a1=>fh a1 fun a6 a7 a2=>bl a2 fun a8 a9=>aW a0 (some (Out.ret (bA false),a)) (aN (cx C) call rg n 62 lo 0 (List.length a) (fun e b=>bif Nat.beq e 0 then aN (cx C) call rg n 62 lo 1 (List.length (St.H b)) (fun f g=>bif Nat.beq f 2 then some (Out.ret (bA true),St.H g) else none) (fun f g=>none) (fun r=>some (Out.ret (lk r 4),St.H r)) (fun f g=>some (Out.pan f,St.H g)) n (St.mk [(1,lk b 1),(2,lk b 2),(4,lk b 4),(5,lk b 5),(7,iA 0)] (St.H b)) else none) (fun e b=>none) (fun s=>some (Out.ret (lk s 4),St.H s)) (fun e b=>some (Out.pan e,St.H b)) n (St.mk [(1,h),(2,c.1),(4,bA false),(5,d.1),(6,iA 0)] a)):=r7
theorem WB (z x1:A):aF (cx C) call rg n 63 [z,x1] H lo =
gz z H fun o=>
gz x1 o.2 fun c=>
fl 28 o.1 1 26 c.2 fun t3=>
ee 26 t3 c.2 fun p=>
fl 68 c.1 0 3 c.2 fun t6=>
aX .eql 3 false true t6 (iA 0) fun t7=>aW t7 (fl 68 c.1 2 66 c.2 fun q=>
(C 45 [snap c.2 q]).bind fun d=>
dw d 0 fun r=>
dw d 1 fun s=>
eb 46 c.2 fun b=>
bO 46 b.1 (bN b.1 b.2 r) b.2 lo fun a=>
(cC s (aK 46 b.1 a fun e=>
(C 88 [snap a e,snap a p]).bind fun f=>some [f,f,p,e]) (some [bA false,ud,ud,ud])).bind fun t=>dH t fun u av aw ax ay=>
(cC u (bU 68 c.1 1 a fun g=>
aK 3 g a fun h=>
bU 46 b.1 1 a fun i=>
aK 3 i a fun j=>
aX .add 3 false true j (iA 1) fun k=>
aX .eql 3 false false h k fun l=>some [l,l,k,j,i,h,g]) (some [bA false,ud,ud,ud,ud,ud,ud])).bind fun v=>dH v fun w az b0 b1 x=>fh x fun b2 b3 y=>bl y fun b4 b5=>some (Out.ret w,a)) (fl 68 c.1 2 66 c.2 fun q=>
(C 44 [snap c.2 q]).bind fun d=>
dw d 0 fun r=>
dw d 1 fun s=>
eb 39 c.2 fun b=>
bO 39 b.1 (bN b.1 b.2 r) b.2 lo fun a=>
(cC s (bU 68 c.1 1 a fun e=>
aK 3 e a fun f=>
aX .eql 3 false true f (iA 0) fun a1=>some [a1,a1,f,e]) (some [bA false,ud,ud,ud])).bind fun t=>dH t fun u av aw ax ay=>
(cC u (bU 68 c.1 0 a fun g=>
aK 3 g a fun h=>
bU 39 b.1 0 a fun i=>
aK 3 i a fun j=>
aX .add 3 false true j (iA 1) fun k=>
aX .eql 3 false false h k fun l=>some [l,l,k,j,i,h,g]) (some [bA false,ud,ud,ud,ud,ud,ud])).bind fun v=>dH v fun w az b0 b1 x=>fh x fun b2 b3 y=>bl y fun b4 b5=>
(cC w (bU 39 b.1 0 a fun a2=>
aK 3 a2 a fun a3=>
aX .sub 3 false true p (iA 1) fun a4=>
(C 60 [snap a a3,snap a (iA 0),snap a a4]).bind fun a5=>some [a5,a5,a4,p,a3,a2]) (some [bA false,ud,ud,ud,ud,ud])).bind fun b6=>dH b6 fun b7 bm bn bo b8=>fh b8 fun bp bq br=>
(cC b7 (bU 39 b.1 1 a fun a6=>
aK 3 a6 a fun a7=>
bU 28 o.1 2 a fun a8=>
aK 3 a8 a fun a9=>
aX .sub 3 false true a9 (iA 1) fun aa=>
(C 60 [snap a a7,snap a (iA 0),snap a aa]).bind fun ab=>some [ab,ab,aa,a9,a8,a7,a6]) (some [bA false,ud,ud,ud,ud,ud,ud])).bind fun b9=>dH b9 fun ad bs bt bu ba=>fh ba fun bv bw bb=>bl bb fun bx bz=>
ox ad true (bU 28 o.1 1 a fun ae=>
aK 26 ae a fun af=>
bU 39 b.1 0 a fun ag=>
aK 3 ag a fun ah=>
dx 26 af ah a fun ai=>
bU 50 ai 2 a fun aj=>
aK 29 aj a fun ak=>
bU 39 b.1 1 a fun al=>
aK 3 al a fun am=>
dx 29 ak am a fun an=>
aK 3 an a fun bc=>
bU 39 b.1 2 a fun ao=>
aK 3 ao a fun bd=>some [bd,ao,bc,an,am,al,ak,aj,ai,ah,ag,af,ae]) (some [ud,ud,ud,ud,ud,ud,ud,ud,ud,ud,ud,ud,ud]) fun be=>pK be fun bf c0 bg c1 c2 c3 c4 c5 bh=>dH bh fun c6 c7 c8 c9 bi=>bl bi fun ca cb=>
(cC ad (aX .eql 3 false false bg bf fun ap=>some [ap,ap]) (some [bA false,ud])).bind fun bj=>fh bj fun bk cc cd=>some (Out.ret bk,a)):=r7
theorem WC (j k:A):aF (cx C) call rg n 65 [j,k] H lo =
gz j H fun b=>
gz k b.2 fun c=>
eb 25 c.2 fun a=>
aK 25 b.1 a.2 fun v=>
(C 61 [snap a.2 v]).bind fun w=>
aX .neq 32 false true w (iA 0) fun x=>
(cC x (some [bA true,ud,ud,ud]) (aK 68 c.1 a.2 fun l=>
(C 86 [snap a.2 l]).bind fun o=>
(jj prog UnOp.not o).bind fun p=>some [p,p,o,l])).bind fun y=>dH y fun z u8 u9 a8 a9=>aW z (hX 25 [] fun a0=>
bO 25 a.1 (bN a.1 a.2 a0) a.2 lo fun q=>
aK 25 a.1 q fun g=>some (Out.ret (A.tup [g,iA 60]),q)) (fl 25 b.1 0 22 a.2 fun a1=>
ee 22 a1 a.2 fun g=>
aX .eql 3 false true g (iA 4096) fun a2=>aW a2 (hX 25 [] fun d=>
bO 25 a.1 (bN a.1 a.2 d) a.2 lo fun r=>
aK 25 a.1 r fun h=>some (Out.ret (A.tup [h,iA 2]),r)) ((aP prog 22 0 []).bind fun d=>
fl 25 b.1 0 22 a.2 fun h=>
(bK prog 22 22 false d h a.2 lo).bind fun e=>bif bif apart c.1 d then true else false then
aK 68 c.1 e.2 fun s=>bif bif qt s then true else false then
(aP prog 22 1 [(0,di e.2 s)]).bind fun a3=>
(bK prog 22 22 false e.1 a3 e.2 lo).bind fun f=>
bU 25 b.1 0 f.2 fun t=>
bO 22 t (bN t f.2 f.1) f.2 lo fun i=>
aK 25 b.1 i fun a4=>
bO 25 a.1 (bN a.1 i a4) i lo fun u=>
aK 25 a.1 u fun a5=>some (Out.ret (A.tup [a5,iA 0]),u) else none else none)):=r7
theorem WD (c d:A):aF (cx C) call rg n 67 [c,d] H lo =
gz c H fun b=>
gz d b.2 fun a=>
fl 68 b.1 0 3 a.2 fun s=>
fl 68 a.1 0 3 a.2 fun t=>
aX .eql 3 false false s t fun u=>
(cC u (bU 68 b.1 1 a.2 fun e=>
aK 3 e a.2 fun f=>
bU 68 a.1 1 a.2 fun g=>
aK 3 g a.2 fun h=>
aX .eql 3 false false f h fun i=>some [i,i,h,g,f,e]) (some [bA false,ud,ud,ud,ud,ud])).bind fun v=>dH v fun w u9 a1 a2 x=>fh x fun a3 a4 a5=>
(cC w (bU 68 b.1 2 a.2 fun j=>
aK 66 j a.2 fun k=>
(bt prog 66 9 k a.2).bind fun l=>
bU 68 a.1 2 a.2 fun o=>
aK 66 o a.2 fun p=>
(bt prog 66 9 p a.2).bind fun q=>
aX .eql 9 false false l q fun r=>some [r,r,q,p,o,l,k,j]) (some [bA false,ud,ud,ud,ud,ud,ud,ud])).bind fun y=>pK y fun z a6 a7 a8 a9 aa ab ad ae=>some (Out.ret z,a.2):=r7
theorem WE (g b:A):aF (cx C) call rg n 68 [g,b] H lo =
gz g H fun c=>
eb 68 c.2 fun a=>
aK 25 c.1 a.2 fun t2=>
(C 55 [snap a.2 t2]).bind fun p=>
aX .neq 32 false true p (iA 0) fun q=>aW q (aK 68 a.1 a.2 fun e=>
bO 68 a.1 (bN a.1 a.2 e) a.2 lo fun h=>
aK 68 a.1 h fun d=>some (Out.ret (A.tup [d,iA 60]),h)) (aX .lss 3 false true b (iA 0) fun e=>
(cC e (some [bA true,ud,ud,ud,ud,ud]) (bU 25 c.1 0 a.2 fun i=>
aK 22 i a.2 fun d=>
ee 22 d a.2 fun j=>
aX .geq 3 false false b j fun k=>some [k,k,j,d,i,b])).bind fun r=>dH r fun s y z a0 t=>fh t fun a1 a2 a3=>aW s (aK 68 a.1 a.2 fun u=>
bO 68 a.1 (bN a.1 a.2 u) a.2 lo fun l=>
aK 68 a.1 l fun f=>some (Out.ret (A.tup [f,iA 1]),l)) (fl 25 c.1 0 22 a.2 fun v=>
dx 22 v b a.2 fun f=>
aK 68 f a.2 fun w=>
bO 68 a.1 (bN a.1 a.2 w) a.2 lo fun o=>
aK 68 a.1 o fun x=>some (Out.ret (A.tup [x,iA 0]),o))):=r7
theorem WG (b c:A):aF (cx C) call rg n 69 [b,c] H lo =
gz c H fun a=>
aK 99 a.1 a.2 fun d=>
(C 91 [snap a.2 b,snap a.2 d]).bind fun t2=>
aX .geq 3 false true t2 (iA 0) fun e=>some (Out.ret e,a.2):=r7
theorem WH (b c:A):aF (cx C) call rg n 70 [b,c] H lo =
eb 103 H fun a=>
(BV true b [c]).bind fun e=>
(BV false b [c]).bind fun t2=>
hX 103 [(0,e),(1,t2)] fun f=>
bO 103 a.1 (bN a.1 a.2 f) a.2 lo fun d=>
aK 103 a.1 d fun g=>some (Out.ret g,d):=r7
theorem WI (f c:A):aF (cx C) call rg n 71 [f,c] H lo =
gz f H fun b=>
eb 25 b.2 fun a=>
fl 25 b.1 0 22 a.2 fun i=>
(dA prog 22 i none (some c) (some c) a.2).bind fun j=>
fl 25 b.1 0 22 a.2 fun k=>
aX .add 3 false true c (iA 1) fun l=>
(dA prog 22 k (some l) none none a.2).bind fun o=>
(bK prog 22 22 false j o a.2 lo).bind fun d=>
bU 25 b.1 0 d.2 fun g=>
bO 22 g (bN g d.2 d.1) d.2 lo fun e=>
aK 25 b.1 e fun p=>
bO 25 a.1 (bN a.1 e p) e lo fun h=>
aK 25 a.1 h fun q=>some (Out.ret q,h):=r7
theorem WJ (x:A):aF (cx C) call rg n 72 [x] H lo =
eb 108 H fun a=>
eb 32 a.2 fun b=>
hX 130 [(0,x)] fun t2=>
gz t2 b.2 fun h=>
(call 93 [h.1,iA 0] h.2 lo).bind fun d=>dL d.1 (fun i=>
bO 108 a.1 (bN a.1 d.2 i) d.2 lo fun j=>
jt h.1 j fun e=>
fl 130 e 0 66 j fun t9=>
ee 66 t9 j fun a3=>
aX .eql 3 false true a3 (iA 0) fun k=>
(call 94 [h.1,k] j lo).bind fun c=>dL c.1 (fun l=>
aK 108 a.1 c.2 fun o=>
bO 108 a.1 (bN a.1 c.2 o) c.2 lo fun y=>
bO 32 b.1 (bN b.1 y (iA 0)) y lo fun f=>
aX .neq 20 false true (A.v Value.nilIface) (A.v Value.nilIface) fun a4=>aW a4 (hX 108 [] fun p=>
(nr prog (A.v Value.nilIface) 32 false).bind fun g=>
bO 108 a.1 (bN a.1 f p) f lo fun z=>
bO 32 b.1 (bN b.1 z g) z lo fun q=>
aK 108 a.1 q fun a6=>
aK 32 b.1 q fun a7=>some (Out.ret (A.tup [a6,a7]),q)) (aK 108 a.1 f fun p=>
aK 32 b.1 f fun g=>some (Out.ret (A.tup [p,g]),f))) fun l=>
aX .neq 20 false true l (A.v Value.nilIface) fun o=>aW o (hX 108 [] fun r=>
(nr prog l 32 false).bind fun s=>
bO 108 a.1 (bN a.1 c.2 r) c.2 lo fun a0=>
bO 32 b.1 (bN b.1 a0 s) a0 lo fun t=>
aK 108 a.1 t fun g=>
aK 32 b.1 t fun a8=>some (Out.ret (A.tup [g,a8]),t)) (aK 108 a.1 c.2 fun r=>
aK 32 b.1 c.2 fun s=>some (Out.ret (A.tup [r,s]),c.2))) fun i=>
aX .neq 20 false true i (A.v Value.nilIface) fun t6=>aW t6 (hX 108 [] fun e=>
(nr prog i 32 false).bind fun u=>
bO 108 a.1 (bN a.1 d.2 e) d.2 lo fun H9=>
bO 32 b.1 (bN b.1 H9 u) H9 lo fun w=>
aK 108 a.1 w fun k=>
aK 32 b.1 w fun aa=>some (Out.ret (A.tup [k,aa]),w)) (aK 108 a.1 d.2 fun e=>
aK 32 b.1 d.2 fun u=>some (Out.ret (A.tup [e,u]),d.2)):=r7
theorem Te (a:A):aF (cx C) call rg n 73 [a] H lo =
jt a H fun e=>
bU 72 e 0 H fun v=>
jt a H fun t2=>
bU 72 t2 1 H fun f=>
bU 46 f 0 H fun w=>
jt a H fun g=>
bU 72 g 1 H fun h=>
bU 46 h 1 H fun x=>
jt a H fun i=>
bU 72 i 1 H fun j=>
bU 46 j 2 H fun y=>
jt a H fun k=>
bU 72 k 1 H fun l=>
bU 46 l 3 H fun z=>
jt a H fun o=>
bU 72 o 0 H fun a0=>
jt a H fun p=>
bU 72 p 2 H fun q=>
bU 39 q 0 H fun a1=>
jt a H fun r=>
bU 72 r 2 H fun s=>
bU 39 s 1 H fun a2=>
jt a H fun t=>
bU 72 t 2 H fun u=>
bU 39 u 2 H fun a3=>
hX 134 [(0,v),(1,w),(2,x),(3,y),(4,z),(5,a0),(6,a1),(7,a2),(8,a3)] fun a4=>bif bif apart u A.any then bif apart t A.any then bif apart a A.any then bif apart s A.any then bif apart r A.any then bif apart a A.any then bif apart q A.any then bif apart p A.any then bif apart a A.any then bif apart o A.any then bif apart a A.any then bif apart l A.any then bif apart k A.any then bif apart a A.any then bif apart j A.any then bif apart i A.any then bif apart a A.any then bif apart h A.any then bif apart g A.any then bif apart a A.any then bif apart f A.any then bif apart t2 A.any then bif apart a A.any then bif apart e A.any then bif apart a A.any then true else false else false else false else false else false else false else false else false else false else false else false else false else false else false else false else false else false else false else false else false else false else false else false else false else false then
(jZ prog 134 H).bind fun b=>
bO 134 b.1 (bN b.1 b.2 a4) b.2 lo fun c=>
jt a c fun a5=>
fl 72 a5 0 3 c fun a6=>
aX .eql 3 false true a6 (iA 1) fun a7=>aW a7 ((dA prog 134 b.1 none (some (iA 5)) none c).bind fun d=>some (Out.ret d,c)) ((dA prog 134 b.1 (some (iA 5)) none none c).bind fun d=>some (Out.ret d,c)) else none:=r7
theorem WK (c b:A):aF (cx C) call rg n 76 [c,b] H lo =
gz c H fun a=>
aK 25 a.1 a.2 fun h=>
(C 61 [snap a.2 h]).bind fun t2=>
aX .neq 32 false true t2 (iA 0) fun i=>aW i (some (Out.ret (iA 60),a.2)) (aX .lss 3 false true b (iA 0) fun j=>
(cC j (some [bA true,ud,ud,ud,ud,ud]) (bU 25 a.1 0 a.2 fun d=>
aK 22 d a.2 fun e=>
ee 22 e a.2 fun f=>
aX .geq 3 false false b f fun g=>some [g,g,f,e,d,b])).bind fun k=>dH k fun l p q r o=>fh o fun s t u=>aW l (some (Out.ret (iA 1),a.2)) (some (Out.ret (iA 0),a.2))):=r7
theorem WL (d e f:A):aF (cx C) call rg n 77 [d,e,f] H lo =
gz d H fun c=>aN (cx C) call rg n 77 lo 0 (List.length c.2) (fun a b=>bif Nat.beq a 0 then some (Out.ret (bA false),St.H b) else none) (fun a b=>none) (fun g=>some (Out.ret (lk g 6),St.H g)) (fun a b=>some (Out.pan a,St.H b)) n (St.mk [(1,e),(2,f),(3,c.1),(6,bA false),(7,iA 0)] c.2):=r7
theorem WM (g e:A):aF (cx C) call rg n 78 [g,e] H lo =
gz g H fun a=>
eb 25 a.2 fun b=>
(aP prog 22 0 []).bind fun t2=>
fl 25 a.1 0 22 b.2 fun l=>
(dA prog 22 l none (some e) none b.2).bind fun o=>
(bK prog 22 22 false t2 o b.2 lo).bind fun c=>bif bif apart a.1 t2 then true else false then
bU 25 a.1 0 c.2 fun h=>bif bif apart h t2 then true else false then
aK 22 h c.2 fun i=>
aX .add 3 false true e (iA 1) fun p=>bif bif apart i t2 then true else false then
(dA prog 22 i (some p) none none c.2).bind fun q=>
(bK prog 22 22 false c.1 q c.2 lo).bind fun d=>
bU 25 a.1 0 d.2 fun j=>
bO 22 j (bN j d.2 d.1) d.2 lo fun f=>
aK 25 a.1 f fun r=>
bO 25 b.1 (bN b.1 f r) f lo fun k=>
aK 25 b.1 k fun s=>some (Out.ret s,k) else none else none else none:=r7
theorem WN (f:A):aF (cx C) call rg n 79 [f] H lo =
(C 96 [snap H f]).bind fun g=>
dw g 0 fun k=>
dw g 1 fun t2=>
eb 108 H fun a=>
bO 108 a.1 (bN a.1 a.2 k) a.2 lo fun b=>
aX .neq 32 false true t2 (iA 0) fun l=>
(cC l (some [bA true,ud,ud,ud]) (bU 108 a.1 0 b fun h=>
aK 3 h b fun i=>
aX .neq 3 false true i (iA 3) fun j=>some [j,j,i,h])).bind fun o=>dH o fun p q r s t=>aW p (some (Out.ret (A.tup [A.imm [] true,bA false]),b)) (aN (cx C) call rg n 79 lo 0 (List.length (fj 1 (St.H (St.mk [(2,A.imm [] true),(3,bA false),(4,a.1),(6,A.imm [] true),(7,iA 0)] b)) (look (St.fr (St.mk [(2,A.imm [] true),(3,bA false),(4,a.1),(6,A.imm [] true),(7,iA 0)] b)) (Prod.fst (6,0,2)))).2) (fun d c=>bif Nat.beq d 0 then some (Out.ret (A.tup [lk c 6,bA true]),St.H c) else none) (fun d c=>none) (fun e=>some (Out.ret (A.tup [lk e 2,lk e 3]),St.H e)) (fun d c=>some (Out.pan d,St.H c)) n (St.mk [(2,A.imm [] true),(3,bA false),(4,a.1),(6,(fj 1 (St.H (St.mk [(2,A.imm [] true),(3,bA false),(4,a.1),(6,A.imm [] true),(7,iA 0)] b)) (look (St.fr (St.mk [(2,A.imm [] true),(3,bA false),(4,a.1),(6,A.imm [] true),(7,iA 0)] b)) (Prod.fst (6,0,2)))).1),(7,iA 0)] (fj 1 (St.H (St.mk [(2,A.imm [] true),(3,bA false),(4,a.1),(6,A.imm [] true),(7,iA 0)] b)) (look (St.fr (St.mk [(2,A.imm [] true),(3,bA false),(4,a.1),(6,A.imm [] true),(7,iA 0)] b)) (Prod.fst (6,0,2)))).2)):=r7
theorem WO (b:A):aF (cx C) call rg n 80 [b] H lo =
gz b H fun a=>
fl 68 a.1 0 3 a.2 fun t2=>
fl 68 a.1 1 3 a.2 fun g=>
(C 70 [snap a.2 t2,snap a.2 g]).bind fun h=>
(C 84 [snap a.2 h]).bind fun i=>
(cC i (bU 68 a.1 2 a.2 fun c=>
aK 66 c a.2 fun d=>
ee 66 d a.2 fun e=>
aX .leq 3 false true e (iA 1048576) fun f=>some [f,f,e,d,c]) (some [bA false,ud,ud,ud,ud])).bind fun j=>dH j fun k o p q l=>bl l fun r s=>some (Out.ret k,a.2):=r7
theorem WQ (f:A):aF (cx C) call rg n 81 [f] H lo =
gz f H fun a=>
aK 108 a.1 a.2 fun h=>
(C 97 [snap a.2 h]).bind fun t2=>
aX .neq 32 false true t2 (iA 0) fun i=>aW i (some (Out.ret (A.tup [A.imm [] true,t2]),a.2)) (bU 108 a.1 0 a.2 fun g=>
aK 3 g a.2 fun j=>
aK 108 a.1 a.2 fun k=>bif bif iy 0 a.1 then bif iy 0 g then bif iy 0 a.1 then true else false else false else false then
(call 98 [] a.2 (List.length a.2)).bind fun b=>dL b.1 (fun c=>
jt c b.2 fun l=>
dx 155 l j b.2 fun o=>
fl 138 o 0 136 b.2 fun p=>dP (cx C) call p [A.imm [] true,k] b.2 lo (fun d e=>some (Out.ret (A.tup [d,iA 0]),e)) fun d e=>some (Out.pan d,e)) fun c=>some (Out.pan c,b.2) else none):=r7
theorem WR (a b:A):aF (cx C) call rg n 82 [a,b] H lo =
(C 99 [snap H a,snap H b]).bind fun c=>
aX .geq 3 false true c (iA 0) fun d=>some (Out.ret d,H):=r7
theorem WS (b:A):aF (cx C) call rg n 83 [b] H lo =
gz b H fun a=>
aK 68 a.1 a.2 fun c=>
(C 80 [snap a.2 c]).bind fun t2=>
(jj prog UnOp.not t2).bind fun d=>some (Out.ret d,a.2):=r7
theorem WT (b:A):aF (cx C) call rg n 84 [b] H lo =
gz b H fun a=>
dx 103 a.1 (iA 0) a.2 fun k=>
aK 3 k a.2 fun t2=>
aX .geq 3 false true t2 (iA 0) fun l=>
(cC l (dx 103 a.1 (iA 0) a.2 fun c=>
aK 3 c a.2 fun d=>
dx 103 a.1 (iA 1) a.2 fun e=>
aK 3 e a.2 fun f=>
aX .lss 3 false false d f fun g=>some [g,g,f,e,d,c]) (some [bA false,ud,ud,ud,ud,ud])).bind fun o=>dH o fun p t u v q=>fh q fun w x y=>
(cC p (dx 103 a.1 (iA 1) a.2 fun h=>
aK 3 h a.2 fun i=>
aX .lss 3 false true i (iA 24) fun j=>some [j,j,i,h]) (some [bA false,ud,ud,ud])).bind fun r=>dH r fun s z a0 a1 a2=>some (Out.ret s,a.2):=r7
theorem WU (b d:A):aF (cx C) call rg n 85 [b,d] H lo =
ee 29 b H fun f=>aN (cx C) call rg n 85 lo 0 (List.length H) (fun c a=>bif Nat.beq c 0 then
ee 29 (lk a 0) (St.H a) fun t2=>
ee 29 (lk a 1) (St.H a) fun g=>
aX .lss 3 false false t2 g fun h=>aW h (some (Out.ret (A.v (.int .i64 (-1))),St.H a)) (some (Out.ret (iA 0),St.H a)) else none) (fun c a=>none) (fun e=>some (Out.ret (lk e 4),St.H e)) (fun c a=>some (Out.pan c,St.H a)) n (St.mk [(0,b),(1,d),(4,iA 0),(9,b),(10,f),(11,iA 0)] H):=r7
theorem WV (b:A):aF (cx C) call rg n 86 [b] H lo =
gz b H fun a=>
fl 68 a.1 0 3 a.2 fun t2=>
(C 87 [snap a.2 t2]).bind fun q=>
(cC q (bU 68 a.1 1 a.2 fun c=>
aK 3 c a.2 fun d=>
(C 87 [snap a.2 d]).bind fun e=>some [e,e,d,c]) (some [bA false,ud,ud,ud])).bind fun r=>dH r fun s z u7 u8 l8=>
(cC s (bU 68 a.1 0 a.2 fun f=>
aK 3 f a.2 fun g=>
bU 68 a.1 1 a.2 fun h=>
aK 3 h a.2 fun i=>
aX .neq 3 false false g i fun j=>some [j,j,i,h,g,f]) (some [bA false,ud,ud,ud,ud,ud])).bind fun t=>dH t fun u a3 a4 a5 v=>fh v fun a6 a7 a8=>
(cC u (bU 68 a.1 2 a.2 fun k=>
aK 66 k a.2 fun l=>
ee 66 l a.2 fun o=>
aX .leq 3 false true o (iA 1048576) fun p=>some [p,p,o,l,k]) (some [bA false,ud,ud,ud,ud])).bind fun w=>dH w fun x a9 aa ab y=>bl y fun ad ae=>some (Out.ret x,a.2):=r7
theorem WW (a:A):aF (cx C) call rg n 87 [a] H lo =
aX .geq 3 false true a (iA 0) fun c=>
(cC c (aX .lss 3 false true a (iA 24) fun b=>some [b,b,a]) (some [bA false,ud,ud])).bind fun d=>fh d fun e g f=>bl f fun u4 h=>some (Out.ret e,H):=r7
theorem WX (c b:A):aF (cx C) call rg n 88 [c,b] H lo =
gz c H fun a=>
fl 46 a.1 0 3 a.2 fun t2=>
(C 60 [snap a.2 t2,snap a.2 (iA 0),snap a.2 (iA 1048576)]).bind fun p=>
(cC p (bU 46 a.1 1 a.2 fun d=>
aK 3 d a.2 fun e=>
aX .sub 3 false true b (iA 1) fun f=>
(C 60 [snap a.2 e,snap a.2 (iA 0),snap a.2 f]).bind fun g=>some [g,g,f,b,e,d]) (some [bA false,ud,ud,ud,ud,ud])).bind fun q=>dH q fun r x y z s=>fh s fun u9 a1 a2=>
(cC r (bU 46 a.1 2 a.2 fun h=>
aK 3 h a.2 fun i=>
(C 60 [snap a.2 i,snap a.2 (iA 0),snap a.2 (iA 4095)]).bind fun j=>some [j,j,i,h]) (some [bA false,ud,ud,ud])).bind fun t=>dH t fun u a3 a4 a5 a6=>
(cC u (bU 46 a.1 3 a.2 fun k=>
aK 3 k a.2 fun l=>
(C 60 [snap a.2 l,snap a.2 (iA 1),snap a.2 (iA 8)]).bind fun o=>some [o,o,l,k]) (some [bA false,ud,ud,ud])).bind fun v=>dH v fun w a7 a8 a9 aa=>some (Out.ret w,a.2):=r7
theorem WY (c d:A):aF (cx C) call rg n 91 [c,d] H lo =
gz d H fun a=>
ee 23 c a.2 fun e=>aN (cx C) call rg n 91 lo 0 (List.length a.2) (fun b s2=>bif Nat.beq b 0 then some (Out.ret (A.v (.int .i64 (-1))),St.H s2) else none) (fun b s2=>none) (fun a2=>some (Out.ret (lk a2 4),St.H a2)) (fun b s2=>some (Out.pan b,St.H s2)) n (St.mk [(0,c),(3,a.1),(4,iA 0),(7,e),(8,iA 0)] a.2):=r7
theorem WZ (d r:A):aF (cx C) call rg n 93 [d,r] H lo =
eb 108 H fun a=>
(call 104 [d,iA 1] a.2 lo).bind fun H1=>dL H1.1 (fun a2=>
dx 66 a2 (iA 0) H1.2 fun t3=>
aK 5 t3 H1.2 fun t4=>
(bt prog 5 3 t4 H1.2).bind fun t5=>
bU 108 a.1 0 H1.2 fun t6=>
bO 3 t6 (bN t6 H1.2 t5) H1.2 lo fun j=>
fl 108 a.1 0 3 j fun s=>
aX .eql 3 false true s (iA 1) fun a9=>aW a9 ((call 106 [d] j lo).bind fun h=>dL h.1 (fun t=>
(C 105 [snap h.2 t]).bind fun u=>
bU 108 a.1 1 h.2 fun a3=>
bO 3 a3 (bN a3 h.2 u) h.2 lo fun v=>
aK 108 a.1 v fun w=>
bO 108 a.1 (bN a.1 v w) v lo fun a4=>
aK 108 a.1 (eM lo 3 0 a.1 a4) fun aa=>some (Out.ret aa,eM lo 3 0 a.1 a4)) fun t=>some (Out.pan t,h.2)) (aX .eql 3 false true s (iA 2) fun ab=>aW ab ((call 107 [d] j lo).bind fun x=>dL x.1 (fun y=>
(call 104 [d,y] x.2 lo).bind fun c=>dL c.1 (fun i=>
(bt prog 66 9 i c.2).bind fun w=>
bU 108 a.1 2 c.2 fun q=>
bO 9 q (bN q c.2 w) c.2 lo fun z=>
aK 108 a.1 z fun f=>
bO 108 a.1 (bN a.1 z f) z lo fun e=>
aK 108 a.1 (eM lo 3 0 a.1 e) fun k=>some (Out.ret k,eM lo 3 0 a.1 e)) fun i=>some (Out.pan i,c.2)) fun y=>some (Out.pan y,x.2)) (aX .eql 3 false true s (iA 3) fun ad=>aW ad (aX .lss 3 false true r (iA 16) fun u=>
(call 94 [d,u] j lo).bind fun c=>dL c.1 (fun i=>
(call 107 [d] c.2 lo).bind fun g=>dL g.1 (fun a0=>aN (cx C) call rg n 93 lo 0 (List.length (eM lo 3 5 a.1 g.2)) (fun l b=>bif Nat.beq l 1 then
aK 108 (lk b 4) (St.H b) fun f=>
bO 108 (lk b 4) (bN (lk b 4) (St.H b) f) (St.H b) lo fun e=>
aK 108 (lk b 4) (eM lo 3 0 (lk b 4) e) fun k=>some (Out.ret k,eM lo 3 0 (lk b 4) e) else bif Nat.beq l 0 then
aK 108 (lk b 4) (St.H b) fun f=>
bO 108 (lk b 4) (bN (lk b 4) (St.H b) f) (St.H b) lo fun e=>
aK 108 (lk b 4) (eM lo 3 0 (lk b 4) e) fun k=>some (Out.ret k,eM lo 3 0 (lk b 4) e) else none) (fun l b=>none) (fun o=>
aK 108 (lk o 4) (eM lo 3 0 (lk o 4) (St.H o)) fun f=>some (Out.ret f,eM lo 3 0 (lk o 4) (St.H o))) (fun l b=>some (Out.pan l,St.H b)) n (St.mk [(0,d),(1,r),(4,a.1),(36,a0),(37,iA 0)] (eM lo 3 5 a.1 g.2))) fun a0=>some (Out.pan a0,g.2)) fun i=>some (Out.pan i,c.2)) ((call 94 [d,bA false] j lo).bind fun p=>dL p.1 (fun a5=>
aK 108 a.1 p.2 fun ae=>
bO 108 a.1 (bN a.1 p.2 ae) p.2 lo fun g=>
aK 108 a.1 (eM lo 3 0 a.1 g) fun q=>some (Out.ret q,eM lo 3 0 a.1 g)) fun a5=>some (Out.pan a5,p.2))))) fun a2=>some (Out.pan a2,H1.2):=r7
theorem Fk (b a:A):aF (cx C) call rg n 94 [b,a] H lo =
(jj prog UnOp.not a).bind fun c=>aW c ((Fb prog 32 (iA 10)).bind fun d=>GS d fun a2=>some (Out.pan a2,H)) (some (Out.ret (A.tup []),H)):=r7
theorem W0 (d:A):aF (cx C) call rg n 96 [d] H lo =
eb 108 H fun b=>
hX 152 [(0,d)] fun y=>
gz y b.2 fun e=>
(call 109 [e.1,iA 0] e.2 lo).bind fun g=>dL g.1 (fun h=>
eb 108 g.2 fun c=>
bO 108 c.1 (bN c.1 c.2 h) c.2 lo fun a=>
jt e.1 a fun z=>
fl 152 z 2 4 a fun t9=>
(cC t9 (some [bA true,ud,ud,ud,ud,ud,ud,ud]) (jt e.1 a fun k=>
bU 152 k 1 a fun l=>
aK 3 l a fun o=>
ee 66 d a fun p=>
aX .neq 3 false false o p fun q=>some [q,q,p,d,o,l,k,e.1])).bind fun a1=>pK a1 fun a2 ae af ag ah ai aj ak al=>
(cC a2 (some [bA true,ud,ud,ud]) (aK 108 c.1 a fun r=>
(C 101 [snap a r]).bind fun s=>
aX .neq 32 false true s (iA 0) fun t=>some [t,t,s,r])).bind fun a3=>dH a3 fun u am an ao ap=>
ox u false (aK 108 c.1 a fun v=>
(C 102 [snap a v]).bind fun w=>
(bt prog 66 9 w a).bind fun a5=>
(bt prog 66 9 d a).bind fun a6=>some [a6,d,a5,w,v]) (some [ud,ud,ud,ud,ud]) fun a7=>dH a7 fun a8 aq a9 ar aa=>bl aa fun au av=>
(cC u (some [bA true,ud]) (aX .neq 9 false false a9 a8 fun x=>some [x,x])).bind fun ab=>fh ab fun ad aw ax=>aW ad (hX 108 [] fun i=>
bO 108 b.1 (bN b.1 a i) a lo fun f=>
aK 108 b.1 f fun j=>some (Out.ret (A.tup [j,iA 10]),f)) (aK 108 c.1 a fun i=>
bO 108 b.1 (bN b.1 a i) a lo fun f=>
aK 108 b.1 f fun j=>some (Out.ret (A.tup [j,iA 0]),f))) fun h=>some (Out.pan h,g.2):=r7
theorem W4 (b:A):aF (cx C) call rg n 97 [b] H lo =
gz b H fun a=>
aK 108 a.1 a.2 fun c=>
(C 110 [snap a.2 c]).bind fun t2=>
dw t2 0 fun d=>
dw t2 1 fun e=>
(jj prog UnOp.not e).bind fun f=>aW f (some (Out.ret (iA 1),a.2)) (aX .gtr 3 false true d (iA 16) fun g=>aW g (some (Out.ret (iA 2),a.2)) (some (Out.ret (iA 0),a.2))):=r7
theorem W5:aF (cx C) call rg n 98 [] H lo =
hX 155 [] fun j=>
gz j H fun e=>
eb 139 e.2 fun a=>
bO 139 a.1 (bN a.1 a.2 e.1) a.2 lo fun b=>
aK 139 a.1 b fun k=>
jt k b fun l=>
dx 155 l (iA 1) b fun o=>
bU 138 o 0 b fun f=>
bO 136 f (bN f b (A.fn (Fn.func 111) [] [])) b lo fun c=>
aK 139 a.1 c fun p=>
jt p c fun q=>
dx 155 q (iA 2) c fun r=>
bU 138 r 0 c fun g=>
bO 136 g (bN g c (A.fn (Fn.func 114) [] [])) c lo fun d=>
aK 139 a.1 d fun s=>
jt s d fun t=>
dx 155 t (iA 3) d fun u=>
bU 138 u 0 d fun h=>
bO 136 h (bN h d (A.fn (Fn.func 115) [] [a.1])) d lo fun i=>
aK 139 a.1 i fun v=>some (Out.ret v,i):=r7
theorem W6 (c d:A):aF (cx C) call rg n 99 [c,d] H lo =
ee 22 c H fun f=>aN (cx C) call rg n 99 lo 0 (List.length H) (fun a b=>bif Nat.beq a 0 then some (Out.ret (A.v (.int .i64 (-1))),St.H b) else none) (fun a b=>none) (fun e=>some (Out.ret (lk e 4),St.H e)) (fun a b=>some (Out.pan a,St.H b)) n (St.mk [(0,c),(1,d),(4,iA 0),(7,f),(8,iA 0)] H):=r7
theorem Lm (a b:A):aF (cx C) call rg n 100 [a,b] H lo =
(C 116 [snap H a]).bind fun d=>
(C 116 [snap H b]).bind fun c=>aW d (aW c (some (Out.ret (iA 0),H)) (some (Out.ret (A.v (.int .i64 (-1))),H))) (aW c (some (Out.ret (iA 1),H)) (aX .lss 3 false false a b fun t2=>aW t2 (some (Out.ret (A.v (.int .i64 (-1))),H)) (aX .gtr 3 false false a b fun e=>aW e (some (Out.ret (iA 1),H)) (some (Out.ret (iA 0),H))))):=r7
theorem Qy (b:A):aF (cx C) call rg n 101 [b] H lo =
gz b H fun a=>
aK 108 a.1 a.2 fun c=>
(C 117 [snap a.2 c]).bind fun t2=>
(jj prog UnOp.not t2).bind fun d=>aW d (some (Out.ret (iA 1),a.2)) (aK 108 a.1 a.2 fun e=>
(C 118 [snap a.2 e]).bind fun f=>
aX .gtr 3 false true f (iA 16) fun g=>aW g (some (Out.ret (iA 2),a.2)) (some (Out.ret (iA 0),a.2))):=r7
theorem Qz (k:A):aF (cx C) call rg n 102 [k] H lo =
gz k H fun a=>
fl 108 a.1 0 3 a.2 fun t2=>
aX .eql 3 false true t2 (iA 1) fun r=>aW r ((aP prog 66 1 [(0,di a.2 (A.v (.int .u8 1)))]).bind fun h=>
fl 108 a.1 1 3 a.2 fun s=>
(C 120 [snap a.2 s]).bind fun c=>
(C 119 [snap a.2 c]).bind fun d=>
(bK prog 66 66 false h d a.2 lo).bind fun l=>some (Out.ret l.1,l.2)) (aX .eql 3 false true t2 (iA 2) fun h=>aW h ((aP prog 66 1 [(0,di a.2 (A.v (.int .u8 2)))]).bind fun e=>
fl 108 a.1 2 9 a.2 fun c=>
ee 9 c a.2 fun d=>
(bt prog 3 146 d a.2).bind fun i=>
(C 119 [snap a.2 i]).bind fun j=>
(bK prog 66 66 false e j a.2 lo).bind fun b=>bif bif apart a.1 e then true else false then
bU 108 a.1 2 b.2 fun o=>bif bif apart o e then true else false then
aK 9 o b.2 fun t=>
(bK prog 66 9 false b.1 t b.2 lo).bind fun p=>some (Out.ret p.1,p.2) else none else none) ((aP prog 66 1 [(0,di a.2 (A.v (.int .u8 3)))]).bind fun e=>
fl 108 a.1 3 106 a.2 fun c=>
ee 106 c a.2 fun d=>
(bt prog 3 146 d a.2).bind fun i=>
(C 119 [snap a.2 i]).bind fun j=>
(bK prog 66 66 false e j a.2 lo).bind fun b=>aN (cx C) call rg n 102 lo 0 (List.length b.2) (fun g f=>bif Nat.beq g 1 then some (Out.ret (lk f 3),St.H f) else none) (fun g f=>none) (fun q=>some (Out.ret (lk q 2),St.H q)) (fun g f=>some (Out.pan g,St.H f)) n (St.mk [(1,a.1),(2,A.imm [] true),(3,b.1),(4,iA 0)] b.2))):=r7
theorem Jb (b c:A):aF (cx C) call rg n 104 [b,c] H lo =
jt b H fun f=>
fl 130 f 0 66 H fun t2=>
ee 66 t2 H fun g=>
aX .leq 3 false false c g fun h=>
(call 94 [b,h] H lo).bind fun a=>dL a.1 (fun d=>
jt b a.2 fun i=>
fl 130 i 0 66 a.2 fun j=>
(dA prog 66 j none (some c) (some c) a.2).bind fun k=>
jt b a.2 fun l=>
fl 130 l 0 66 a.2 fun o=>
(dA prog 66 o (some c) none none a.2).bind fun p=>
jt b a.2 fun q=>
bU 130 q 0 a.2 fun e=>
bO 66 e (bN e a.2 p) a.2 lo fun r=>some (Out.ret k,r)) fun d=>some (Out.pan d,a.2):=r7
theorem QA (a:A):aF (cx C) call rg n 105 [a] H lo =
aX .shr 146 false true a (A.v (.int .u64 1)) fun b=>
(bt prog 146 3 b H).bind fun c=>
aX .and 146 false true a (A.v (.int .u64 1)) fun t2=>
(bt prog 146 3 t2 H).bind fun d=>
(jj prog UnOp.neg d).bind fun e=>
aX .xor 3 false false c e fun f=>some (Out.ret f,H):=r7
theorem Jc (c:A):aF (cx C) call rg n 106 [c] H lo=aN (cx C) call rg n 106 lo 0 (List.length H) (fun b a=>bif Nat.beq b 0 then some (Out.ret (lk a 2),St.H a) else none) (fun b a=>none) (fun d=>some (Out.ret (lk d 2),St.H d)) (fun b a=>some (Out.pan b,St.H a)) n (St.mk [(0,c),(2,A.v (.int .u64 0)),(3,iA 0)] H):=r7
theorem Ln (a:A):aF (cx C) call rg n 107 [a] H lo =
(call 106 [a] H lo).bind fun H0=>dL H0.1 (fun b=>
jt a H0.2 fun t2=>
fl 130 t2 0 66 H0.2 fun e=>
ee 66 e H0.2 fun f=>
(bt prog 3 146 f H0.2).bind fun g=>
aX .leq 146 false false b g fun h=>
(call 94 [a,h] H0.2 lo).bind fun c=>dL c.1 (fun d=>
(bt prog 146 3 b c.2).bind fun i=>some (Out.ret i,c.2)) fun d=>some (Out.pan d,c.2)) fun b=>some (Out.pan b,H0.2):=r7
theorem QB (b x1:A):aF (cx C) call rg n 109 [b,x1] H lo =
eb 108 H fun a=>
(call 121 [b] a.2 lo).bind fun H1=>dL H1.1 (fun a2=>
aX .eql 5 false true a2 (A.v (.int .u8 1)) fun t3=>aW t3 ((call 122 [b] H1.2 lo).bind fun j=>dL j.1 (fun s=>
aX .rem 146 false true s (A.v (.int .u64 2)) fun t6=>
aX .eql 146 false true t6 (A.v (.int .u64 1)) fun q=>aW q (aX .quo 146 false true s (A.v (.int .u64 2)) fun t=>
(bt prog 146 3 t j.2).bind fun k=>
(jj prog UnOp.neg k).bind fun g=>
aX .sub 3 false true g (iA 1) fun h=>
hX 108 [(0,iA 1),(1,h)] fun i=>
bO 108 a.1 (bN a.1 j.2 i) j.2 lo fun aj=>
aK 108 a.1 (eM lo 3 0 a.1 aj) fun l=>some (Out.ret l,eM lo 3 0 a.1 aj)) (aX .quo 146 false true s (A.v (.int .u64 2)) fun t=>
(bt prog 146 3 t j.2).bind fun k=>
hX 108 [(0,iA 1),(1,k)] fun g=>
bO 108 a.1 (bN a.1 j.2 g) j.2 lo fun ak=>
aK 108 a.1 (eM lo 3 0 a.1 ak) fun i=>some (Out.ret i,eM lo 3 0 a.1 ak))) fun s=>some (Out.pan s,j.2)) (aX .eql 5 false true a2 (A.v (.int .u8 2)) fun t4=>aW t4 ((call 122 [b] H1.2 lo).bind fun c=>dL c.1 (fun u=>
jt b c.2 fun q=>
fl 152 q 2 4 c.2 fun k=>
ox k false (jt b c.2 fun g=>
bU 152 g 0 c.2 fun h=>
aK 66 h c.2 fun i=>
ee 66 i c.2 fun w=>
jt b c.2 fun l=>
bU 152 l 1 c.2 fun x=>
aK 3 x c.2 fun y=>
aX .sub 3 false false w y fun z=>
(bt prog 3 146 z c.2).bind fun aa=>some [aa,z,y,x,l,b,w,i,h,g,b,u]) (some [ud,ud,ud,ud,ud,ud,ud,ud,ud,ud,ud,ud]) fun b4=>pK b4 fun b5 al b6 b7 b8 b9 ba bb bc=>dH bc fun bd be bf am c4=>
(cC k (some [bA true,ud]) (aX .gtr 146 false false am b5 fun an=>some [an,an])).bind fun ao=>fh ao fun bg ap c5=>aW bg (jt b c.2 fun ae=>
bU 152 ae 2 c.2 fun a0=>
bO 4 a0 (bN a0 c.2 (bA true)) c.2 lo fun aq=>
hX 108 [] fun af=>
bO 108 a.1 (bN a.1 aq af) aq lo fun ar=>
aK 108 a.1 (eM lo 3 0 a.1 ar) fun o=>some (Out.ret o,eM lo 3 0 a.1 ar)) (jt b c.2 fun ae=>
fl 152 ae 1 3 c.2 fun bh=>
(bt prog 146 3 u c.2).bind fun af=>
aX .add 3 false false bh af fun bi=>
jt b c.2 fun o=>
bU 152 o 1 c.2 fun a1=>
bO 3 a1 (bN a1 c.2 bi) c.2 lo fun e=>
jt b e fun ag=>
fl 152 ag 0 66 e fun r=>
jt b e fun ah=>
fl 152 ah 1 3 e fun bj=>
(bt prog 146 3 u e).bind fun ai=>
aX .sub 3 false false bj ai fun bk=>
jt b e fun bm=>
fl 152 bm 1 3 e fun bn=>
(dA prog 66 r (some bk) (some bn) none e).bind fun bo=>
(bt prog 66 9 bo e).bind fun bp=>
hX 108 [(0,iA 2),(2,bp)] fun bq=>
bO 108 a.1 (bN a.1 e bq) e lo fun au=>
aK 108 a.1 (eM lo 3 0 a.1 au) fun br=>some (Out.ret br,eM lo 3 0 a.1 au))) fun u=>some (Out.pan u,c.2)) (aX .eql 5 false true a2 (A.v (.int .u8 3)) fun t5=>aW t5 ((call 122 [b] H1.2 lo).bind fun f=>dL f.1 (fun a7=>
jt b f.2 fun t=>
fl 152 t 2 4 f.2 fun g=>
ox g false (jt b f.2 fun h=>
bU 152 h 0 f.2 fun i=>
aK 66 i f.2 fun w=>
ee 66 w f.2 fun l=>
jt b f.2 fun x=>
bU 152 x 1 f.2 fun y=>
aK 3 y f.2 fun z=>
aX .sub 3 false false l z fun aa=>
(bt prog 3 146 aa f.2).bind fun bu=>some [bu,aa,z,y,x,b,l,w,i,h,b,a7]) (some [ud,ud,ud,ud,ud,ud,ud,ud,ud,ud,ud,ud]) fun bv=>pK bv fun al b6 b7 b8 b9 ba bb bd bw=>dH bw fun be bf am bx ao=>
(cC g (some [bA true,ud]) (aX .gtr 146 false false bx al fun av=>some [av,av])).bind fun bz=>fh bz fun ap c6 c7=>
(cC ap (some [bA true,ud,ud]) (aX .eql 3 false true x1 (iA 16) fun a0=>some [a0,a0,x1])).bind fun c0=>fh c0 fun c1 c8 c2=>bl c2 fun c9 ca=>aW c1 (jt b f.2 fun o=>
bU 152 o 2 f.2 fun a1=>
bO 4 a1 (bN a1 f.2 (bA true)) f.2 lo fun e=>
hX 108 [] fun ag=>
bO 108 a.1 (bN a.1 e ag) e lo fun aw=>
aK 108 a.1 (eM lo 3 0 a.1 aw) fun r=>some (Out.ret r,eM lo 3 0 a.1 aw)) (hX 108 [(0,iA 3)] fun o=>
eb 108 f.2 fun p=>
bO 108 p.1 (bN p.1 p.2 o) p.2 lo fun e=>aN (cx C) call rg n 109 lo 0 (List.length (eM lo 3 5 p.1 e)) (fun a3 d=>bif Nat.beq a3 1 then
aK 108 (lk d 8) (St.H d) fun a4=>
bO 108 (lk d 4) (bN (lk d 4) (St.H d) a4) (St.H d) lo fun ax=>
aK 108 (lk d 4) (eM lo 3 0 (lk d 4) ax) fun ah=>some (Out.ret ah,eM lo 3 0 (lk d 4) ax) else bif Nat.beq a3 0 then
jt (lk d 0) (St.H d) fun a4=>
bU 152 a4 2 (St.H d) fun r=>
bO 4 r (bN r (St.H d) (bA true)) (St.H d) lo fun ay=>
hX 108 [] fun c3=>
bO 108 (lk d 4) (bN (lk d 4) ay c3) ay lo fun az=>
aK 108 (lk d 4) (eM lo 3 0 (lk d 4) az) fun ai=>some (Out.ret ai,eM lo 3 0 (lk d 4) az) else none) (fun a3 d=>none) (fun a8=>
aK 108 (lk a8 4) (eM lo 3 0 (lk a8 4) (St.H a8)) fun a4=>some (Out.ret a4,eM lo 3 0 (lk a8 4) (St.H a8))) (fun a3 d=>some (Out.pan a3,St.H d)) n (St.mk [(0,b),(1,x1),(4,a.1),(7,a7),(8,p.1),(9,A.v (.int .u64 0))] (eM lo 3 5 p.1 e)))) fun a7=>some (Out.pan a7,f.2)) (jt b H1.2 fun t6=>
bU 152 t6 2 H1.2 fun q=>
bO 4 q (bN q H1.2 (bA true)) H1.2 lo fun H8=>
hX 108 [] fun k=>
bO 108 a.1 (bN a.1 H8 k) H8 lo fun b1=>
aK 108 a.1 (eM lo 3 0 a.1 b1) fun h=>some (Out.ret h,eM lo 3 0 a.1 b1))))) fun a2=>some (Out.pan a2,H1.2):=r7
theorem QC (f:A):aF (cx C) call rg n 110 [f] H lo =
gz f H fun a=>
fl 108 a.1 2 9 a.2 fun t2=>
aX .eql 9 false true t2 (A.v (Value.string (ByteArray.mk #[]))) fun t3=>
(cC t3 (bU 108 a.1 3 a.2 fun g=>
aK 106 g a.2 fun h=>
ee 106 h a.2 fun i=>
aX .eql 3 false true i (iA 0) fun j=>some [j,j,i,h,g]) (some [bA false,ud,ud,ud,ud])).bind fun l4=>dH l4 fun u5 u6 u7 u8 l8=>bl l8 fun u9 l9=>
fl 108 a.1 1 3 a.2 fun a7=>
aX .eql 3 false true a7 (iA 0) fun a8=>
(cC a8 (bU 108 a.1 3 a.2 fun k=>
aK 106 k a.2 fun l=>
ee 106 l a.2 fun o=>
aX .eql 3 false true o (iA 0) fun p=>some [p,p,o,l,k]) (some [bA false,ud,ud,ud,ud])).bind fun a9=>dH a9 fun aa b0 b1 b2 ab=>bl ab fun b3 b4=>
fl 108 a.1 1 3 a.2 fun ad=>
aX .eql 3 false true ad (iA 0) fun ae=>
(cC ae (bU 108 a.1 2 a.2 fun q=>
aK 9 q a.2 fun r=>
aX .eql 9 false true r (A.v (Value.string (ByteArray.mk #[]))) fun s=>some [s,s,r,q]) (some [bA false,ud,ud,ud])).bind fun af=>dH af fun ag b5 b6 b7 b8=>
hX 162 [(1,u5),(2,aa),(3,ag)] fun ah=>
eb 162 a.2 fun JX=>
bO 162 JX.1 (bN JX.1 JX.2 ah) JX.2 lo fun b=>
fl 108 a.1 0 3 b fun ai=>
aX .lss 3 false true ai (iA 1) fun aj=>
(cC aj (some [bA true,ud,ud,ud]) (bU 108 a.1 0 b fun t=>
aK 3 t b fun u=>
aX .gtr 3 false true u (iA 3) fun w=>some [w,w,u,t])).bind fun ak=>dH ak fun al b9 ba bb bc=>
(cC al (some [bA true,ud,ud,ud,ud,ud]) (bU 108 a.1 0 b fun x=>
aK 3 x b fun y=>
dx 162 JX.1 y b fun z=>
aK 4 z b fun a0=>
(jj prog UnOp.not a0).bind fun a1=>some [a1,a1,a0,z,y,x])).bind fun am=>dH am fun an bd be bf ao=>fh ao fun bg bh bi=>aW an (some (Out.ret (A.tup [iA 0,bA false]),b)) (fl 108 a.1 0 3 b fun ap=>
aX .lss 3 false true ap (iA 3) fun aq=>aW aq (some (Out.ret (A.tup [iA 0,bA true]),b)) (fl 108 a.1 3 106 b fun a2=>
ee 106 a2 b fun ar=>aN (cx C) call rg n 110 lo 0 (List.length b) (fun d c=>bif Nat.beq d 0 then
aX .add 3 false true (lk c 2) (iA 1) fun au=>some (Out.ret (A.tup [au,bA true]),St.H c) else none) (fun d c=>none) (fun e=>some (Out.ret (A.tup [lk e 2,lk e 3]),St.H e)) (fun d c=>some (Out.pan d,St.H c)) n (St.mk [(2,iA 0),(3,bA false),(55,a2),(56,ar),(57,iA 0)] b))):=r7
theorem Jg (b f:A):aF (cx C) call rg n 111 [b,f] H lo =
gz f H fun c=>
(aP prog 66 1 [(0,di c.2 (A.v (.int .u8 1)))]).bind fun h=>
(bK prog 66 66 false b h c.2 lo).bind fun a=>bif bif apart c.1 b then true else false then
bU 108 c.1 1 a.2 fun g=>bif bif apart g b then true else false then
aK 3 g a.2 fun i=>
(C 113 [snap a.2 i]).bind fun j=>
(call 112 [a.1,j] a.2 lo).bind fun d=>dL d.1 (fun e=>some (Out.ret e,d.2)) fun e=>some (Out.pan e,d.2) else none else none:=r7
theorem xa (c d:A):aF (cx C) call rg n 112 [c,d] H lo=aN (cx C) call rg n 112 lo 0 (List.length H) (fun b a=>bif Nat.beq b 0 then
(bt prog 146 5 (lk a 1) (St.H a)).bind fun g=>
(aP prog 66 1 [(0,di (St.H a) g)]).bind fun t2=>
(bK prog 66 66 false (lk a 0) t2 (St.H a) lo).bind fun e=>some (Out.ret e.1,e.2) else none) (fun b a=>none) (fun f=>some (Out.ret (lk f 4),St.H f)) (fun b a=>some (Out.pan b,St.H a)) n (St.mk [(0,c),(1,d),(4,A.imm [] true)] H):=r7
theorem QD (a:A):aF (cx C) call rg n 113 [a] H lo =
(bt prog 3 146 a H).bind fun b=>
aX .shl 146 false true b (A.v (.int .u64 1)) fun c=>
aX .shr 3 false true a (A.v (.int .u64 63)) fun t2=>
(bt prog 3 146 t2 H).bind fun d=>
aX .xor 146 false false c d fun e=>some (Out.ret e,H):=r7
theorem Jh (b f:A):aF (cx C) call rg n 114 [b,f] H lo =
gz f H fun g=>
(mP lo g.1 g.2).bind fun a=>bif bif qt (A.v (.int .u8 2)) then true else false then
(aP prog 66 1 [(0,di a.2 (A.v (.int .u8 2)))]).bind fun t2=>
bU 108 a.1 2 a.2 fun h=>
aK 9 h a.2 fun i=>
ee 9 i a.2 fun j=>
(bt prog 3 146 j a.2).bind fun o=>
bU 108 a.1 2 a.2 fun c=>
aK 9 c a.2 fun p=>bif bif apart c b then bif apart a.1 b then bif apart j b then bif apart i b then bif apart h b then bif apart a.1 b then true else false else false else false else false else false else false then
(bK prog 66 66 false b t2 a.2 lo).bind fun k=>bif bif iy 1000 c then bif iy 1000 a.1 then true else false else false then
(call 112 [k.1,o] k.2 lo).bind fun d=>dL d.1 (fun e=>
(bK prog 66 9 false e p d.2 lo).bind fun l=>some (Out.ret l.1,l.2)) fun e=>some (Out.pan e,d.2) else none else none else none:=r7
theorem Lo (a h i:A):aF (cx C) call rg n 115 [a,h,i] H lo =
gz h H fun d=>
(aP prog 66 1 [(0,di d.2 (A.v (.int .u8 3)))]).bind fun q=>
(bK prog 66 66 false a q d.2 lo).bind fun b=>bif bif apart d.1 a then true else false then
bU 108 d.1 3 b.2 fun j=>bif bif apart j a then true else false then
aK 106 j b.2 fun k=>bif bif apart k a then true else false then
ee 106 k b.2 fun l=>bif bif apart l a then true else false then
(bt prog 3 146 l b.2).bind fun r=>
(call 112 [b.1,r] b.2 lo).bind fun c=>dL c.1 (fun g=>
fl 108 d.1 3 106 c.2 fun o=>
ee 106 o c.2 fun s=>aN (cx C) call rg n 115 lo 0 (List.length c.2) (fun f e=>bif Nat.beq f 0 then some (Out.ret (lk e 0),St.H e) else none) (fun f e=>none) (fun p=>some (Out.ret (lk p 5),St.H p)) (fun f e=>some (Out.pan f,St.H e)) n (St.mk [(0,g),(2,i),(5,A.imm [] true),(17,o),(18,s),(19,iA 0)] c.2)) fun g=>some (Out.pan g,c.2) else none else none else none else none:=r7
theorem QE (a:A):aF (cx C) call rg n 116 [a] H lo =
aX .neq 3 false false a a fun b=>some (Out.ret b,H):=r7
theorem QF (l:A):aF (cx C) call rg n 117 [l] H lo =
gz l H fun a=>
fl 108 a.1 0 3 a.2 fun t2=>
aX .eql 3 false true t2 (iA 1) fun t=>aW t (fl 108 a.1 2 9 a.2 fun i=>
aX .eql 9 false true i (A.v (Value.string (ByteArray.mk #[]))) fun j=>
(cC j (bU 108 a.1 3 a.2 fun h=>
aK 106 h a.2 fun d=>
ee 106 d a.2 fun e=>
aX .eql 3 false true e (iA 0) fun c=>some [c,c,e,d,h]) (some [bA false,ud,ud,ud,ud])).bind fun u=>dH u fun w o x k y=>bl y fun p q=>some (Out.ret w,a.2)) (aX .eql 3 false true t2 (iA 2) fun z=>aW z (fl 108 a.1 1 3 a.2 fun j=>
aX .eql 3 false true j (iA 0) fun h=>
(cC h (bU 108 a.1 3 a.2 fun d=>
aK 106 d a.2 fun e=>
ee 106 e a.2 fun c=>
aX .eql 3 false true c (iA 0) fun f=>some [f,f,c,e,d]) (some [bA false,ud,ud,ud,ud])).bind fun l8=>dH l8 fun o x k p q=>bl q fun a1 a3=>some (Out.ret o,a.2)) (aX .eql 3 false true t2 (iA 3) fun i=>aW i (aN (cx C) call rg n 117 lo 0 (List.length a.2) (fun g b=>bif Nat.beq g 1 then
fl 108 (lk b 1) 1 3 (St.H b) fun d=>
aX .eql 3 false true d (iA 0) fun e=>
(cC e (bU 108 (lk b 1) 2 (St.H b) fun c=>
aK 9 c (St.H b) fun f=>
aX .eql 9 false true f (A.v (Value.string (ByteArray.mk #[]))) fun r=>some [r,r,f,c]) (some [bA false,ud,ud,ud])).bind fun a2=>dH a2 fun k p a1 a4 a5=>some (Out.ret k,St.H b) else bif Nat.beq g 0 then some (Out.ret (bA false),St.H b) else none) (fun g b=>none) (fun s=>some (Out.ret (lk s 2),St.H s)) (fun g b=>some (Out.pan g,St.H b)) n (St.mk [(1,a.1),(2,bA false),(3,iA 0)] a.2)) (some (Out.ret (bA false),a.2)))):=r7
theorem QG (d:A):aF (cx C) call rg n 118 [d] H lo =
gz d H fun a=>
fl 108 a.1 0 3 a.2 fun t2=>
aX .neq 3 false true t2 (iA 3) fun f=>aW f (some (Out.ret (iA 0),a.2)) (aN (cx C) call rg n 118 lo 0 (List.length a.2) (fun c b=>bif Nat.beq c 0 then
aX .add 3 false true (lk b 3) (iA 1) fun g=>some (Out.ret g,St.H b) else none) (fun c b=>none) (fun e=>some (Out.ret (lk e 2),St.H e)) (fun c b=>some (Out.pan c,St.H b)) n (St.mk [(1,a.1),(2,iA 0),(3,iA 0),(4,iA 0)] a.2)):=r7
theorem QH (a:A):aF (cx C) call rg n 119 [a] H lo =
aX .lss 146 false true a (A.v (.int .u64 128)) fun d=>aW d ((bt prog 146 5 a H).bind fun b=>
(aP prog 66 1 [(0,di H b)]).bind fun t2=>some (Out.ret t2,H)) (aX .rem 146 false true a (A.v (.int .u64 128)) fun b=>
aX .add 146 false true b (A.v (.int .u64 128)) fun t2=>
(bt prog 146 5 t2 H).bind fun e=>
(aP prog 66 1 [(0,di H e)]).bind fun f=>
aX .quo 146 false true a (A.v (.int .u64 128)) fun g=>
(C 119 [snap H g]).bind fun h=>
(bK prog 66 66 false f h H lo).bind fun c=>some (Out.ret c.1,c.2)):=r7
theorem QI (a:A):aF (cx C) call rg n 120 [a] H lo =
aX .geq 3 false true a (iA 0) fun c=>aW c ((bt prog 3 146 a H).bind fun b=>
aX .mul 146 true false (A.v (.int .u64 2)) b fun t2=>some (Out.ret t2,H)) (aX .add 3 false true a (iA 1) fun b=>
(jj prog UnOp.neg b).bind fun t2=>
(bt prog 3 146 t2 H).bind fun d=>
aX .mul 146 true false (A.v (.int .u64 2)) d fun e=>
aX .add 146 false true e (A.v (.int .u64 1)) fun f=>some (Out.ret f,H)):=r7
theorem Lp (a:A):aF (cx C) call rg n 121 [a] H lo =
jt a H fun f=>
fl 152 f 1 3 H fun t2=>
jt a H fun g=>
fl 152 g 0 66 H fun h=>
ee 66 h H fun i=>
aX .geq 3 false false t2 i fun j=>aW j (jt a H fun c=>
bU 152 c 2 H fun d=>
bO 4 d (bN d H (bA true)) H lo fun k=>some (Out.ret (A.v (.int .u8 0)),k)) (jt a H fun c=>
fl 152 c 1 3 H fun l=>
aX .add 3 false true l (iA 1) fun o=>
jt a H fun p=>
bU 152 p 1 H fun e=>
bO 3 e (bN e H o) H lo fun b=>
jt a b fun q=>
fl 152 q 0 66 b fun r=>
jt a b fun s=>
fl 152 s 1 3 b fun t=>
aX .sub 3 false true t (iA 1) fun u=>
dx 66 r u b fun w=>
aK 5 w b fun x=>some (Out.ret x,b)):=r7
theorem Jk (c:A):aF (cx C) call rg n 122 [c] H lo=aN (cx C) call rg n 122 lo 0 (List.length H) (fun a b=>bif Nat.beq a 0 then some (Out.ret (A.v (.int .u64 0)),St.H b) else none) (fun a b=>none) (fun d=>some (Out.ret (lk d 2),St.H d)) (fun a b=>some (Out.pan a,St.H b)) n (St.mk [(0,c),(2,A.v (.int .u64 0)),(3,A.v (.int .u64 0)),(4,iA 0)] H):=r7
theorem QK (c d x4:A):aN (cx C) call rg n 6 lo 0 L kx kg kr kp (m+1) (St.mk [(1,c),(2,d),(4,x4)] H) =
fl 28 c 1 26 H fun t1=>
ee 26 t1 H fun t2=>
aX .lss 3 false false x4 t2 fun t3=>aW t3 (fl 28 c 1 26 H fun t5=>
dx 26 t5 x4 H fun t6=>
aK 50 t6 H fun t7=>
eb 50 H fun b=>
bO 50 b.1 (bN b.1 b.2 t7) b.2 lo fun a=>
fl 50 b.1 0 48 a fun a8=>
ee 48 a8 a fun a9=>
aX .gtr 3 false true a9 (iA 40) fun aa=>
(cC aa (some [bA true,ud,ud,ud,ud,ud,ud,ud,ud,ud,ud]) (bU 50 b.1 1 a fun h=>
aK 29 h a fun i=>
ee 29 i a fun j=>
aX .gtr 3 false true j (iA 60) fun e=>
(cC e (bU 50 b.1 1 a fun k=>
aK 29 k a fun l=>
ee 29 l a fun o=>
aX .lss 3 false true o (iA 4094) fun p=>some [p,p,o,l,k]) (some [bA false,ud,ud,ud,ud])).bind fun ab=>dH ab fun f q r s g=>bl g fun t an=>some [f,f,q,r,s,t,e,e,j,i,h])).bind fun ad=>pK ad fun ae ao ap aq f q r s g=>fh g fun t ar af=>bl af fun au av=>
(cC ae (some [bA true,ud,ud,ud,ud]) (bU 50 b.1 1 a fun u=>
aK 29 u a fun v=>
ee 29 v a fun w=>
aX .gtr 3 false true w (iA 5000) fun x=>some [x,x,w,v,u])).bind fun ag=>dH ag fun ah aw ax ay ai=>bl ai fun az b0=>
(cC ah (some [bA true,ud,ud,ud,ud]) (bU 50 b.1 2 a fun y=>
aK 29 y a fun z=>
ee 29 z a fun a0=>
aX .gtr 3 false true a0 (iA 5000) fun a1=>some [a1,a1,a0,z,y])).bind fun aj=>dH aj fun ak b1 b2 b3 al=>bl al fun b4 b5=>aW ak (kr (St.mk [(1,c),(2,bA false),(4,x4)] a)) (aX .add 3 false true x4 (iA 1) fun a2=>
kH L a fun am=>bif bif Nat.beq (List.length a) L then true else aV L [(4,a2),(1,c),(2,d)] [1,2,4] then aN (cx C) call rg n 6 lo 0 L kx kg kr kp m (St.mk [(1,c),(2,d),(4,a2)] am) else none)) (kx 0 (St.mk [(1,c),(2,d),(4,x4)] H)):=r7
theorem Lq (c h d e f b:A):aN (cx C) call rg n 20 lo 0 L kx kg kr kp (m+1) (St.mk [(1,c),(2,h),(3,d),(31,e),(32,f),(33,b)] H) =
aX .lss 3 false false b f fun j=>aW j (dx 26 e b H fun k=>
aK 50 k H fun t2=>
eb 50 H fun g=>
bO 50 g.1 (bN g.1 g.2 t2) g.2 lo fun a=>
aK 50 g.1 a fun l=>
fl 28 c 2 3 a fun o=>
(C 56 [snap a l,snap a b,snap a d,snap a o]).bind fun p=>
(jj prog UnOp.not p).bind fun q=>aW q (kr (St.mk [(1,c),(2,iA 490),(3,d),(31,e),(32,f),(33,b)] a)) (aX .add 3 false true b (iA 1) fun i=>
kH L a fun r=>bif bif Nat.beq (List.length a) L then true else aV L [(33,i),(1,c),(2,h),(3,d),(31,e),(32,f)] [1,2,3,31,32,33] then aN (cx C) call rg n 20 lo 0 L kx kg kr kp m (St.mk [(1,c),(2,h),(3,d),(31,e),(32,f),(33,i)] r) else none)) (kx 0 (St.mk [(1,c),(2,h),(3,d),(31,e),(32,f),(33,b)] H)):=r7
theorem Lr (b f c zN zO BR:A):aN (cx C) call rg n 20 lo 1 L kx kg kr kp (m+1) (St.mk [(1,b),(2,f),(3,c),(48,zN),(49,zO),(50,BR)] H) =
aX .lss 3 false false BR zO fun t0=>aW t0 (dx 22 zN BR H fun t1=>
aK 68 t1 H fun t2=>
eb 68 H fun e=>
bO 68 e.1 (bN e.1 e.2 t2) e.2 lo fun u=>
fl 68 e.1 2 66 u fun t6=>
(C 37 [snap u t6]).bind fun x=>
dw x 0 fun t8=>
dw x 1 fun v=>
eb 72 u fun g=>
bO 72 g.1 (bN g.1 g.2 t8) g.2 lo fun b2=>
eb 46 b2 fun h=>
eb 39 h.2 fun d=>
fl 72 g.1 1 46 d.2 fun b3=>
bU 72 g.1 2 d.2 fun y=>
aK 39 y d.2 fun b4=>bif bif apart y h.1 then bif apart g.1 h.1 then true else false else false then
bO 46 h.1 (bN h.1 d.2 b3) d.2 lo fun z=>
bO 39 d.1 (bN d.1 z b4) z lo fun a=>
(cC v (bU 72 g.1 0 a fun a0=>
aK 3 a0 a fun a1=>
aX .eql 3 false true a1 (iA 1) fun a2=>some [a2,a2,a1,a0]) (some [bA false,ud,ud,ud])).bind fun b5=>dH b5 fun b6 c2 c3 c4 c5=>aW b6 (aK 46 h.1 a fun w=>
(C 52 [snap a w,snap a c]).bind fun i=>
(cC i (bU 68 e.1 0 a fun r=>
aK 3 r a fun s=>
aX .eql 3 false true s (iA 0) fun j=>some [j,j,s,r]) (some [bA false,ud,ud,ud])).bind fun b7=>dH b7 fun b8 c6 a3 b9 c7=>
(cC b8 (bU 68 e.1 1 a fun k=>
aK 3 k a fun l=>
bU 46 h.1 1 a fun o=>
aK 3 o a fun a4=>
aX .add 3 false true a4 (iA 1) fun a5=>
aX .eql 3 false false l a5 fun p=>some [p,p,a5,a4,o,l,k]) (some [bA false,ud,ud,ud,ud,ud,ud])).bind fun ba=>dH ba fun a6 bb bc bd a7=>fh a7 fun c8 a8 be=>bl be fun bf c9=>
(jj prog UnOp.not a6).bind fun t=>aW t (kr (St.mk [(1,b),(2,iA 490),(3,c),(48,zN),(49,zO),(50,BR)] a)) (aX .add 3 false true BR (iA 1) fun q=>
kH L a fun bg=>bif bif Nat.beq (List.length a) L then true else aV L [(50,q),(1,b),(2,f),(3,c),(48,zN),(49,zO)] [1,2,3,48,49,50] then aN (cx C) call rg n 20 lo 1 L kx kg kr kp m (St.mk [(1,b),(2,f),(3,c),(48,zN),(49,zO),(50,q)] bg) else none)) (aW v (fl 39 d.1 0 3 a fun i=>
aX .sub 3 false true c (iA 1) fun r=>
(C 23 [snap a i,snap a (iA 0),snap a r]).bind fun s=>
(cC s (bU 39 d.1 1 a fun j=>
aK 3 j a fun a9=>
bU 28 b 2 a fun aa=>
aK 3 aa a fun k=>
aX .sub 3 false true k (iA 1) fun l=>
(C 23 [snap a a9,snap a (iA 0),snap a l]).bind fun o=>some [o,o,l,k,aa,a9,j]) (some [bA false,ud,ud,ud,ud,ud,ud])).bind fun bh=>dH bh fun a3 b9 ca a6 bi=>fh bi fun bb bc bj=>bl bj fun bd a7=>
(cC a3 (bU 68 e.1 0 a fun p=>
aK 3 p a fun ab=>
bU 39 d.1 0 a fun ad=>
aK 3 ad a fun t=>
aX .add 3 false true t (iA 1) fun q=>
aX .eql 3 false false ab q fun ae=>some [ae,ae,q,t,ad,ab,p]) (some [bA false,ud,ud,ud,ud,ud,ud])).bind fun bk=>dH bk fun a8 bf cb cc bm=>fh bm fun cd ce bn=>bl bn fun cf cg=>
(cC a8 (bU 68 e.1 1 a fun af=>
aK 3 af a fun ag=>
aX .eql 3 false true ag (iA 0) fun ah=>some [ah,ah,ag,af]) (some [bA false,ud,ud,ud])).bind fun bo=>dH bo fun ai ch ci cj ck=>
ox ai true (bU 28 b 1 a fun aj=>
aK 26 aj a fun ak=>
bU 39 d.1 0 a fun al=>
aK 3 al a fun am=>
dx 26 ak am a fun an=>
bU 50 an 2 a fun ao=>
aK 29 ao a fun ap=>
bU 39 d.1 1 a fun aq=>
aK 3 aq a fun ar=>
dx 29 ap ar a fun au=>
aK 3 au a fun bp=>
bU 39 d.1 2 a fun av=>
aK 3 av a fun bq=>some [bq,av,bp,au,ar,aq,ap,ao,an,am,al,ak,aj]) (some [ud,ud,ud,ud,ud,ud,ud,ud,ud,ud,ud,ud,ud]) fun br=>pK br fun bs cl bt cm cn co cp cq bu=>dH bu fun cr cs ct cu bv=>bl bv fun cv cw=>
(cC ai (aX .eql 3 false false bt bs fun aw=>some [aw,aw]) (some [bA false,ud])).bind fun bw=>fh bw fun bx cy cz=>
(jj prog UnOp.not bx).bind fun bz=>aW bz (kr (St.mk [(1,b),(2,iA 490),(3,c),(48,zN),(49,zO),(50,BR)] a)) (aX .add 3 false true BR (iA 1) fun ax=>
kH L a fun c0=>bif bif Nat.beq (List.length a) L then true else aV L [(50,ax),(1,b),(2,f),(3,c),(48,zN),(49,zO)] [1,2,3,48,49,50] then aN (cx C) call rg n 20 lo 1 L kx kg kr kp m (St.mk [(1,b),(2,f),(3,c),(48,zN),(49,zO),(50,ax)] c0) else none)) ((jj prog UnOp.not v).bind fun w=>aW w (kr (St.mk [(1,b),(2,iA 490),(3,c),(48,zN),(49,zO),(50,BR)] a)) (aX .add 3 false true BR (iA 1) fun i=>
kH L a fun c1=>bif bif Nat.beq (List.length a) L then true else aV L [(50,i),(1,b),(2,f),(3,c),(48,zN),(49,zO)] [1,2,3,48,49,50] then aN (cx C) call rg n 20 lo 1 L kx kg kr kp m (St.mk [(1,b),(2,f),(3,c),(48,zN),(49,zO),(50,i)] c1) else none))) else none) (kx 2 (St.mk [(1,b),(2,f),(3,c),(48,zN),(49,zO),(50,BR)] H)):=r7
theorem Ls (b c x4 x5:A):aN (cx C) call rg n 21 lo 0 L kx kg kr kp (m+1) (St.mk [(0,b),(1,c),(4,x4),(5,x5)] H) =
ee 26 b H fun y=>
aX .lss 3 false false x5 y fun z=>aW z (dx 26 b x5 H fun t2=>
fl 50 t2 0 48 H fun t4=>
ee 48 t4 H fun t5=>
dx 26 c x5 H fun t6=>
fl 50 t6 0 48 H fun t8=>
ee 48 t8 H fun t9=>
aX .neq 3 false false t5 t9 fun a5=>
(cC a5 (some [bA true,ud,ud,ud,ud,ud,ud,ud,ud,ud,ud,ud,ud]) (dx 26 b x5 H fun h=>
bU 50 h 1 H fun i=>
aK 29 i H fun j=>
dx 26 c x5 H fun k=>
bU 50 k 1 H fun l=>
aK 29 l H fun o=>
(C 57 [snap H j,snap H o]).bind fun p=>
(jj prog UnOp.not p).bind fun q=>some [q,q,p,o,l,k,x5,c,j,i,h,x5,b])).bind fun a6=>pK a6 fun r aj ak al am an ao ap a7=>dH a7 fun aq ar au av a8=>bl a8 fun aw ax=>
ox r false (dx 26 b x5 H fun s=>
bU 50 s 2 H fun t=>
aK 29 t H fun a9=>
dx 26 c x5 H fun u=>
bU 50 u 2 H fun v=>
aK 29 v H fun aa=>some [aa,v,u,x5,c,a9,t,s,x5,b]) (some [ud,ud,ud,ud,ud,ud,ud,ud,ud,ud]) fun ab=>pK ab fun ad ay az b0 b1 ae b2 b3 af=>fh af fun b4 b5 b6=>
(cC r (some [bA true,ud,ud]) ((C 57 [snap H ae,snap H ad]).bind fun w=>
(jj prog UnOp.not w).bind fun x=>some [x,x,w])).bind fun ag=>fh ag fun ah b7 ai=>bl ai fun b8 b9=>aW ah (kr (St.mk [(0,b),(1,c),(4,bA false),(5,x5)] H)) (aN (cx C) call rg n 21 lo 1 (List.length H) (fun d a=>bif Nat.beq d 2 then
aX .add 3 false true (lk a 5) (iA 1) fun e=>
kH L (St.H a) fun g=>bif bif Nat.beq (List.length (St.H a)) L then true else aV L ((5,e) :: (17,e) :: (16,lk a 5) :: St.fr a) [0,1,4,5] then aN (cx C) call rg n 21 lo 0 L kx kg kr kp m (St.mk [(0,lk a 0),(1,lk a 1),(4,lk a 4),(5,e)] g) else none else bif Nat.beq d 1 then
aX .add 3 false true (lk a 5) (iA 1) fun e=>
kH L (St.H a) fun g=>bif bif Nat.beq (List.length (St.H a)) L then true else aV L ((5,e) :: (17,e) :: (16,lk a 5) :: St.fr a) [0,1,4,5] then aN (cx C) call rg n 21 lo 0 L kx kg kr kp m (St.mk [(0,lk a 0),(1,lk a 1),(4,lk a 4),(5,e)] g) else none else kx d (St.mk [(0,lk a 0),(1,lk a 1),(4,lk a 4),(5,lk a 5)] (St.H a))) (fun d a=>kg d (St.mk [(0,lk a 0),(1,lk a 1),(4,lk a 4),(5,lk a 5)] (St.H a))) (fun f=>kr (St.mk [(0,lk f 0),(1,lk f 1),(4,lk f 4),(5,lk f 5)] (St.H f))) (fun d a=>kp d (St.mk [(0,lk a 0),(1,lk a 1),(4,lk a 4),(5,lk a 5)] (St.H a))) n (St.mk [(0,b),(1,c),(4,x4),(5,x5),(6,iA 0)] H))) (kx 0 (St.mk [(0,b),(1,c),(4,x4),(5,x5)] H)):=r7
theorem Lt (a b x4 x5 x6:A):aN (cx C) call rg n 21 lo 1 L kx kg kr kp (m+1) (St.mk [(0,a),(1,b),(4,x4),(5,x5),(6,x6)] H) =
dx 26 a x5 H fun d=>
fl 50 d 0 48 H fun t2=>
ee 48 t2 H fun e=>
aX .lss 3 false false x6 e fun f=>aW f (dx 26 a x5 H fun g=>
fl 50 g 0 48 H fun h=>
dx 48 h x6 H fun i=>
aK 46 i H fun j=>
dx 26 b x5 H fun k=>
fl 50 k 0 48 H fun l=>
dx 48 l x6 H fun o=>
aK 46 o H fun p=>
aX .neq 46 false false j p fun q=>aW q (kr (St.mk [(0,a),(1,b),(4,bA false),(5,x5),(6,x6)] H)) (aX .add 3 false true x6 (iA 1) fun c=>
kH L H fun r=>bif bif Nat.beq (List.length H) L then true else aV L [(6,c),(0,a),(1,b),(4,x4),(5,x5)] [0,1,4,5,6] then aN (cx C) call rg n 21 lo 1 L kx kg kr kp m (St.mk [(0,a),(1,b),(4,x4),(5,x5),(6,c)] r) else none)) (kx 2 (St.mk [(0,a),(1,b),(4,x4),(5,x5),(6,x6)] H)):=r7
theorem Lu (a c b:A):aN (cx C) call rg n 28 lo 0 L kx kg kr kp (m+1) (St.mk [(1,a),(2,c),(3,b)] H) =
fl 28 a 1 26 H fun e=>
ee 26 e H fun t2=>
aX .lss 3 false false b t2 fun f=>aW f (aK 28 a H fun g=>
(C 62 [snap H g,snap H b]).bind fun h=>
(jj prog UnOp.not h).bind fun i=>aW i (kr (St.mk [(1,a),(2,iA 490),(3,b)] H)) (aX .add 3 false true b (iA 1) fun d=>
kH L H fun j=>bif bif Nat.beq (List.length H) L then true else aV L [(3,d),(1,a),(2,c)] [1,2,3] then aN (cx C) call rg n 28 lo 0 L kx kg kr kp m (St.mk [(1,a),(2,c),(3,d)] j) else none)) (kx 0 (St.mk [(1,a),(2,c),(3,b)] H)):=r7
theorem Lv (a b x5:A):aN (cx C) call rg n 28 lo 1 L kx kg kr kp (m+1) (St.mk [(1,a),(2,b),(5,x5)] H) =
bU 28 a 0 H fun d=>
fl 25 d 0 22 H fun t2=>
ee 22 t2 H fun e=>
aX .lss 3 false false x5 e fun f=>aW f (aK 28 a H fun g=>
bU 28 a 0 H fun h=>
fl 25 h 0 22 H fun i=>
dx 22 i x5 H fun j=>
aK 68 j H fun k=>
(C 63 [snap H g,snap H k]).bind fun l=>
(jj prog UnOp.not l).bind fun o=>aW o (kr (St.mk [(1,a),(2,iA 490),(5,x5)] H)) (aX .add 3 false true x5 (iA 1) fun c=>
kH L H fun p=>bif bif Nat.beq (List.length H) L then true else aV L [(5,c),(1,a),(2,b)] [1,2,5] then aN (cx C) call rg n 28 lo 1 L kx kg kr kp m (St.mk [(1,a),(2,b),(5,c)] p) else none)) (kx 2 (St.mk [(1,a),(2,b),(5,x5)] H)):=r7
theorem Lw (a b x4 x5:A):aN (cx C) call rg n 35 lo 0 L kx kg kr kp (m+1) (St.mk [(2,a),(3,b),(4,x4),(5,x5)] H) =
fl 25 a 0 22 H fun d=>
ee 22 d H fun t2=>
aX .lss 3 false false x5 t2 fun e=>aW e (fl 25 a 0 22 H fun f=>
dx 22 f x5 H fun g=>
aK 68 g H fun h=>
fl 25 b 0 22 H fun i=>
dx 22 i x5 H fun j=>
aK 68 j H fun k=>
(C 67 [snap H h,snap H k]).bind fun l=>
(jj prog UnOp.not l).bind fun o=>aW o (kr (St.mk [(2,a),(3,b),(4,bA false),(5,x5)] H)) (aX .add 3 false true x5 (iA 1) fun c=>
kH L H fun p=>bif bif Nat.beq (List.length H) L then true else aV L [(5,c),(2,a),(3,b),(4,x4)] [2,3,4,5] then aN (cx C) call rg n 35 lo 0 L kx kg kr kp m (St.mk [(2,a),(3,b),(4,x4),(5,c)] p) else none)) (kx 0 (St.mk [(2,a),(3,b),(4,x4),(5,x5)] H)):=r7
theorem Lx (a b x4 x6:A):aN (cx C) call rg n 35 lo 1 L kx kg kr kp (m+1) (St.mk [(2,a),(3,b),(4,x4),(6,x6)] H) =
fl 25 a 1 23 H fun d=>
ee 23 d H fun t2=>
aX .lss 3 false false x6 t2 fun e=>aW e (fl 25 a 1 23 H fun f=>
dx 23 f x6 H fun g=>
aK 99 g H fun h=>
fl 25 b 1 23 H fun i=>
dx 23 i x6 H fun j=>
aK 99 j H fun k=>
aX .neq 99 false false h k fun l=>aW l (kr (St.mk [(2,a),(3,b),(4,bA false),(6,x6)] H)) (aX .add 3 false true x6 (iA 1) fun c=>
kH L H fun o=>bif bif Nat.beq (List.length H) L then true else aV L [(6,c),(2,a),(3,b),(4,x4)] [2,3,4,6] then aN (cx C) call rg n 35 lo 1 L kx kg kr kp m (St.mk [(2,a),(3,b),(4,x4),(6,c)] o) else none)) (kx 2 (St.mk [(2,a),(3,b),(4,x4),(6,x6)] H)):=r7
theorem HU (b d x6 Hj Hk yp:A):aN (cx C) call rg n 37 lo 0 L kx kg kr kp (m+1) (St.mk [(2,b),(3,d),(6,x6),(53,Hj),(54,Hk),(55,yp)] H) =
aX .lss 3 false false yp Hk fun i=>aW i (dx 106 Hj yp H fun j=>
aK 108 j H fun t2=>
eb 108 H fun c=>
bO 108 c.1 (bN c.1 c.2 t2) c.2 lo fun a=>
fl 108 c.1 0 3 a fun k=>
aX .neq 3 false true k (iA 1) fun l=>aW l (aK 72 b a fun e=>
bO 72 b (bN b a e) a lo fun o=>kr (St.mk [(2,b),(3,bA false),(6,x6),(53,Hj),(54,Hk),(55,yp)] o)) (dx 111 x6 yp a fun e=>
aK 113 e a fun p=>
fl 108 c.1 1 3 a fun q=>
jt p a fun f=>
bO 3 f (bN f a q) a lo fun g=>
aX .add 3 false true yp (iA 1) fun h=>
kH L g fun r=>bif bif Nat.beq (List.length g) L then true else aV L [(55,h),(2,b),(3,d),(6,x6),(53,Hj),(54,Hk)] [2,3,6,53,54,55] then aN (cx C) call rg n 37 lo 0 L kx kg kr kp m (St.mk [(2,b),(3,d),(6,x6),(53,Hj),(54,Hk),(55,h)] r) else none)) (kx 0 (St.mk [(2,b),(3,d),(6,x6),(53,Hj),(54,Hk),(55,yp)] H)):=r7
theorem Ly (a b c x6 x7 d x9 e:A):aN (cx C) call rg n 38 lo 0 L kx kg kr kp (m+1) (St.mk [(0,a),(1,b),(2,c),(6,x6),(7,x7),(8,d),(9,x9),(10,e)] H) =
aX .lss 3 false false x9 e fun j=>aW j (aX .add 3 false false x9 e fun k=>
(bt prog 3 114 k H).bind fun t2=>
aX .shr 114 false true t2 (A.v (.int .u64 1)) fun l=>
(bt prog 114 3 l H).bind fun g=>
dx 48 a g H fun o=>
aK 46 o H fun p=>dP (cx C) call c [p,b] H lo (fun h f=>
aX .lss 3 false true h (iA 0) fun q=>aW q (aX .add 3 false true g (iA 1) fun i=>
kH L f fun r=>bif bif Nat.beq (List.length f) L then true else aV L [(9,i),(0,a),(1,b),(2,c),(6,x6),(7,x7),(8,d),(10,e)] [0,1,2,6,7,8,9,10] then aN (cx C) call rg n 38 lo 0 L kx kg kr kp m (St.mk [(0,a),(1,b),(2,c),(6,x6),(7,x7),(8,d),(9,i),(10,e)] r) else none) (kH L f fun s=>bif bif Nat.beq (List.length f) L then true else aV L [(10,g),(0,a),(1,b),(2,c),(6,x6),(7,x7),(8,d),(9,x9)] [0,1,2,6,7,8,9,10] then aN (cx C) call rg n 38 lo 0 L kx kg kr kp m (St.mk [(0,a),(1,b),(2,c),(6,x6),(7,x7),(8,d),(9,x9),(10,g)] s) else none)) fun h f=>kp h (St.mk [(0,a),(1,b),(2,c),(6,x6),(7,x7),(8,d),(9,x9),(10,e)] f)) (kx 0 (St.mk [(0,a),(1,b),(2,c),(6,x6),(7,x7),(8,d),(9,x9),(10,e)] H)):=r7
theorem Lz (a b x4 x5:A):aN (cx C) call rg n 46 lo 0 L kx kg kr kp (m+1) (St.mk [(0,a),(3,b),(4,x4),(5,x5)] H) =
ee 48 a H fun h=>
aX .lss 3 false false x5 h fun c=>
ox c true (dx 48 a x5 H fun t2=>
bU 46 t2 2 H fun d=>
aK 3 d H fun i=>
bU 46 b 2 H fun e=>
aK 3 e H fun j=>some [j,e,i,d,t2,x5,a]) (some [ud,ud,ud,ud,ud,ud,ud]) fun k=>dH k fun l u4 o u p=>fh p fun v w q=>bl q fun x y=>
(cC c (aX .lss 3 false false o l fun f=>some [f,f]) (some [bA false,ud])).bind fun r=>fh r fun s z a0=>aW s (aX .add 3 false true x5 (iA 1) fun g=>
kH L H fun t=>bif bif Nat.beq (List.length H) L then true else aV L [(5,g),(0,a),(3,b),(4,x4)] [0,3,4,5] then aN (cx C) call rg n 46 lo 0 L kx kg kr kp m (St.mk [(0,a),(3,b),(4,x4),(5,g)] t) else none) (kx 0 (St.mk [(0,a),(3,b),(4,x4),(5,x5)] H)):=r7
theorem HV (c a x9 b qM:A):aN (cx C) call rg n 54 lo 0 L kx kg kr kp (m+1) (St.mk [(2,c),(3,a),(9,x9),(10,b),(11,qM)] H) =
aX .lss 3 false false qM b fun h=>aW h (dx 111 x9 qM H fun i=>
aK 113 i H fun t2=>
fl 108 a 3 106 H fun j=>
jt t2 H fun k=>
aK 3 k H fun l=>
hX 108 [(0,iA 1),(1,l)] fun o=>
(aP prog 106 1 [(0,di H o)]).bind fun p=>
(bK prog 106 106 false j p H lo).bind fun d=>
bU 108 a 3 d.2 fun e=>
bO 106 e (bN e d.2 d.1) d.2 lo fun f=>
aX .add 3 false true qM (iA 1) fun g=>
kH L f fun q=>bif bif Nat.beq (List.length f) L then true else aV L [(11,g),(2,c),(3,a),(9,x9),(10,b)] [2,3,9,10,11] then aN (cx C) call rg n 54 lo 0 L kx kg kr kp m (St.mk [(2,c),(3,a),(9,x9),(10,b),(11,g)] q) else none) (kx 0 (St.mk [(2,c),(3,a),(9,x9),(10,b),(11,qM)] H)):=r7
theorem LA (b c BP BQ tj:A):aN (cx C) call rg n 55 lo 0 L kx kg kr kp (m+1) (St.mk [(1,b),(2,c),(15,BP),(16,BQ),(17,tj)] H) =
aX .lss 3 false false tj BQ fun t0=>aW t0 (dx 23 BP tj H fun t1=>
aK 99 t1 H fun t2=>
(jZ prog 99 H).bind fun e=>
bO 99 e.1 (bN e.1 e.2 t2) e.2 lo fun a=>
aK 99 e.1 a fun t5=>
(C 84 [snap a t5]).bind fun t6=>
(jj prog UnOp.not t6).bind fun h=>
ox h false (aX .gtr 3 false true tj (iA 0) fun i=>
ox i true (bU 25 b 1 a fun p=>
aK 23 p a fun q=>
aX .sub 3 false true tj (iA 1) fun r=>
dx 23 q r a fun s=>
(dA prog 99 s none none none a).bind fun a7=>
(dA prog 99 e.1 none none none a).bind fun a8=>some [a8,a7,s,r,tj,q,p]) (some [ud,ud,ud,ud,ud,ud,ud]) fun l9=>dH l9 fun j t u v aa=>fh aa fun w x ab=>bl ab fun d y=>some [j,t,u,v,w,x,d,i,i,tj]) (some [ud,ud,ud,ud,ud,ud,ud,ud,ud,ud]) fun l8=>pK l8 fun u9 j t u v w x d y=>fh y fun al am an=>pA d true ((call 85 [j,u9] a lo).bind fun f=>dL f.1 (fun k=>
ox d true (aX .geq 3 false true k (iA 0) fun g=>some [g]) (some [ud]) fun l=>bl l fun o ao=>
(cC h (some [bA true,ud]) ((cC d (some o) (some (bA false))).bind fun z=>some [z,z])).bind fun a0=>fh a0 fun af ap aq=>aW af (kr (St.mk [(1,b),(2,iA 60),(15,BP),(16,BQ),(17,tj)] f.2)) (aX .add 3 false true tj (iA 1) fun a1=>
kH L f.2 fun ag=>bif bif Nat.beq (List.length f.2) L then true else aV L [(17,a1),(1,b),(2,c),(15,BP),(16,BQ)] [1,2,15,16,17] then aN (cx C) call rg n 55 lo 0 L kx kg kr kp m (St.mk [(1,b),(2,c),(15,BP),(16,BQ),(17,a1)] ag) else none)) fun k=>kp k (St.mk [(1,b),(2,c),(15,BP),(16,BQ),(17,tj)] f.2)) (ox d true (aX .geq 3 false true (ud) (iA 0) fun ah=>some [ah]) (some [ud]) fun ai=>bl ai fun aj ar=>
(cC h (some [bA true,ud]) ((cC d (some aj) (some (bA false))).bind fun g=>some [g,g])).bind fun l=>fh l fun o au a0=>aW o (kr (St.mk [(1,b),(2,iA 60),(15,BP),(16,BQ),(17,tj)] a)) (aX .add 3 false true tj (iA 1) fun a2=>
kH L a fun ak=>bif bif Nat.beq (List.length a) L then true else aV L [(17,a2),(1,b),(2,c),(15,BP),(16,BQ)] [1,2,15,16,17] then aN (cx C) call rg n 55 lo 0 L kx kg kr kp m (St.mk [(1,b),(2,c),(15,BP),(16,BQ),(17,a2)] ak) else none))) (kx 0 (St.mk [(1,b),(2,c),(15,BP),(16,BQ),(17,tj)] H)):=r7
theorem LB (c d e x4 f b Hi a:A):aN (cx C) call rg n 56 lo 0 L kx kg kr kp (m+1) (St.mk [(1,c),(2,d),(3,e),(4,x4),(8,f),(27,b),(28,Hi),(29,a)] H) =
aX .lss 3 false false a Hi fun t0=>aW t0 (dx 29 b a H fun t1=>
aK 3 t1 H fun t2=>
(C 23 [snap H t2,snap H (iA 0),snap H (iA 8)]).bind fun t3=>
(jj prog UnOp.not t3).bind fun t4=>
(cC t4 (some [bA true,ud,ud,ud,ud,ud,ud,ud,ud,ud,ud,ud,ud,ud,ud,ud]) (bU 50 x4 2 H fun i=>
aK 29 i H fun j=>
dx 29 j a H fun k=>
aK 3 k H fun l=>
aX .neq 3 false false l t2 fun g=>
(cC g (bU 50 x4 2 H fun o=>
aK 29 o H fun p=>
dx 29 p a H fun q=>
aK 3 q H fun r=>
aX .neq 3 false true r (iA 0) fun s=>some [s,s,r,q,a,p,o]) (some [bA false,ud,ud,ud,ud,ud,ud])).bind fun a4=>dH a4 fun h t u v a5=>fh a5 fun w x a6=>bl a6 fun y ab=>some [h,h,t,u,v,w,x,y,g,g,t2,l,k,a,j,i])).bind fun l5=>pK l5 fun u6 u7 u8 u9 ag h t u a9=>pK a9 fun v w x y ah ai aj ak al=>aW u6 (kr (St.mk [(1,c),(2,d),(3,e),(4,x4),(8,bA false),(27,b),(28,Hi),(29,a)] H)) (aX .add 3 false true a (iA 1) fun z=>
kH L H fun aa=>bif bif Nat.beq (List.length H) L then true else aV L [(29,z),(1,c),(2,d),(3,e),(4,x4),(8,f),(27,b),(28,Hi)] [1,2,3,4,8,27,28,29] then aN (cx C) call rg n 56 lo 0 L kx kg kr kp m (St.mk [(1,c),(2,d),(3,e),(4,x4),(8,f),(27,b),(28,Hi),(29,z)] aa) else none)) (kx 0 (St.mk [(1,c),(2,d),(3,e),(4,x4),(8,f),(27,b),(28,Hi),(29,a)] H)):=r7
theorem LC (c d g qM yr e f:A):aN (cx C) call rg n 56 lo 1 L kx kg kr kp (m+1) (St.mk [(1,c),(2,d),(8,g),(11,qM),(57,yr),(58,e),(59,f)] H) =
aX .lss 3 false false f e fun r=>aW r (dx 48 yr f H fun s=>
aK 46 s H fun t2=>
eb 46 H fun b=>
bO 46 b.1 (bN b.1 b.2 t2) b.2 lo fun a=>
aK 46 b.1 a fun t=>
(C 52 [snap a t,snap a d]).bind fun u=>
(jj prog UnOp.not u).bind fun v=>
(cC v (some [bA true,ud,ud,ud,ud]) (bU 46 b.1 1 a fun h=>
aK 3 h a fun i=>
aX .neq 3 false false i c fun j=>some [j,j,c,i,h])).bind fun w=>dH w fun x a4 a5 a6 y=>bl y fun a7 a8=>
(cC x (some [bA true,ud,ud,ud,ud]) (bU 46 b.1 2 a fun k=>
aK 3 k a fun l=>
aX .lss 3 false false l qM fun o=>some [o,o,qM,l,k])).bind fun z=>dH z fun a0 a9 aa ab a1=>bl a1 fun ad ae=>aW a0 (kr (St.mk [(1,c),(2,d),(8,bA false),(11,qM),(57,yr),(58,e),(59,f)] a)) (fl 46 b.1 2 3 a fun a2=>
aX .add 3 false true a2 (iA 1) fun p=>
aX .add 3 false true f (iA 1) fun q=>
kH L a fun a3=>bif bif Nat.beq (List.length a) L then true else aV L [(59,q),(11,p),(1,c),(2,d),(8,g),(57,yr),(58,e)] [1,2,8,11,57,58,59] then aN (cx C) call rg n 56 lo 1 L kx kg kr kp m (St.mk [(1,c),(2,d),(8,g),(11,p),(57,yr),(58,e),(59,q)] a3) else none)) (kx 2 (St.mk [(1,c),(2,d),(8,g),(11,qM),(57,yr),(58,e),(59,f)] H)):=r7
theorem LD (a b x4 x5:A):aN (cx C) call rg n 57 lo 0 L kx kg kr kp (m+1) (St.mk [(0,a),(1,b),(4,x4),(5,x5)] H) =
ee 29 a H fun d=>
aX .lss 3 false false x5 d fun e=>aW e (dx 29 a x5 H fun t2=>
aK 3 t2 H fun f=>
dx 29 b x5 H fun g=>
aK 3 g H fun h=>
aX .neq 3 false false f h fun i=>aW i (kr (St.mk [(0,a),(1,b),(4,bA false),(5,x5)] H)) (aX .add 3 false true x5 (iA 1) fun c=>
kH L H fun j=>bif bif Nat.beq (List.length H) L then true else aV L [(5,c),(0,a),(1,b),(4,x4)] [0,1,4,5] then aN (cx C) call rg n 57 lo 0 L kx kg kr kp m (St.mk [(0,a),(1,b),(4,x4),(5,c)] j) else none)) (kx 0 (St.mk [(0,a),(1,b),(4,x4),(5,x5)] H)):=r7
theorem LF (a c b:A):aN (cx C) call rg n 61 lo 0 L kx kg kr kp (m+1) (St.mk [(1,a),(2,c),(3,b)] H) =
fl 25 a 0 22 H fun e=>
ee 22 e H fun t2=>
aX .lss 3 false false b t2 fun f=>aW f (fl 25 a 0 22 H fun g=>
dx 22 g b H fun h=>
aK 68 h H fun i=>
(C 86 [snap H i]).bind fun j=>
(jj prog UnOp.not j).bind fun k=>aW k (kr (St.mk [(1,a),(2,iA 60),(3,b)] H)) (aX .add 3 false true b (iA 1) fun d=>
kH L H fun l=>bif bif Nat.beq (List.length H) L then true else aV L [(3,d),(1,a),(2,c)] [1,2,3] then aN (cx C) call rg n 61 lo 0 L kx kg kr kp m (St.mk [(1,a),(2,c),(3,d)] l) else none)) (kx 0 (St.mk [(1,a),(2,c),(3,b)] H)):=r7
theorem LG (b e x4:A):aN (cx C) call rg n 61 lo 1 L kx kg kr kp (m+1) (St.mk [(1,b),(2,e),(4,x4)] H) =
fl 25 b 1 23 H fun t1=>
ee 23 t1 H fun t2=>
aX .lss 3 false false x4 t2 fun t3=>aW t3 (fl 25 b 1 23 H fun t5=>
dx 23 t5 x4 H fun t6=>
aK 99 t6 H fun t7=>
eb 99 H fun c=>
bO 99 c.1 (bN c.1 c.2 t7) c.2 lo fun a=>
dx 99 c.1 (iA 0) a fun b8=>
aK 3 b8 a fun b9=>
(C 87 [snap a b9]).bind fun ba=>
(jj prog UnOp.not ba).bind fun bb=>
(cC bb (some [bA true,ud,ud,ud,ud]) (dx 99 c.1 (iA 1) a fun s=>
aK 3 s a fun t=>
(C 87 [snap a t]).bind fun u=>
(jj prog UnOp.not u).bind fun v=>some [v,v,u,t,s])).bind fun bc=>dH bc fun bd c8 c9 ca be=>bl be fun cb cc=>
(cC bd (some [bA true,ud,ud,ud,ud,ud]) (dx 99 c.1 (iA 0) a fun w=>
aK 3 w a fun x=>
dx 99 c.1 (iA 1) a fun y=>
aK 3 y a fun z=>
aX .geq 3 false false x z fun a0=>some [a0,a0,z,y,x,w])).bind fun bf=>dH bf fun bg cd ce cf bh=>fh bh fun cg ch ci=>aW bg (kr (St.mk [(1,b),(2,iA 60),(4,x4)] a)) (aX .gtr 3 false true x4 (iA 0) fun a1=>
ox a1 true (dx 99 c.1 (iA 0) a fun a2=>
aK 3 a2 a fun a3=>
bU 25 b 1 a fun a4=>
aK 23 a4 a fun a5=>
aX .sub 3 false true x4 (iA 1) fun a6=>
dx 23 a5 a6 a fun a7=>
dx 99 a7 (iA 0) a fun a8=>
aK 3 a8 a fun a9=>
aX .lss 3 false false a3 a9 fun q=>
ox q false (dx 99 c.1 (iA 0) a fun aa=>
aK 3 aa a fun ab=>
bU 25 b 1 a fun ad=>
aK 23 ad a fun ae=>
aX .sub 3 false true x4 (iA 1) fun af=>
dx 23 ae af a fun ag=>
dx 99 ag (iA 0) a fun ah=>
aK 3 ah a fun ai=>
aX .eql 3 false false ab ai fun r=>
ox r true (dx 99 c.1 (iA 1) a fun aj=>
aK 3 aj a fun bi=>
bU 25 b 1 a fun ak=>
aK 23 ak a fun al=>
aX .sub 3 false true x4 (iA 1) fun am=>
dx 23 al am a fun an=>
dx 99 an (iA 1) a fun ao=>
aK 3 ao a fun bj=>some [bj,ao,an,am,x4,al,ak,bi,aj]) (some [ud,ud,ud,ud,ud,ud,ud,ud,ud]) fun bk=>pK bk fun f g d h i j k l bm=>bl bm fun o cj=>some [f,g,d,h,i,j,k,l,o,r,r,ai,ah,ag,af,x4,ae,ad,ab,aa]) (some [ud,ud,ud,ud,ud,ud,ud,ud,ud,ud,ud,ud,ud,ud,ud,ud,ud,ud,ud,ud]) fun bn=>pK bn fun p ap aq ar au av aw ax bo=>pK bo fun ay f g d h i j k bp=>dH bp fun l o az b0 ck=>some [p,ap,aq,ar,au,av,aw,ax,ay,f,g,d,h,i,j,k,l,o,az,b0,q,q,a9,a8,a7,a6,x4,a5,a4,a3,a2]) (some [ud,ud,ud,ud,ud,ud,ud,ud,ud,ud,ud,ud,ud,ud,ud,ud,ud,ud,ud,ud,ud,ud,ud,ud,ud,ud,ud,ud,ud,ud,ud]) fun bq=>pK bq fun br cl cm cn co cp cq bs bt=>pK bt fun cr p ap aq ar au av aw bu=>pK bu fun ax ay f g d h i j bv=>dH bv fun k l o az bw=>fh bw fun b0 cs bx=>bl bx fun ct cu=>
ox p true (aX .leq 3 false false bs br fun bz=>some [bz]) (some [ud]) fun c0=>bl c0 fun c1 cv=>
ox d false ((cC p (some c1) (some (bA false))).bind fun c2=>some [c2]) (some [ud]) fun c3=>bl c3 fun c4 cw=>
(cC a1 ((cC d (some (bA true)) (some c4)).bind fun b1=>some [b1,b1]) (some [bA false,ud])).bind fun c5=>fh c5 fun c6 cy cz=>aW c6 (kr (St.mk [(1,b),(2,iA 60),(4,x4)] a)) (aX .add 3 false true x4 (iA 1) fun b2=>
kH L a fun c7=>bif bif Nat.beq (List.length a) L then true else aV L [(4,b2),(1,b),(2,e)] [1,2,4] then aN (cx C) call rg n 61 lo 1 L kx kg kr kp m (St.mk [(1,b),(2,e),(4,b2)] c7) else none))) (kx 2 (St.mk [(1,b),(2,e),(4,x4)] H)):=r7
theorem LH (b a x4 x5 x6:A):aN (cx C) call rg n 62 lo 0 L kx kg kr kp (m+1) (St.mk [(1,b),(2,a),(4,x4),(5,x5),(6,x6)] H) =
fl 28 a 2 3 H fun t1=>
aX .lss 3 false false x6 t1 fun t2=>aW t2 (fl 50 x5 1 29 H fun t4=>
dx 29 t4 x6 H fun t5=>
aK 3 t5 H fun t6=>
(C 60 [snap H t6,snap H (iA 0),snap H (iA 8)]).bind fun t7=>
(jj prog UnOp.not t7).bind fun f=>
ox f false (bU 50 x5 2 H fun g=>
aK 29 g H fun h=>
dx 29 h x6 H fun i=>
aK 3 i H fun j=>
aX .neq 3 false true j (iA 0) fun d=>
ox d true (bU 50 x5 2 H fun k=>
aK 29 k H fun l=>
dx 29 l x6 H fun o=>
aK 3 o H fun a7=>
bU 50 x5 1 H fun p=>
aK 29 p H fun q=>
dx 29 q x6 H fun r=>
aK 3 r H fun a8=>some [a8,r,x6,q,p,a7,o,x6,l,k]) (some [ud,ud,ud,ud,ud,ud,ud,ud,ud,ud]) fun a9=>pK a9 fun e s t u v c w x aa=>fh aa fun y z am=>some [e,s,t,u,v,c,w,x,y,z,d,d,j,i,x6,h,g]) (some [ud,ud,ud,ud,ud,ud,ud,ud,ud,ud,ud,ud,ud,ud,ud,ud,ud]) fun l9=>pK l9 fun ad an ao ap aq e s t ae=>pK ae fun u v c w x y z ar af=>bl af fun au av=>
ox c true (aX .neq 3 false false e ad fun ag=>some [ag]) (some [ud]) fun ah=>bl ah fun ai aw=>
(cC f (some [bA true,ud]) ((cC c (some ai) (some (bA false))).bind fun a0=>some [a0,a0])).bind fun aj=>fh aj fun ak ax ay=>aW ak (kr (St.mk [(1,b),(2,a),(4,bA false),(5,x5),(6,x6)] H)) (aX .add 3 false true x6 (iA 1) fun a1=>
kH L H fun al=>bif bif Nat.beq (List.length H) L then true else aV L [(6,a1),(1,b),(2,a),(4,x4),(5,x5)] [1,2,4,5,6] then aN (cx C) call rg n 62 lo 0 L kx kg kr kp m (St.mk [(1,b),(2,a),(4,x4),(5,x5),(6,a1)] al) else none)) (kx 0 (St.mk [(1,b),(2,a),(4,x4),(5,x5),(6,x6)] H)):=r7
theorem LI (c d x4 x5 x7:A):aN (cx C) call rg n 62 lo 1 L kx kg kr kp (m+1) (St.mk [(1,c),(2,d),(4,x4),(5,x5),(7,x7)] H) =
fl 50 x5 0 48 H fun t1=>
ee 48 t1 H fun t2=>
aX .lss 3 false false x7 t2 fun t3=>aW t3 (fl 50 x5 0 48 H fun t5=>
dx 48 t5 x7 H fun t6=>
aK 46 t6 H fun t7=>
eb 46 H fun b=>
bO 46 b.1 (bN b.1 b.2 t7) b.2 lo fun a=>
aK 46 b.1 a fun ad=>
fl 28 d 1 26 a fun ae=>
ee 26 ae a fun af=>
(C 88 [snap a ad,snap a af]).bind fun ag=>
(jj prog UnOp.not ag).bind fun ah=>
(cC ah (some [bA true,ud,ud,ud,ud]) (bU 46 b.1 1 a fun h=>
aK 3 h a fun i=>
aX .neq 3 false false i c fun j=>some [j,j,c,i,h])).bind fun ai=>dH ai fun aj b2 b3 b4 ak=>bl ak fun b5 b6=>
(cC aj (some [bA true,ud,ud,ud,ud,ud]) (bU 46 b.1 2 a fun k=>
aK 3 k a fun l=>
bU 28 d 2 a fun o=>
aK 3 o a fun p=>
aX .lss 3 false false l p fun q=>some [q,q,p,o,l,k])).bind fun al=>dH al fun r b7 b8 b9 am=>fh am fun ba bb bc=>
ox r false (aX .gtr 3 false true x7 (iA 0) fun f=>
ox f true (bU 46 b.1 2 a fun s=>
aK 3 s a fun an=>
bU 50 x5 0 a fun t=>
aK 48 t a fun u=>
aX .sub 3 false true x7 (iA 1) fun v=>
dx 48 u v a fun w=>
bU 46 w 2 a fun x=>
aK 3 x a fun ao=>some [ao,x,w,v,x7,u,t,an,s]) (some [ud,ud,ud,ud,ud,ud,ud,ud,ud]) fun ap=>pK ap fun y z a0 a1 a2 a3 g a4 aq=>bl aq fun e bd=>some [y,z,a0,a1,a2,a3,g,a4,e,f,f,x7]) (some [ud,ud,ud,ud,ud,ud,ud,ud,ud,ud,ud,ud]) fun ar=>pK ar fun au y z a0 a1 a2 a3 g av=>dH av fun a4 e be bf bg=>
ox e true (aX .leq 3 false false g au fun aw=>some [aw]) (some [ud]) fun ax=>bl ax fun ay bh=>
(cC r (some [bA true,ud]) ((cC e (some ay) (some (bA false))).bind fun a5=>some [a5,a5])).bind fun az=>fh az fun b0 bi bj=>aW b0 (kr (St.mk [(1,c),(2,d),(4,bA false),(5,x5),(7,x7)] a)) (aX .add 3 false true x7 (iA 1) fun a6=>
kH L a fun b1=>bif bif Nat.beq (List.length a) L then true else aV L [(7,a6),(1,c),(2,d),(4,x4),(5,x5)] [1,2,4,5,7] then aN (cx C) call rg n 62 lo 1 L kx kg kr kp m (St.mk [(1,c),(2,d),(4,x4),(5,x5),(7,a6)] b1) else none)) (kx 2 (St.mk [(1,c),(2,d),(4,x4),(5,x5),(7,x7)] H)):=r7
theorem LJ (c d a x6 x7:A):aN (cx C) call rg n 77 lo 0 L kx kg kr kp (m+1) (St.mk [(1,c),(2,d),(3,a),(6,x6),(7,x7)] H) =
fl 25 a 1 23 H fun q=>
ee 23 q H fun t2=>
aX .lss 3 false false x7 t2 fun r=>aW r (fl 25 a 1 23 H fun s=>
dx 23 s x7 H fun t=>
dx 99 t (iA 0) H fun u=>
aK 3 u H fun v=>
(BV true c [d]).bind fun w=>
aX .eql 3 false false v w fun b=>
ox b true (bU 25 a 1 H fun g=>some g) (some (ud)) fun g=>
ox b true (aK 23 g H fun h=>some h) (some (ud)) fun h=>
ox b true (some x7) (some (ud)) fun x=>
ox b true (dx 23 h x H fun i=>some i) (some (ud)) fun i=>
ox b true (dx 99 i (iA 1) H fun j=>some j) (some (ud)) fun j=>
ox b true (aK 3 j H fun e=>some e) (some (ud)) fun e=>
ox b true (some c) (some (ud)) fun y=>
ox b true (some d) (some (ud)) fun z=>pA b true ((BV false y [z]).bind fun f=>
(cC b (aX .eql 3 false false e f fun k=>some [k,k]) (some [bA false,ud])).bind fun a0=>fh a0 fun l a5 a6=>aW l (kr (St.mk [(1,c),(2,d),(3,a),(6,bA true),(7,x7)] H)) (aX .add 3 false true x7 (iA 1) fun o=>
kH L H fun a1=>bif bif Nat.beq (List.length H) L then true else aV L [(7,o),(1,c),(2,d),(3,a),(6,x6)] [1,2,3,6,7] then aN (cx C) call rg n 77 lo 0 L kx kg kr kp m (St.mk [(1,c),(2,d),(3,a),(6,x6),(7,o)] a1) else none)) ((cC b (aX .eql 3 false false e (ud) fun f=>some [f,f]) (some [bA false,ud])).bind fun a2=>fh a2 fun a3 l a7=>aW a3 (kr (St.mk [(1,c),(2,d),(3,a),(6,bA true),(7,x7)] H)) (aX .add 3 false true x7 (iA 1) fun p=>
kH L H fun a4=>bif bif Nat.beq (List.length H) L then true else aV L [(7,p),(1,c),(2,d),(3,a),(6,x6)] [1,2,3,6,7] then aN (cx C) call rg n 77 lo 0 L kx kg kr kp m (St.mk [(1,c),(2,d),(3,a),(6,x6),(7,p)] a4) else none))) (kx 0 (St.mk [(1,c),(2,d),(3,a),(6,x6),(7,x7)] H)):=r7
theorem LK (a b x4 x6 x7:A):aN (cx C) call rg n 79 lo 0 L kx kg kr kp (m+1) (St.mk [(2,a),(3,b),(4,x4),(6,x6),(7,x7)] H) =
fl 108 x4 3 106 H fun e=>
ee 106 e H fun t2=>
aX .lss 3 false false x7 t2 fun f=>aW f (fl 108 x4 3 106 H fun g=>
dx 106 g x7 H fun h=>
fl 108 h 0 3 H fun i=>
aX .neq 3 false true i (iA 1) fun j=>aW j (kr (St.mk [(2,A.imm [] true),(3,bA false),(4,x4),(6,x6),(7,x7)] H)) (fl 108 x4 3 106 H fun k=>
dx 106 k x7 H fun l=>
fl 108 l 1 3 H fun o=>
(aP prog 29 1 [(0,di H o)]).bind fun p=>
(bK prog 29 29 false x6 p H lo).bind fun c=>
aX .add 3 false true x7 (iA 1) fun d=>
kH L c.2 fun q=>bif bif Nat.beq (List.length c.2) L then true else aV L [(7,d),(6,c.1),(2,a),(3,b),(4,x4)] [2,3,4,6,7] then aN (cx C) call rg n 79 lo 0 L kx kg kr kp m (St.mk [(2,a),(3,b),(4,x4),(6,c.1),(7,d)] q) else none)) (kx 0 (St.mk [(2,a),(3,b),(4,x4),(6,x6),(7,x7)] H)):=r7
theorem LL (c a x4 x9 b qM:A):aN (cx C) call rg n 85 lo 0 L kx kg kr kp (m+1) (St.mk [(0,c),(1,a),(4,x4),(9,x9),(10,b),(11,qM)] H) =
aX .lss 3 false false qM b fun g=>aW g (dx 29 x9 qM H fun h=>
aK 3 h H fun t2=>
ee 29 a H fun i=>
aX .geq 3 false false qM i fun j=>aW j (kr (St.mk [(0,c),(1,a),(4,iA 1),(9,x9),(10,b),(11,qM)] H)) (dx 29 a qM H fun k=>
aK 3 k H fun l=>
(call 100 [t2,l] H lo).bind fun d=>dL d.1 (fun e=>
aX .neq 3 false true e (iA 0) fun o=>aW o (kr (St.mk [(0,c),(1,a),(4,e),(9,x9),(10,b),(11,qM)] d.2)) (aX .add 3 false true qM (iA 1) fun f=>
kH L d.2 fun p=>bif bif Nat.beq (List.length d.2) L then true else aV L [(11,f),(0,c),(1,a),(4,x4),(9,x9),(10,b)] [0,1,4,9,10,11] then aN (cx C) call rg n 85 lo 0 L kx kg kr kp m (St.mk [(0,c),(1,a),(4,x4),(9,x9),(10,b),(11,f)] p) else none)) fun e=>kp e (St.mk [(0,c),(1,a),(4,x4),(9,x9),(10,b),(11,qM)] d.2))) (kx 0 (St.mk [(0,c),(1,a),(4,x4),(9,x9),(10,b),(11,qM)] H)):=r7
theorem LM (b c x4 x7 a:A):aN (cx C) call rg n 91 lo 0 L kx kg kr kp (m+1) (St.mk [(0,b),(3,c),(4,x4),(7,x7),(8,a)] H) =
aX .lss 3 false false a x7 fun e=>aW e (aK 99 c H fun f=>
dx 23 b a H fun t2=>
aK 99 t2 H fun g=>
aX .eql 99 false false f g fun h=>aW h (kr (St.mk [(0,b),(3,c),(4,a),(7,x7),(8,a)] H)) (aX .add 3 false true a (iA 1) fun d=>
kH L H fun i=>bif bif Nat.beq (List.length H) L then true else aV L [(8,d),(0,b),(3,c),(4,x4),(7,x7)] [0,3,4,7,8] then aN (cx C) call rg n 91 lo 0 L kx kg kr kp m (St.mk [(0,b),(3,c),(4,x4),(7,x7),(8,d)] i) else none)) (kx 0 (St.mk [(0,b),(3,c),(4,x4),(7,x7),(8,a)] H)):=r7
theorem LN (a b x4 IG Ke:A):aN (cx C) call rg n 93 lo 0 L kx kg kr kp (m+1) (St.mk [(0,a),(1,b),(4,x4),(36,IG),(37,Ke)] H) =
aX .lss 3 false false Ke IG fun j=>aW j (bU 108 x4 3 H fun f=>
aK 106 f H fun t2=>
aX .add 3 false true b (iA 1) fun k=>bif bif iy 3 f then bif iy 3 x4 then true else false else false then
(call 93 [a,k] H lo).bind fun c=>dL c.1 (fun e=>
(aP prog 106 1 [(0,di c.2 e)]).bind fun l=>
(bK prog 106 106 false t2 l c.2 lo).bind fun d=>
bU 108 x4 3 d.2 fun g=>
bO 106 g (bN g d.2 d.1) d.2 lo fun h=>
aX .add 3 false true Ke (iA 1) fun i=>
kH L h fun o=>bif bif Nat.beq (List.length h) L then true else aV L [(37,i),(0,a),(1,b),(4,x4),(36,IG)] [0,1,4,36,37] then aN (cx C) call rg n 93 lo 0 L kx kg kr kp m (St.mk [(0,a),(1,b),(4,x4),(36,IG),(37,i)] o) else none) fun e=>kp e (St.mk [(0,A.any),(1,A.any),(4,A.any),(36,A.any),(37,A.any)] c.2) else none) (kx 1 (St.mk [(0,a),(1,b),(4,x4),(36,IG),(37,Ke)] H)):=r7
theorem LO (b c x4 x7 a:A):aN (cx C) call rg n 99 lo 0 L kx kg kr kp (m+1) (St.mk [(0,b),(1,c),(4,x4),(7,x7),(8,a)] H) =
aX .lss 3 false false a x7 fun f=>aW f (dx 22 b a H fun g=>
aK 68 g H fun t2=>dP (cx C) call c [t2] H lo (fun d h3=>aW d (kr (St.mk [(0,b),(1,c),(4,a),(7,x7),(8,a)] h3)) (aX .add 3 false true a (iA 1) fun e=>
kH L h3 fun h=>bif bif Nat.beq (List.length h3) L then true else aV L [(8,e),(0,b),(1,c),(4,x4),(7,x7)] [0,1,4,7,8] then aN (cx C) call rg n 99 lo 0 L kx kg kr kp m (St.mk [(0,b),(1,c),(4,x4),(7,x7),(8,e)] h) else none)) fun d h3=>kp d (St.mk [(0,b),(1,c),(4,x4),(7,x7),(8,a)] h3)) (kx 0 (St.mk [(0,b),(1,c),(4,x4),(7,x7),(8,a)] H)):=r7
theorem Ja (a b d x4:A):aN (cx C) call rg n 102 lo 0 L kx kg kr kp (m+1) (St.mk [(1,a),(2,b),(3,d),(4,x4)] H) =
fl 108 a 3 106 H fun f=>
ee 106 f H fun t2=>
aX .lss 3 false false x4 t2 fun g=>aW g (fl 108 a 3 106 H fun h=>
dx 106 h x4 H fun i=>
aK 108 i H fun j=>
(C 102 [snap H j]).bind fun k=>
(bK prog 66 66 false d k H lo).bind fun c=>
aX .add 3 false true x4 (iA 1) fun e=>
kH L c.2 fun l=>bif bif Nat.beq (List.length c.2) L then true else aV L [(4,e),(3,c.1),(1,a),(2,b)] [1,2,3,4] then aN (cx C) call rg n 102 lo 0 L kx kg kr kp m (St.mk [(1,a),(2,b),(3,c.1),(4,e)] l) else none) (kx 1 (St.mk [(1,a),(2,b),(3,d),(4,x4)] H)):=r7
theorem Jd (b e a:A):aN (cx C) call rg n 106 lo 0 L kx kg kr kp (m+1) (St.mk [(0,b),(2,e),(3,a)] H) =
(call 104 [b,iA 1] H lo).bind fun H0=>dL H0.1 (fun f=>
dx 66 f (iA 0) H0.2 fun t2=>
aK 5 t2 H0.2 fun c=>
aX .eql 3 false true a (iA 0) fun s=>
(cC s (some [bA true,ud,ud]) (aX .neq 5 false true c (A.v (.int .u8 0)) fun j=>some [j,j,c])).bind fun t=>fh t fun u u7 w=>bl w fun u8 l8=>
(cC u (aX .lss 3 false true a (iA 9) fun g=>
(cC g (some [bA true,ud,ud]) (aX .leq 5 false true c (A.v (.int .u8 1)) fun k=>some [k,k,c])).bind fun x=>fh x fun h l y=>bl y fun o p=>some [h,h,l,o,g,g,a]) (some [bA false,ud,ud,ud,ud,ud,ud])).bind fun z=>dH z fun a0 h l o p=>fh p fun ad ae a2=>bl a2 fun af ag=>
(call 94 [b,a0] H0.2 lo).bind fun d=>dL d.1 (fun q=>
aX .and 5 false true c (A.v (.int .u8 127)) fun a3=>
(bt prog 5 146 a3 d.2).bind fun a4=>
aX .mul 3 true false (iA 7) a fun a5=>
aX .shl 146 false false a4 a5 fun a6=>
aX .or 146 false false e a6 fun i=>
aX .lss 5 false true c (A.v (.int .u8 128)) fun a7=>aW a7 (kr (St.mk [(0,b),(2,i),(3,a)] d.2)) (aX .add 3 false true a (iA 1) fun r=>
kH L d.2 fun a8=>bif bif Nat.beq (List.length d.2) L then true else aV L [(3,r),(2,i),(0,b)] [0,2,3] then aN (cx C) call rg n 106 lo 0 L kx kg kr kp m (St.mk [(0,b),(2,i),(3,r)] a8) else none)) fun q=>kp q (St.mk [(0,b),(2,e),(3,a)] d.2)) fun f=>kp f (St.mk [(0,b),(2,e),(3,a)] H0.2):=r7
theorem Je (a c x4 x7 b x9:A):aN (cx C) call rg n 109 lo 0 L kx kg kr kp (m+1) (St.mk [(0,a),(1,c),(4,x4),(7,x7),(8,b),(9,x9)] H) =
aX .lss 146 false false x9 x7 fun p=>
(cC p (jt a H fun g=>
bU 152 g 2 H fun t2=>
aK 4 t2 H fun h=>
(jj prog UnOp.not h).bind fun i=>some [i,i,h,t2,g,a]) (some [bA false,ud,ud,ud,ud,ud])).bind fun q=>dH q fun r y u4 z s=>fh s fun u6 u7 l7=>aW r (bU 108 b 3 H fun j=>
aK 106 j H fun t=>
aX .add 3 false true c (iA 1) fun u=>bif bif iy 2 j then bif iy 2 b then true else false else false then
(call 109 [a,u] H lo).bind fun d=>dL d.1 (fun f=>
(aP prog 106 1 [(0,di d.2 f)]).bind fun w=>
(bK prog 106 106 false t w d.2 lo).bind fun e=>
bU 108 b 3 e.2 fun k=>
bO 106 k (bN k e.2 e.1) e.2 lo fun l=>
aX .add 146 false true x9 (A.v (.int .u64 1)) fun o=>
kH L l fun x=>bif bif Nat.beq (List.length l) L then true else aV L [(9,o),(0,a),(1,c),(4,x4),(7,x7),(8,b)] [0,1,4,7,8,9] then aN (cx C) call rg n 109 lo 0 L kx kg kr kp m (St.mk [(0,a),(1,c),(4,x4),(7,x7),(8,b),(9,o)] x) else none) fun f=>kp f (St.mk [(0,A.any),(1,A.any),(4,A.any),(7,A.any),(8,A.any),(9,A.any)] d.2) else none) (kx 1 (St.mk [(0,a),(1,c),(4,x4),(7,x7),(8,b),(9,x9)] H)):=r7
theorem Jf (d c yp Hl yr:A):aN (cx C) call rg n 110 lo 0 L kx kg kr kp (m+1) (St.mk [(2,d),(3,c),(55,yp),(56,Hl),(57,yr)] H) =
aX .lss 3 false false yr Hl fun h=>aW h (dx 106 yp yr H fun i=>
aK 108 i H fun t2=>
eb 108 H fun a=>
bO 108 a.1 (bN a.1 a.2 t2) a.2 lo fun b=>
aK 108 a.1 b fun j=>
(C 110 [snap b j]).bind fun e=>
dw e 0 fun k=>
dw e 1 fun l=>
(jj prog UnOp.not l).bind fun o=>aW o (kr (St.mk [(2,iA 0),(3,bA false),(55,yp),(56,Hl),(57,yr)] b)) ((BV false d [k]).bind fun f=>
aX .add 3 false true yr (iA 1) fun g=>
kH L b fun p=>bif bif Nat.beq (List.length b) L then true else aV L [(57,g),(2,f),(3,c),(55,yp),(56,Hl)] [2,3,55,56,57] then aN (cx C) call rg n 110 lo 0 L kx kg kr kp m (St.mk [(2,f),(3,c),(55,yp),(56,Hl),(57,g)] p) else none)) (kx 0 (St.mk [(2,d),(3,c),(55,yp),(56,Hl),(57,yr)] H)):=r7
theorem vx (c a x4:A):aN (cx C) call rg n 112 lo 0 L kx kg kr kp (m+1) (St.mk [(0,c),(1,a),(4,x4)] H) =
aX .geq 146 false true a (A.v (.int .u64 128)) fun e=>aW e ((bt prog 146 5 a H).bind fun f=>
aX .or 5 false true f (A.v (.int .u8 128)) fun t2=>
(aP prog 66 1 [(0,di H t2)]).bind fun g=>
(bK prog 66 66 false c g H lo).bind fun b=>
aX .shr 146 false true a (A.v (.int .u64 7)) fun d=>
kH L b.2 fun h=>bif bif Nat.beq (List.length b.2) L then true else aV L [(1,d),(0,b.1),(4,x4)] [0,1,4] then aN (cx C) call rg n 112 lo 0 L kx kg kr kp m (St.mk [(0,b.1),(1,d),(4,x4)] h) else none) (kx 0 (St.mk [(0,c),(1,a),(4,x4)] H)):=r7
theorem Dp (d b x5 tj Hg Hh:A):aN (cx C) call rg n 115 lo 0 L kx kg kr kp (m+1) (St.mk [(0,d),(2,b),(5,x5),(17,tj),(18,Hg),(19,Hh)] H) =
aX .lss 3 false false Hh Hg fun h=>aW h (dx 106 tj Hh H fun i=>
aK 108 i H fun t2=>
eb 108 H fun c=>
bO 108 c.1 (bN c.1 c.2 t2) c.2 lo fun a=>
aK 139 b a fun j=>
fl 108 c.1 0 3 a fun k=>
jt j a fun l=>
dx 155 l k a fun o=>
fl 138 o 0 136 a fun p=>
aK 108 c.1 a fun q=>dP (cx C) call p [d,q] a lo (fun e f=>
aX .add 3 false true Hh (iA 1) fun g=>
kH L f fun r=>bif bif Nat.beq (List.length f) L then true else aV L [(19,g),(0,e),(2,b),(5,x5),(17,tj),(18,Hg)] [0,2,5,17,18,19] then aN (cx C) call rg n 115 lo 0 L kx kg kr kp m (St.mk [(0,e),(2,b),(5,x5),(17,tj),(18,Hg),(19,g)] r) else none) fun e f=>kp e (St.mk [(0,d),(2,b),(5,x5),(17,tj),(18,Hg),(19,Hh)] f)) (kx 0 (St.mk [(0,d),(2,b),(5,x5),(17,tj),(18,Hg),(19,Hh)] H)):=r7
theorem Ji (a c b:A):aN (cx C) call rg n 117 lo 0 L kx kg kr kp (m+1) (St.mk [(1,a),(2,c),(3,b)] H) =
fl 108 a 3 106 H fun e=>
ee 106 e H fun t2=>
aX .lss 3 false false b t2 fun f=>aW f (fl 108 a 3 106 H fun g=>
dx 106 g b H fun h=>
aK 108 h H fun i=>
(C 117 [snap H i]).bind fun j=>
(jj prog UnOp.not j).bind fun k=>aW k (kr (St.mk [(1,a),(2,bA false),(3,b)] H)) (aX .add 3 false true b (iA 1) fun d=>
kH L H fun l=>bif bif Nat.beq (List.length H) L then true else aV L [(3,d),(1,a),(2,c)] [1,2,3] then aN (cx C) call rg n 117 lo 0 L kx kg kr kp m (St.mk [(1,a),(2,c),(3,d)] l) else none)) (kx 1 (St.mk [(1,a),(2,c),(3,b)] H)):=r7
theorem Jj (a b c x4:A):aN (cx C) call rg n 118 lo 0 L kx kg kr kp (m+1) (St.mk [(1,a),(2,b),(3,c),(4,x4)] H) =
fl 108 a 3 106 H fun f=>
ee 106 f H fun t2=>
aX .lss 3 false false x4 t2 fun g=>aW g (fl 108 a 3 106 H fun h=>
dx 106 h x4 H fun i=>
aK 108 i H fun j=>
(C 118 [snap H j]).bind fun k=>
(BV false c [k]).bind fun d=>
aX .add 3 false true x4 (iA 1) fun e=>
kH L H fun l=>bif bif Nat.beq (List.length H) L then true else aV L [(4,e),(3,d),(1,a),(2,b)] [1,2,3,4] then aN (cx C) call rg n 118 lo 0 L kx kg kr kp m (St.mk [(1,a),(2,b),(3,d),(4,e)] l) else none) (kx 0 (St.mk [(1,a),(2,b),(3,c),(4,x4)] H)):=r7
theorem Jl (a d e x4:A):aN (cx C) call rg n 122 lo 0 L kx kg kr kp (m+1) (St.mk [(0,a),(2,d),(3,e),(4,x4)] H) =
jt a H fun s=>
fl 152 s 2 4 H fun t2=>
(jj prog UnOp.not t2).bind fun t=>aW t ((call 121 [a] H lo).bind fun b=>dL b.1 (fun c=>
aX .eql 3 false true x4 (iA 9) fun u=>
(cC u (aX .gtr 5 false true c (A.v (.int .u8 1)) fun k=>some [k,k,c]) (some [bA false,ud,ud])).bind fun w=>fh w fun x u9 y=>bl y fun ab ad=>
(cC x (some [bA true,ud,ud,ud,ud,ud,ud]) (aX .gtr 3 false true x4 (iA 0) fun h=>
(cC h (aX .eql 5 false true c (A.v (.int .u8 0)) fun l=>some [l,l,c]) (some [bA false,ud,ud])).bind fun z=>fh z fun i o a0=>bl a0 fun p q=>some [i,i,o,p,h,h,x4])).bind fun a1=>dH a1 fun a2 i o p q=>fh q fun ae af a3=>bl a3 fun ag ah=>aW a2 (jt a b.2 fun j=>
bU 152 j 2 b.2 fun f=>
bO 4 f (bN f b.2 (bA true)) b.2 lo fun a4=>kr (St.mk [(0,a),(2,A.v (.int .u64 0)),(3,e),(4,x4)] a4)) (aX .rem 5 false true c (A.v (.int .u8 128)) fun j=>
(bt prog 5 146 j b.2).bind fun f=>
aX .mul 3 true false (iA 7) x4 fun a6=>
aX .shl 146 false false f a6 fun a7=>
aX .add 146 false false e a7 fun g=>
aX .lss 5 false true c (A.v (.int .u8 128)) fun a8=>aW a8 (kr (St.mk [(0,a),(2,g),(3,g),(4,x4)] b.2)) (aX .add 3 false true x4 (iA 1) fun r=>
kH L b.2 fun a9=>bif bif Nat.beq (List.length b.2) L then true else aV L [(4,r),(3,g),(0,a),(2,d)] [0,2,3,4] then aN (cx C) call rg n 122 lo 0 L kx kg kr kp m (St.mk [(0,a),(2,d),(3,g),(4,r)] a9) else none))) fun c=>kp c (St.mk [(0,a),(2,d),(3,e),(4,x4)] b.2)) (kx 0 (St.mk [(0,a),(2,d),(3,e),(4,x4)] H)):=r7
end Go.Proofs.YtebkhfhcipnfgaaGreat
