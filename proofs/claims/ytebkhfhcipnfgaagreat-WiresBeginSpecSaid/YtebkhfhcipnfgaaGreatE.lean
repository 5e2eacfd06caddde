/-
 What the interpreter does with the program's functions: equations, by a tool; the kernel checks each.
-/
import Derived.Test.YtebkhfhcipnfgaaGreatEvLaw
import Derived.Test.YtebkhfhcipnfgaaGreatRows
namespace Go.Proofs.YtebkhfhcipnfgaaGreat
open Go.Proofs.Tryz (prog)
set_option linter.unusedVariables false
set_option linter.unusedSimpArgs false
set_option maxHeartbeats 4000000
set_option maxRecDepth 100000
set_option linter.defProp false
theorem r8 {α:Sort _} {a b:α} (h:a=b:=by kernel_rfl):a=b:=h
def Gr:List ((Nat×Nat)×List Nat):=[((6,5),[1,2,4]),((7,39),[2,3,6,7,14,15,16,162,163,164]),((7,27),[1,2,3,6,7,14,15,16,83,84,85]),((7,16),[1,2,3,6,7,8,54,55,56]),((7,7),[1,2,3,6,7,8,9,33,34,35]),((8,26),[3,6,7,11,16]),((8,20),[2,3,6,7,9,11,12,13,14,15]),((8,15),[2,3,6,7,9,11,12]),((8,10),[1,2,3,6,7,9,10]),((10,8),[1,2,4,5,7,8]),((20,11),[1,2,3,48,49,50]),((20,5),[1,2,3,31,32,33]),((21,9),[0,1,4,5,6]),((21,4),[0,1,4,5]),((26,1000003),[2,4,5]),((28,10),[1,2,5]),((28,4),[1,2,3]),((29,2),[0,1,4,5]),((30,4),[0,1,4,5]),((33,2),[0,1,2,6,7]),((35,9),[2,3,4,6]),((35,4),[2,3,4,5]),((37,9),[2,3,6,53,54,55]),((38,3),[0,1,2,6,7,8,9,10]),((46,2),[0,3,4,5]),((54,3),[2,3,9,10,11]),((55,4),[1,2,15,16,17]),((56,11),[1,2,8,11,57,58,59]),((56,4),[1,2,3,4,8,27,28,29]),((57,4),[0,1,4,5]),((58,2),[0,1,4,7,8]),((59,4),[0,2,3,6,10,11,12,21,22,23]),((59,1),[0,2,3,10,11,12]),((61,9),[1,2,4]),((61,4),[1,2,3]),((62,10),[1,2,4,5,7]),((62,5),[1,2,4,5,6]),((64,2),[0,1,4,5]),((77,2),[1,2,3,6,7]),((79,6),[2,3,4,6,7]),((85,2),[0,1,4,9,10,11]),((90,3),[0,2,3,4]),((91,2),[0,3,4,7,8]),((93,11),[0,1,4,36,37]),((99,2),[0,1,4,7,8]),((102,8),[1,2,3,4]),((106,3),[0,2,3]),((108,1),[0,2,3]),((109,21),[0,1,4,7,8,9]),((110,7),[2,3,55,56,57]),((112,1),[0,1,4]),((115,3),[0,2,5,17,18,19]),((117,8),[1,2,3]),((118,5),[1,2,3,4]),((122,3),[0,2,3,4])]
def Nc (f r:Nat):List Nat:=wb f r Gr
def J8:List ((Nat×Nat)×List (Nat×Nat×Nat)):=[((93,11),[(4,4,5)]),((93,3000000),[(4,4,0)]),((109,21),[(8,4,5)]),((109,3000000),[(4,4,0)]),((114,2000001),[(3,0,0)]),((90,3),[(3,4,5)]),((54,3),[(3,4,5)]),((79,6),[(6,0,2)]),((7,27),[(16,0,2)]),((7,39),[(6,3,4)]),((41,3000000),[(2,0,5)]),((42,3000000),[(2,0,500004)]),((8,10),[(9,0,2)]),((8,15),[(11,3,4)]),((8,20),[(14,1,5)]),((8,26),[(11,3,0)])]
def Q9 (f r:Nat):List (Nat×Nat×Nat):=DD f r J8
def Kc:List (Nat×Nat):=[(55,99),(73,134)]
def Rb (f t:Nat):Bool:=xR f t Kc
def OA:List (Nat×Nat):=[(42,7)]
def XU (f t:Nat):Bool:=xR f t OA
def Gv:List (Nat×Nat):=[(18,10),(59,43)]
def Nd (f t:Nat):Bool:=xR f t Gv
def Gq:List ((Nat×Nat)×List Nat):=[]
def Nb (f r:Nat):List Nat:=wb f r Gq
def Kh:List (Nat×Nat):=[(93,3),(109,2),(115,5),(112,1000)]
def Rf (k:Nat):Nat:=I2 k Kh
def Kx:List (Nat×Nat):=[(41,0),(98,0)]
def RE (k:Nat):Bool:=xR k 0 Kx
noncomputable def cx (C:Nat->List A->Option A):Cx:={ P:=prog,glob:=fun _=>none,isOrc:=fun k=>EP k [26,40,41,42,59,73,85,92,93,94,98,100,104,106,107,109,111,112,114,115,121,122],isOrcV:=fun k=>EP k [26,40,41,42,59,73,85,92,93,94,98,100,104,106,107,109,111,112,114,115,121,122],C:=C,keep:=Nc,wrAt:=XU,acts:=Q9,loud:=Nd,arr:=Rb,join:=Nb,cut:=Rf,fre:=RE,deep:=fun k=>jE k [] }
theorem XJ (C:Nat->List A->Option A):Array.size (Program.funcs (Cx.P (cx C)))=139:=r8
theorem yq {C:Nat->List A->Option A} {m b:Nat} {base:bn} {args:List A} {H:aB} {lo:Nat}:bw (cx C) m base (Array.size (Program.funcs (Cx.P (cx C)))+b) args H lo=base (139+b) args H lo:=BP.trans (YX (fun q=>base (q+b) args H lo) (XJ C))
theorem Jp:Nat.ble prog.funcs.size 26=false:=r8
theorem Jq:Nat.ble prog.funcs.size 59=false:=r8
theorem Jr:Nat.ble prog.funcs.size 73=false:=r8
theorem Ng:Nat.ble prog.funcs.size 85=false:=r8
theorem p0:Nat.ble prog.funcs.size 94=false:=r8
theorem Nh:Nat.ble prog.funcs.size 98=false:=r8
theorem EH:Nat.ble prog.funcs.size 100=false:=r8
theorem zO:Nat.ble prog.funcs.size 104=false:=r8
theorem zP:Nat.ble prog.funcs.size 106=false:=r8
theorem EI:Nat.ble prog.funcs.size 107=false:=r8
theorem zQ:Nat.ble prog.funcs.size 111=false:=r8
theorem nJ:Nat.ble prog.funcs.size 112=false:=r8
theorem zR:Nat.ble prog.funcs.size 114=false:=r8
theorem KE:Nat.ble prog.funcs.size 115=false:=r8
theorem EJ:Nat.ble prog.funcs.size 121=false:=r8
theorem zS:Nat.ble prog.funcs.size 122=false:=r8
variable (C:Nat->List A->Option A) (call:bn) (rg:bn->bn)
variable (n lo L:Nat) (kx kg:Nat->St->Option R) (kr:St->Option R) (kp:A->St->Option R) (m:Nat) (H:aB)
noncomputable abbrev eU {β:Type} (l:List A) (k:A->A->List A->Option β):Option β:=bk l fun a l=>bk l fun b l=>k a b l
noncomputable abbrev dD {β:Type} (l:List A) (k:A->A->A->A->List A->Option β):Option β:=eU l fun a b l=>eU l fun c d l=>k a b c d l
noncomputable abbrev ow {β:Type} (l:List A) (k:A->A->A->A->A->A->A->A->List A->Option β):Option β:=dD l fun a b c d l=>dD l fun e f g h l=>k a b c d e f g h l
noncomputable abbrev ld:=lC prog
noncomputable abbrev Ub:=fK prog
noncomputable abbrev XR:=jz prog
noncomputable abbrev bin:=km prog
noncomputable abbrev Wq:=mf prog
noncomputable abbrev fl {β:Type} (t:TypeId) (x:A) (i:Nat) (u:TypeId) (H:aB) (k:A->Option β):Option β:=(Ub t x i H).bind fun a=>(ld u a H).bind k
noncomputable abbrev aQ {β:Type} (t:TypeId) (a:A) (H:aB) (k:A->Option β):Option β:=(ld t a H).bind k
noncomputable abbrev bT {β:Type} (t:TypeId) (a:A) (i:Nat) (H:aB) (k:A->Option β):Option β:=(Ub t a i H).bind k
noncomputable abbrev cg {β:Type} (t:TypeId) (a v:A) (H:aB) (lo:Nat) (k:aB->Option β):Option β:=(XR t a v H lo).bind k
noncomputable abbrev aW {β:Type} (o:BinOp) (t:TypeId) (i j:Bool) (x y:A) (k:A->Option β):Option β:=(bin o t i j x y).bind k
noncomputable abbrev eX {β:Type} (t:TypeId) (H:aB) (k:A×aB->Option β):Option β:=(Wq t H).bind k
noncomputable abbrev iT {β:Type} (x:A) (H:aB) (k:A×aB->Option β):Option β:=(yZ x H).bind k
noncomputable abbrev jI {β:Type} (x:A) (H:aB) (k:A->Option β):Option β:=(BD x H).bind k
noncomputable abbrev cR {β:Type} (t:TypeId) (x i:A) (H:aB) (k:A->Option β):Option β:=(c9 prog t x i H).bind k
noncomputable abbrev eE {β:Type} (x:A) (i:Nat) (k:A->Option β):Option β:=(m9 x i).bind k
noncomputable abbrev dp {β:Type} (t:TypeId) (x:A) (H:aB) (k:A->Option β):Option β:=(rM prog t x H).bind k
noncomputable abbrev gZ {β:Type} (t:TypeId) (l:List (Nat×A)) (k:A->Option β):Option β:=(vo prog t l).bind k
noncomputable abbrev hY {β:Type} (L:Nat) (H:aB) (k:aB->Option β):Option β:=(trim L H).bind k
noncomputable abbrev nF {β:Type} {γ:Type} (c:A) (w:Bool) (x y:Option γ) (k:γ->Option β):Option β:=(pY c w x y).bind k
abbrev lk (s:St) (i:Nat):A:=look (St.fr s) i
abbrev ud:A:=A.v undef
theorem e3 (l c d x3:A):aG (cx C) call rg n 3 [l,c,d,x3] H lo =
iT l H fun a=>
(C 5 []).bind fun t1=>
(iC prog UnOp.not t1).bind fun t2=>aX t2 (some (Out.ret (bA false),a.2)) (aQ 28 a.1 a.2 fun t3=>
(C 6 [snap a.2 t3]).bind fun t4=>
(iC prog UnOp.not t4).bind fun t5=>
(cu t5 (some [bA true,ud,ud,ud]) (dp 29 c a.2 fun o=>
aW .gtr 3 false true o (iA 100) fun p=>some [p,p,o,c])).bind fun l6=>dD l6 fun u7 u8 u9 az b0=>
(cu u7 (some [bA true,ud,ud,ud]) (dp 29 d a.2 fun q=>
aW .gtr 3 false true q (iA 100) fun r=>some [r,r,q,d])).bind fun ab=>dD ab fun ad b1 b2 b3 b4=>aX ad (some (Out.ret (bA true),a.2)) (aQ 28 a.1 a.2 fun ae=>
(C 7 [snap a.2 ae,snap a.2 c,snap a.2 d]).bind fun s=>
eE s 0 fun af=>
eE s 1 fun t=>
eX 28 a.2 fun e=>
cg 28 e.1 (b7 e.1 e.2 af) e.2 lo fun f=>
aQ 28 a.1 f fun ag=>
(C 8 [snap f ag,snap f c,snap f d]).bind fun u=>
eE u 0 fun ah=>
eE u 1 fun v=>
eX 28 f fun g=>
cg 28 g.1 (b7 g.1 g.2 ah) g.2 lo fun j=>
aQ 28 a.1 j fun ai=>
(C 9 [snap j ai,snap j x3]).bind fun w=>
eE w 0 fun aj=>
eE w 1 fun x=>
eX 28 j fun h=>
cg 28 h.1 (b7 h.1 h.2 aj) h.2 lo fun k=>
aQ 28 a.1 k fun ak=>
(C 10 [snap k ak,snap k x3]).bind fun y=>
eE y 0 fun al=>
eE y 1 fun z=>
eX 28 k fun i=>
cg 28 i.1 (b7 i.1 i.2 al) i.2 lo fun b=>
aQ 28 e.1 b fun am=>
aQ 28 g.1 b fun an=>
(C 11 [snap b am,snap b an]).bind fun ao=>
(cu ao (aW .eql 32 false false t v fun a0=>some [a0,a0,v,t]) (some [bA false,ud,ud,ud])).bind fun ap=>dD ap fun aq b5 b6 b8 b9=>
(cu aq (aQ 28 h.1 b fun a1=>
aQ 28 i.1 b fun a2=>
(C 11 [snap b a1,snap b a2]).bind fun a3=>some [a3,a3,a2,a1]) (some [bA false,ud,ud,ud])).bind fun ar=>dD ar fun au ba bb bc bd=>
(cu au (aW .eql 32 false false x z fun a4=>some [a4,a4,z,x]) (some [bA false,ud,ud,ud])).bind fun av=>dD av fun aw be bf bg bh=>some (Out.ret aw,b))):=r8
theorem e5:aG (cx C) call rg n 5 [] H lo =
(C 18 [snap H (iA 2)]).bind fun t0=>
eE t0 0 fun t1=>
eE t0 1 fun t2=>
eX 28 H fun c=>
cg 28 c.1 (b7 c.1 c.2 t1) c.2 lo fun H4=>
(C 18 [snap H4 (iA 0)]).bind fun t5=>
eE t5 0 fun t6=>
eE t5 1 fun t7=>
eX 28 H4 fun v=>
cg 28 v.1 (b7 v.1 v.2 t6) v.2 lo fun H9=>
(C 18 [snap H9 (iA 13)]).bind fun ap=>
eE ap 0 fun ee=>
eE ap 1 fun aq=>
eX 28 H9 fun w=>
cg 28 w.1 (b7 w.1 w.2 ee) w.2 lo fun x=>
aQ 28 c.1 x fun ef=>
gZ 46 [(3,iA 9)] fun eg=>
(C 19 [snap x ef,snap x eg]).bind fun ar=>
eE ar 0 fun eh=>
eE ar 1 fun au=>
eX 28 x fun y=>
cg 28 y.1 (b7 y.1 y.2 eh) y.2 lo fun z=>
aQ 28 c.1 z fun ei=>
(C 9 [snap z ei,snap z (iA 0)]).bind fun av=>
eE av 0 fun ej=>
eE av 1 fun aw=>
eX 28 z fun a0=>
cg 28 a0.1 (b7 a0.1 a0.2 ej) a0.2 lo fun h=>
aQ 28 c.1 h fun ek=>
(aL prog 29 2 [(0,cK h (iA 0)),(1,cK h (iA 2))]).bind fun el=>
(C 7 [snap h ek,snap h (A.imm [] true),snap h el]).bind fun ax=>
eE ax 0 fun em=>
eE ax 1 fun ay=>
eX 28 h fun a1=>
cg 28 a1.1 (b7 a1.1 a1.2 em) a1.2 lo fun a2=>
aQ 28 c.1 a2 fun en=>
(C 12 [snap a2 en,snap a2 (iA 0)]).bind fun a3=>
eE a3 0 fun eo=>
eE a3 1 fun ep=>
eE a3 2 fun ik=>
eE a3 3 fun az=>
eX 28 a2 fun aj=>
eX 39 aj.2 fun K2=>
cg 28 aj.1 (b7 aj.1 K2.2 eo) K2.2 lo fun b0=>
cg 39 K2.1 (b7 K2.1 b0 ep) b0 lo fun d=>
aW .neq 32 false true t2 (iA 0) fun er=>
(cu er (some [bA true,ud,ud]) (aW .neq 32 false true t7 (iA 1) fun b1=>some [b1,b1,t7])).bind fun es=>eU es fun et il eu=>bk eu fun im io=>
(cu et (some [bA true,ud,ud]) (aW .neq 32 false true aq (iA 1) fun b2=>some [b2,b2,aq])).bind fun ev=>eU ev fun ew ip ex=>bk ex fun iq ir=>
(cu ew (some [bA true,ud,ud]) (aW .neq 32 false true au (iA 1) fun b3=>some [b3,b3,au])).bind fun ey=>eU ey fun ez it f0=>bk f0 fun iu iv=>
(cu ez (some [bA true,ud,ud]) (aW .neq 32 false true aw (iA 1) fun b4=>some [b4,b4,aw])).bind fun f1=>eU f1 fun f2 iw f3=>bk f3 fun ix iy=>
(cu f2 (some [bA true,ud,ud]) (aW .neq 32 false true ay (iA 1) fun b5=>some [b5,b5,ay])).bind fun f4=>eU f4 fun f5 iz f6=>bk f6 fun j0 j1=>
(cu f5 (some [bA true,ud,ud]) (aW .neq 32 false true az (iA 1) fun b6=>some [b6,b6,az])).bind fun f7=>eU f7 fun f8 j2 f9=>bk f9 fun j3 j4=>
(cu f8 (some [bA true,ud,ud,ud,ud]) (bT 28 c.1 1 d fun b8=>
aQ 26 b8 d fun b9=>
dp 26 b9 d fun ba=>
aW .neq 3 false true ba (iA 2) fun bb=>some [bb,bb,ba,b9,b8])).bind fun fa=>dD fa fun fb j5 j6 j7 fc=>bk fc fun j8 j9=>
(cu fb (some [bA true,ud,ud,ud]) (aQ 28 c.1 d fun bc=>
(C 20 [snap d bc]).bind fun bd=>
aW .neq 32 false true bd (iA 0) fun be=>some [be,be,bd,bc])).bind fun fd=>dD fd fun fe ja jb jc jd=>
(cu fe (some [bA true,ud,ud,ud]) (gZ 28 [] fun bf=>
(C 20 [snap d bf]).bind fun bg=>
aW .neq 32 false true bg (iA 490) fun bh=>some [bh,bh,bg,bf])).bind fun ff=>dD ff fun fg je jf jg jh=>aX fg (some (Out.ret (bA false),d)) (aQ 28 c.1 d fun fh=>
gZ 46 [(0,iA 4),(3,iA 2)] fun fi=>
(C 19 [snap d fh,snap d fi]).bind fun bi=>
eE bi 0 fun fj=>
eE bi 1 fun fk=>
eX 28 d fun l=>
cg 28 l.1 (b7 l.1 l.2 fj) l.2 lo fun a4=>
aQ 28 l.1 a4 fun fm=>
gZ 46 [(0,iA 5),(3,iA 3)] fun fn=>
(C 19 [snap a4 fm,snap a4 fn]).bind fun bj=>
eE bj 0 fun fo=>
eE bj 1 fun bl=>
eX 28 a4 fun o=>
cg 28 o.1 (b7 o.1 o.2 fo) o.2 lo fun a5=>
aQ 28 o.1 a5 fun fp=>
gZ 46 [(0,iA 6),(1,iA 1),(3,iA 3)] fun fq=>
(C 19 [snap a5 fp,snap a5 fq]).bind fun bm=>
eE bm 0 fun fr=>
eE bm 1 fun bn=>
eX 28 a5 fun p=>
cg 28 p.1 (b7 p.1 p.2 fr) p.2 lo fun a6=>
aQ 28 p.1 a6 fun fs=>
(C 12 [snap a6 fs,snap a6 (iA 1)]).bind fun a7=>
eE a7 0 fun ft=>
eE a7 1 fun fu=>
eE a7 2 fun bo=>
eE a7 3 fun bp=>
eX 28 a6 fun a8=>
eX 39 a8.2 fun a9=>
cg 28 a8.1 (b7 a8.1 a9.2 ft) a9.2 lo fun bq=>
cg 39 a9.1 (b7 a9.1 bq fu) bq lo fun aa=>
aQ 28 a8.1 aa fun fv=>
(C 12 [snap aa fv,snap aa (iA 0)]).bind fun ab=>
eE ab 0 fun fw=>
eE ab 1 fun fx=>
eE ab 2 fun ji=>
eE ab 3 fun br=>
eX 28 aa fun e=>
eX 39 e.2 fun ad=>
cg 28 e.1 (b7 e.1 ad.2 fw) ad.2 lo fun bs=>
cg 39 ad.1 (b7 ad.1 bs fx) bs lo fun i=>
aQ 28 e.1 i fun fy=>
(aL prog 29 2 [(0,cK i (iA 0)),(1,cK i (iA 1))]).bind fun fz=>
(C 7 [snap i fy,snap i (A.imm [] true),snap i fz]).bind fun bt=>
eE bt 0 fun g0=>
eE bt 1 fun bu=>
eX 28 i fun f=>
cg 28 f.1 (b7 f.1 f.2 g0) f.2 lo fun j=>
aQ 28 e.1 j fun g1=>
(aL prog 29 2 [(0,cK j (iA 0)),(1,cK j (iA 0))]).bind fun g2=>
(C 7 [snap j g1,snap j (A.imm [] true),snap j g2]).bind fun bv=>
eE bv 0 fun g3=>
eE bv 1 fun bw=>
eX 28 j fun q=>
cg 28 q.1 (b7 q.1 q.2 g3) q.2 lo fun g=>
aQ 28 e.1 g fun g4=>
(aL prog 29 1 [(0,cK g (iA 0))]).bind fun g5=>
(aL prog 29 2 [(0,cK g (iA 0)),(1,cK g (iA 1))]).bind fun g6=>
(C 7 [snap g g4,snap g g5,snap g g6]).bind fun bx=>
eE bx 0 fun g7=>
eE bx 1 fun bz=>
eX 28 g fun r=>
cg 28 r.1 (b7 r.1 r.2 g7) r.2 lo fun a=>
aW .neq 32 false true fk (iA 0) fun g8=>
(cu g8 (some [bA true,ud,ud]) (aW .neq 32 false true bl (iA 0) fun c0=>some [c0,c0,bl])).bind fun g9=>eU g9 fun ga jj gb=>bk gb fun jk jl=>
(cu ga (some [bA true,ud,ud]) (aW .neq 32 false true bn (iA 0) fun c1=>some [c1,c1,bn])).bind fun gc=>eU gc fun gd jm ge=>bk ge fun jn jo=>
(cu gd (some [bA true,ud,ud]) (aW .neq 32 false true bp (iA 0) fun c2=>some [c2,c2,bp])).bind fun gf=>eU gf fun gg jp gh=>bk gh fun jq jr=>
(cu gg (some [bA true,ud,ud]) (aW .neq 32 false true br (iA 0) fun c3=>some [c3,c3,br])).bind fun gi=>eU gi fun gj js gk=>bk gk fun jt ju=>
(cu gj (some [bA true,ud,ud]) (aW .neq 32 false true bu (iA 0) fun c4=>some [c4,c4,bu])).bind fun gl=>eU gl fun gm jv gn=>bk gn fun jw jx=>
(cu gm (some [bA true,ud,ud]) (aW .neq 32 false true bw (iA 0) fun c5=>some [c5,c5,bw])).bind fun go=>eU go fun gp jy gq=>bk gq fun jz k0=>
(cu gp (some [bA true,ud,ud]) (aW .neq 32 false true bz (iA 0) fun c6=>some [c6,c6,bz])).bind fun gr=>eU gr fun gs k1 gt=>bk gt fun k2 k3=>
(cu gs (some [bA true,ud]) (some [bo,bo])).bind fun gu=>eU gu fun gv k4 k5=>aX gv (some (Out.ret (bA false),a)) (fl 28 e.1 1 26 a fun gw=>
dp 26 gw a fun gx=>
aW .neq 3 false true gx (iA 2) fun gy=>
(cu gy (some [bA true,ud,ud,ud,ud,ud,ud,ud]) (bT 28 e.1 1 a fun c7=>
aQ 26 c7 a fun c8=>
cR 26 c8 (iA 0) a fun c9=>
bT 50 c9 0 a fun ca=>
aQ 48 ca a fun cb=>
dp 48 cb a fun cc=>
aW .neq 3 false true cc (iA 1) fun cd=>some [cd,cd,cc,cb,ca,c9,c8,c7])).bind fun gz=>ow gz fun h0 k6 k7 k8 k9 ka kb kc kd=>
(cu h0 (some [bA true,ud,ud,ud,ud,ud,ud,ud,ud,ud]) (bT 28 e.1 1 a fun ce=>
aQ 26 ce a fun cf=>
cR 26 cf (iA 0) a fun ch=>
bT 50 ch 0 a fun ci=>
aQ 48 ci a fun cj=>
cR 48 cj (iA 0) a fun ck=>
aQ 46 ck a fun cl=>
gZ 46 [(0,iA 5),(3,iA 3)] fun cm=>
aW .neq 46 false false cl cm fun cn=>some [cn,cn,cm,cl,ck,cj,ci,ch,cf,ce])).bind fun h1=>ow h1 fun h2 ke kf kh ki kj kk kl h3=>eU h3 fun km kn ko=>
(cu h2 (some [bA true,ud,ud,ud,ud,ud]) (bT 28 e.1 0 a fun co=>
bT 25 co 0 a fun cp=>
aQ 22 cp a fun cq=>
dp 22 cq a fun cr=>
aW .neq 3 false true cr (iA 1) fun cs=>some [cs,cs,cr,cq,cp,co])).bind fun h4=>dD h4 fun h5 kq ks kt h6=>eU h6 fun ku kv kw=>aX h5 (some (Out.ret (bA false),a)) (fl 28 f.1 1 26 a fun h7=>
(aL prog 29 1 [(0,cK a (iA 3))]).bind fun h8=>
(aL prog 29 1 [(0,cK a (iA 3))]).bind fun h9=>
gZ 50 [(1,h8),(2,h9)] fun ha=>
(aL prog 29 1 [(0,cK a (iA 0))]).bind fun hb=>
(aL prog 29 1 [(0,cK a (iA 0))]).bind fun hc=>
gZ 50 [(1,hb),(2,hc)] fun hd=>
(aL prog 26 2 [(0,cK a ha),(1,cK a hd)]).bind fun he=>
(C 21 [snap a h7,snap a he]).bind fun hf=>
(iC prog UnOp.not hf).bind fun hg=>
(cu hg (some [bA true,ud,ud,ud,ud,ud,ud,ud,ud,ud,ud,ud]) (bT 28 q.1 1 a fun ct=>
aQ 26 ct a fun cv=>
(aL prog 29 1 [(0,cK a (iA 3))]).bind fun cw=>
(aL prog 29 1 [(0,cK a (iA 0))]).bind fun cy=>
gZ 50 [(1,cw),(2,cy)] fun cz=>
(aL prog 29 1 [(0,cK a (iA 0))]).bind fun d0=>
(aL prog 29 1 [(0,cK a (iA 0))]).bind fun d1=>
gZ 50 [(1,d0),(2,d1)] fun d2=>
(aL prog 26 2 [(0,cK a cz),(1,cK a d2)]).bind fun d3=>
(C 21 [snap a cv,snap a d3]).bind fun d4=>
(iC prog UnOp.not d4).bind fun d5=>some [d5,d5,d4,d3,d2,d1,d0,cz,cy,cw,cv,ct])).bind fun hh=>ow hh fun hi ky kz l0 l1 l2 l3 l4 hj=>dD hj fun l5 l6 l7 l8 l9=>
(cu hi (some [bA true,ud,ud,ud,ud,ud,ud,ud,ud,ud,ud,ud]) (bT 28 r.1 1 a fun d6=>
aQ 26 d6 a fun d7=>
(aL prog 29 1 [(0,cK a (iA 0))]).bind fun d8=>
(aL prog 29 1 [(0,cK a (iA 0))]).bind fun d9=>
gZ 50 [(1,d8),(2,d9)] fun da=>
(aL prog 29 1 [(0,cK a (iA 0))]).bind fun db=>
(aL prog 29 1 [(0,cK a (iA 0))]).bind fun dc=>
gZ 50 [(1,db),(2,dc)] fun dd=>
(aL prog 26 2 [(0,cK a da),(1,cK a dd)]).bind fun de=>
(C 21 [snap a d7,snap a de]).bind fun df=>
(iC prog UnOp.not df).bind fun dg=>some [dg,dg,df,de,dd,dc,db,da,d9,d8,d7,d6])).bind fun hk=>ow hk fun hl la lb lc ld le lf lg hm=>dD hm fun lh li lj lk ll=>aX hl (some (Out.ret (bA false),a)) (aQ 28 f.1 a fun hn=>
(C 12 [snap a hn,snap a (iA 0)]).bind fun ae=>
eE ae 0 fun ho=>
eE ae 1 fun hp=>
eE ae 2 fun lm=>
eE ae 3 fun hq=>
eX 28 a fun s=>
eX 39 s.2 fun af=>
cg 28 s.1 (b7 s.1 af.2 ho) af.2 lo fun dh=>
cg 39 af.1 (b7 af.1 dh hp) dh lo fun b=>
aW .neq 32 false true hq (iA 0) fun hr=>
(cu hr (some [bA true,ud,ud,ud]) (bT 28 f.1 2 b fun di=>
aQ 3 di b fun dj=>
aW .neq 3 false true dj (iA 1) fun dk=>some [dk,dk,dj,di])).bind fun hs=>dD hs fun ht ln lp lq lr=>
(cu ht (some [bA true,ud,ud,ud,ud,ud]) (bT 28 f.1 0 b fun dl=>
bT 25 dl 0 b fun dm=>
aQ 22 dm b fun dn=>
dp 22 dn b fun dq=>
aW .neq 3 false true dq (iA 3) fun dr=>some [dr,dr,dq,dn,dm,dl])).bind fun hu=>dD hu fun hv ls lt lu hw=>eU hw fun lv lw lx=>
(cu hv (some [bA true,ud,ud,ud,ud,ud,ud]) (bT 28 s.1 1 b fun ds=>
aQ 26 ds b fun dt=>
bT 28 f.1 1 b fun du=>
aQ 26 du b fun dv=>
(C 21 [snap b dt,snap b dv]).bind fun dw=>
(iC prog UnOp.not dw).bind fun dx=>some [dx,dx,dw,dv,du,dt,ds])).bind fun hx=>dD hx fun hy ly lz m0 hz=>eU hz fun m1 m2 i0=>bk i0 fun m3 m4=>aX hy (some (Out.ret (bA false),b)) (aQ 28 s.1 b fun i1=>
(C 12 [snap b i1,snap b (iA 0)]).bind fun ag=>
eE ag 0 fun i2=>
eE ag 1 fun i3=>
eE ag 2 fun dy=>
eE ag 3 fun i4=>
eX 28 b fun ah=>
eX 39 ah.2 fun t=>
cg 28 ah.1 (b7 ah.1 t.2 i2) t.2 lo fun dz=>
cg 39 t.1 (b7 t.1 dz i3) dz lo fun ai=>
aQ 28 ah.1 ai fun i5=>
(C 9 [snap ai i5,snap ai (iA 0)]).bind fun e0=>
eE e0 0 fun i6=>
eE e0 1 fun e1=>
eX 28 ai fun u=>
cg 28 u.1 (b7 u.1 u.2 i6) u.2 lo fun k=>
aW .eql 32 false true i4 (iA 0) fun i7=>
(cu i7 (aW .eql 32 false true e1 (iA 0) fun e2=>some [e2,e2,e1]) (some [bA false,ud,ud])).bind fun i8=>eU i8 fun i9 m5 ia=>bk ia fun m6 m7=>
(cu i9 (some [dy,dy]) (some [bA false,ud])).bind fun ib=>eU ib fun ic m8 m9=>
(cu ic (aQ 39 t.1 k fun e3=>
gZ 39 [(2,iA 3)] fun e4=>
aW .eql 39 false false e3 e4 fun e6=>some [e6,e6,e4,e3]) (some [bA false,ud,ud,ud])).bind fun ie=>dD ie fun ig ma mb mc md=>
(cu ig (bT 28 u.1 0 k fun e7=>
bT 25 e7 0 k fun e8=>
aQ 22 e8 k fun e9=>
dp 22 e9 k fun ea=>
aW .eql 3 false true ea (iA 2) fun eb=>some [eb,eb,ea,e9,e8,e7]) (some [bA false,ud,ud,ud,ud,ud])).bind fun ih=>dD ih fun ii me mf mg ij=>eU ij fun mh mi mj=>some (Out.ret ii,k)))))):=r8
theorem e6 (d:A):aG (cx C) call rg n 6 [d] H lo =
iT d H fun a=>
fl 28 a.1 0 25 a.2 fun t2=>
(C 22 [snap a.2 t2]).bind fun j=>
(iC prog UnOp.not j).bind fun k=>
(cu k (some [bA true,ud,ud,ud,ud]) (bT 28 a.1 1 a.2 fun e=>
aQ 26 e a.2 fun f=>
dp 26 f a.2 fun g=>
aW .gtr 3 false true g (iA 20) fun h=>some [h,h,g,f,e])).bind fun l=>dD l fun o q r s p=>bk p fun t u=>aX o (some (Out.ret (bA false),a.2)) (aE (cx C) call rg n 6 lo 0 (List.length a.2) (fun b c=>bif Nat.beq b 0 then some (Out.ret (bA true),St.H c) else none) (fun b c=>none) (fun i=>some (Out.ret (lk i 2),St.H i)) (fun b c=>some (Out.pan b,St.H c)) n (St.mk [(1,a.1),(2,bA false),(4,iA 0)] a.2)):=r8
theorem e7 (x0 j x2:A):aG (cx C) call rg n 7 [x0,j,x2] H lo =
iT x0 H fun k=>
eX 28 k.2 fun e=>
aQ 28 k.1 e.2 fun t2=>
(C 20 [snap e.2 t2]).bind fun x=>
aW .neq 32 false true x (iA 0) fun t4=>aX t4 (aQ 28 e.1 e.2 fun t5=>
cg 28 e.1 (b7 e.1 e.2 t5) e.2 lo fun H6=>
aQ 28 e.1 H6 fun y=>some (Out.ret (A.tup [y,x]),H6)) (fl 28 k.1 1 26 e.2 fun t6=>
dp 26 t6 e.2 fun y=>
dp 29 j e.2 fun t8=>aE (cx C) call rg n 7 lo 0 (List.length e.2) (fun l b=>bif Nat.beq l 0 then
dp 29 (lk b 2) (St.H b) fun z=>
aW .neq 3 false false z (lk b 8) fun ah=>aX ah (aQ 28 (lk b 6) (St.H b) fun a0=>
cg 28 (lk b 6) (b7 (lk b 6) (St.H b) a0) (St.H b) lo fun a6=>
aQ 28 (lk b 6) a6 fun a1=>some (Out.ret (A.tup [a1,iA 1]),a6)) (dp 29 (lk b 2) (St.H b) fun a0=>aE (cx C) call rg n 7 lo 1 (List.length (St.H b)) (fun o a=>bif Nat.beq o 2 then
fl 28 (lk a 3) 2 3 (St.H a) fun ai=>
aW .eql 3 false true ai (iA 4096) fun aj=>aX aj (aQ 28 (lk a 6) (St.H a) fun ak=>
cg 28 (lk a 6) (b7 (lk a 6) (St.H a) ak) (St.H a) lo fun a7=>
aQ 28 (lk a 6) a7 fun al=>some (Out.ret (A.tup [al,iA 2]),a7)) ((ek prog 29 (lk a 8) (lk a 8) (St.H a)).bind fun g=>
(pC prog 54 g.2).bind fun f=>
fl 28 (lk a 3) 1 26 f.2 fun h=>
dp 26 h f.2 fun i=>aE (cx C) call rg n 7 lo 2 (List.length (eB 1 (St.H (St.mk [(1,lk a 1),(2,lk a 2),(3,lk a 3),(6,lk a 6),(7,lk a 7),(14,g.1),(15,f.1),(16,A.imm [] true),(83,h),(84,i),(85,iA 0)] f.2)) (look (St.fr (St.mk [(1,lk a 1),(2,lk a 2),(3,lk a 3),(6,lk a 6),(7,lk a 7),(14,g.1),(15,f.1),(16,A.imm [] true),(83,h),(84,i),(85,iA 0)] f.2)) (Prod.fst (16,0,2)))).2) (fun p c=>bif Nat.beq p 4 then
fl 28 (lk c 3) 0 25 (St.H c) fun am=>
fl 28 (lk c 3) 2 3 (St.H c) fun an=>
aW .add 3 false true an (iA 1) fun ao=>
gZ 28 [(0,am),(2,ao)] fun ap=>
cg 28 (lk c 6) (b7 (lk c 6) (St.H c) ap) (St.H c) lo fun q=>
fl 28 (lk c 3) 1 26 q fun a8=>
dp 26 a8 q fun aq=>aE (cx C) call rg n 7 lo 3 (List.length (dG lo 2 4 (lk c 6) q)) (fun r d=>bif Nat.beq r 6 then
aQ 28 (lk d 6) (St.H d) fun a2=>
aQ 28 (lk d 6) (St.H d) fun ar=>
fl 28 (lk d 3) 2 3 (St.H d) fun au=>
(C 27 [snap (St.H d) ar,snap (St.H d) au,snap (St.H d) (lk d 16)]).bind fun av=>
((call 26 [a2,av] (St.H d) (List.length (St.H d))).bind fun aw=>Ae (List.length (St.H d)) aw).bind fun aa=>
eE aa 0 fun ax=>
eE aa 1 fun ay=>
cg 28 (lk d 6) (b7 (lk d 6) (St.H d) ax) (St.H d) lo fun ab=>
aQ 28 (lk d 6) ab fun az=>some (Out.ret (A.tup [az,ay]),ab) else none) (fun r d=>none) (fun s=>
aQ 28 (lk s 6) (St.H s) fun a2=>some (Out.ret (A.tup [a2,lk s 7]),St.H s)) (fun r d=>some (Out.pan r,St.H d)) n (St.mk [(2,lk c 2),(3,lk c 3),(6,lk c 6),(7,lk c 7),(14,lk c 14),(15,lk c 15),(16,lk c 16),(162,a8),(163,aq),(164,iA 0)] (dG lo 2 4 (lk c 6) q)) else none) (fun p c=>none) (fun t=>
aQ 28 (lk t 6) (St.H t) fun b0=>some (Out.ret (A.tup [b0,lk t 7]),St.H t)) (fun p c=>some (Out.pan p,St.H c)) n (St.mk [(1,lk a 1),(2,lk a 2),(3,lk a 3),(6,lk a 6),(7,lk a 7),(14,g.1),(15,f.1),(16,(eB 1 (St.H (St.mk [(1,lk a 1),(2,lk a 2),(3,lk a 3),(6,lk a 6),(7,lk a 7),(14,g.1),(15,f.1),(16,A.imm [] true),(83,h),(84,i),(85,iA 0)] f.2)) (look (St.fr (St.mk [(1,lk a 1),(2,lk a 2),(3,lk a 3),(6,lk a 6),(7,lk a 7),(14,g.1),(15,f.1),(16,A.imm [] true),(83,h),(84,i),(85,iA 0)] f.2)) (Prod.fst (16,0,2)))).1),(83,h),(84,i),(85,iA 0)] (eB 1 (St.H (St.mk [(1,lk a 1),(2,lk a 2),(3,lk a 3),(6,lk a 6),(7,lk a 7),(14,g.1),(15,f.1),(16,A.imm [] true),(83,h),(84,i),(85,iA 0)] f.2)) (look (St.fr (St.mk [(1,lk a 1),(2,lk a 2),(3,lk a 3),(6,lk a 6),(7,lk a 7),(14,g.1),(15,f.1),(16,A.imm [] true),(83,h),(84,i),(85,iA 0)] f.2)) (Prod.fst (16,0,2)))).2)) else none) (fun o a=>none) (fun u=>
aQ 28 (lk u 6) (St.H u) fun a1=>some (Out.ret (A.tup [a1,lk u 7]),St.H u)) (fun o a=>some (Out.pan o,St.H a)) n (St.mk [(1,lk b 1),(2,lk b 2),(3,lk b 3),(6,lk b 6),(7,lk b 7),(8,lk b 8),(54,lk b 2),(55,a0),(56,iA 0)] (St.H b))) else none) (fun l b=>none) (fun w=>
aQ 28 (lk w 6) (St.H w) fun z=>some (Out.ret (A.tup [z,lk w 7]),St.H w)) (fun l b=>some (Out.pan l,St.H b)) n (St.mk [(1,j),(2,x2),(3,k.1),(6,e.1),(7,x),(8,y),(9,A.v (.int .i64 (-1))),(33,j),(34,t8),(35,iA 0)] e.2)):=r8
theorem e8 (t g e:A):aG (cx C) call rg n 8 [t,g,e] H lo =
iT t H fun c=>
eX 28 c.2 fun a=>
aQ 28 c.1 a.2 fun t2=>
(C 28 [snap a.2 t2]).bind fun u=>
aW .neq 32 false true u (iA 0) fun t4=>aX t4 (gZ 28 [] fun t5=>
cg 28 a.1 (b7 a.1 a.2 t5) a.2 lo fun v=>
aQ 28 a.1 v fun p=>some (Out.ret (A.tup [p,u]),v)) (fl 28 c.1 1 26 a.2 fun t6=>
dp 26 t6 a.2 fun p=>
(C 29 [snap a.2 g,snap a.2 p]).bind fun t8=>
(iC prog UnOp.not t8).bind fun t9=>
(cu t9 (some [bA true,ud,ud,ud,ud,ud,ud]) (bT 28 c.1 1 a.2 fun w=>
aQ 26 w a.2 fun x=>
dp 26 x a.2 fun y=>
(C 30 [snap a.2 e,snap a.2 y]).bind fun z=>
(iC prog UnOp.not z).bind fun a0=>some [a0,a0,z,y,x,w,e])).bind fun aa=>dD aa fun ab ao ap aq ad=>eU ad fun ar au ae=>bk ae fun av aw=>aX ab (gZ 28 [] fun af=>
cg 28 a.1 (b7 a.1 a.2 af) a.2 lo fun a1=>
aQ 28 a.1 a1 fun q=>some (Out.ret (A.tup [q,iA 1]),a1)) (fl 28 c.1 2 3 a.2 fun ag=>
aW .eql 3 false true ag (iA 4096) fun q=>aX q (gZ 28 [] fun ah=>
cg 28 a.1 (b7 a.1 a.2 ah) a.2 lo fun a2=>
aQ 28 a.1 a2 fun r=>some (Out.ret (A.tup [r,iA 2]),a2)) (aE (cx C) call rg n 8 lo 0 (List.length (eB 1 (St.H (St.mk [(1,g),(2,e),(3,c.1),(6,a.1),(7,iA 0),(9,A.imm [] true),(10,iA 0)] a.2)) (look (St.fr (St.mk [(1,g),(2,e),(3,c.1),(6,a.1),(7,iA 0),(9,A.imm [] true),(10,iA 0)] a.2)) (Prod.fst (9,0,2)))).2) (fun h b=>bif Nat.beq h 0 then
fl 28 (lk b 3) 0 25 (St.H b) fun r=>
fl 28 (lk b 3) 2 3 (St.H b) fun ai=>
aW .add 3 false true ai (iA 1) fun aj=>
gZ 28 [(0,r),(2,aj)] fun ak=>
eX 28 (St.H b) fun yJ=>
cg 28 yJ.1 (b7 yJ.1 yJ.2 ak) yJ.2 lo fun a3=>aE (cx C) call rg n 8 lo 1 (List.length (dG lo 2 4 yJ.1 a3)) (fun i d=>bif Nat.beq i 2 then aE (cx C) call rg n 8 lo 3 (List.length (dG lo 2 0 (lk d 11) (St.H d))) (fun j f=>bif Nat.beq j 6 then
aQ 28 (lk f 11) (St.H f) fun s=>
cg 28 (lk f 6) (b7 (lk f 6) (St.H f) s) (St.H f) lo fun a4=>
aQ 28 (lk f 6) a4 fun al=>some (Out.ret (A.tup [al,iA 0]),a4) else none) (fun j f=>none) (fun k=>
aQ 28 (lk k 6) (St.H k) fun s=>some (Out.ret (A.tup [s,lk k 7]),St.H k)) (fun j f=>some (Out.pan j,St.H f)) n (St.mk [(3,lk d 3),(6,lk d 6),(7,lk d 7),(11,lk d 11),(16,iA 0)] (dG lo 2 0 (lk d 11) (St.H d))) else none) (fun i d=>none) (fun l=>
aQ 28 (lk l 6) (St.H l) fun am=>some (Out.ret (A.tup [am,lk l 7]),St.H l)) (fun i d=>some (Out.pan i,St.H d)) n (St.mk [(2,lk b 2),(3,lk b 3),(6,lk b 6),(7,lk b 7),(9,lk b 9),(11,yJ.1),(12,iA 0)] (dG lo 2 4 yJ.1 a3)) else none) (fun h b=>none) (fun o=>
aQ 28 (lk o 6) (St.H o) fun an=>some (Out.ret (A.tup [an,lk o 7]),St.H o)) (fun h b=>some (Out.pan h,St.H b)) n (St.mk [(1,g),(2,e),(3,c.1),(6,a.1),(7,iA 0),(9,(eB 1 (St.H (St.mk [(1,g),(2,e),(3,c.1),(6,a.1),(7,iA 0),(9,A.imm [] true),(10,iA 0)] a.2)) (look (St.fr (St.mk [(1,g),(2,e),(3,c.1),(6,a.1),(7,iA 0),(9,A.imm [] true),(10,iA 0)] a.2)) (Prod.fst (9,0,2)))).1),(10,iA 0)] (eB 1 (St.H (St.mk [(1,g),(2,e),(3,c.1),(6,a.1),(7,iA 0),(9,A.imm [] true),(10,iA 0)] a.2)) (look (St.fr (St.mk [(1,g),(2,e),(3,c.1),(6,a.1),(7,iA 0),(9,A.imm [] true),(10,iA 0)] a.2)) (Prod.fst (9,0,2)))).2)))):=r8
theorem e9 (g c:A):aG (cx C) call rg n 9 [g,c] H lo =
iT g H fun b=>
eX 28 b.2 fun a=>
aQ 28 b.1 a.2 fun t2=>
(C 20 [snap a.2 t2]).bind fun h=>
aW .neq 32 false true h (iA 0) fun r=>aX r (aQ 28 a.1 a.2 fun s=>
cg 28 a.1 (b7 a.1 a.2 s) a.2 lo fun i=>
aQ 28 a.1 i fun d=>some (Out.ret (A.tup [d,h]),i)) (fl 28 b.1 1 26 a.2 fun t=>
dp 26 t a.2 fun d=>
aW .sub 3 false true d (iA 1) fun u=>
(C 23 [snap a.2 c,snap a.2 (iA 0),snap a.2 u]).bind fun v=>
(iC prog UnOp.not v).bind fun w=>
(cu w (some [bA true,ud,ud,ud]) (bT 28 b.1 2 a.2 fun j=>
aQ 3 j a.2 fun k=>
aW .eql 3 false true k (iA 0) fun l=>some [l,l,k,j])).bind fun x=>dD x fun y a5 a6 a7 a8=>aX y (aQ 28 a.1 a.2 fun e=>
cg 28 a.1 (b7 a.1 a.2 e) a.2 lo fun o=>
aQ 28 a.1 o fun f=>some (Out.ret (A.tup [f,iA 1]),o)) (aQ 28 b.1 a.2 fun e=>
aQ 28 b.1 a.2 fun z=>
(aL prog 29 1 [(0,cK a.2 c)]).bind fun f=>
(C 27 [snap a.2 z,snap a.2 (iA 0),snap a.2 f]).bind fun a0=>
((call 26 [e,a0] a.2 (List.length a.2)).bind fun a1=>Ae (List.length a.2) a1).bind fun p=>
eE p 0 fun a2=>
eE p 1 fun a3=>
cg 28 a.1 (b7 a.1 a.2 a2) a.2 lo fun q=>
aQ 28 a.1 q fun a4=>some (Out.ret (A.tup [a4,a3]),q))):=r8
theorem Ws (l d:A):aG (cx C) call rg n 10 [l,d] H lo =
iT l H fun c=>
eX 28 c.2 fun a=>
aQ 28 c.1 a.2 fun t2=>
(C 28 [snap a.2 t2]).bind fun o=>
aW .neq 32 false true o (iA 0) fun z=>aX z (gZ 28 [] fun i=>
cg 28 a.1 (b7 a.1 a.2 i) a.2 lo fun p=>
aQ 28 a.1 p fun f=>some (Out.ret (A.tup [f,o]),p)) (aW .lss 3 false true d (iA 0) fun i=>
(cu i (some [bA true,ud,ud,ud,ud,ud]) (bT 28 c.1 1 a.2 fun q=>
aQ 26 q a.2 fun f=>
dp 26 f a.2 fun r=>
aW .geq 3 false false d r fun s=>some [s,s,r,f,q,d])).bind fun l6=>dD l6 fun u7 u8 u9 a9 a2=>eU a2 fun aa ab ad=>
(cu u7 (some [bA true,ud,ud,ud]) (bT 28 c.1 2 a.2 fun t=>
aQ 3 t a.2 fun u=>
aW .eql 3 false true u (iA 0) fun v=>some [v,v,u,t])).bind fun a3=>dD a3 fun a4 ae af ag ah=>aX a4 (gZ 28 [] fun j=>
cg 28 a.1 (b7 a.1 a.2 j) a.2 lo fun w=>
aQ 28 a.1 w fun a5=>some (Out.ret (A.tup [a5,iA 1]),w)) (aQ 28 c.1 a.2 fun j=>
eX 28 a.2 fun e=>
cg 28 e.1 (b7 e.1 e.2 j) e.2 lo fun x=>aE (cx C) call rg n 10 lo 0 (List.length x) (fun g b=>bif Nat.beq g 0 then
aQ 28 (lk b 7) (St.H b) fun k=>
cg 28 (lk b 4) (b7 (lk b 4) (St.H b) k) (St.H b) lo fun y=>
aQ 28 (lk b 4) y fun a6=>some (Out.ret (A.tup [a6,iA 0]),y) else none) (fun g b=>none) (fun h=>
aQ 28 (lk h 4) (St.H h) fun k=>some (Out.ret (A.tup [k,lk h 5]),St.H h)) (fun g b=>some (Out.pan g,St.H b)) n (St.mk [(1,d),(2,c.1),(4,a.1),(5,iA 0),(7,e.1),(8,iA 0)] x))):=r8
theorem Wt (c d:A):aG (cx C) call rg n 11 [c,d] H lo =
iT c H fun b=>
iT d b.2 fun a=>
fl 28 b.1 2 3 a.2 fun q=>
fl 28 a.1 2 3 a.2 fun r=>
aW .eql 3 false false q r fun s=>
(cu s (bT 28 b.1 1 a.2 fun e=>
aQ 26 e a.2 fun f=>
bT 28 a.1 1 a.2 fun g=>
aQ 26 g a.2 fun h=>
(C 21 [snap a.2 f,snap a.2 h]).bind fun i=>some [i,i,h,g,f,e]) (some [bA false,ud,ud,ud,ud,ud])).bind fun t=>dD t fun u z a0 a1 v=>eU v fun a2 a3 a4=>
(cu u (bT 28 b.1 0 a.2 fun j=>
aQ 25 j a.2 fun k=>
bT 28 a.1 0 a.2 fun l=>
aQ 25 l a.2 fun o=>
(C 35 [snap a.2 k,snap a.2 o]).bind fun p=>some [p,p,o,l,k,j]) (some [bA false,ud,ud,ud,ud,ud])).bind fun w=>dD w fun x a5 a6 a7 y=>eU y fun a8 a9 aa=>some (Out.ret x,a.2):=r8
theorem Wu (b:A):aG (cx C) call rg n 18 [b] H lo =
eX 28 H fun a=>
(C 23 [snap a.2 b,snap a.2 (iA 1),snap a.2 (iA 12)]).bind fun h=>
(iC prog UnOp.not h).bind fun t2=>aX t2 (aQ 28 a.1 a.2 fun c=>
cg 28 a.1 (b7 a.1 a.2 c) a.2 lo fun f=>
aQ 28 a.1 f fun d=>some (Out.ret (A.tup [d,iA 1]),f)) ((C 51 []).bind fun c=>
(ig prog 26 b b a.2).bind fun e=>
gZ 28 [(0,c),(1,e.1)] fun d=>
cg 28 a.1 (b7 a.1 e.2 d) e.2 lo fun g=>
aQ 28 a.1 g fun i=>some (Out.ret (A.tup [i,iA 0]),g)):=r8
theorem Wv (l o:A):aG (cx C) call rg n 19 [l,o] H lo =
iT l H fun b=>
iT o b.2 fun d=>
eX 28 d.2 fun a=>
aQ 28 b.1 a.2 fun x=>
(C 20 [snap a.2 x]).bind fun p=>
aW .neq 32 false true p (iA 0) fun y=>aX y (aQ 28 a.1 a.2 fun h=>
cg 28 a.1 (b7 a.1 a.2 h) a.2 lo fun q=>
aQ 28 a.1 q fun i=>some (Out.ret (A.tup [i,p]),q)) (aQ 46 d.1 a.2 fun h=>
fl 28 b.1 1 26 a.2 fun i=>
dp 26 i a.2 fun z=>
(C 52 [snap a.2 h,snap a.2 z]).bind fun a0=>
(iC prog UnOp.not a0).bind fun a1=>aX a1 (aQ 28 a.1 a.2 fun f=>
cg 28 a.1 (b7 a.1 a.2 f) a.2 lo fun r=>
aQ 28 a.1 r fun g=>some (Out.ret (A.tup [g,iA 1]),r)) (bT 28 b.1 0 a.2 fun f=>
aQ 25 f a.2 fun a2=>
bT 46 d.1 1 a.2 fun g=>
aQ 3 g a.2 fun a3=>
aW .add 3 false true a3 (iA 1) fun a4=>
aQ 46 d.1 a.2 fun a5=>
gZ 72 [(0,iA 1),(1,a5)] fun a6=>
(C 54 [snap a.2 a6]).bind fun a7=>
gZ 68 [(1,a4),(2,a7)] fun a8=>
(C 53 [snap a.2 a2,snap a.2 a8]).bind fun s=>
eE s 0 fun a9=>
eE s 1 fun t=>bif bif apart d.1 A.any then bif apart g A.any then bif apart d.1 A.any then bif apart f A.any then bif apart b.1 A.any then true else false else false else false else false else false then
eX 25 a.2 fun e=>
cg 25 e.1 (b7 e.1 e.2 a9) e.2 lo fun c=>
aW .neq 32 false true t (iA 0) fun aa=>aX aa (aQ 28 a.1 c fun j=>
cg 28 a.1 (b7 a.1 c j) c lo fun u=>
aQ 28 a.1 u fun ab=>some (Out.ret (A.tup [ab,t]),u)) (aQ 25 e.1 c fun j=>
bT 28 b.1 0 c fun v=>
cg 25 v (b7 v c j) c lo fun k=>
aQ 28 b.1 k fun ad=>
cg 28 a.1 (b7 a.1 k ad) k lo fun w=>
aQ 28 a.1 w fun ae=>some (Out.ret (A.tup [ae,iA 0]),w)) else none)):=r8
theorem Ww (f:A):aG (cx C) call rg n 20 [f] H lo =
iT f H fun a=>
fl 28 a.1 1 26 a.2 fun t2=>
dp 26 t2 a.2 fun g=>
(C 23 [snap a.2 g,snap a.2 (iA 1),snap a.2 (iA 12)]).bind fun v=>
(iC prog UnOp.not v).bind fun w=>
(cu w (some [bA true,ud,ud,ud,ud]) (bT 28 a.1 2 a.2 fun h=>
aQ 3 h a.2 fun i=>
(C 23 [snap a.2 i,snap a.2 (iA 0),snap a.2 (iA 4096)]).bind fun j=>
(iC prog UnOp.not j).bind fun k=>some [k,k,j,i,h])).bind fun x=>dD x fun y u8 u9 a8 z=>bk z fun a9 aa=>
(cu y (some [bA true,ud,ud,ud,ud]) (bT 28 a.1 0 a.2 fun l=>
aQ 25 l a.2 fun o=>
(C 55 [snap a.2 o]).bind fun p=>
aW .neq 32 false true p (iA 0) fun q=>some [q,q,p,o,l])).bind fun a0=>dD a0 fun a1 ab ad ae a2=>bk a2 fun af ag=>aX a1 (some (Out.ret (iA 490),a.2)) (fl 28 a.1 1 26 a.2 fun r=>
dp 26 r a.2 fun a3=>aE (cx C) call rg n 20 lo 0 (List.length a.2) (fun c b=>bif Nat.beq c 0 then
bT 28 (lk b 1) 0 (St.H b) fun a4=>
fl 25 a4 0 22 (St.H b) fun s=>
dp 22 s (St.H b) fun a5=>aE (cx C) call rg n 20 lo 1 (List.length (St.H b)) (fun d e=>bif Nat.beq d 2 then some (Out.ret (iA 0),St.H e) else none) (fun d e=>none) (fun t=>some (Out.ret (lk t 2),St.H t)) (fun d e=>some (Out.pan d,St.H e)) n (St.mk [(1,lk b 1),(2,lk b 2),(3,lk b 3),(48,s),(49,a5),(50,iA 0)] (St.H b)) else none) (fun c b=>none) (fun u=>some (Out.ret (lk u 2),St.H u)) (fun c b=>some (Out.pan c,St.H b)) n (St.mk [(1,a.1),(2,iA 0),(3,g),(31,r),(32,a3),(33,iA 0)] a.2)):=r8
theorem Wx (c d:A):aG (cx C) call rg n 21 [c,d] H lo =
dp 26 c H fun f=>
dp 26 d H fun g=>
aW .neq 3 false false f g fun t2=>aX t2 (some (Out.ret (bA false),H)) (aE (cx C) call rg n 21 lo 0 (List.length H) (fun a b=>bif Nat.beq a 0 then some (Out.ret (bA true),St.H b) else none) (fun a b=>none) (fun e=>some (Out.ret (lk e 4),St.H e)) (fun a b=>some (Out.pan a,St.H b)) n (St.mk [(0,c),(1,d),(4,bA false),(5,iA 0)] H)):=r8
theorem Wy (b:A):aG (cx C) call rg n 22 [b] H lo =
iT b H fun a=>
fl 25 a.1 0 22 a.2 fun t2=>
dp 22 t2 a.2 fun g=>
aW .leq 3 false true g (iA 40) fun h=>
(cu h (bT 25 a.1 1 a.2 fun c=>
aQ 23 c a.2 fun d=>
dp 23 d a.2 fun e=>
aW .leq 3 false true e (iA 40) fun f=>some [f,f,e,d,c]) (some [bA false,ud,ud,ud,ud])).bind fun i=>dD i fun j l o p k=>bk k fun q r=>some (Out.ret j,a.2):=r8
theorem Wz (a c b:A):aG (cx C) call rg n 23 [a,c,b] H lo =
aW .leq 3 false false c a fun e=>
(cu e (aW .leq 3 false false a b fun d=>some [d,d,b,a]) (some [bA false,ud,ud,ud])).bind fun f=>dD f fun g h u4 i j=>some (Out.ret g,H):=r8
theorem WA (a b:A):aG (cx C) call rg n 24 [a,b] H lo =
(C 58 [snap H a,snap H b]).bind fun c=>
aW .geq 3 false true c (iA 0) fun d=>some (Out.ret d,H):=r8
theorem WB (a d:A):aG (cx C) call rg n 25 [a,d] H lo =
dp 29 a H fun g=>
aW .add 3 false true g (iA 1) fun e=>
(ek prog 29 e e H).bind fun b=>
(m8 prog 29 b.1 a b.2 lo).bind fun c=>
dp 29 a c.2 fun h=>
cR 29 b.1 h c.2 fun f=>
cg 3 f (b7 f c.2 d) c.2 lo fun i=>some (Out.ret b.1,i):=r8
theorem T2 (j k:A):aG (cx C) call rg n 26 [j,k] H lo =
iT j H fun g=>
eX 28 g.2 fun c=>
eX 32 c.2 fun a=>
(Ge prog k).bind fun l=>bif Nat.ble lo (List.length a.2) then
(rg (tZ 139 call (List.length a.2) (qH (cx C) call rg n 26 lo 0 (List.length a.2) [(2,g.1),(4,c.1),(5,a.1)])) l.1 (A.yld (List.length a.2) :: l.2) (a.2++[aC.rng jW.ready]) lo).bind fun o=>ee o.1 (fun q=>ph (List.length a.2) o.2 (fun b=>
aQ 28 g.1 b fun e=>
cg 28 c.1 (b7 c.1 b e) b lo fun f=>
cg 32 a.1 (b7 a.1 f (iA 0)) f lo fun d=>
aQ 28 c.1 d fun h=>
aQ 32 a.1 d fun i=>some (Out.ret (A.tup [h,i]),d)) (fun p b=>bif Nat.beq p 0 then
aQ 28 g.1 b fun e=>
cg 28 c.1 (b7 c.1 b e) b lo fun f=>
cg 32 a.1 (b7 a.1 f (iA 0)) f lo fun d=>
aQ 28 c.1 d fun h=>
aQ 32 a.1 d fun i=>some (Out.ret (A.tup [h,i]),d) else none) (fun p b=>none) fun b=>
aQ 28 c.1 b fun e=>
aQ 32 a.1 b fun r=>some (Out.ret (A.tup [e,r]),b)) fun q=>none else none:=r8
theorem WC (a b c:A):aG (cx C) call rg n 27 [a,b,c] H lo =
iT a H fun d=>
iT b d.2 fun e=>
iT c e.2 fun f=>some (Out.ret (A.fn (Fn.func 59) [] [f.1,d.1,e.1]),f.2):=r8
theorem WD (f:A):aG (cx C) call rg n 28 [f] H lo =
iT f H fun a=>
fl 28 a.1 1 26 a.2 fun t2=>
dp 26 t2 a.2 fun w=>
aW .lss 3 false true w (iA 1) fun x=>
(cu x (some [bA true,ud,ud,ud,ud]) (bT 28 a.1 1 a.2 fun g=>
aQ 26 g a.2 fun h=>
dp 26 h a.2 fun i=>
aW .gtr 3 false true i (iA 12) fun j=>some [j,j,i,h,g])).bind fun y=>dD y fun z u7 u8 u9 l9=>bk l9 fun aa ab=>
(cu z (some [bA true,ud,ud,ud,ud]) (bT 28 a.1 2 a.2 fun k=>
aQ 3 k a.2 fun l=>
(C 60 [snap a.2 l,snap a.2 (iA 0),snap a.2 (iA 4096)]).bind fun o=>
(iC prog UnOp.not o).bind fun p=>some [p,p,o,l,k])).bind fun a1=>dD a1 fun a2 ad ae af a3=>bk a3 fun ag ah=>
(cu a2 (some [bA true,ud,ud,ud,ud]) (bT 28 a.1 0 a.2 fun q=>
aQ 25 q a.2 fun r=>
(C 61 [snap a.2 r]).bind fun s=>
aW .neq 32 false true s (iA 0) fun t=>some [t,t,s,r,q])).bind fun a4=>dD a4 fun a5 ai aj ak a6=>bk a6 fun al am=>aX a5 (some (Out.ret (iA 490),a.2)) (aE (cx C) call rg n 28 lo 0 (List.length a.2) (fun c b=>bif Nat.beq c 0 then aE (cx C) call rg n 28 lo 1 (List.length (St.H b)) (fun d e=>bif Nat.beq d 2 then some (Out.ret (iA 0),St.H e) else none) (fun d e=>none) (fun u=>some (Out.ret (lk u 2),St.H u)) (fun d e=>some (Out.pan d,St.H e)) n (St.mk [(1,lk b 1),(2,lk b 2),(5,iA 0)] (St.H b)) else none) (fun c b=>none) (fun v=>some (Out.ret (lk v 2),St.H v)) (fun c b=>some (Out.pan c,St.H b)) n (St.mk [(1,a.1),(2,iA 0),(3,iA 0)] a.2)):=r8
theorem WE (c d:A):aG (cx C) call rg n 29 [c,d] H lo=aE (cx C) call rg n 29 lo 0 (List.length H) (fun a b=>bif Nat.beq a 0 then some (Out.ret (bA true),St.H b) else none) (fun a b=>none) (fun e=>some (Out.ret (lk e 4),St.H e)) (fun a b=>some (Out.pan a,St.H b)) n (St.mk [(0,c),(1,d),(4,bA false),(5,iA 0)] H):=r8
theorem WG (b c:A):aG (cx C) call rg n 30 [b,c] H lo =
dp 29 b H fun d=>
aW .neq 3 false false d c fun e=>aX e (some (Out.ret (bA false),H)) (aE (cx C) call rg n 30 lo 0 (List.length H) (fun a s2=>bif Nat.beq a 0 then some (Out.ret (bA true),St.H s2) else none) (fun a s2=>none) (fun a2=>some (Out.ret (lk a2 4),St.H a2)) (fun a s2=>some (Out.pan a,St.H s2)) n (St.mk [(0,b),(1,c),(4,bA false),(5,iA 0)] H)):=r8
theorem WH (d e c:A):aG (cx C) call rg n 31 [d,e,c] H lo =
iT d H fun a=>
fl 28 a.1 1 26 a.2 fun t2=>
cR 26 t2 c a.2 fun o=>
fl 50 o 0 48 a.2 fun b=>
(C 64 [snap a.2 e,snap a.2 c]).bind fun p=>
(cu p (some [bA true,ud,ud,ud]) (dp 48 b a.2 fun f=>
aW .eql 3 false true f (iA 0) fun g=>some [g,g,f,b])).bind fun q=>dD q fun h u9 a2 a3 a4=>
nF h false (cR 48 b (iA 0) a.2 fun i=>
bT 46 i 2 a.2 fun j=>
aQ 3 j a.2 fun r=>
bT 28 a.1 2 a.2 fun k=>
aQ 3 k a.2 fun s=>some [s,k,r,j,i,b]) (some [ud,ud,ud,ud,ud,ud]) fun t=>dD t fun u a5 v a6 w=>eU w fun a7 a8 a9=>
(cu h (some [bA true,ud]) (aW .neq 3 false false v u fun l=>some [l,l])).bind fun x=>eU x fun y aa ab=>aX y (some (Out.ret (iA 0),a.2)) (cR 48 b (iA 0) a.2 fun z=>
fl 46 z 3 3 a.2 fun a0=>some (Out.ret a0,a.2)):=r8
theorem WI (b c:A):aG (cx C) call rg n 32 [b,c] H lo =
(aL prog 29 0 []).bind fun e=>
(bN prog 29 29 false e b H lo).bind fun a=>
(aL prog 29 1 [(0,cK a.2 c)]).bind fun t2=>
(bN prog 29 29 false a.1 t2 a.2 lo).bind fun d=>some (Out.ret d.1,d.2):=r8
theorem WJ (c d e:A):aG (cx C) call rg n 33 [c,d,e] H lo=aE (cx C) call rg n 33 lo 0 (List.length H) (fun b a=>bif Nat.beq b 0 then
cR 29 (lk a 0) (lk a 2) (St.H a) fun g=>
aQ 3 g (St.H a) fun t2=>some (Out.ret t2,St.H a) else none) (fun b a=>none) (fun f=>some (Out.ret (lk f 6),St.H f)) (fun b a=>some (Out.pan b,St.H a)) n (St.mk [(0,c),(1,d),(2,e),(6,iA 0),(7,iA 0)] H):=r8
theorem WK (i e f:A):aG (cx C) call rg n 34 [i,e,f] H lo =
iT i H fun b=>
eX 28 b.2 fun a=>
bT 28 b.1 0 a.2 fun t2=>
aQ 25 t2 a.2 fun w=>
aW .add 3 false true e (iA 1) fun x=>
bT 28 b.1 1 a.2 fun j=>
aQ 26 j a.2 fun k=>
cR 26 k e a.2 fun l=>
bT 50 l 2 a.2 fun o=>
aQ 29 o a.2 fun p=>
cR 29 p f a.2 fun q=>
aQ 3 q a.2 fun y=>
gZ 39 [(0,e),(1,f),(2,y)] fun z=>
(C 66 [snap a.2 z]).bind fun a0=>
gZ 68 [(0,x),(1,iA 0),(2,a0)] fun a1=>
(C 65 [snap a.2 w,snap a.2 a1]).bind fun r=>
eE r 0 fun a2=>
eE r 1 fun s=>bif bif apart q A.any then bif apart p A.any then bif apart o A.any then bif apart l A.any then bif apart k A.any then bif apart j A.any then bif apart b.1 A.any then bif apart t2 A.any then bif apart b.1 A.any then true else false else false else false else false else false else false else false else false else false then
eX 25 a.2 fun d=>
cg 25 d.1 (b7 d.1 d.2 a2) d.2 lo fun c=>
aW .neq 32 false true s (iA 0) fun a3=>aX a3 (gZ 28 [] fun g=>
cg 28 a.1 (b7 a.1 c g) c lo fun t=>
aQ 28 a.1 t fun a4=>some (Out.ret (A.tup [a4,s]),t)) (aQ 25 d.1 c fun g=>
bT 28 b.1 0 c fun u=>
cg 25 u (b7 u c g) c lo fun h=>
aQ 28 b.1 h fun a5=>
cg 28 a.1 (b7 a.1 h a5) h lo fun v=>
aQ 28 a.1 v fun a6=>some (Out.ret (A.tup [a6,iA 0]),v)) else none:=r8
theorem WL (g h:A):aG (cx C) call rg n 35 [g,h] H lo =
iT g H fun c=>
iT h c.2 fun a=>
fl 25 c.1 0 22 a.2 fun t=>
dp 22 t a.2 fun u=>
fl 25 a.1 0 22 a.2 fun v=>
dp 22 v a.2 fun w=>
aW .neq 3 false false u w fun x=>
(cu x (some [bA true,ud,ud,ud,ud,ud,ud,ud]) (bT 25 c.1 1 a.2 fun i=>
aQ 23 i a.2 fun j=>
dp 23 j a.2 fun k=>
bT 25 a.1 1 a.2 fun l=>
aQ 23 l a.2 fun o=>
dp 23 o a.2 fun p=>
aW .neq 3 false false k p fun q=>some [q,q,p,o,l,k,j,i])).bind fun y=>ow y fun z a0 a1 a2 a3 a4 a5 a6 a7=>aX z (some (Out.ret (bA false),a.2)) (aE (cx C) call rg n 35 lo 0 (List.length a.2) (fun d b=>bif Nat.beq d 0 then aE (cx C) call rg n 35 lo 1 (List.length (St.H b)) (fun e f=>bif Nat.beq e 2 then some (Out.ret (bA true),St.H f) else none) (fun e f=>none) (fun r=>some (Out.ret (lk r 4),St.H r)) (fun e f=>some (Out.pan e,St.H f)) n (St.mk [(2,lk b 2),(3,lk b 3),(4,lk b 4),(6,iA 0)] (St.H b)) else none) (fun d b=>none) (fun s=>some (Out.ret (lk s 4),St.H s)) (fun d b=>some (Out.pan d,St.H b)) n (St.mk [(2,c.1),(3,a.1),(4,bA false),(5,iA 0)] a.2)):=r8
theorem WM (l:A):aG (cx C) call rg n 37 [l] H lo =
eX 72 H fun b=>
(C 72 [snap b.2 l]).bind fun o=>
eE o 0 fun t2=>
eE o 1 fun t3=>
eX 108 b.2 fun e=>
cg 108 e.1 (b7 e.1 e.2 t2) e.2 lo fun c=>
aW .neq 32 false true t3 (iA 0) fun t6=>
(cu t6 (some [bA true,ud,ud,ud]) (bT 108 e.1 0 c fun p=>
aQ 3 p c fun q=>
aW .neq 3 false true q (iA 3) fun r=>some [r,r,q,p])).bind fun l7=>dD l7 fun u8 u9 ay az b0=>
(cu u8 (some [bA true,ud,ud,ud,ud]) (bT 108 e.1 3 c fun s=>
aQ 106 s c fun t=>
dp 106 t c fun u=>
aW .eql 3 false true u (iA 0) fun v=>some [v,v,u,t,s])).bind fun ae=>dD ae fun af b1 b2 b3 ag=>bk ag fun b4 b5=>aX af (aQ 72 b.1 c fun ah=>
cg 72 b.1 (b7 b.1 c ah) c lo fun w=>
aQ 72 b.1 w fun i=>some (Out.ret (A.tup [i,bA false]),w)) (fl 108 e.1 3 106 c fun ai=>
cR 106 ai (iA 0) c fun i=>
fl 108 i 1 3 c fun aj=>
bT 72 b.1 0 c fun x=>
cg 3 x (b7 x c aj) c lo fun ak=>
(call 73 [b.1] ak lo).bind fun a=>ee a.1 (fun f=>
fl 72 b.1 0 3 a.2 fun al=>
aW .neq 3 false true al (iA 1) fun am=>
(cu am (bT 72 b.1 0 a.2 fun y=>
aQ 3 y a.2 fun z=>
aW .neq 3 false true z (iA 2) fun a0=>some [a0,a0,z,y]) (some [bA false,ud,ud,ud])).bind fun an=>dD an fun ao b6 b8 b9 ba=>
(cu ao (some [bA true,ud,ud,ud,ud,ud,ud]) (bT 108 e.1 3 a.2 fun a1=>
aQ 106 a1 a.2 fun a2=>
dp 106 a2 a.2 fun a3=>
dp 111 f a.2 fun a4=>
aW .neq 3 false false a3 a4 fun a5=>some [a5,a5,a4,f,a3,a2,a1])).bind fun ap=>dD ap fun aq bb bc bd ar=>eU ar fun be bf au=>bk au fun bg bh=>aX aq (aQ 72 b.1 a.2 fun av=>
cg 72 b.1 (b7 b.1 a.2 av) a.2 lo fun a6=>
aQ 72 b.1 a6 fun j=>some (Out.ret (A.tup [j,bA false]),a6)) (fl 108 e.1 3 106 a.2 fun a7=>
dp 106 a7 a.2 fun j=>aE (cx C) call rg n 37 lo 0 (List.length a.2) (fun g d=>bif Nat.beq g 0 then
aQ 72 (lk d 2) (St.H d) fun k=>
cg 72 (lk d 2) (b7 (lk d 2) (St.H d) k) (St.H d) lo fun a8=>
aQ 72 (lk d 2) a8 fun aw=>some (Out.ret (A.tup [aw,bA true]),a8) else none) (fun g d=>none) (fun h=>
aQ 72 (lk h 2) (St.H h) fun k=>some (Out.ret (A.tup [k,lk h 3]),St.H h)) (fun g d=>some (Out.pan g,St.H d)) n (St.mk [(2,b.1),(3,bA false),(6,f),(53,a7),(54,j),(55,iA 0)] a.2))) fun f=>some (Out.pan f,a.2)):=r8
theorem WN (d:A):aG (cx C) call rg n 44 [d] H lo =
eX 39 H fun a=>
(C 79 [snap a.2 d]).bind fun e=>
eE e 0 fun t2=>
eE e 1 fun o=>
(iC prog UnOp.not o).bind fun p=>
(cu p (some [bA true,ud,ud,ud]) (dp 29 t2 a.2 fun f=>
aW .neq 3 false true f (iA 4) fun g=>some [g,g,f,t2])).bind fun q=>dD q fun r u7 u8 u9 l9=>
(cu r (some [bA true,ud,ud,ud,ud]) (cR 29 t2 (iA 0) a.2 fun h=>
aQ 3 h a.2 fun i=>
aW .neq 3 false true i (iA 2) fun j=>some [j,j,i,h,t2])).bind fun s=>dD s fun t a5 a6 a7 u=>bk u fun a8 a9=>aX t (gZ 39 [] fun b=>
cg 39 a.1 (b7 a.1 a.2 b) a.2 lo fun k=>
aQ 39 a.1 k fun c=>some (Out.ret (A.tup [c,bA false]),k)) (cR 29 t2 (iA 1) a.2 fun b=>
aQ 3 b a.2 fun v=>
cR 29 t2 (iA 2) a.2 fun c=>
aQ 3 c a.2 fun w=>
cR 29 t2 (iA 3) a.2 fun x=>
aQ 3 x a.2 fun y=>
gZ 39 [(0,v),(1,w),(2,y)] fun z=>
cg 39 a.1 (b7 a.1 a.2 z) a.2 lo fun l=>
aQ 39 a.1 l fun a0=>some (Out.ret (A.tup [a0,bA true]),l)):=r8
theorem WO (d:A):aG (cx C) call rg n 45 [d] H lo =
eX 46 H fun a=>
(C 79 [snap a.2 d]).bind fun e=>
eE e 0 fun t2=>
eE e 1 fun o=>
(iC prog UnOp.not o).bind fun p=>
(cu p (some [bA true,ud,ud,ud]) (dp 29 t2 a.2 fun f=>
aW .neq 3 false true f (iA 5) fun g=>some [g,g,f,t2])).bind fun q=>dD q fun r u7 u8 u9 l9=>
(cu r (some [bA true,ud,ud,ud,ud]) (cR 29 t2 (iA 0) a.2 fun h=>
aQ 3 h a.2 fun i=>
aW .neq 3 false true i (iA 1) fun j=>some [j,j,i,h,t2])).bind fun s=>dD s fun t a7 a8 a9 u=>bk u fun aa ab=>aX t (gZ 46 [] fun b=>
cg 46 a.1 (b7 a.1 a.2 b) a.2 lo fun k=>
aQ 46 a.1 k fun c=>some (Out.ret (A.tup [c,bA false]),k)) (cR 29 t2 (iA 1) a.2 fun b=>
aQ 3 b a.2 fun v=>
cR 29 t2 (iA 2) a.2 fun c=>
aQ 3 c a.2 fun w=>
cR 29 t2 (iA 3) a.2 fun x=>
aQ 3 x a.2 fun y=>
cR 29 t2 (iA 4) a.2 fun z=>
aQ 3 z a.2 fun a0=>
gZ 46 [(0,v),(1,w),(2,y),(3,a0)] fun a1=>
cg 46 a.1 (b7 a.1 a.2 a1) a.2 lo fun l=>
aQ 46 a.1 l fun a2=>some (Out.ret (A.tup [a2,bA true]),l)):=r8
theorem WQ:aG (cx C) call rg n 51 [] H lo =
eX 25 H fun a=>
aQ 25 a.1 a.2 fun c=>
cg 25 a.1 (b7 a.1 a.2 c) a.2 lo fun b=>
aQ 25 a.1 b fun d=>some (Out.ret d,b):=r8
theorem WR (c b:A):aG (cx C) call rg n 52 [c,b] H lo =
iT c H fun a=>
fl 46 a.1 0 3 a.2 fun t2=>
(C 23 [snap a.2 t2,snap a.2 (iA 0),snap a.2 (iA 1048576)]).bind fun p=>
(cu p (bT 46 a.1 1 a.2 fun d=>
aQ 3 d a.2 fun e=>
aW .sub 3 false true b (iA 1) fun f=>
(C 23 [snap a.2 e,snap a.2 (iA 0),snap a.2 f]).bind fun g=>some [g,g,f,b,e,d]) (some [bA false,ud,ud,ud,ud,ud])).bind fun q=>dD q fun r x y z s=>eU s fun u9 a1 a2=>
(cu r (bT 46 a.1 2 a.2 fun h=>
aQ 3 h a.2 fun i=>
(C 23 [snap a.2 i,snap a.2 (iA 0),snap a.2 (iA 4095)]).bind fun j=>some [j,j,i,h]) (some [bA false,ud,ud,ud])).bind fun t=>dD t fun u a3 a4 a5 a6=>
(cu u (bT 46 a.1 3 a.2 fun k=>
aQ 3 k a.2 fun l=>
(C 23 [snap a.2 l,snap a.2 (iA 1),snap a.2 (iA 8)]).bind fun o=>some [o,o,l,k]) (some [bA false,ud,ud,ud])).bind fun v=>dD v fun w a7 a8 a9 aa=>some (Out.ret w,a.2):=r8
theorem WS (g h:A):aG (cx C) call rg n 53 [g,h] H lo =
iT g H fun b=>
iT h b.2 fun d=>
eX 25 d.2 fun a=>
aQ 25 b.1 a.2 fun r=>
(C 55 [snap a.2 r]).bind fun s=>
aW .neq 32 false true s (iA 0) fun t=>
(cu t (some [bA true,ud,ud,ud]) (aQ 68 d.1 a.2 fun i=>
(C 80 [snap a.2 i]).bind fun j=>
(iC prog UnOp.not j).bind fun k=>some [k,k,j,i])).bind fun u=>dD u fun v u8 u9 ae af=>aX v (aQ 25 a.1 a.2 fun w=>
cg 25 a.1 (b7 a.1 a.2 w) a.2 lo fun l=>
aQ 25 a.1 l fun e=>some (Out.ret (A.tup [e,iA 60]),l)) (fl 25 b.1 0 22 a.2 fun x=>
dp 22 x a.2 fun e=>
aW .eql 3 false true e (iA 4096) fun y=>aX y (aQ 25 a.1 a.2 fun z=>
cg 25 a.1 (b7 a.1 a.2 z) a.2 lo fun o=>
aQ 25 a.1 o fun a0=>some (Out.ret (A.tup [a0,iA 2]),o)) (fl 25 b.1 0 22 a.2 fun a1=>
fl 25 b.1 0 22 a.2 fun a2=>
dp 22 a2 a.2 fun a3=>
fl 25 b.1 0 22 a.2 fun a4=>
dp 22 a4 a.2 fun a5=>
(fb prog 22 a1 none (some a3) (some a5) a.2).bind fun a6=>
aQ 68 d.1 a.2 fun a7=>
(aL prog 22 1 [(0,cK a.2 a7)]).bind fun a8=>
(bN prog 22 22 false a6 a8 a.2 lo).bind fun c=>
bT 25 b.1 0 c.2 fun p=>
cg 22 p (b7 p c.2 c.1) c.2 lo fun f=>
aQ 25 b.1 f fun a9=>
cg 25 a.1 (b7 a.1 f a9) f lo fun q=>
aQ 25 a.1 q fun aa=>some (Out.ret (A.tup [aa,iA 0]),q))):=r8
theorem WT (f:A):aG (cx C) call rg n 54 [f] H lo =
iT f H fun g=>
gZ 108 [(0,iA 3)] fun j=>
eX 108 g.2 fun a=>
cg 108 a.1 (b7 a.1 a.2 j) a.2 lo fun k=>
(call 73 [g.1] k lo).bind fun c=>ee c.1 (fun d=>
dp 111 d c.2 fun l=>aE (cx C) call rg n 54 lo 0 (List.length (dG lo 3 5 a.1 c.2)) (fun e b=>bif Nat.beq e 0 then
aQ 108 (lk b 3) (St.H b) fun o=>
(C 81 [snap (St.H b) o]).bind fun h=>
eE h 0 fun p=>
eE h 1 fun q=>some (Out.ret p,St.H b) else none) (fun e b=>none) (fun i=>some (Out.ret (lk i 2),St.H i)) (fun e b=>some (Out.pan e,St.H b)) n (St.mk [(2,A.imm [] true),(3,a.1),(9,d),(10,l),(11,iA 0)] (dG lo 3 5 a.1 c.2))) fun d=>some (Out.pan d,c.2):=r8
theorem WU (d:A):aG (cx C) call rg n 55 [d] H lo =
iT d H fun a=>
fl 25 a.1 0 22 a.2 fun t2=>
dp 22 t2 a.2 fun j=>
aW .gtr 3 false true j (iA 4096) fun k=>
(cu k (some [bA true,ud,ud,ud]) (bT 25 a.1 0 a.2 fun e=>
aQ 22 e a.2 fun f=>
(C 82 [snap a.2 f,snap a.2 (A.fn (Fn.func 83) [] [])]).bind fun g=>some [g,g,f,e])).bind fun l=>dD l fun o q r s t=>aX o (some (Out.ret (iA 60),a.2)) (fl 25 a.1 1 23 a.2 fun h=>
dp 23 h a.2 fun p=>aE (cx C) call rg n 55 lo 0 (List.length a.2) (fun b c=>bif Nat.beq b 0 then some (Out.ret (iA 0),St.H c) else none) (fun b c=>none) (fun i=>some (Out.ret (lk i 2),St.H i)) (fun b c=>some (Out.pan b,St.H c)) n (St.mk [(1,a.1),(2,iA 0),(15,h),(16,p),(17,iA 0)] a.2)):=r8
theorem WV (f g h x3:A):aG (cx C) call rg n 56 [f,g,h,x3] H lo =
iT f H fun a=>
fl 50 a.1 1 29 a.2 fun t2=>
dp 29 t2 a.2 fun s=>
aW .neq 3 false false s x3 fun t=>
(cu t (some [bA true,ud,ud,ud,ud,ud]) (bT 50 a.1 2 a.2 fun i=>
aQ 29 i a.2 fun j=>
dp 29 j a.2 fun k=>
aW .neq 3 false false k x3 fun l=>some [l,l,x3,k,j,i])).bind fun u=>dD u fun v z u8 u9 w=>eU w fun a2 a3 a4=>aX v (some (Out.ret (bA false),a.2)) (fl 50 a.1 1 29 a.2 fun o=>
dp 29 o a.2 fun x=>aE (cx C) call rg n 56 lo 0 (List.length a.2) (fun c b=>bif Nat.beq c 0 then
fl 50 (lk b 4) 0 48 (St.H b) fun p=>
dp 48 p (St.H b) fun y=>aE (cx C) call rg n 56 lo 1 (List.length (St.H b)) (fun d e=>bif Nat.beq d 2 then some (Out.ret (bA true),St.H e) else none) (fun d e=>none) (fun q=>some (Out.ret (lk q 8),St.H q)) (fun d e=>some (Out.pan d,St.H e)) n (St.mk [(1,lk b 1),(2,lk b 2),(8,lk b 8),(11,lk b 3),(57,p),(58,y),(59,iA 0)] (St.H b)) else none) (fun c b=>none) (fun r=>some (Out.ret (lk r 8),St.H r)) (fun c b=>some (Out.pan c,St.H b)) n (St.mk [(1,g),(2,h),(3,x3),(4,a.1),(8,bA false),(27,o),(28,x),(29,iA 0)] a.2)):=r8
theorem WW (c d:A):aG (cx C) call rg n 57 [c,d] H lo =
dp 29 c H fun f=>
dp 29 d H fun g=>
aW .neq 3 false false f g fun t2=>aX t2 (some (Out.ret (bA false),H)) (aE (cx C) call rg n 57 lo 0 (List.length H) (fun a b=>bif Nat.beq a 0 then some (Out.ret (bA true),St.H b) else none) (fun a b=>none) (fun e=>some (Out.ret (lk e 4),St.H e)) (fun a b=>some (Out.pan a,St.H b)) n (St.mk [(0,c),(1,d),(4,bA false),(5,iA 0)] H)):=r8
theorem WX (c d:A):aG (cx C) call rg n 58 [c,d] H lo =
dp 29 c H fun f=>aE (cx C) call rg n 58 lo 0 (List.length H) (fun a b=>bif Nat.beq a 0 then some (Out.ret (A.v (.int .i64 (-1))),St.H b) else none) (fun a b=>none) (fun e=>some (Out.ret (lk e 4),St.H e)) (fun a b=>some (Out.pan a,St.H b)) n (St.mk [(0,c),(1,d),(4,iA 0),(7,f),(8,iA 0)] H):=r8
theorem T4 (b c d x3:A):aG (cx C) call rg n 59 [b,c,d,x3] H lo =
aQ 29 c H fun e=>
dp 29 e H fun f=>aE (cx C) call rg n 59 lo 0 (List.length H) (fun a s2=>bif Nat.beq a 0 then some (Out.ret (A.tup []),St.H s2) else none) (fun a s2=>none) (fun a2=>some (Out.ret (A.tup []),St.H a2)) (fun a s2=>some (Out.pan a,St.H s2)) n (St.mk [(0,b),(2,d),(3,x3),(10,e),(11,f),(12,iA 0)] H):=r8
theorem WY (a c b:A):aG (cx C) call rg n 60 [a,c,b] H lo =
aW .geq 3 false false a c fun e=>
(cu e (aW .leq 3 false false a b fun d=>some [d,d,b,a]) (some [bA false,ud,ud,ud])).bind fun f=>dD f fun g h u4 i j=>some (Out.ret g,H):=r8
theorem WZ (f:A):aG (cx C) call rg n 61 [f] H lo =
iT f H fun a=>
fl 25 a.1 0 22 a.2 fun t2=>
dp 22 t2 a.2 fun i=>
aW .gtr 3 false true i (iA 4096) fun j=>aX j (some (Out.ret (iA 60),a.2)) (aE (cx C) call rg n 61 lo 0 (List.length a.2) (fun c b=>bif Nat.beq c 0 then aE (cx C) call rg n 61 lo 1 (List.length (St.H b)) (fun d e=>bif Nat.beq d 2 then some (Out.ret (iA 0),St.H e) else none) (fun d e=>none) (fun g=>some (Out.ret (lk g 2),St.H g)) (fun d e=>some (Out.pan d,St.H e)) n (St.mk [(1,lk b 1),(2,lk b 2),(4,iA 0)] (St.H b)) else none) (fun c b=>none) (fun h=>some (Out.ret (lk h 2),St.H h)) (fun c b=>some (Out.pan c,St.H b)) n (St.mk [(1,a.1),(2,iA 0),(3,iA 0)] a.2)):=r8
theorem W0 (i h:A):aG (cx C) call rg n 62 [i,h] H lo =
iT i H fun c=>
fl 28 c.1 1 26 c.2 fun t2=>
cR 26 t2 h c.2 fun t=>
aQ 50 t c.2 fun u=>
eX 50 c.2 fun d=>
cg 50 d.1 (b7 d.1 d.2 u) d.2 lo fun a=>
fl 50 d.1 1 29 a fun v=>
dp 29 v a fun w=>
fl 28 c.1 2 3 a fun x=>
aW .neq 3 false false w x fun y=>
(cu y (some [bA true,ud,ud,ud,ud,ud,ud]) (bT 50 d.1 2 a fun j=>
aQ 29 j a fun k=>
dp 29 k a fun l=>
bT 28 c.1 2 a fun o=>
aQ 3 o a fun p=>
aW .neq 3 false false l p fun q=>some [q,q,p,o,l,k,j])).bind fun z=>dD z fun a0 a3 a4 a5 a1=>eU a1 fun a6 a7 a2=>bk a2 fun a8 a9=>aX a0 (some (Out.ret (bA false),a)) (aE (cx C) call rg n 62 lo 0 (List.length a) (fun e b=>bif Nat.beq e 0 then aE (cx C) call rg n 62 lo 1 (List.length (St.H b)) (fun f g=>bif Nat.beq f 2 then some (Out.ret (bA true),St.H g) else none) (fun f g=>none) (fun r=>some (Out.ret (lk r 4),St.H r)) (fun f g=>some (Out.pan f,St.H g)) n (St.mk [(1,lk b 1),(2,lk b 2),(4,lk b 4),(5,lk b 5),(7,iA 0)] (St.H b)) else none) (fun e b=>none) (fun s=>some (Out.ret (lk s 4),St.H s)) (fun e b=>some (Out.pan e,St.H b)) n (St.mk [(1,h),(2,c.1),(4,bA false),(5,d.1),(6,iA 0)] a)):=r8
theorem W4 (z x1:A):aG (cx C) call rg n 63 [z,x1] H lo =
iT z H fun o=>
iT x1 o.2 fun c=>
fl 28 o.1 1 26 c.2 fun t3=>
dp 26 t3 c.2 fun p=>
fl 68 c.1 0 3 c.2 fun t6=>
aW .eql 3 false true t6 (iA 0) fun t7=>aX t7 (fl 68 c.1 2 66 c.2 fun q=>
(C 45 [snap c.2 q]).bind fun d=>
eE d 0 fun r=>
eE d 1 fun s=>
eX 46 c.2 fun b=>
cg 46 b.1 (b7 b.1 b.2 r) b.2 lo fun a=>
(cu s (aQ 46 b.1 a fun e=>
(C 88 [snap a e,snap a p]).bind fun f=>some [f,f,p,e]) (some [bA false,ud,ud,ud])).bind fun t=>dD t fun u av aw ax ay=>
(cu u (bT 68 c.1 1 a fun g=>
aQ 3 g a fun h=>
bT 46 b.1 1 a fun i=>
aQ 3 i a fun j=>
aW .add 3 false true j (iA 1) fun k=>
aW .eql 3 false false h k fun l=>some [l,l,k,j,i,h,g]) (some [bA false,ud,ud,ud,ud,ud,ud])).bind fun v=>dD v fun w az b0 b1 x=>eU x fun b2 b3 y=>bk y fun b4 b5=>some (Out.ret w,a)) (fl 68 c.1 2 66 c.2 fun q=>
(C 44 [snap c.2 q]).bind fun d=>
eE d 0 fun r=>
eE d 1 fun s=>
eX 39 c.2 fun b=>
cg 39 b.1 (b7 b.1 b.2 r) b.2 lo fun a=>
(cu s (bT 68 c.1 1 a fun e=>
aQ 3 e a fun f=>
aW .eql 3 false true f (iA 0) fun a1=>some [a1,a1,f,e]) (some [bA false,ud,ud,ud])).bind fun t=>dD t fun u av aw ax ay=>
(cu u (bT 68 c.1 0 a fun g=>
aQ 3 g a fun h=>
bT 39 b.1 0 a fun i=>
aQ 3 i a fun j=>
aW .add 3 false true j (iA 1) fun k=>
aW .eql 3 false false h k fun l=>some [l,l,k,j,i,h,g]) (some [bA false,ud,ud,ud,ud,ud,ud])).bind fun v=>dD v fun w az b0 b1 x=>eU x fun b2 b3 y=>bk y fun b4 b5=>
(cu w (bT 39 b.1 0 a fun a2=>
aQ 3 a2 a fun a3=>
aW .sub 3 false true p (iA 1) fun a4=>
(C 60 [snap a a3,snap a (iA 0),snap a a4]).bind fun a5=>some [a5,a5,a4,p,a3,a2]) (some [bA false,ud,ud,ud,ud,ud])).bind fun b6=>dD b6 fun b8 bn bo bp b9=>eU b9 fun bq br bs=>
(cu b8 (bT 39 b.1 1 a fun a6=>
aQ 3 a6 a fun a7=>
bT 28 o.1 2 a fun a8=>
aQ 3 a8 a fun a9=>
aW .sub 3 false true a9 (iA 1) fun aa=>
(C 60 [snap a a7,snap a (iA 0),snap a aa]).bind fun ab=>some [ab,ab,aa,a9,a8,a7,a6]) (some [bA false,ud,ud,ud,ud,ud,ud])).bind fun ba=>dD ba fun ad bt bu bv bb=>eU bb fun bw bx bc=>bk bc fun bz c0=>
nF ad true (bT 28 o.1 1 a fun ae=>
aQ 26 ae a fun af=>
bT 39 b.1 0 a fun ag=>
aQ 3 ag a fun ah=>
cR 26 af ah a fun ai=>
bT 50 ai 2 a fun aj=>
aQ 29 aj a fun ak=>
bT 39 b.1 1 a fun al=>
aQ 3 al a fun am=>
cR 29 ak am a fun an=>
aQ 3 an a fun bd=>
bT 39 b.1 2 a fun ao=>
aQ 3 ao a fun be=>some [be,ao,bd,an,am,al,ak,aj,ai,ah,ag,af,ae]) (some [ud,ud,ud,ud,ud,ud,ud,ud,ud,ud,ud,ud,ud]) fun bf=>ow bf fun bg c1 bh c2 c3 c4 c5 c6 bi=>dD bi fun c7 c8 c9 ca bj=>bk bj fun cb cc=>
(cu ad (aW .eql 3 false false bh bg fun ap=>some [ap,ap]) (some [bA false,ud])).bind fun bl=>eU bl fun bm cd ce=>some (Out.ret bm,a)):=r8
theorem W5 (c d:A):aG (cx C) call rg n 64 [c,d] H lo=aE (cx C) call rg n 64 lo 0 (List.length H) (fun a b=>bif Nat.beq a 0 then some (Out.ret (bA false),St.H b) else none) (fun a b=>none) (fun e=>some (Out.ret (lk e 4),St.H e)) (fun a b=>some (Out.pan a,St.H b)) n (St.mk [(0,c),(1,d),(4,bA false),(5,iA 0)] H):=r8
theorem W6 (j k:A):aG (cx C) call rg n 65 [j,k] H lo =
iT j H fun b=>
iT k b.2 fun c=>
eX 25 c.2 fun a=>
aQ 25 b.1 a.2 fun v=>
(C 61 [snap a.2 v]).bind fun w=>
aW .neq 32 false true w (iA 0) fun x=>
(cu x (some [bA true,ud,ud,ud]) (aQ 68 c.1 a.2 fun l=>
(C 86 [snap a.2 l]).bind fun o=>
(iC prog UnOp.not o).bind fun p=>some [p,p,o,l])).bind fun y=>dD y fun z u8 u9 a8 a9=>aX z (gZ 25 [] fun a0=>
cg 25 a.1 (b7 a.1 a.2 a0) a.2 lo fun q=>
aQ 25 a.1 q fun g=>some (Out.ret (A.tup [g,iA 60]),q)) (fl 25 b.1 0 22 a.2 fun a1=>
dp 22 a1 a.2 fun g=>
aW .eql 3 false true g (iA 4096) fun a2=>aX a2 (gZ 25 [] fun d=>
cg 25 a.1 (b7 a.1 a.2 d) a.2 lo fun r=>
aQ 25 a.1 r fun h=>some (Out.ret (A.tup [h,iA 2]),r)) ((aL prog 22 0 []).bind fun d=>
fl 25 b.1 0 22 a.2 fun h=>
(bN prog 22 22 false d h a.2 lo).bind fun e=>bif bif apart c.1 d then true else false then
aQ 68 c.1 e.2 fun s=>bif bif sy s then true else false then
(aL prog 22 1 [(0,cK e.2 s)]).bind fun a3=>
(bN prog 22 22 false e.1 a3 e.2 lo).bind fun f=>
bT 25 b.1 0 f.2 fun t=>
cg 22 t (b7 t f.2 f.1) f.2 lo fun i=>
aQ 25 b.1 i fun a4=>
cg 25 a.1 (b7 a.1 i a4) i lo fun u=>
aQ 25 a.1 u fun a5=>some (Out.ret (A.tup [a5,iA 0]),u) else none else none)):=r8
theorem W7 (b:A):aG (cx C) call rg n 66 [b] H lo =
iT b H fun a=>
fl 39 a.1 0 3 a.2 fun t2=>
fl 39 a.1 1 3 a.2 fun d=>
fl 39 a.1 2 3 a.2 fun e=>
(aL prog 29 4 [(0,cK a.2 (iA 2)),(1,cK a.2 t2),(2,cK a.2 d),(3,cK a.2 e)]).bind fun f=>
(C 90 [snap a.2 f]).bind fun g=>
(C 89 [snap a.2 g]).bind fun c=>
eE c 0 fun h=>
eE c 1 fun i=>some (Out.ret h,a.2):=r8
theorem W8 (c d:A):aG (cx C) call rg n 67 [c,d] H lo =
iT c H fun b=>
iT d b.2 fun a=>
fl 68 b.1 0 3 a.2 fun s=>
fl 68 a.1 0 3 a.2 fun t=>
aW .eql 3 false false s t fun u=>
(cu u (bT 68 b.1 1 a.2 fun e=>
aQ 3 e a.2 fun f=>
bT 68 a.1 1 a.2 fun g=>
aQ 3 g a.2 fun h=>
aW .eql 3 false false f h fun i=>some [i,i,h,g,f,e]) (some [bA false,ud,ud,ud,ud,ud])).bind fun v=>dD v fun w u9 a1 a2 x=>eU x fun a3 a4 a5=>
(cu w (bT 68 b.1 2 a.2 fun j=>
aQ 66 j a.2 fun k=>
(bz prog 66 9 k a.2).bind fun l=>
bT 68 a.1 2 a.2 fun o=>
aQ 66 o a.2 fun p=>
(bz prog 66 9 p a.2).bind fun q=>
aW .eql 9 false false l q fun r=>some [r,r,q,p,o,l,k,j]) (some [bA false,ud,ud,ud,ud,ud,ud,ud])).bind fun y=>ow y fun z a6 a7 a8 a9 aa ab ad ae=>some (Out.ret z,a.2):=r8
theorem W9 (b c:A):aG (cx C) call rg n 70 [b,c] H lo =
eX 103 H fun a=>
(Fy true b [c]).bind fun e=>
(Fy false b [c]).bind fun t2=>
gZ 103 [(0,e),(1,t2)] fun f=>
cg 103 a.1 (b7 a.1 a.2 f) a.2 lo fun d=>
aQ 103 a.1 d fun g=>some (Out.ret g,d):=r8
theorem Xa (x:A):aG (cx C) call rg n 72 [x] H lo =
eX 108 H fun a=>
eX 32 a.2 fun b=>
gZ 130 [(0,x)] fun t2=>
iT t2 b.2 fun h=>
(call 93 [h.1,iA 0] h.2 lo).bind fun d=>ee d.1 (fun i=>
cg 108 a.1 (b7 a.1 d.2 i) d.2 lo fun j=>
jI h.1 j fun e=>
fl 130 e 0 66 j fun t9=>
dp 66 t9 j fun a3=>
aW .eql 3 false true a3 (iA 0) fun k=>
(call 94 [h.1,k] j lo).bind fun c=>ee c.1 (fun l=>
aQ 108 a.1 c.2 fun o=>
cg 108 a.1 (b7 a.1 c.2 o) c.2 lo fun y=>
cg 32 b.1 (b7 b.1 y (iA 0)) y lo fun f=>
aW .neq 20 false true (A.v Value.nilIface) (A.v Value.nilIface) fun a4=>aX a4 (gZ 108 [] fun p=>
(nT prog (A.v Value.nilIface) 32 false).bind fun g=>
cg 108 a.1 (b7 a.1 f p) f lo fun z=>
cg 32 b.1 (b7 b.1 z g) z lo fun q=>
aQ 108 a.1 q fun a6=>
aQ 32 b.1 q fun a7=>some (Out.ret (A.tup [a6,a7]),q)) (aQ 108 a.1 f fun p=>
aQ 32 b.1 f fun g=>some (Out.ret (A.tup [p,g]),f))) fun l=>
aW .neq 20 false true l (A.v Value.nilIface) fun o=>aX o (gZ 108 [] fun r=>
(nT prog l 32 false).bind fun s=>
cg 108 a.1 (b7 a.1 c.2 r) c.2 lo fun a0=>
cg 32 b.1 (b7 b.1 a0 s) a0 lo fun t=>
aQ 108 a.1 t fun g=>
aQ 32 b.1 t fun a8=>some (Out.ret (A.tup [g,a8]),t)) (aQ 108 a.1 c.2 fun r=>
aQ 32 b.1 c.2 fun s=>some (Out.ret (A.tup [r,s]),c.2))) fun i=>
aW .neq 20 false true i (A.v Value.nilIface) fun t6=>aX t6 (gZ 108 [] fun e=>
(nT prog i 32 false).bind fun u=>
cg 108 a.1 (b7 a.1 d.2 e) d.2 lo fun H9=>
cg 32 b.1 (b7 b.1 H9 u) H9 lo fun w=>
aQ 108 a.1 w fun k=>
aQ 32 b.1 w fun aa=>some (Out.ret (A.tup [k,aa]),w)) (aQ 108 a.1 d.2 fun e=>
aQ 32 b.1 d.2 fun u=>some (Out.ret (A.tup [e,u]),d.2)):=r8
theorem Ua (a:A):aG (cx C) call rg n 73 [a] H lo =
jI a H fun e=>
bT 72 e 0 H fun v=>
jI a H fun t2=>
bT 72 t2 1 H fun f=>
bT 46 f 0 H fun w=>
jI a H fun g=>
bT 72 g 1 H fun h=>
bT 46 h 1 H fun x=>
jI a H fun i=>
bT 72 i 1 H fun j=>
bT 46 j 2 H fun y=>
jI a H fun k=>
bT 72 k 1 H fun l=>
bT 46 l 3 H fun z=>
jI a H fun o=>
bT 72 o 0 H fun a0=>
jI a H fun p=>
bT 72 p 2 H fun q=>
bT 39 q 0 H fun a1=>
jI a H fun r=>
bT 72 r 2 H fun s=>
bT 39 s 1 H fun a2=>
jI a H fun t=>
bT 72 t 2 H fun u=>
bT 39 u 2 H fun a3=>
gZ 134 [(0,v),(1,w),(2,x),(3,y),(4,z),(5,a0),(6,a1),(7,a2),(8,a3)] fun a4=>bif bif apart u A.any then bif apart t A.any then bif apart a A.any then bif apart s A.any then bif apart r A.any then bif apart a A.any then bif apart q A.any then bif apart p A.any then bif apart a A.any then bif apart o A.any then bif apart a A.any then bif apart l A.any then bif apart k A.any then bif apart a A.any then bif apart j A.any then bif apart i A.any then bif apart a A.any then bif apart h A.any then bif apart g A.any then bif apart a A.any then bif apart f A.any then bif apart t2 A.any then bif apart a A.any then bif apart e A.any then bif apart a A.any then true else false else false else false else false else false else false else false else false else false else false else false else false else false else false else false else false else false else false else false else false else false else false else false else false else false then
(ku prog 134 H).bind fun b=>
cg 134 b.1 (b7 b.1 b.2 a4) b.2 lo fun c=>
jI a c fun a5=>
fl 72 a5 0 3 c fun a6=>
aW .eql 3 false true a6 (iA 1) fun a7=>aX a7 ((fb prog 134 b.1 none (some (iA 5)) none c).bind fun d=>some (Out.ret d,c)) ((fb prog 134 b.1 (some (iA 5)) none none c).bind fun d=>some (Out.ret d,c)) else none:=r8
theorem Xb (f:A):aG (cx C) call rg n 79 [f] H lo =
(C 96 [snap H f]).bind fun g=>
eE g 0 fun k=>
eE g 1 fun t2=>
eX 108 H fun a=>
cg 108 a.1 (b7 a.1 a.2 k) a.2 lo fun b=>
aW .neq 32 false true t2 (iA 0) fun l=>
(cu l (some [bA true,ud,ud,ud]) (bT 108 a.1 0 b fun h=>
aQ 3 h b fun i=>
aW .neq 3 false true i (iA 3) fun j=>some [j,j,i,h])).bind fun o=>dD o fun p q r s t=>aX p (some (Out.ret (A.tup [A.imm [] true,bA false]),b)) (aE (cx C) call rg n 79 lo 0 (List.length (eB 1 (St.H (St.mk [(2,A.imm [] true),(3,bA false),(4,a.1),(6,A.imm [] true),(7,iA 0)] b)) (look (St.fr (St.mk [(2,A.imm [] true),(3,bA false),(4,a.1),(6,A.imm [] true),(7,iA 0)] b)) (Prod.fst (6,0,2)))).2) (fun d c=>bif Nat.beq d 0 then some (Out.ret (A.tup [lk c 6,bA true]),St.H c) else none) (fun d c=>none) (fun e=>some (Out.ret (A.tup [lk e 2,lk e 3]),St.H e)) (fun d c=>some (Out.pan d,St.H c)) n (St.mk [(2,A.imm [] true),(3,bA false),(4,a.1),(6,(eB 1 (St.H (St.mk [(2,A.imm [] true),(3,bA false),(4,a.1),(6,A.imm [] true),(7,iA 0)] b)) (look (St.fr (St.mk [(2,A.imm [] true),(3,bA false),(4,a.1),(6,A.imm [] true),(7,iA 0)] b)) (Prod.fst (6,0,2)))).1),(7,iA 0)] (eB 1 (St.H (St.mk [(2,A.imm [] true),(3,bA false),(4,a.1),(6,A.imm [] true),(7,iA 0)] b)) (look (St.fr (St.mk [(2,A.imm [] true),(3,bA false),(4,a.1),(6,A.imm [] true),(7,iA 0)] b)) (Prod.fst (6,0,2)))).2)):=r8
theorem Xc (b:A):aG (cx C) call rg n 80 [b] H lo =
iT b H fun a=>
fl 68 a.1 0 3 a.2 fun t2=>
fl 68 a.1 1 3 a.2 fun g=>
(C 70 [snap a.2 t2,snap a.2 g]).bind fun h=>
(C 84 [snap a.2 h]).bind fun i=>
(cu i (bT 68 a.1 2 a.2 fun c=>
aQ 66 c a.2 fun d=>
dp 66 d a.2 fun e=>
aW .leq 3 false true e (iA 1048576) fun f=>some [f,f,e,d,c]) (some [bA false,ud,ud,ud,ud])).bind fun j=>dD j fun k o p q l=>bk l fun r s=>some (Out.ret k,a.2):=r8
theorem Xd (f:A):aG (cx C) call rg n 81 [f] H lo =
iT f H fun a=>
aQ 108 a.1 a.2 fun h=>
(C 97 [snap a.2 h]).bind fun t2=>
aW .neq 32 false true t2 (iA 0) fun i=>aX i (some (Out.ret (A.tup [A.imm [] true,t2]),a.2)) (bT 108 a.1 0 a.2 fun g=>
aQ 3 g a.2 fun j=>
aQ 108 a.1 a.2 fun k=>bif bif jA 0 a.1 then bif jA 0 g then bif jA 0 a.1 then true else false else false else false then
(call 98 [] a.2 (List.length a.2)).bind fun b=>ee b.1 (fun c=>
jI c b.2 fun l=>
cR 155 l j b.2 fun o=>
fl 138 o 0 136 b.2 fun p=>dA (cx C) call p [A.imm [] true,k] b.2 lo (fun d e=>some (Out.ret (A.tup [d,iA 0]),e)) fun d e=>some (Out.pan d,e)) fun c=>some (Out.pan c,b.2) else none):=r8
theorem Xe (a b:A):aG (cx C) call rg n 82 [a,b] H lo =
(C 99 [snap H a,snap H b]).bind fun c=>
aW .geq 3 false true c (iA 0) fun d=>some (Out.ret d,H):=r8
theorem Xf (b:A):aG (cx C) call rg n 83 [b] H lo =
iT b H fun a=>
aQ 68 a.1 a.2 fun c=>
(C 80 [snap a.2 c]).bind fun t2=>
(iC prog UnOp.not t2).bind fun d=>some (Out.ret d,a.2):=r8
theorem Xg (b:A):aG (cx C) call rg n 84 [b] H lo =
iT b H fun a=>
cR 103 a.1 (iA 0) a.2 fun k=>
aQ 3 k a.2 fun t2=>
aW .geq 3 false true t2 (iA 0) fun l=>
(cu l (cR 103 a.1 (iA 0) a.2 fun c=>
aQ 3 c a.2 fun d=>
cR 103 a.1 (iA 1) a.2 fun e=>
aQ 3 e a.2 fun f=>
aW .lss 3 false false d f fun g=>some [g,g,f,e,d,c]) (some [bA false,ud,ud,ud,ud,ud])).bind fun o=>dD o fun p t u v q=>eU q fun w x y=>
(cu p (cR 103 a.1 (iA 1) a.2 fun h=>
aQ 3 h a.2 fun i=>
aW .lss 3 false true i (iA 24) fun j=>some [j,j,i,h]) (some [bA false,ud,ud,ud])).bind fun r=>dD r fun s z a0 a1 a2=>some (Out.ret s,a.2):=r8
theorem Xh (b d:A):aG (cx C) call rg n 85 [b,d] H lo =
dp 29 b H fun f=>aE (cx C) call rg n 85 lo 0 (List.length H) (fun c a=>bif Nat.beq c 0 then
dp 29 (lk a 0) (St.H a) fun t2=>
dp 29 (lk a 1) (St.H a) fun g=>
aW .lss 3 false false t2 g fun h=>aX h (some (Out.ret (A.v (.int .i64 (-1))),St.H a)) (some (Out.ret (iA 0),St.H a)) else none) (fun c a=>none) (fun e=>some (Out.ret (lk e 4),St.H e)) (fun c a=>some (Out.pan c,St.H a)) n (St.mk [(0,b),(1,d),(4,iA 0),(9,b),(10,f),(11,iA 0)] H):=r8
theorem Xi (b:A):aG (cx C) call rg n 86 [b] H lo =
iT b H fun a=>
fl 68 a.1 0 3 a.2 fun t2=>
(C 87 [snap a.2 t2]).bind fun q=>
(cu q (bT 68 a.1 1 a.2 fun c=>
aQ 3 c a.2 fun d=>
(C 87 [snap a.2 d]).bind fun e=>some [e,e,d,c]) (some [bA false,ud,ud,ud])).bind fun r=>dD r fun s z u7 u8 l8=>
(cu s (bT 68 a.1 0 a.2 fun f=>
aQ 3 f a.2 fun g=>
bT 68 a.1 1 a.2 fun h=>
aQ 3 h a.2 fun i=>
aW .neq 3 false false g i fun j=>some [j,j,i,h,g,f]) (some [bA false,ud,ud,ud,ud,ud])).bind fun t=>dD t fun u a3 a4 a5 v=>eU v fun a6 a7 a8=>
(cu u (bT 68 a.1 2 a.2 fun k=>
aQ 66 k a.2 fun l=>
dp 66 l a.2 fun o=>
aW .leq 3 false true o (iA 1048576) fun p=>some [p,p,o,l,k]) (some [bA false,ud,ud,ud,ud])).bind fun w=>dD w fun x a9 aa ab y=>bk y fun ad ae=>some (Out.ret x,a.2):=r8
theorem Xj (a:A):aG (cx C) call rg n 87 [a] H lo =
aW .geq 3 false true a (iA 0) fun c=>
(cu c (aW .lss 3 false true a (iA 24) fun b=>some [b,b,a]) (some [bA false,ud,ud])).bind fun d=>eU d fun e g f=>bk f fun u4 h=>some (Out.ret e,H):=r8
theorem Xk (c b:A):aG (cx C) call rg n 88 [c,b] H lo =
iT c H fun a=>
fl 46 a.1 0 3 a.2 fun t2=>
(C 60 [snap a.2 t2,snap a.2 (iA 0),snap a.2 (iA 1048576)]).bind fun p=>
(cu p (bT 46 a.1 1 a.2 fun d=>
aQ 3 d a.2 fun e=>
aW .sub 3 false true b (iA 1) fun f=>
(C 60 [snap a.2 e,snap a.2 (iA 0),snap a.2 f]).bind fun g=>some [g,g,f,b,e,d]) (some [bA false,ud,ud,ud,ud,ud])).bind fun q=>dD q fun r x y z s=>eU s fun u9 a1 a2=>
(cu r (bT 46 a.1 2 a.2 fun h=>
aQ 3 h a.2 fun i=>
(C 60 [snap a.2 i,snap a.2 (iA 0),snap a.2 (iA 4095)]).bind fun j=>some [j,j,i,h]) (some [bA false,ud,ud,ud])).bind fun t=>dD t fun u a3 a4 a5 a6=>
(cu u (bT 46 a.1 3 a.2 fun k=>
aQ 3 k a.2 fun l=>
(C 60 [snap a.2 l,snap a.2 (iA 1),snap a.2 (iA 8)]).bind fun o=>some [o,o,l,k]) (some [bA false,ud,ud,ud])).bind fun v=>dD v fun w a7 a8 a9 aa=>some (Out.ret w,a.2):=r8
theorem Xl (b:A):aG (cx C) call rg n 89 [b] H lo =
iT b H fun a=>
aQ 108 a.1 a.2 fun c=>
(C 101 [snap a.2 c]).bind fun t2=>
aW .neq 32 false true t2 (iA 0) fun d=>aX d (some (Out.ret (A.tup [A.imm [] true,t2]),a.2)) (aQ 108 a.1 a.2 fun e=>
(C 102 [snap a.2 e]).bind fun f=>some (Out.ret (A.tup [f,iA 0]),a.2)):=r8
theorem Xm (f:A):aG (cx C) call rg n 90 [f] H lo =
eX 108 H fun g=>
gZ 108 [(0,iA 3)] fun j=>
eX 108 g.2 fun b=>
cg 108 b.1 (b7 b.1 b.2 j) b.2 lo fun h=>aE (cx C) call rg n 90 lo 0 (List.length (dG lo 3 5 b.1 h)) (fun c a=>bif Nat.beq c 0 then
aQ 108 (lk a 3) (St.H a) fun d=>
cg 108 (lk a 2) (b7 (lk a 2) (St.H a) d) (St.H a) lo fun i=>
aQ 108 (lk a 2) i fun k=>some (Out.ret k,i) else none) (fun c a=>none) (fun e=>
aQ 108 (lk e 2) (St.H e) fun d=>some (Out.ret d,St.H e)) (fun c a=>some (Out.pan c,St.H a)) n (St.mk [(0,f),(2,g.1),(3,b.1),(4,iA 0)] (dG lo 3 5 b.1 h)):=r8
theorem Xn (d r:A):aG (cx C) call rg n 93 [d,r] H lo =
eX 108 H fun a=>
(call 104 [d,iA 1] a.2 lo).bind fun H1=>ee H1.1 (fun a2=>
cR 66 a2 (iA 0) H1.2 fun t3=>
aQ 5 t3 H1.2 fun t4=>
(bz prog 5 3 t4 H1.2).bind fun t5=>
bT 108 a.1 0 H1.2 fun t6=>
cg 3 t6 (b7 t6 H1.2 t5) H1.2 lo fun j=>
fl 108 a.1 0 3 j fun s=>
aW .eql 3 false true s (iA 1) fun a9=>aX a9 ((call 106 [d] j lo).bind fun h=>ee h.1 (fun t=>
(C 105 [snap h.2 t]).bind fun u=>
bT 108 a.1 1 h.2 fun a3=>
cg 3 a3 (b7 a3 h.2 u) h.2 lo fun v=>
aQ 108 a.1 v fun w=>
cg 108 a.1 (b7 a.1 v w) v lo fun a4=>
aQ 108 a.1 (dG lo 3 0 a.1 a4) fun aa=>some (Out.ret aa,dG lo 3 0 a.1 a4)) fun t=>some (Out.pan t,h.2)) (aW .eql 3 false true s (iA 2) fun ab=>aX ab ((call 107 [d] j lo).bind fun x=>ee x.1 (fun y=>
(call 104 [d,y] x.2 lo).bind fun c=>ee c.1 (fun i=>
(bz prog 66 9 i c.2).bind fun w=>
bT 108 a.1 2 c.2 fun q=>
cg 9 q (b7 q c.2 w) c.2 lo fun z=>
aQ 108 a.1 z fun f=>
cg 108 a.1 (b7 a.1 z f) z lo fun e=>
aQ 108 a.1 (dG lo 3 0 a.1 e) fun k=>some (Out.ret k,dG lo 3 0 a.1 e)) fun i=>some (Out.pan i,c.2)) fun y=>some (Out.pan y,x.2)) (aW .eql 3 false true s (iA 3) fun ad=>aX ad (aW .lss 3 false true r (iA 16) fun u=>
(call 94 [d,u] j lo).bind fun c=>ee c.1 (fun i=>
(call 107 [d] c.2 lo).bind fun g=>ee g.1 (fun a0=>aE (cx C) call rg n 93 lo 0 (List.length (dG lo 3 5 a.1 g.2)) (fun l b=>bif Nat.beq l 1 then
aQ 108 (lk b 4) (St.H b) fun f=>
cg 108 (lk b 4) (b7 (lk b 4) (St.H b) f) (St.H b) lo fun e=>
aQ 108 (lk b 4) (dG lo 3 0 (lk b 4) e) fun k=>some (Out.ret k,dG lo 3 0 (lk b 4) e) else bif Nat.beq l 0 then
aQ 108 (lk b 4) (St.H b) fun f=>
cg 108 (lk b 4) (b7 (lk b 4) (St.H b) f) (St.H b) lo fun e=>
aQ 108 (lk b 4) (dG lo 3 0 (lk b 4) e) fun k=>some (Out.ret k,dG lo 3 0 (lk b 4) e) else none) (fun l b=>none) (fun o=>
aQ 108 (lk o 4) (dG lo 3 0 (lk o 4) (St.H o)) fun f=>some (Out.ret f,dG lo 3 0 (lk o 4) (St.H o))) (fun l b=>some (Out.pan l,St.H b)) n (St.mk [(0,d),(1,r),(4,a.1),(36,a0),(37,iA 0)] (dG lo 3 5 a.1 g.2))) fun a0=>some (Out.pan a0,g.2)) fun i=>some (Out.pan i,c.2)) ((call 94 [d,bA false] j lo).bind fun p=>ee p.1 (fun a5=>
aQ 108 a.1 p.2 fun ae=>
cg 108 a.1 (b7 a.1 p.2 ae) p.2 lo fun g=>
aQ 108 a.1 (dG lo 3 0 a.1 g) fun q=>some (Out.ret q,dG lo 3 0 a.1 g)) fun a5=>some (Out.pan a5,p.2))))) fun a2=>some (Out.pan a2,H1.2):=r8
theorem Gb (b a:A):aG (cx C) call rg n 94 [b,a] H lo =
(iC prog UnOp.not a).bind fun c=>aX c ((FU prog 32 (iA 10)).bind fun d=>HH d fun a2=>some (Out.pan a2,H)) (some (Out.ret (A.tup []),H)):=r8
theorem Xo (d:A):aG (cx C) call rg n 96 [d] H lo =
eX 108 H fun b=>
gZ 152 [(0,d)] fun y=>
iT y b.2 fun e=>
(call 109 [e.1,iA 0] e.2 lo).bind fun g=>ee g.1 (fun h=>
eX 108 g.2 fun c=>
cg 108 c.1 (b7 c.1 c.2 h) c.2 lo fun a=>
jI e.1 a fun z=>
fl 152 z 2 4 a fun t9=>
(cu t9 (some [bA true,ud,ud,ud,ud,ud,ud,ud]) (jI e.1 a fun k=>
bT 152 k 1 a fun l=>
aQ 3 l a fun o=>
dp 66 d a fun p=>
aW .neq 3 false false o p fun q=>some [q,q,p,d,o,l,k,e.1])).bind fun a1=>ow a1 fun a2 ae af ag ah ai aj ak al=>
(cu a2 (some [bA true,ud,ud,ud]) (aQ 108 c.1 a fun r=>
(C 101 [snap a r]).bind fun s=>
aW .neq 32 false true s (iA 0) fun t=>some [t,t,s,r])).bind fun a3=>dD a3 fun u am an ao ap=>
nF u false (aQ 108 c.1 a fun v=>
(C 102 [snap a v]).bind fun w=>
(bz prog 66 9 w a).bind fun a5=>
(bz prog 66 9 d a).bind fun a6=>some [a6,d,a5,w,v]) (some [ud,ud,ud,ud,ud]) fun a7=>dD a7 fun a8 aq a9 ar aa=>bk aa fun au av=>
(cu u (some [bA true,ud]) (aW .neq 9 false false a9 a8 fun x=>some [x,x])).bind fun ab=>eU ab fun ad aw ax=>aX ad (gZ 108 [] fun i=>
cg 108 b.1 (b7 b.1 a i) a lo fun f=>
aQ 108 b.1 f fun j=>some (Out.ret (A.tup [j,iA 10]),f)) (aQ 108 c.1 a fun i=>
cg 108 b.1 (b7 b.1 a i) a lo fun f=>
aQ 108 b.1 f fun j=>some (Out.ret (A.tup [j,iA 0]),f))) fun h=>some (Out.pan h,g.2):=r8
theorem Xp (b:A):aG (cx C) call rg n 97 [b] H lo =
iT b H fun a=>
aQ 108 a.1 a.2 fun c=>
(C 110 [snap a.2 c]).bind fun t2=>
eE t2 0 fun d=>
eE t2 1 fun e=>
(iC prog UnOp.not e).bind fun f=>aX f (some (Out.ret (iA 1),a.2)) (aW .gtr 3 false true d (iA 16) fun g=>aX g (some (Out.ret (iA 2),a.2)) (some (Out.ret (iA 0),a.2))):=r8
theorem Xq:aG (cx C) call rg n 98 [] H lo =
gZ 155 [] fun j=>
iT j H fun e=>
eX 139 e.2 fun a=>
cg 139 a.1 (b7 a.1 a.2 e.1) a.2 lo fun b=>
aQ 139 a.1 b fun k=>
jI k b fun l=>
cR 155 l (iA 1) b fun o=>
bT 138 o 0 b fun f=>
cg 136 f (b7 f b (A.fn (Fn.func 111) [] [])) b lo fun c=>
aQ 139 a.1 c fun p=>
jI p c fun q=>
cR 155 q (iA 2) c fun r=>
bT 138 r 0 c fun g=>
cg 136 g (b7 g c (A.fn (Fn.func 114) [] [])) c lo fun d=>
aQ 139 a.1 d fun s=>
jI s d fun t=>
cR 155 t (iA 3) d fun u=>
bT 138 u 0 d fun h=>
cg 136 h (b7 h d (A.fn (Fn.func 115) [] [a.1])) d lo fun i=>
aQ 139 a.1 i fun v=>some (Out.ret v,i):=r8
theorem Xr (c d:A):aG (cx C) call rg n 99 [c,d] H lo =
dp 22 c H fun f=>aE (cx C) call rg n 99 lo 0 (List.length H) (fun a b=>bif Nat.beq a 0 then some (Out.ret (A.v (.int .i64 (-1))),St.H b) else none) (fun a b=>none) (fun e=>some (Out.ret (lk e 4),St.H e)) (fun a b=>some (Out.pan a,St.H b)) n (St.mk [(0,c),(1,d),(4,iA 0),(7,f),(8,iA 0)] H):=r8
theorem Mp (a b:A):aG (cx C) call rg n 100 [a,b] H lo =
(C 116 [snap H a]).bind fun d=>
(C 116 [snap H b]).bind fun c=>aX d (aX c (some (Out.ret (iA 0),H)) (some (Out.ret (A.v (.int .i64 (-1))),H))) (aX c (some (Out.ret (iA 1),H)) (aW .lss 3 false false a b fun t2=>aX t2 (some (Out.ret (A.v (.int .i64 (-1))),H)) (aW .gtr 3 false false a b fun e=>aX e (some (Out.ret (iA 1),H)) (some (Out.ret (iA 0),H))))):=r8
theorem Rg (b:A):aG (cx C) call rg n 101 [b] H lo =
iT b H fun a=>
aQ 108 a.1 a.2 fun c=>
(C 117 [snap a.2 c]).bind fun t2=>
(iC prog UnOp.not t2).bind fun d=>aX d (some (Out.ret (iA 1),a.2)) (aQ 108 a.1 a.2 fun e=>
(C 118 [snap a.2 e]).bind fun f=>
aW .gtr 3 false true f (iA 16) fun g=>aX g (some (Out.ret (iA 2),a.2)) (some (Out.ret (iA 0),a.2))):=r8
theorem Rh (k:A):aG (cx C) call rg n 102 [k] H lo =
iT k H fun a=>
fl 108 a.1 0 3 a.2 fun t2=>
aW .eql 3 false true t2 (iA 1) fun r=>aX r ((aL prog 66 1 [(0,cK a.2 (A.v (.int .u8 1)))]).bind fun h=>
fl 108 a.1 1 3 a.2 fun s=>
(C 120 [snap a.2 s]).bind fun c=>
(C 119 [snap a.2 c]).bind fun d=>
(bN prog 66 66 false h d a.2 lo).bind fun l=>some (Out.ret l.1,l.2)) (aW .eql 3 false true t2 (iA 2) fun h=>aX h ((aL prog 66 1 [(0,cK a.2 (A.v (.int .u8 2)))]).bind fun e=>
fl 108 a.1 2 9 a.2 fun c=>
dp 9 c a.2 fun d=>
(bz prog 3 146 d a.2).bind fun i=>
(C 119 [snap a.2 i]).bind fun j=>
(bN prog 66 66 false e j a.2 lo).bind fun b=>bif bif apart a.1 e then true else false then
bT 108 a.1 2 b.2 fun o=>bif bif apart o e then true else false then
aQ 9 o b.2 fun t=>
(bN prog 66 9 false b.1 t b.2 lo).bind fun p=>some (Out.ret p.1,p.2) else none else none) ((aL prog 66 1 [(0,cK a.2 (A.v (.int .u8 3)))]).bind fun e=>
fl 108 a.1 3 106 a.2 fun c=>
dp 106 c a.2 fun d=>
(bz prog 3 146 d a.2).bind fun i=>
(C 119 [snap a.2 i]).bind fun j=>
(bN prog 66 66 false e j a.2 lo).bind fun b=>aE (cx C) call rg n 102 lo 0 (List.length b.2) (fun g f=>bif Nat.beq g 1 then some (Out.ret (lk f 3),St.H f) else none) (fun g f=>none) (fun q=>some (Out.ret (lk q 2),St.H q)) (fun g f=>some (Out.pan g,St.H f)) n (St.mk [(1,a.1),(2,A.imm [] true),(3,b.1),(4,iA 0)] b.2))):=r8
theorem Ri (b:A):aG (cx C) call rg n 103 [b] H lo =
eX 108 H fun a=>
gZ 108 [(0,iA 1),(1,b)] fun d=>
cg 108 a.1 (b7 a.1 a.2 d) a.2 lo fun c=>
aQ 108 a.1 c fun e=>some (Out.ret e,c):=r8
theorem Kl (b c:A):aG (cx C) call rg n 104 [b,c] H lo =
jI b H fun f=>
fl 130 f 0 66 H fun t2=>
dp 66 t2 H fun g=>
aW .leq 3 false false c g fun h=>
(call 94 [b,h] H lo).bind fun a=>ee a.1 (fun d=>
jI b a.2 fun i=>
fl 130 i 0 66 a.2 fun j=>
(fb prog 66 j none (some c) (some c) a.2).bind fun k=>
jI b a.2 fun l=>
fl 130 l 0 66 a.2 fun o=>
(fb prog 66 o (some c) none none a.2).bind fun p=>
jI b a.2 fun q=>
bT 130 q 0 a.2 fun e=>
cg 66 e (b7 e a.2 p) a.2 lo fun r=>some (Out.ret k,r)) fun d=>some (Out.pan d,a.2):=r8
theorem Rj (a:A):aG (cx C) call rg n 105 [a] H lo =
aW .shr 146 false true a (A.v (.int .u64 1)) fun b=>
(bz prog 146 3 b H).bind fun c=>
aW .and 146 false true a (A.v (.int .u64 1)) fun t2=>
(bz prog 146 3 t2 H).bind fun d=>
(iC prog UnOp.neg d).bind fun e=>
aW .xor 3 false false c e fun f=>some (Out.ret f,H):=r8
theorem Km (c:A):aG (cx C) call rg n 106 [c] H lo=aE (cx C) call rg n 106 lo 0 (List.length H) (fun b a=>bif Nat.beq b 0 then some (Out.ret (lk a 2),St.H a) else none) (fun b a=>none) (fun d=>some (Out.ret (lk d 2),St.H d)) (fun b a=>some (Out.pan b,St.H a)) n (St.mk [(0,c),(2,A.v (.int .u64 0)),(3,iA 0)] H):=r8
theorem Mq (a:A):aG (cx C) call rg n 107 [a] H lo =
(call 106 [a] H lo).bind fun H0=>ee H0.1 (fun b=>
jI a H0.2 fun t2=>
fl 130 t2 0 66 H0.2 fun e=>
dp 66 e H0.2 fun f=>
(bz prog 3 146 f H0.2).bind fun g=>
aW .leq 146 false false b g fun h=>
(call 94 [a,h] H0.2 lo).bind fun c=>ee c.1 (fun d=>
(bz prog 146 3 b c.2).bind fun i=>some (Out.ret i,c.2)) fun d=>some (Out.pan d,c.2)) fun b=>some (Out.pan b,H0.2):=r8
theorem Rk (b x1:A):aG (cx C) call rg n 109 [b,x1] H lo =
eX 108 H fun a=>
(call 121 [b] a.2 lo).bind fun H1=>ee H1.1 (fun a2=>
aW .eql 5 false true a2 (A.v (.int .u8 1)) fun t3=>aX t3 ((call 122 [b] H1.2 lo).bind fun j=>ee j.1 (fun s=>
aW .rem 146 false true s (A.v (.int .u64 2)) fun t6=>
aW .eql 146 false true t6 (A.v (.int .u64 1)) fun q=>aX q (aW .quo 146 false true s (A.v (.int .u64 2)) fun t=>
(bz prog 146 3 t j.2).bind fun k=>
(iC prog UnOp.neg k).bind fun g=>
aW .sub 3 false true g (iA 1) fun h=>
gZ 108 [(0,iA 1),(1,h)] fun i=>
cg 108 a.1 (b7 a.1 j.2 i) j.2 lo fun aj=>
aQ 108 a.1 (dG lo 3 0 a.1 aj) fun l=>some (Out.ret l,dG lo 3 0 a.1 aj)) (aW .quo 146 false true s (A.v (.int .u64 2)) fun t=>
(bz prog 146 3 t j.2).bind fun k=>
gZ 108 [(0,iA 1),(1,k)] fun g=>
cg 108 a.1 (b7 a.1 j.2 g) j.2 lo fun ak=>
aQ 108 a.1 (dG lo 3 0 a.1 ak) fun i=>some (Out.ret i,dG lo 3 0 a.1 ak))) fun s=>some (Out.pan s,j.2)) (aW .eql 5 false true a2 (A.v (.int .u8 2)) fun t4=>aX t4 ((call 122 [b] H1.2 lo).bind fun c=>ee c.1 (fun u=>
jI b c.2 fun q=>
fl 152 q 2 4 c.2 fun k=>
nF k false (jI b c.2 fun g=>
bT 152 g 0 c.2 fun h=>
aQ 66 h c.2 fun i=>
dp 66 i c.2 fun w=>
jI b c.2 fun l=>
bT 152 l 1 c.2 fun x=>
aQ 3 x c.2 fun y=>
aW .sub 3 false false w y fun z=>
(bz prog 3 146 z c.2).bind fun aa=>some [aa,z,y,x,l,b,w,i,h,g,b,u]) (some [ud,ud,ud,ud,ud,ud,ud,ud,ud,ud,ud,ud]) fun b4=>ow b4 fun b5 al b6 b8 b9 ba bb bc bd=>dD bd fun be bf bg am c5=>
(cu k (some [bA true,ud]) (aW .gtr 146 false false am b5 fun an=>some [an,an])).bind fun ao=>eU ao fun bh ap c6=>aX bh (jI b c.2 fun ae=>
bT 152 ae 2 c.2 fun a0=>
cg 4 a0 (b7 a0 c.2 (bA true)) c.2 lo fun aq=>
gZ 108 [] fun af=>
cg 108 a.1 (b7 a.1 aq af) aq lo fun ar=>
aQ 108 a.1 (dG lo 3 0 a.1 ar) fun o=>some (Out.ret o,dG lo 3 0 a.1 ar)) (jI b c.2 fun ae=>
fl 152 ae 1 3 c.2 fun bi=>
(bz prog 146 3 u c.2).bind fun af=>
aW .add 3 false false bi af fun bj=>
jI b c.2 fun o=>
bT 152 o 1 c.2 fun a1=>
cg 3 a1 (b7 a1 c.2 bj) c.2 lo fun e=>
jI b e fun ag=>
fl 152 ag 0 66 e fun r=>
jI b e fun ah=>
fl 152 ah 1 3 e fun bl=>
(bz prog 146 3 u e).bind fun ai=>
aW .sub 3 false false bl ai fun bm=>
jI b e fun bn=>
fl 152 bn 1 3 e fun bo=>
(fb prog 66 r (some bm) (some bo) none e).bind fun bp=>
(bz prog 66 9 bp e).bind fun bq=>
gZ 108 [(0,iA 2),(2,bq)] fun br=>
cg 108 a.1 (b7 a.1 e br) e lo fun au=>
aQ 108 a.1 (dG lo 3 0 a.1 au) fun bs=>some (Out.ret bs,dG lo 3 0 a.1 au))) fun u=>some (Out.pan u,c.2)) (aW .eql 5 false true a2 (A.v (.int .u8 3)) fun t5=>aX t5 ((call 122 [b] H1.2 lo).bind fun f=>ee f.1 (fun a7=>
jI b f.2 fun t=>
fl 152 t 2 4 f.2 fun g=>
nF g false (jI b f.2 fun h=>
bT 152 h 0 f.2 fun i=>
aQ 66 i f.2 fun w=>
dp 66 w f.2 fun l=>
jI b f.2 fun x=>
bT 152 x 1 f.2 fun y=>
aQ 3 y f.2 fun z=>
aW .sub 3 false false l z fun aa=>
(bz prog 3 146 aa f.2).bind fun bu=>some [bu,aa,z,y,x,b,l,w,i,h,b,a7]) (some [ud,ud,ud,ud,ud,ud,ud,ud,ud,ud,ud,ud]) fun bv=>ow bv fun al b6 b8 b9 ba bb bc be bw=>dD bw fun bf bg am bx ao=>
(cu g (some [bA true,ud]) (aW .gtr 146 false false bx al fun av=>some [av,av])).bind fun c0=>eU c0 fun ap c7 c8=>
(cu ap (some [bA true,ud,ud]) (aW .eql 3 false true x1 (iA 16) fun a0=>some [a0,a0,x1])).bind fun c1=>eU c1 fun c2 c9 c3=>bk c3 fun ca cb=>aX c2 (jI b f.2 fun o=>
bT 152 o 2 f.2 fun a1=>
cg 4 a1 (b7 a1 f.2 (bA true)) f.2 lo fun e=>
gZ 108 [] fun ag=>
cg 108 a.1 (b7 a.1 e ag) e lo fun aw=>
aQ 108 a.1 (dG lo 3 0 a.1 aw) fun r=>some (Out.ret r,dG lo 3 0 a.1 aw)) (gZ 108 [(0,iA 3)] fun o=>
eX 108 f.2 fun p=>
cg 108 p.1 (b7 p.1 p.2 o) p.2 lo fun e=>aE (cx C) call rg n 109 lo 0 (List.length (dG lo 3 5 p.1 e)) (fun a3 d=>bif Nat.beq a3 1 then
aQ 108 (lk d 8) (St.H d) fun a4=>
cg 108 (lk d 4) (b7 (lk d 4) (St.H d) a4) (St.H d) lo fun ax=>
aQ 108 (lk d 4) (dG lo 3 0 (lk d 4) ax) fun ah=>some (Out.ret ah,dG lo 3 0 (lk d 4) ax) else bif Nat.beq a3 0 then
jI (lk d 0) (St.H d) fun a4=>
bT 152 a4 2 (St.H d) fun r=>
cg 4 r (b7 r (St.H d) (bA true)) (St.H d) lo fun ay=>
gZ 108 [] fun c4=>
cg 108 (lk d 4) (b7 (lk d 4) ay c4) ay lo fun az=>
aQ 108 (lk d 4) (dG lo 3 0 (lk d 4) az) fun ai=>some (Out.ret ai,dG lo 3 0 (lk d 4) az) else none) (fun a3 d=>none) (fun a8=>
aQ 108 (lk a8 4) (dG lo 3 0 (lk a8 4) (St.H a8)) fun a4=>some (Out.ret a4,dG lo 3 0 (lk a8 4) (St.H a8))) (fun a3 d=>some (Out.pan a3,St.H d)) n (St.mk [(0,b),(1,x1),(4,a.1),(7,a7),(8,p.1),(9,A.v (.int .u64 0))] (dG lo 3 5 p.1 e)))) fun a7=>some (Out.pan a7,f.2)) (jI b H1.2 fun t6=>
bT 152 t6 2 H1.2 fun q=>
cg 4 q (b7 q H1.2 (bA true)) H1.2 lo fun H8=>
gZ 108 [] fun k=>
cg 108 a.1 (b7 a.1 H8 k) H8 lo fun b1=>
aQ 108 a.1 (dG lo 3 0 a.1 b1) fun h=>some (Out.ret h,dG lo 3 0 a.1 b1))))) fun a2=>some (Out.pan a2,H1.2):=r8
theorem Rl (f:A):aG (cx C) call rg n 110 [f] H lo =
iT f H fun a=>
fl 108 a.1 2 9 a.2 fun t2=>
aW .eql 9 false true t2 (A.v (Value.string (ByteArray.mk #[]))) fun t3=>
(cu t3 (bT 108 a.1 3 a.2 fun g=>
aQ 106 g a.2 fun h=>
dp 106 h a.2 fun i=>
aW .eql 3 false true i (iA 0) fun j=>some [j,j,i,h,g]) (some [bA false,ud,ud,ud,ud])).bind fun l4=>dD l4 fun u5 u6 u7 u8 l8=>bk l8 fun u9 l9=>
fl 108 a.1 1 3 a.2 fun a7=>
aW .eql 3 false true a7 (iA 0) fun a8=>
(cu a8 (bT 108 a.1 3 a.2 fun k=>
aQ 106 k a.2 fun l=>
dp 106 l a.2 fun o=>
aW .eql 3 false true o (iA 0) fun p=>some [p,p,o,l,k]) (some [bA false,ud,ud,ud,ud])).bind fun a9=>dD a9 fun aa b0 b1 b2 ab=>bk ab fun b3 b4=>
fl 108 a.1 1 3 a.2 fun ad=>
aW .eql 3 false true ad (iA 0) fun ae=>
(cu ae (bT 108 a.1 2 a.2 fun q=>
aQ 9 q a.2 fun r=>
aW .eql 9 false true r (A.v (Value.string (ByteArray.mk #[]))) fun s=>some [s,s,r,q]) (some [bA false,ud,ud,ud])).bind fun af=>dD af fun ag b5 b6 b8 b9=>
gZ 162 [(1,u5),(2,aa),(3,ag)] fun ah=>
eX 162 a.2 fun yJ=>
cg 162 yJ.1 (b7 yJ.1 yJ.2 ah) yJ.2 lo fun b=>
fl 108 a.1 0 3 b fun ai=>
aW .lss 3 false true ai (iA 1) fun aj=>
(cu aj (some [bA true,ud,ud,ud]) (bT 108 a.1 0 b fun t=>
aQ 3 t b fun u=>
aW .gtr 3 false true u (iA 3) fun w=>some [w,w,u,t])).bind fun ak=>dD ak fun al ba bb bc bd=>
(cu al (some [bA true,ud,ud,ud,ud,ud]) (bT 108 a.1 0 b fun x=>
aQ 3 x b fun y=>
cR 162 yJ.1 y b fun z=>
aQ 4 z b fun a0=>
(iC prog UnOp.not a0).bind fun a1=>some [a1,a1,a0,z,y,x])).bind fun am=>dD am fun an be bf bg ao=>eU ao fun bh bi bj=>aX an (some (Out.ret (A.tup [iA 0,bA false]),b)) (fl 108 a.1 0 3 b fun ap=>
aW .lss 3 false true ap (iA 3) fun aq=>aX aq (some (Out.ret (A.tup [iA 0,bA true]),b)) (fl 108 a.1 3 106 b fun a2=>
dp 106 a2 b fun ar=>aE (cx C) call rg n 110 lo 0 (List.length b) (fun d c=>bif Nat.beq d 0 then
aW .add 3 false true (lk c 2) (iA 1) fun au=>some (Out.ret (A.tup [au,bA true]),St.H c) else none) (fun d c=>none) (fun e=>some (Out.ret (A.tup [lk e 2,lk e 3]),St.H e)) (fun d c=>some (Out.pan d,St.H c)) n (St.mk [(2,iA 0),(3,bA false),(55,a2),(56,ar),(57,iA 0)] b))):=r8
theorem Kq (b f:A):aG (cx C) call rg n 111 [b,f] H lo =
iT f H fun c=>
(aL prog 66 1 [(0,cK c.2 (A.v (.int .u8 1)))]).bind fun h=>
(bN prog 66 66 false b h c.2 lo).bind fun a=>bif bif apart c.1 b then true else false then
bT 108 c.1 1 a.2 fun g=>bif bif apart g b then true else false then
aQ 3 g a.2 fun i=>
(C 113 [snap a.2 i]).bind fun j=>
(call 112 [a.1,j] a.2 lo).bind fun d=>ee d.1 (fun e=>some (Out.ret e,d.2)) fun e=>some (Out.pan e,d.2) else none else none:=r8
theorem xl (c d:A):aG (cx C) call rg n 112 [c,d] H lo=aE (cx C) call rg n 112 lo 0 (List.length H) (fun b a=>bif Nat.beq b 0 then
(bz prog 146 5 (lk a 1) (St.H a)).bind fun g=>
(aL prog 66 1 [(0,cK (St.H a) g)]).bind fun t2=>
(bN prog 66 66 false (lk a 0) t2 (St.H a) lo).bind fun e=>some (Out.ret e.1,e.2) else none) (fun b a=>none) (fun f=>some (Out.ret (lk f 4),St.H f)) (fun b a=>some (Out.pan b,St.H a)) n (St.mk [(0,c),(1,d),(4,A.imm [] true)] H):=r8
theorem Rm (a:A):aG (cx C) call rg n 113 [a] H lo =
(bz prog 3 146 a H).bind fun b=>
aW .shl 146 false true b (A.v (.int .u64 1)) fun c=>
aW .shr 3 false true a (A.v (.int .u64 63)) fun t2=>
(bz prog 3 146 t2 H).bind fun d=>
aW .xor 146 false false c d fun e=>some (Out.ret e,H):=r8
theorem Kr (b f:A):aG (cx C) call rg n 114 [b,f] H lo =
iT f H fun g=>
(um lo g.1 g.2).bind fun a=>bif bif sy (A.v (.int .u8 2)) then true else false then
(aL prog 66 1 [(0,cK a.2 (A.v (.int .u8 2)))]).bind fun t2=>
bT 108 a.1 2 a.2 fun h=>
aQ 9 h a.2 fun i=>
dp 9 i a.2 fun j=>
(bz prog 3 146 j a.2).bind fun o=>
bT 108 a.1 2 a.2 fun c=>
aQ 9 c a.2 fun p=>bif bif apart c b then bif apart a.1 b then bif apart j b then bif apart i b then bif apart h b then bif apart a.1 b then true else false else false else false else false else false else false then
(bN prog 66 66 false b t2 a.2 lo).bind fun k=>bif bif jA 1000 c then bif jA 1000 a.1 then true else false else false then
(call 112 [k.1,o] k.2 lo).bind fun d=>ee d.1 (fun e=>
(bN prog 66 9 false e p d.2 lo).bind fun l=>some (Out.ret l.1,l.2)) fun e=>some (Out.pan e,d.2) else none else none else none:=r8
theorem Ms (a h i:A):aG (cx C) call rg n 115 [a,h,i] H lo =
iT h H fun d=>
(aL prog 66 1 [(0,cK d.2 (A.v (.int .u8 3)))]).bind fun q=>
(bN prog 66 66 false a q d.2 lo).bind fun b=>bif bif apart d.1 a then true else false then
bT 108 d.1 3 b.2 fun j=>bif bif apart j a then true else false then
aQ 106 j b.2 fun k=>bif bif apart k a then true else false then
dp 106 k b.2 fun l=>bif bif apart l a then true else false then
(bz prog 3 146 l b.2).bind fun r=>
(call 112 [b.1,r] b.2 lo).bind fun c=>ee c.1 (fun g=>
fl 108 d.1 3 106 c.2 fun o=>
dp 106 o c.2 fun s=>aE (cx C) call rg n 115 lo 0 (List.length c.2) (fun f e=>bif Nat.beq f 0 then some (Out.ret (lk e 0),St.H e) else none) (fun f e=>none) (fun p=>some (Out.ret (lk p 5),St.H p)) (fun f e=>some (Out.pan f,St.H e)) n (St.mk [(0,g),(2,i),(5,A.imm [] true),(17,o),(18,s),(19,iA 0)] c.2)) fun g=>some (Out.pan g,c.2) else none else none else none else none:=r8
theorem Rn (a:A):aG (cx C) call rg n 116 [a] H lo =
aW .neq 3 false false a a fun b=>some (Out.ret b,H):=r8
theorem Ro (l:A):aG (cx C) call rg n 117 [l] H lo =
iT l H fun a=>
fl 108 a.1 0 3 a.2 fun t2=>
aW .eql 3 false true t2 (iA 1) fun t=>aX t (fl 108 a.1 2 9 a.2 fun i=>
aW .eql 9 false true i (A.v (Value.string (ByteArray.mk #[]))) fun j=>
(cu j (bT 108 a.1 3 a.2 fun h=>
aQ 106 h a.2 fun d=>
dp 106 d a.2 fun e=>
aW .eql 3 false true e (iA 0) fun c=>some [c,c,e,d,h]) (some [bA false,ud,ud,ud,ud])).bind fun u=>dD u fun w o x k y=>bk y fun p q=>some (Out.ret w,a.2)) (aW .eql 3 false true t2 (iA 2) fun z=>aX z (fl 108 a.1 1 3 a.2 fun j=>
aW .eql 3 false true j (iA 0) fun h=>
(cu h (bT 108 a.1 3 a.2 fun d=>
aQ 106 d a.2 fun e=>
dp 106 e a.2 fun c=>
aW .eql 3 false true c (iA 0) fun f=>some [f,f,c,e,d]) (some [bA false,ud,ud,ud,ud])).bind fun l8=>dD l8 fun o x k p q=>bk q fun a1 a3=>some (Out.ret o,a.2)) (aW .eql 3 false true t2 (iA 3) fun i=>aX i (aE (cx C) call rg n 117 lo 0 (List.length a.2) (fun g b=>bif Nat.beq g 1 then
fl 108 (lk b 1) 1 3 (St.H b) fun d=>
aW .eql 3 false true d (iA 0) fun e=>
(cu e (bT 108 (lk b 1) 2 (St.H b) fun c=>
aQ 9 c (St.H b) fun f=>
aW .eql 9 false true f (A.v (Value.string (ByteArray.mk #[]))) fun r=>some [r,r,f,c]) (some [bA false,ud,ud,ud])).bind fun a2=>dD a2 fun k p a1 a4 a5=>some (Out.ret k,St.H b) else bif Nat.beq g 0 then some (Out.ret (bA false),St.H b) else none) (fun g b=>none) (fun s=>some (Out.ret (lk s 2),St.H s)) (fun g b=>some (Out.pan g,St.H b)) n (St.mk [(1,a.1),(2,bA false),(3,iA 0)] a.2)) (some (Out.ret (bA false),a.2)))):=r8
theorem Rq (d:A):aG (cx C) call rg n 118 [d] H lo =
iT d H fun a=>
fl 108 a.1 0 3 a.2 fun t2=>
aW .neq 3 false true t2 (iA 3) fun f=>aX f (some (Out.ret (iA 0),a.2)) (aE (cx C) call rg n 118 lo 0 (List.length a.2) (fun c b=>bif Nat.beq c 0 then
aW .add 3 false true (lk b 3) (iA 1) fun g=>some (Out.ret g,St.H b) else none) (fun c b=>none) (fun e=>some (Out.ret (lk e 2),St.H e)) (fun c b=>some (Out.pan c,St.H b)) n (St.mk [(1,a.1),(2,iA 0),(3,iA 0),(4,iA 0)] a.2)):=r8
theorem Rs (a:A):aG (cx C) call rg n 119 [a] H lo =
aW .lss 146 false true a (A.v (.int .u64 128)) fun d=>aX d ((bz prog 146 5 a H).bind fun b=>
(aL prog 66 1 [(0,cK H b)]).bind fun t2=>some (Out.ret t2,H)) (aW .rem 146 false true a (A.v (.int .u64 128)) fun b=>
aW .add 146 false true b (A.v (.int .u64 128)) fun t2=>
(bz prog 146 5 t2 H).bind fun e=>
(aL prog 66 1 [(0,cK H e)]).bind fun f=>
aW .quo 146 false true a (A.v (.int .u64 128)) fun g=>
(C 119 [snap H g]).bind fun h=>
(bN prog 66 66 false f h H lo).bind fun c=>some (Out.ret c.1,c.2)):=r8
theorem Rt (a:A):aG (cx C) call rg n 120 [a] H lo =
aW .geq 3 false true a (iA 0) fun c=>aX c ((bz prog 3 146 a H).bind fun b=>
aW .mul 146 true false (A.v (.int .u64 2)) b fun t2=>some (Out.ret t2,H)) (aW .add 3 false true a (iA 1) fun b=>
(iC prog UnOp.neg b).bind fun t2=>
(bz prog 3 146 t2 H).bind fun d=>
aW .mul 146 true false (A.v (.int .u64 2)) d fun e=>
aW .add 146 false true e (A.v (.int .u64 1)) fun f=>some (Out.ret f,H)):=r8
theorem Mt (a:A):aG (cx C) call rg n 121 [a] H lo =
jI a H fun f=>
fl 152 f 1 3 H fun t2=>
jI a H fun g=>
fl 152 g 0 66 H fun h=>
dp 66 h H fun i=>
aW .geq 3 false false t2 i fun j=>aX j (jI a H fun c=>
bT 152 c 2 H fun d=>
cg 4 d (b7 d H (bA true)) H lo fun k=>some (Out.ret (A.v (.int .u8 0)),k)) (jI a H fun c=>
fl 152 c 1 3 H fun l=>
aW .add 3 false true l (iA 1) fun o=>
jI a H fun p=>
bT 152 p 1 H fun e=>
cg 3 e (b7 e H o) H lo fun b=>
jI a b fun q=>
fl 152 q 0 66 b fun r=>
jI a b fun s=>
fl 152 s 1 3 b fun t=>
aW .sub 3 false true t (iA 1) fun u=>
cR 66 r u b fun w=>
aQ 5 w b fun x=>some (Out.ret x,b)):=r8
theorem Ku (c:A):aG (cx C) call rg n 122 [c] H lo=aE (cx C) call rg n 122 lo 0 (List.length H) (fun a b=>bif Nat.beq a 0 then some (Out.ret (A.v (.int .u64 0)),St.H b) else none) (fun a b=>none) (fun d=>some (Out.ret (lk d 2),St.H d)) (fun a b=>some (Out.pan a,St.H b)) n (St.mk [(0,c),(2,A.v (.int .u64 0)),(3,A.v (.int .u64 0)),(4,iA 0)] H):=r8
theorem Ru (c e d:A):aE (cx C) call rg n 6 lo 0 L kx kg kr kp (m+1) (St.mk [(1,c),(2,e),(4,d)] H) =
fl 28 c 1 26 H fun t1=>
dp 26 t1 H fun t2=>
aW .lss 3 false false d t2 fun t3=>aX t3 (fl 28 c 1 26 H fun t5=>
cR 26 t5 d H fun t6=>
aQ 50 t6 H fun t7=>
eX 50 H fun b=>
cg 50 b.1 (b7 b.1 b.2 t7) b.2 lo fun a=>
fl 50 b.1 0 48 a fun a9=>
dp 48 a9 a fun aa=>
aW .gtr 3 false true aa (iA 40) fun ab=>
(cu ab (some [bA true,ud,ud,ud,ud,ud,ud,ud,ud,ud,ud]) (bT 50 b.1 1 a fun i=>
aQ 29 i a fun j=>
dp 29 j a fun k=>
aW .gtr 3 false true k (iA 60) fun f=>
(cu f (bT 50 b.1 1 a fun l=>
aQ 29 l a fun o=>
dp 29 o a fun p=>
aW .lss 3 false true p (iA 4094) fun q=>some [q,q,p,o,l]) (some [bA false,ud,ud,ud,ud])).bind fun ad=>dD ad fun g r s t h=>bk h fun u ao=>some [g,g,r,s,t,u,f,f,k,j,i])).bind fun ae=>ow ae fun af ap aq ar g r s t h=>eU h fun u au ag=>bk ag fun av aw=>
(cu af (some [bA true,ud,ud,ud,ud]) (bT 50 b.1 1 a fun v=>
aQ 29 v a fun w=>
dp 29 w a fun x=>
aW .gtr 3 false true x (iA 5000) fun y=>some [y,y,x,w,v])).bind fun ah=>dD ah fun ai ax ay az aj=>bk aj fun b0 b1=>
(cu ai (some [bA true,ud,ud,ud,ud]) (bT 50 b.1 2 a fun z=>
aQ 29 z a fun a0=>
dp 29 a0 a fun a1=>
aW .gtr 3 false true a1 (iA 5000) fun a2=>some [a2,a2,a1,a0,z])).bind fun ak=>dD ak fun al b2 b3 b4 am=>bk am fun b5 b6=>aX al (kr (St.mk [(1,c),(2,bA false),(4,d)] a)) (aW .add 3 false true d (iA 1) fun a3=>
hY L a fun an=>bif bif Nat.beq (List.length a) L then true else aK L [(4,a3),(1,c),(2,e)] [1,2,4] then aE (cx C) call rg n 6 lo 0 L kx kg kr kp m (St.mk [(1,c),(2,e),(4,a3)] an) else none)) (kx 0 (St.mk [(1,c),(2,e),(4,d)] H)):=r8
theorem Rv (a b x3 x6 x7 x8 x9 yG Ih Ii:A):aE (cx C) call rg n 7 lo 0 L kx kg kr kp (m+1) (St.mk [(1,a),(2,b),(3,x3),(6,x6),(7,x7),(8,x8),(9,x9),(33,yG),(34,Ih),(35,Ii)] H) =
aW .lss 3 false false Ii Ih fun e=>aX e (cR 29 yG Ii H fun f=>
aQ 3 f H fun t2=>
aW .add 3 false true x9 (iA 1) fun g=>
aW .sub 3 false true x8 (iA 1) fun h=>
(C 23 [snap H t2,snap H g,snap H h]).bind fun i=>
(iC prog UnOp.not i).bind fun j=>aX j (aQ 28 x6 H fun c=>
cg 28 x6 (b7 x6 H c) H lo fun d=>kr (St.mk [(1,a),(2,b),(3,x3),(6,x6),(7,iA 1),(8,x8),(9,x9),(33,yG),(34,Ih),(35,Ii)] d)) (aW .add 3 false true Ii (iA 1) fun c=>
hY L H fun d=>bif bif Nat.beq (List.length H) L then true else aK L [(35,c),(9,t2),(1,a),(2,b),(3,x3),(6,x6),(7,x7),(8,x8),(33,yG),(34,Ih)] [1,2,3,6,7,8,9,33,34,35] then aE (cx C) call rg n 7 lo 0 L kx kg kr kp m (St.mk [(1,a),(2,b),(3,x3),(6,x6),(7,x7),(8,x8),(9,t2),(33,yG),(34,Ih),(35,c)] d) else none)) (kx 0 (St.mk [(1,a),(2,b),(3,x3),(6,x6),(7,x7),(8,x8),(9,x9),(33,yG),(34,Ih),(35,Ii)] H)):=r8
theorem Rw (b a x3 x6 x7 x8 yK rC yH:A):aE (cx C) call rg n 7 lo 1 L kx kg kr kp (m+1) (St.mk [(1,b),(2,a),(3,x3),(6,x6),(7,x7),(8,x8),(54,yK),(55,rC),(56,yH)] H) =
aW .lss 3 false false yH rC fun h=>aX h (cR 29 yK yH H fun i=>
aQ 3 i H fun t2=>
(C 23 [snap H t2,snap H (iA 0),snap H yH]).bind fun j=>
(iC prog UnOp.not j).bind fun k=>
(cu k (some [bA true,ud,ud,ud,ud,ud,ud]) (cR 29 a t2 H fun e=>
aQ 3 e H fun f=>
aW .neq 3 false false f t2 fun g=>some [g,g,t2,f,e,t2,a])).bind fun l=>dD l fun o r s t p=>eU p fun u v q=>bk q fun w x=>aX o (aQ 28 x6 H fun c=>
cg 28 x6 (b7 x6 H c) H lo fun d=>kr (St.mk [(1,b),(2,a),(3,x3),(6,x6),(7,iA 1),(8,x8),(54,yK),(55,rC),(56,yH)] d)) (aW .add 3 false true yH (iA 1) fun c=>
hY L H fun d=>bif bif Nat.beq (List.length H) L then true else aK L [(56,c),(1,b),(2,a),(3,x3),(6,x6),(7,x7),(8,x8),(54,yK),(55,rC)] [1,2,3,6,7,8,54,55,56] then aE (cx C) call rg n 7 lo 1 L kx kg kr kp m (St.mk [(1,b),(2,a),(3,x3),(6,x6),(7,x7),(8,x8),(54,yK),(55,rC),(56,c)] d) else none)) (kx 2 (St.mk [(1,b),(2,a),(3,x3),(6,x6),(7,x7),(8,x8),(54,yK),(55,rC),(56,yH)] H)):=r8
theorem Rx (g d x3 x6 x7 c e i Bt Bu b:A):aE (cx C) call rg n 7 lo 2 L kx kg kr kp (m+1) (St.mk [(1,g),(2,d),(3,x3),(6,x6),(7,x7),(14,c),(15,e),(16,i),(83,Bt),(84,Bu),(85,b)] H) =
aW .lss 3 false false b Bu fun t0=>aX t0 (cR 26 Bt b H fun t1=>
aQ 50 t1 H fun t2=>
eX 50 H fun h=>
cg 50 h.1 (b7 h.1 h.2 t2) h.2 lo fun a=>
fl 50 h.1 0 48 a fun t6=>
dp 48 t6 a fun t7=>
aW .gtr 3 false true t7 (iA 0) fun t8=>
(cu t8 (bT 50 h.1 0 a fun t9=>
aQ 48 t9 a fun a3=>
cR 48 a3 (iA 0) a fun a4=>
bT 46 a4 2 a fun a5=>
aQ 3 a5 a fun a6=>
bT 28 x3 2 a fun a7=>
aQ 3 a7 a fun a8=>
aW .eql 3 false false a6 a8 fun a9=>some [a9,a9,a8,a7,a6,a5,a4,a3,t9]) (some [bA false,ud,ud,ud,ud,ud,ud,ud,ud])).bind fun l9=>ow l9 fun aa bm bn bo bp bq br bs ax=>bk ax fun bt bu=>
nF aa true (some [b,g]) (some [ud,ud]) fun ay=>eU ay fun az b0 bv=>
(cu aa ((C 24 [snap a b0,snap a az]).bind fun ab=>
(iC prog UnOp.not ab).bind fun ad=>some [ad,ad,ab]) (some [bA false,ud,ud])).bind fun b1=>eU b1 fun b2 bw b3=>bk b3 fun bx bz=>aX b2 (fl 50 h.1 0 48 a fun x=>
cR 48 x (iA 0) a fun p=>
fl 46 p 3 3 a fun y=>
cR 29 c b a fun o=>
cg 3 o (b7 o a y) a lo fun f=>
cR 29 d b f fun q=>
aQ 3 q f fun b4=>
(fp prog 54 e b4 true f).bind fun ae=>
eE ae 0 fun af=>
eE ae 1 fun b5=>
(cu b5 (cR 29 c b f fun ag=>
aQ 3 ag f fun j=>
aW .neq 3 false false af j fun k=>some [k,k,j,ag,b,c,af]) (some [bA false,ud,ud,ud,ud,ud,ud])).bind fun ah=>dD ah fun b6 c0 c1 c2 b8=>eU b8 fun c3 c4 b9=>bk b9 fun c5 c6=>aX b6 (cR 29 d b f fun l=>
aQ 3 l f fun z=>
(iZ prog 54 e z (iA 0) f lo).bind fun ai=>
(aL prog 29 1 [(0,cK ai b)]).bind fun a0=>
(bN prog 29 29 false i a0 ai lo).bind fun r=>
aW .add 3 false true b (iA 1) fun s=>
hY L r.2 fun ba=>bif bif Nat.beq (List.length r.2) L then true else aK L [(85,s),(16,r.1),(1,g),(2,d),(3,x3),(6,x6),(7,x7),(14,c),(15,e),(83,Bt),(84,Bu)] [1,2,3,6,7,14,15,16,83,84,85] then aE (cx C) call rg n 7 lo 2 L kx kg kr kp m (St.mk [(1,g),(2,d),(3,x3),(6,x6),(7,x7),(14,c),(15,e),(16,r.1),(83,Bt),(84,Bu),(85,s)] ba) else none) (cR 29 d b f fun l=>
aQ 3 l f fun z=>
cR 29 c b f fun bb=>
aQ 3 bb f fun a0=>
(iZ prog 54 e z a0 f lo).bind fun aj=>
(aL prog 29 1 [(0,cK aj b)]).bind fun s=>
(bN prog 29 29 false i s aj lo).bind fun t=>
aW .add 3 false true b (iA 1) fun ak=>
hY L t.2 fun bc=>bif bif Nat.beq (List.length t.2) L then true else aK L [(85,ak),(16,t.1),(1,g),(2,d),(3,x3),(6,x6),(7,x7),(14,c),(15,e),(83,Bt),(84,Bu)] [1,2,3,6,7,14,15,16,83,84,85] then aE (cx C) call rg n 7 lo 2 L kx kg kr kp m (St.mk [(1,g),(2,d),(3,x3),(6,x6),(7,x7),(14,c),(15,e),(16,t.1),(83,Bt),(84,Bu),(85,ak)] bc) else none)) (cR 29 d b a fun bd=>
aQ 3 bd a fun x=>
(fp prog 54 e x true a).bind fun p=>
eE p 0 fun al=>
eE p 1 fun y=>
(cu y (cR 29 c b a fun o=>
aQ 3 o a fun am=>
aW .neq 3 false false al am fun q=>some [q,q,am,o,b,c,al]) (some [bA false,ud,ud,ud,ud,ud,ud])).bind fun be=>dD be fun bf c7 c8 c9 bg=>eU bg fun ca cb bh=>bk bh fun cc ah=>aX bf (cR 29 d b a fun j=>
aQ 3 j a fun k=>
(iZ prog 54 e k (iA 0) a lo).bind fun an=>
(aL prog 29 1 [(0,cK an b)]).bind fun a1=>
(bN prog 29 29 false i a1 an lo).bind fun u=>
aW .add 3 false true b (iA 1) fun v=>
hY L u.2 fun bi=>bif bif Nat.beq (List.length u.2) L then true else aK L [(85,v),(16,u.1),(1,g),(2,d),(3,x3),(6,x6),(7,x7),(14,c),(15,e),(83,Bt),(84,Bu)] [1,2,3,6,7,14,15,16,83,84,85] then aE (cx C) call rg n 7 lo 2 L kx kg kr kp m (St.mk [(1,g),(2,d),(3,x3),(6,x6),(7,x7),(14,c),(15,e),(16,u.1),(83,Bt),(84,Bu),(85,v)] bi) else none) (cR 29 d b a fun j=>
aQ 3 j a fun k=>
cR 29 c b a fun bj=>
aQ 3 bj a fun a1=>
(iZ prog 54 e k a1 a lo).bind fun ao=>
(aL prog 29 1 [(0,cK ao b)]).bind fun v=>
(bN prog 29 29 false i v ao lo).bind fun w=>
aW .add 3 false true b (iA 1) fun l=>
hY L w.2 fun bl=>bif bif Nat.beq (List.length w.2) L then true else aK L [(85,l),(16,w.1),(1,g),(2,d),(3,x3),(6,x6),(7,x7),(14,c),(15,e),(83,Bt),(84,Bu)] [1,2,3,6,7,14,15,16,83,84,85] then aE (cx C) call rg n 7 lo 2 L kx kg kr kp m (St.mk [(1,g),(2,d),(3,x3),(6,x6),(7,x7),(14,c),(15,e),(16,w.1),(83,Bt),(84,Bu),(85,l)] bl) else none))) (kx 4 (St.mk [(1,g),(2,d),(3,x3),(6,x6),(7,x7),(14,c),(15,e),(16,i),(83,Bt),(84,Bu),(85,b)] H)):=r8
theorem Ry (d x3 x6 x7 e f i g h b:A):aE (cx C) call rg n 7 lo 3 L kx kg kr kp (m+1) (St.mk [(2,d),(3,x3),(6,x6),(7,x7),(14,e),(15,f),(16,i),(162,g),(163,h),(164,b)] H) =
aW .lss 3 false false b h fun t0=>aX t0 (cR 26 g b H fun t1=>
aQ 50 t1 H fun t2=>
eX 50 H fun c=>
cg 50 c.1 (b7 c.1 c.2 t2) c.2 lo fun a=>
fl 50 c.1 0 48 a fun j=>
dp 48 j a fun t7=>
aW .gtr 3 false true t7 (iA 0) fun x=>
nF x true (cR 48 j (iA 0) a fun y=>
bT 46 y 2 a fun z=>
aQ 3 z a fun ab=>
bT 28 x3 2 a fun a0=>
aQ 3 a0 a fun ad=>some [ad,a0,ab,z,y,j]) (some [ud,ud,ud,ud,ud,ud]) fun l9=>dD l9 fun af av ag aw ah=>eU ah fun ax ay az=>
(cu x (aW .eql 3 false false ag af fun a1=>some [a1,a1]) (some [bA false,ud])).bind fun ai=>eU ai fun aj b0 b1=>aX aj ((fb prog 48 j (some (iA 1)) none none a).bind fun ak=>
fl 28 x6 1 26 a fun al=>
fl 50 c.1 1 29 a fun o=>
cR 29 e b a fun p=>
aQ 3 p a fun q=>
(C 25 [snap a o,snap a q]).bind fun am=>
fl 50 c.1 2 29 a fun r=>
cR 29 d b a fun s=>
aQ 3 s a fun t=>
(fp prog 54 f t false a).bind fun u=>
(C 25 [snap a r,snap a u]).bind fun v=>
gZ 50 [(0,ak),(1,am),(2,v)] fun w=>
(aL prog 26 1 [(0,cK a w)]).bind fun an=>
(bN prog 26 26 false al an a lo).bind fun k=>
bT 28 x6 1 k.2 fun a2=>
cg 26 a2 (b7 a2 k.2 k.1) k.2 lo fun a3=>
aW .add 3 false true b (iA 1) fun a4=>
hY L a3 fun ao=>bif bif Nat.beq (List.length a3) L then true else aK L [(164,a4),(2,d),(3,x3),(6,x6),(7,x7),(14,e),(15,f),(16,i),(162,g),(163,h)] [2,3,6,7,14,15,16,162,163,164] then aE (cx C) call rg n 7 lo 3 L kx kg kr kp m (St.mk [(2,d),(3,x3),(6,x6),(7,x7),(14,e),(15,f),(16,i),(162,g),(163,h),(164,a4)] ao) else none) (fl 28 x6 1 26 a fun ap=>
fl 50 c.1 1 29 a fun aq=>
cR 29 e b a fun o=>
aQ 3 o a fun p=>
(C 25 [snap a aq,snap a p]).bind fun q=>
fl 50 c.1 2 29 a fun ar=>
cR 29 d b a fun r=>
aQ 3 r a fun s=>
(fp prog 54 f s false a).bind fun t=>
(C 25 [snap a ar,snap a t]).bind fun u=>
gZ 50 [(0,j),(1,q),(2,u)] fun v=>
(aL prog 26 1 [(0,cK a v)]).bind fun w=>
(bN prog 26 26 false ap w a lo).bind fun l=>
bT 28 x6 1 l.2 fun a5=>
cg 26 a5 (b7 a5 l.2 l.1) l.2 lo fun a6=>
aW .add 3 false true b (iA 1) fun a7=>
hY L a6 fun au=>bif bif Nat.beq (List.length a6) L then true else aK L [(164,a7),(2,d),(3,x3),(6,x6),(7,x7),(14,e),(15,f),(16,i),(162,g),(163,h)] [2,3,6,7,14,15,16,162,163,164] then aE (cx C) call rg n 7 lo 3 L kx kg kr kp m (St.mk [(2,d),(3,x3),(6,x6),(7,x7),(14,e),(15,f),(16,i),(162,g),(163,h),(164,a7)] au) else none)) (kx 6 (St.mk [(2,d),(3,x3),(6,x6),(7,x7),(14,e),(15,f),(16,i),(162,g),(163,h),(164,b)] H)):=r8
theorem Rz (a b x3 x6 x7 x9 mV:A):aE (cx C) call rg n 8 lo 0 L kx kg kr kp (m+1) (St.mk [(1,a),(2,b),(3,x3),(6,x6),(7,x7),(9,x9),(10,mV)] H) =
fl 28 x3 1 26 H fun e=>
dp 26 e H fun t2=>
aW .lss 3 false false mV t2 fun f=>aX f (aQ 28 x3 H fun g=>
(C 31 [snap H g,snap H a,snap H mV]).bind fun h=>
(aL prog 29 1 [(0,cK H h)]).bind fun i=>
(bN prog 29 29 false x9 i H lo).bind fun c=>
aW .add 3 false true mV (iA 1) fun d=>
hY L c.2 fun j=>bif bif Nat.beq (List.length c.2) L then true else aK L [(10,d),(9,c.1),(1,a),(2,b),(3,x3),(6,x6),(7,x7)] [1,2,3,6,7,9,10] then aE (cx C) call rg n 8 lo 0 L kx kg kr kp m (St.mk [(1,a),(2,b),(3,x3),(6,x6),(7,x7),(9,c.1),(10,d)] j) else none) (kx 0 (St.mk [(1,a),(2,b),(3,x3),(6,x6),(7,x7),(9,x9),(10,mV)] H)):=r8
theorem RA (h x3 x6 x7 x9 gR n5:A):aE (cx C) call rg n 8 lo 1 L kx kg kr kp (m+1) (St.mk [(2,h),(3,x3),(6,x6),(7,x7),(9,x9),(11,gR),(12,n5)] H) =
fl 28 x3 1 26 H fun u=>
dp 26 u H fun t2=>
aW .lss 3 false false n5 t2 fun v=>aX v (fl 28 x3 1 26 H fun w=>
cR 26 w n5 H fun x=>
aQ 50 x H fun y=>
eX 50 H fun c=>
cg 50 c.1 (b7 c.1 c.2 y) c.2 lo fun b=>
bT 50 c.1 1 b fun k=>
aQ 29 k b fun z=>
cR 29 x9 n5 b fun l=>
aQ 3 l b fun a0=>
(C 32 [snap b z,snap b a0]).bind fun a1=>
bT 50 c.1 2 b fun o=>
aQ 29 o b fun a2=>
(C 33 [snap b x9,snap b h,snap b n5]).bind fun a3=>
(C 32 [snap b a2,snap b a3]).bind fun a4=>
gZ 50 [(1,a1),(2,a4)] fun a5=>bif bif apart o A.any then bif apart c.1 A.any then bif apart l A.any then bif apart x9 A.any then bif apart k A.any then bif apart c.1 A.any then true else false else false else false else false else false else false then
eX 50 b fun e=>
cg 50 e.1 (b7 e.1 e.2 a5) e.2 lo fun p=>aE (cx C) call rg n 8 lo 2 (List.length (dG lo 0 5 e.1 p)) (fun f a=>bif Nat.beq f 4 then
bT 28 (lk a 11) 1 (St.H a) fun g=>
aQ 26 g (St.H a) fun q=>
aQ 50 (lk a 14) (St.H a) fun r=>
(aL prog 26 1 [(0,cK (St.H a) r)]).bind fun s=>
(bN prog 26 26 false q s (St.H a) lo).bind fun JB=>
bT 28 (lk a 11) 1 JB.2 fun i=>
cg 26 i (b7 i JB.2 JB.1) JB.2 lo fun t=>
aW .add 3 false true (lk a 12) (iA 1) fun j=>
hY L t fun a6=>bif bif Nat.beq (List.length t) L then true else aK L ((12,j) :: (68,j) :: (67,lk a 12) :: (120,i) :: (119,JB.1) :: (118,s) :: (117,r) :: (116,q) :: (115,g) :: St.fr a) [2,3,6,7,9,11,12] then aE (cx C) call rg n 8 lo 1 L kx kg kr kp m (St.mk [(2,lk a 2),(3,lk a 3),(6,lk a 6),(7,lk a 7),(9,lk a 9),(11,lk a 11),(12,j)] a6) else none else bif Nat.beq f 3 then
aW .add 3 false true (lk a 12) (iA 1) fun g=>
hY L (St.H a) fun a7=>bif bif Nat.beq (List.length (St.H a)) L then true else aK L ((12,g) :: (68,g) :: (67,lk a 12) :: St.fr a) [2,3,6,7,9,11,12] then aE (cx C) call rg n 8 lo 1 L kx kg kr kp m (St.mk [(2,lk a 2),(3,lk a 3),(6,lk a 6),(7,lk a 7),(9,lk a 9),(11,lk a 11),(12,g)] a7) else none else kx f (St.mk [(2,lk a 2),(3,lk a 3),(6,lk a 6),(7,lk a 7),(9,lk a 9),(11,lk a 11),(12,lk a 12)] (St.H a))) (fun f a=>kg f (St.mk [(2,lk a 2),(3,lk a 3),(6,lk a 6),(7,lk a 7),(9,lk a 9),(11,lk a 11),(12,lk a 12)] (St.H a))) (fun d=>kr (St.mk [(2,lk d 2),(3,lk d 3),(6,lk d 6),(7,lk d 7),(9,lk d 9),(11,lk d 11),(12,lk d 12)] (St.H d))) (fun f a=>kp f (St.mk [(2,lk a 2),(3,lk a 3),(6,lk a 6),(7,lk a 7),(9,lk a 9),(11,lk a 11),(12,lk a 12)] (St.H a))) n (St.mk [(2,h),(3,x3),(6,x6),(7,x7),(9,x9),(11,gR),(12,n5),(13,c.1),(14,e.1),(15,iA 0)] (dG lo 0 5 e.1 p)) else none) (kx 2 (St.mk [(2,h),(3,x3),(6,x6),(7,x7),(9,x9),(11,gR),(12,n5)] H)):=r8
theorem RB (d x3 x6 x7 x9 gR n5 a b c:A):aE (cx C) call rg n 8 lo 2 L kx kg kr kp (m+1) (St.mk [(2,d),(3,x3),(6,x6),(7,x7),(9,x9),(11,gR),(12,n5),(13,a),(14,b),(15,c)] H) =
fl 50 a 0 48 H fun j=>
dp 48 j H fun t2=>
aW .lss 3 false false c t2 fun k=>aX k (fl 50 a 0 48 H fun l=>
cR 48 l c H fun o=>
fl 46 o 2 3 H fun p=>
fl 28 x3 2 3 H fun q=>
aW .neq 3 false false p q fun r=>aX r (fl 50 b 0 48 H fun s=>
fl 50 a 0 48 H fun t=>
cR 48 t c H fun u=>
aQ 46 u H fun v=>
(aL prog 48 1 [(0,cK H v)]).bind fun w=>
(bN prog 48 48 false s w H lo).bind fun e=>
bT 50 b 0 e.2 fun f=>
cg 48 f (b7 f e.2 e.1) e.2 lo fun g=>
aW .add 3 false true c (iA 1) fun h=>
hY L g fun x=>bif bif Nat.beq (List.length g) L then true else aK L [(15,h),(2,d),(3,x3),(6,x6),(7,x7),(9,x9),(11,gR),(12,n5),(13,a),(14,b)] [2,3,6,7,9,11,12,13,14,15] then aE (cx C) call rg n 8 lo 2 L kx kg kr kp m (St.mk [(2,d),(3,x3),(6,x6),(7,x7),(9,x9),(11,gR),(12,n5),(13,a),(14,b),(15,h)] x) else none) (aW .add 3 false true c (iA 1) fun i=>
hY L H fun y=>bif bif Nat.beq (List.length H) L then true else aK L [(15,i),(2,d),(3,x3),(6,x6),(7,x7),(9,x9),(11,gR),(12,n5),(13,a),(14,b)] [2,3,6,7,9,11,12,13,14,15] then aE (cx C) call rg n 8 lo 2 L kx kg kr kp m (St.mk [(2,d),(3,x3),(6,x6),(7,x7),(9,x9),(11,gR),(12,n5),(13,a),(14,b),(15,i)] y) else none)) (kx 4 (St.mk [(2,d),(3,x3),(6,x6),(7,x7),(9,x9),(11,gR),(12,n5),(13,a),(14,b),(15,c)] H)):=r8
theorem RC (x3 x6 x7 gR a:A):aE (cx C) call rg n 8 lo 3 L kx kg kr kp (m+1) (St.mk [(3,x3),(6,x6),(7,x7),(11,gR),(16,a)] H) =
fl 28 gR 1 26 H fun g=>
dp 26 g H fun t2=>
aW .lss 3 false false a t2 fun h=>aX h (aQ 28 gR H fun i=>
fl 28 x3 2 3 H fun j=>
(C 34 [snap H i,snap H a,snap H j]).bind fun e=>
eE e 0 fun k=>
eE e 1 fun f=>
cg 28 gR (b7 gR H k) H lo fun b=>
aW .neq 32 false true f (iA 0) fun l=>aX l (gZ 28 [] fun c=>
cg 28 x6 (b7 x6 b c) b lo fun d=>kr (St.mk [(3,x3),(6,x6),(7,f),(11,gR),(16,a)] d)) (aW .add 3 false true a (iA 1) fun c=>
hY L (dG lo 2 0 gR b) fun d=>bif bif Nat.beq (List.length (dG lo 2 0 gR b)) L then true else aK L [(16,c),(3,x3),(6,x6),(7,x7),(11,gR)] [3,6,7,11,16] then aE (cx C) call rg n 8 lo 3 L kx kg kr kp m (St.mk [(3,x3),(6,x6),(7,x7),(11,gR),(16,c)] d) else none)) (kx 6 (St.mk [(3,x3),(6,x6),(7,x7),(11,gR),(16,a)] H)):=r8
theorem Mr (b c a x5 x7 x8:A):aE (cx C) call rg n 10 lo 0 L kx kg kr kp (m+1) (St.mk [(1,b),(2,c),(4,a),(5,x5),(7,x7),(8,x8)] H) =
fl 28 c 2 3 H fun i=>
aW .lss 3 false false x8 i fun t2=>aX t2 (aQ 28 x7 H fun j=>
(C 34 [snap H j,snap H b,snap H x8]).bind fun g=>
eE g 0 fun k=>
eE g 1 fun h=>
cg 28 x7 (b7 x7 H k) H lo fun d=>
aW .neq 32 false true h (iA 0) fun l=>aX l (gZ 28 [] fun e=>
cg 28 a (b7 a d e) d lo fun f=>kr (St.mk [(1,b),(2,c),(4,a),(5,h),(7,x7),(8,x8)] f)) (aW .add 3 false true x8 (iA 1) fun e=>
hY L d fun f=>bif bif Nat.beq (List.length d) L then true else aK L [(8,e),(1,b),(2,c),(4,a),(5,x5),(7,x7)] [1,2,4,5,7,8] then aE (cx C) call rg n 10 lo 0 L kx kg kr kp m (St.mk [(1,b),(2,c),(4,a),(5,x5),(7,x7),(8,e)] f) else none)) (kx 0 (St.mk [(1,b),(2,c),(4,a),(5,x5),(7,x7),(8,x8)] H)):=r8
theorem Mu (b d x3 Ie Ig yG:A):aE (cx C) call rg n 20 lo 0 L kx kg kr kp (m+1) (St.mk [(1,b),(2,d),(3,x3),(31,Ie),(32,Ig),(33,yG)] H) =
aW .lss 3 false false yG Ig fun f=>aX f (cR 26 Ie yG H fun g=>
aQ 50 g H fun t2=>
eX 50 H fun c=>
cg 50 c.1 (b7 c.1 c.2 t2) c.2 lo fun a=>
aQ 50 c.1 a fun h=>
fl 28 b 2 3 a fun i=>
(C 56 [snap a h,snap a yG,snap a x3,snap a i]).bind fun j=>
(iC prog UnOp.not j).bind fun k=>aX k (kr (St.mk [(1,b),(2,iA 490),(3,x3),(31,Ie),(32,Ig),(33,yG)] a)) (aW .add 3 false true yG (iA 1) fun e=>
hY L a fun l=>bif bif Nat.beq (List.length a) L then true else aK L [(33,e),(1,b),(2,d),(3,x3),(31,Ie),(32,Ig)] [1,2,3,31,32,33] then aE (cx C) call rg n 20 lo 0 L kx kg kr kp m (St.mk [(1,b),(2,d),(3,x3),(31,Ie),(32,Ig),(33,e)] l) else none)) (kx 0 (St.mk [(1,b),(2,d),(3,x3),(31,Ie),(32,Ig),(33,yG)] H)):=r8
theorem Mv (b h x3 d e f:A):aE (cx C) call rg n 20 lo 1 L kx kg kr kp (m+1) (St.mk [(1,b),(2,h),(3,x3),(48,d),(49,e),(50,f)] H) =
aW .lss 3 false false f e fun t0=>aX t0 (cR 22 d f H fun t1=>
aQ 68 t1 H fun t2=>
eX 68 H fun g=>
cg 68 g.1 (b7 g.1 g.2 t2) g.2 lo fun w=>
fl 68 g.1 2 66 w fun t6=>
(C 37 [snap w t6]).bind fun z=>
eE z 0 fun t8=>
eE z 1 fun x=>
eX 72 w fun i=>
cg 72 i.1 (b7 i.1 i.2 t8) i.2 lo fun b4=>
eX 46 b4 fun j=>
eX 39 j.2 fun c=>
fl 72 i.1 1 46 c.2 fun b5=>
bT 72 i.1 2 c.2 fun a0=>
aQ 39 a0 c.2 fun b6=>bif bif apart a0 j.1 then bif apart i.1 j.1 then true else false else false then
cg 46 j.1 (b7 j.1 c.2 b5) c.2 lo fun a1=>
cg 39 c.1 (b7 c.1 a1 b6) a1 lo fun a=>
(cu x (bT 72 i.1 0 a fun a2=>
aQ 3 a2 a fun a3=>
aW .eql 3 false true a3 (iA 1) fun a4=>some [a4,a4,a3,a2]) (some [bA false,ud,ud,ud])).bind fun b8=>dD b8 fun b9 c5 c6 c7 c8=>aX b9 (aQ 46 j.1 a fun y=>
(C 52 [snap a y,snap a x3]).bind fun k=>
(cu k (bT 68 g.1 0 a fun t=>
aQ 3 t a fun u=>
aW .eql 3 false true u (iA 0) fun l=>some [l,l,u,t]) (some [bA false,ud,ud,ud])).bind fun ba=>dD ba fun bb c9 a5 bc ca=>
(cu bb (bT 68 g.1 1 a fun o=>
aQ 3 o a fun p=>
bT 46 j.1 1 a fun q=>
aQ 3 q a fun a6=>
aW .add 3 false true a6 (iA 1) fun a7=>
aW .eql 3 false false p a7 fun r=>some [r,r,a7,a6,q,p,o]) (some [bA false,ud,ud,ud,ud,ud,ud])).bind fun bd=>dD bd fun a8 be bf bg a9=>eU a9 fun cb aa bh=>bk bh fun bi cc=>
(iC prog UnOp.not a8).bind fun v=>aX v (kr (St.mk [(1,b),(2,iA 490),(3,x3),(48,d),(49,e),(50,f)] a)) (aW .add 3 false true f (iA 1) fun s=>
hY L a fun bj=>bif bif Nat.beq (List.length a) L then true else aK L [(50,s),(1,b),(2,h),(3,x3),(48,d),(49,e)] [1,2,3,48,49,50] then aE (cx C) call rg n 20 lo 1 L kx kg kr kp m (St.mk [(1,b),(2,h),(3,x3),(48,d),(49,e),(50,s)] bj) else none)) (aX x (fl 39 c.1 0 3 a fun k=>
aW .sub 3 false true x3 (iA 1) fun t=>
(C 23 [snap a k,snap a (iA 0),snap a t]).bind fun u=>
(cu u (bT 39 c.1 1 a fun l=>
aQ 3 l a fun ab=>
bT 28 b 2 a fun ad=>
aQ 3 ad a fun o=>
aW .sub 3 false true o (iA 1) fun p=>
(C 23 [snap a ab,snap a (iA 0),snap a p]).bind fun q=>some [q,q,p,o,ad,ab,l]) (some [bA false,ud,ud,ud,ud,ud,ud])).bind fun bl=>dD bl fun a5 bc cd a8 bm=>eU bm fun be bf bn=>bk bn fun bg a9=>
(cu a5 (bT 68 g.1 0 a fun r=>
aQ 3 r a fun ae=>
bT 39 c.1 0 a fun af=>
aQ 3 af a fun v=>
aW .add 3 false true v (iA 1) fun s=>
aW .eql 3 false false ae s fun ag=>some [ag,ag,s,v,af,ae,r]) (some [bA false,ud,ud,ud,ud,ud,ud])).bind fun bo=>dD bo fun aa bi ce cf bp=>eU bp fun ch ci bq=>bk bq fun cj ck=>
(cu aa (bT 68 g.1 1 a fun ah=>
aQ 3 ah a fun ai=>
aW .eql 3 false true ai (iA 0) fun aj=>some [aj,aj,ai,ah]) (some [bA false,ud,ud,ud])).bind fun br=>dD br fun ak cl cm cn co=>
nF ak true (bT 28 b 1 a fun al=>
aQ 26 al a fun am=>
bT 39 c.1 0 a fun an=>
aQ 3 an a fun ao=>
cR 26 am ao a fun ap=>
bT 50 ap 2 a fun aq=>
aQ 29 aq a fun ar=>
bT 39 c.1 1 a fun au=>
aQ 3 au a fun av=>
cR 29 ar av a fun aw=>
aQ 3 aw a fun bs=>
bT 39 c.1 2 a fun ax=>
aQ 3 ax a fun bt=>some [bt,ax,bs,aw,av,au,ar,aq,ap,ao,an,am,al]) (some [ud,ud,ud,ud,ud,ud,ud,ud,ud,ud,ud,ud,ud]) fun bu=>ow bu fun bv cp bw cq cr cs ct cv bx=>dD bx fun cw cy cz d0 bz=>bk bz fun d1 d2=>
(cu ak (aW .eql 3 false false bw bv fun ay=>some [ay,ay]) (some [bA false,ud])).bind fun c0=>eU c0 fun c1 d3 d4=>
(iC prog UnOp.not c1).bind fun c2=>aX c2 (kr (St.mk [(1,b),(2,iA 490),(3,x3),(48,d),(49,e),(50,f)] a)) (aW .add 3 false true f (iA 1) fun az=>
hY L a fun c3=>bif bif Nat.beq (List.length a) L then true else aK L [(50,az),(1,b),(2,h),(3,x3),(48,d),(49,e)] [1,2,3,48,49,50] then aE (cx C) call rg n 20 lo 1 L kx kg kr kp m (St.mk [(1,b),(2,h),(3,x3),(48,d),(49,e),(50,az)] c3) else none)) ((iC prog UnOp.not x).bind fun y=>aX y (kr (St.mk [(1,b),(2,iA 490),(3,x3),(48,d),(49,e),(50,f)] a)) (aW .add 3 false true f (iA 1) fun k=>
hY L a fun c4=>bif bif Nat.beq (List.length a) L then true else aK L [(50,k),(1,b),(2,h),(3,x3),(48,d),(49,e)] [1,2,3,48,49,50] then aE (cx C) call rg n 20 lo 1 L kx kg kr kp m (St.mk [(1,b),(2,h),(3,x3),(48,d),(49,e),(50,k)] c4) else none))) else none) (kx 2 (St.mk [(1,b),(2,h),(3,x3),(48,d),(49,e),(50,f)] H)):=r8
theorem Mw (b c g x5:A):aE (cx C) call rg n 21 lo 0 L kx kg kr kp (m+1) (St.mk [(0,b),(1,c),(4,g),(5,x5)] H) =
dp 26 b H fun z=>
aW .lss 3 false false x5 z fun t1=>aX t1 (cR 26 b x5 H fun t2=>
fl 50 t2 0 48 H fun t4=>
dp 48 t4 H fun t5=>
cR 26 c x5 H fun t6=>
fl 50 t6 0 48 H fun t8=>
dp 48 t8 H fun t9=>
aW .neq 3 false false t5 t9 fun a6=>
(cu a6 (some [bA true,ud,ud,ud,ud,ud,ud,ud,ud,ud,ud,ud,ud]) (cR 26 b x5 H fun i=>
bT 50 i 1 H fun j=>
aQ 29 j H fun k=>
cR 26 c x5 H fun l=>
bT 50 l 1 H fun o=>
aQ 29 o H fun p=>
(C 57 [snap H k,snap H p]).bind fun q=>
(iC prog UnOp.not q).bind fun r=>some [r,r,q,p,o,l,x5,c,k,j,i,x5,b])).bind fun a7=>ow a7 fun s ak al am an ao ap aq a8=>dD a8 fun ar au av aw a9=>bk a9 fun ax ay=>
nF s false (cR 26 b x5 H fun t=>
bT 50 t 2 H fun u=>
aQ 29 u H fun aa=>
cR 26 c x5 H fun v=>
bT 50 v 2 H fun w=>
aQ 29 w H fun ab=>some [ab,w,v,x5,c,aa,u,t,x5,b]) (some [ud,ud,ud,ud,ud,ud,ud,ud,ud,ud]) fun ad=>ow ad fun ae az b0 b1 b2 af b3 b4 ag=>eU ag fun b5 b6 b7=>
(cu s (some [bA true,ud,ud]) ((C 57 [snap H af,snap H ae]).bind fun x=>
(iC prog UnOp.not x).bind fun y=>some [y,y,x])).bind fun ah=>eU ah fun ai b8 aj=>bk aj fun b9 ba=>aX ai (kr (St.mk [(0,b),(1,c),(4,bA false),(5,x5)] H)) (aE (cx C) call rg n 21 lo 1 (List.length H) (fun d a=>bif Nat.beq d 2 then
aW .add 3 false true (lk a 5) (iA 1) fun e=>
hY L (St.H a) fun h=>bif bif Nat.beq (List.length (St.H a)) L then true else aK L ((5,e) :: (17,e) :: (16,lk a 5) :: St.fr a) [0,1,4,5] then aE (cx C) call rg n 21 lo 0 L kx kg kr kp m (St.mk [(0,lk a 0),(1,lk a 1),(4,lk a 4),(5,e)] h) else none else bif Nat.beq d 1 then
aW .add 3 false true (lk a 5) (iA 1) fun e=>
hY L (St.H a) fun h=>bif bif Nat.beq (List.length (St.H a)) L then true else aK L ((5,e) :: (17,e) :: (16,lk a 5) :: St.fr a) [0,1,4,5] then aE (cx C) call rg n 21 lo 0 L kx kg kr kp m (St.mk [(0,lk a 0),(1,lk a 1),(4,lk a 4),(5,e)] h) else none else kx d (St.mk [(0,lk a 0),(1,lk a 1),(4,lk a 4),(5,lk a 5)] (St.H a))) (fun d a=>kg d (St.mk [(0,lk a 0),(1,lk a 1),(4,lk a 4),(5,lk a 5)] (St.H a))) (fun f=>kr (St.mk [(0,lk f 0),(1,lk f 1),(4,lk f 4),(5,lk f 5)] (St.H f))) (fun d a=>kp d (St.mk [(0,lk a 0),(1,lk a 1),(4,lk a 4),(5,lk a 5)] (St.H a))) n (St.mk [(0,b),(1,c),(4,g),(5,x5),(6,iA 0)] H))) (kx 0 (St.mk [(0,b),(1,c),(4,g),(5,x5)] H)):=r8
theorem Mx (a b c x5 x6:A):aE (cx C) call rg n 21 lo 1 L kx kg kr kp (m+1) (St.mk [(0,a),(1,b),(4,c),(5,x5),(6,x6)] H) =
cR 26 a x5 H fun e=>
fl 50 e 0 48 H fun t2=>
dp 48 t2 H fun f=>
aW .lss 3 false false x6 f fun g=>aX g (cR 26 a x5 H fun h=>
fl 50 h 0 48 H fun i=>
cR 48 i x6 H fun j=>
aQ 46 j H fun k=>
cR 26 b x5 H fun l=>
fl 50 l 0 48 H fun o=>
cR 48 o x6 H fun p=>
aQ 46 p H fun q=>
aW .neq 46 false false k q fun r=>aX r (kr (St.mk [(0,a),(1,b),(4,bA false),(5,x5),(6,x6)] H)) (aW .add 3 false true x6 (iA 1) fun d=>
hY L H fun s=>bif bif Nat.beq (List.length H) L then true else aK L [(6,d),(0,a),(1,b),(4,c),(5,x5)] [0,1,4,5,6] then aE (cx C) call rg n 21 lo 1 L kx kg kr kp m (St.mk [(0,a),(1,b),(4,c),(5,x5),(6,d)] s) else none)) (kx 2 (St.mk [(0,a),(1,b),(4,c),(5,x5),(6,x6)] H)):=r8
theorem My (a b x3:A):aE (cx C) call rg n 28 lo 0 L kx kg kr kp (m+1) (St.mk [(1,a),(2,b),(3,x3)] H) =
fl 28 a 1 26 H fun d=>
dp 26 d H fun t2=>
aW .lss 3 false false x3 t2 fun e=>aX e (aQ 28 a H fun f=>
(C 62 [snap H f,snap H x3]).bind fun g=>
(iC prog UnOp.not g).bind fun h=>aX h (kr (St.mk [(1,a),(2,iA 490),(3,x3)] H)) (aW .add 3 false true x3 (iA 1) fun c=>
hY L H fun i=>bif bif Nat.beq (List.length H) L then true else aK L [(3,c),(1,a),(2,b)] [1,2,3] then aE (cx C) call rg n 28 lo 0 L kx kg kr kp m (St.mk [(1,a),(2,b),(3,c)] i) else none)) (kx 0 (St.mk [(1,a),(2,b),(3,x3)] H)):=r8
theorem Mz (a b x5:A):aE (cx C) call rg n 28 lo 1 L kx kg kr kp (m+1) (St.mk [(1,a),(2,b),(5,x5)] H) =
bT 28 a 0 H fun d=>
fl 25 d 0 22 H fun t2=>
dp 22 t2 H fun e=>
aW .lss 3 false false x5 e fun f=>aX f (aQ 28 a H fun g=>
bT 28 a 0 H fun h=>
fl 25 h 0 22 H fun i=>
cR 22 i x5 H fun j=>
aQ 68 j H fun k=>
(C 63 [snap H g,snap H k]).bind fun l=>
(iC prog UnOp.not l).bind fun o=>aX o (kr (St.mk [(1,a),(2,iA 490),(5,x5)] H)) (aW .add 3 false true x5 (iA 1) fun c=>
hY L H fun p=>bif bif Nat.beq (List.length H) L then true else aK L [(5,c),(1,a),(2,b)] [1,2,5] then aE (cx C) call rg n 28 lo 1 L kx kg kr kp m (St.mk [(1,a),(2,b),(5,c)] p) else none)) (kx 2 (St.mk [(1,a),(2,b),(5,x5)] H)):=r8
theorem MA (a b c x5:A):aE (cx C) call rg n 29 lo 0 L kx kg kr kp (m+1) (St.mk [(0,a),(1,b),(4,c),(5,x5)] H) =
dp 29 a H fun y=>
aW .lss 3 false false x5 y fun z=>aX z (cR 29 a x5 H fun t2=>
aQ 3 t2 H fun t3=>
aW .lss 3 false true t3 (iA 0) fun t4=>
(cu t4 (some [bA true,ud,ud,ud,ud,ud,ud]) (cR 29 a x5 H fun g=>
aQ 3 g H fun h=>
aW .geq 3 false false h b fun i=>some [i,i,b,h,g,x5,a])).bind fun l5=>dD l5 fun j u7 u8 u9 l9=>eU l9 fun am an a4=>bk a4 fun ao ap=>
nF j false (aW .gtr 3 false true x5 (iA 0) fun e=>
nF e true (cR 29 a x5 H fun k=>
aQ 3 k H fun a5=>
aW .sub 3 false true x5 (iA 1) fun l=>
cR 29 a l H fun o=>
aQ 3 o H fun a6=>some [a6,o,l,x5,a,a5,k,x5,a]) (some [ud,ud,ud,ud,ud,ud,ud,ud,ud]) fun a7=>ow a7 fun p q r s f t u v a8=>bk a8 fun d aq=>some [p,q,r,s,f,t,u,v,d,e,e,x5]) (some [ud,ud,ud,ud,ud,ud,ud,ud,ud,ud,ud,ud]) fun a9=>ow a9 fun aa p q r s f t u ab=>dD ab fun v d ar au av=>
nF d true (aW .leq 3 false false f aa fun ad=>some [ad]) (some [ud]) fun ae=>bk ae fun af aw=>
(cu j (some [bA true,ud]) ((cu d (some af) (some (bA false))).bind fun w=>some [w,w])).bind fun ag=>eU ag fun ah ax ay=>aX ah (kr (St.mk [(0,a),(1,b),(4,bA false),(5,x5)] H)) (aW .add 3 false true x5 (iA 1) fun x=>
hY L H fun ai=>bif bif Nat.beq (List.length H) L then true else aK L [(5,x),(0,a),(1,b),(4,c)] [0,1,4,5] then aE (cx C) call rg n 29 lo 0 L kx kg kr kp m (St.mk [(0,a),(1,b),(4,c),(5,x)] ai) else none)) (kx 0 (St.mk [(0,a),(1,b),(4,c),(5,x5)] H)):=r8
theorem MB (a b c x5:A):aE (cx C) call rg n 30 lo 0 L kx kg kr kp (m+1) (St.mk [(0,a),(1,b),(4,c),(5,x5)] H) =
aW .lss 3 false false x5 b fun h=>aX h (cR 29 a x5 H fun i=>
aQ 3 i H fun t2=>
aW .lss 3 false true t2 (iA 0) fun j=>
(cu j (some [bA true,ud,ud,ud,ud,ud,ud]) (cR 29 a x5 H fun d=>
aQ 3 d H fun e=>
aW .gtr 3 false false e x5 fun f=>some [f,f,x5,e,d,x5,a])).bind fun k=>dD k fun l y z u8 o=>eU o fun u9 a2 p=>bk p fun a3 a4=>aX l (kr (St.mk [(0,a),(1,b),(4,bA false),(5,x5)] H)) (cR 29 a x5 H fun q=>
aQ 3 q H fun r=>
cR 29 a r H fun s=>
aQ 3 s H fun t=>
cR 29 a x5 H fun u=>
aQ 3 u H fun v=>
aW .neq 3 false false t v fun w=>aX w (kr (St.mk [(0,a),(1,b),(4,bA false),(5,x5)] H)) (aW .add 3 false true x5 (iA 1) fun g=>
hY L H fun x=>bif bif Nat.beq (List.length H) L then true else aK L [(5,g),(0,a),(1,b),(4,c)] [0,1,4,5] then aE (cx C) call rg n 30 lo 0 L kx kg kr kp m (St.mk [(0,a),(1,b),(4,c),(5,g)] x) else none))) (kx 0 (St.mk [(0,a),(1,b),(4,c),(5,x5)] H)):=r8
theorem MC (a c b x6 x7:A):aE (cx C) call rg n 33 lo 0 L kx kg kr kp (m+1) (St.mk [(0,a),(1,c),(2,b),(6,x6),(7,x7)] H) =
dp 29 a H fun i=>
aW .lss 3 false false x7 i fun j=>aX j (cR 29 c x7 H fun t2=>
aQ 3 t2 H fun k=>
cR 29 c b H fun l=>
aQ 3 l H fun o=>
aW .eql 3 false false k o fun d=>
nF d true (cR 29 a x7 H fun e=>
aQ 3 e H fun p=>
cR 29 a b H fun f=>
aQ 3 f H fun q=>some [q,f,b,a,p,e,x7,a]) (some [ud,ud,ud,ud,ud,ud,ud,ud]) fun r=>ow r fun s x y z t a0 a1 a2 a3=>
(cu d (aW .neq 3 false false t s fun g=>some [g,g]) (some [bA false,ud])).bind fun u=>eU u fun v a4 a5=>aX v (kr (St.mk [(0,a),(1,c),(2,b),(6,iA 0),(7,x7)] H)) (aW .add 3 false true x7 (iA 1) fun h=>
hY L H fun w=>bif bif Nat.beq (List.length H) L then true else aK L [(7,h),(0,a),(1,c),(2,b),(6,x6)] [0,1,2,6,7] then aE (cx C) call rg n 33 lo 0 L kx kg kr kp m (St.mk [(0,a),(1,c),(2,b),(6,x6),(7,h)] w) else none)) (kx 0 (St.mk [(0,a),(1,c),(2,b),(6,x6),(7,x7)] H)):=r8
theorem MD (a x3 b x5:A):aE (cx C) call rg n 35 lo 0 L kx kg kr kp (m+1) (St.mk [(2,a),(3,x3),(4,b),(5,x5)] H) =
fl 25 a 0 22 H fun d=>
dp 22 d H fun t2=>
aW .lss 3 false false x5 t2 fun e=>aX e (fl 25 a 0 22 H fun f=>
cR 22 f x5 H fun g=>
aQ 68 g H fun h=>
fl 25 x3 0 22 H fun i=>
cR 22 i x5 H fun j=>
aQ 68 j H fun k=>
(C 67 [snap H h,snap H k]).bind fun l=>
(iC prog UnOp.not l).bind fun o=>aX o (kr (St.mk [(2,a),(3,x3),(4,bA false),(5,x5)] H)) (aW .add 3 false true x5 (iA 1) fun c=>
hY L H fun p=>bif bif Nat.beq (List.length H) L then true else aK L [(5,c),(2,a),(3,x3),(4,b)] [2,3,4,5] then aE (cx C) call rg n 35 lo 0 L kx kg kr kp m (St.mk [(2,a),(3,x3),(4,b),(5,c)] p) else none)) (kx 0 (St.mk [(2,a),(3,x3),(4,b),(5,x5)] H)):=r8
theorem ME (a x3 b x6:A):aE (cx C) call rg n 35 lo 1 L kx kg kr kp (m+1) (St.mk [(2,a),(3,x3),(4,b),(6,x6)] H) =
fl 25 a 1 23 H fun d=>
dp 23 d H fun t2=>
aW .lss 3 false false x6 t2 fun e=>aX e (fl 25 a 1 23 H fun f=>
cR 23 f x6 H fun g=>
aQ 99 g H fun h=>
fl 25 x3 1 23 H fun i=>
cR 23 i x6 H fun j=>
aQ 99 j H fun k=>
aW .neq 99 false false h k fun l=>aX l (kr (St.mk [(2,a),(3,x3),(4,bA false),(6,x6)] H)) (aW .add 3 false true x6 (iA 1) fun c=>
hY L H fun o=>bif bif Nat.beq (List.length H) L then true else aK L [(6,c),(2,a),(3,x3),(4,b)] [2,3,4,6] then aE (cx C) call rg n 35 lo 1 L kx kg kr kp m (St.mk [(2,a),(3,x3),(4,b),(6,c)] o) else none)) (kx 2 (St.mk [(2,a),(3,x3),(4,b),(6,x6)] H)):=r8
theorem I4 (b x3 x6 Ij yK rC:A):aE (cx C) call rg n 37 lo 0 L kx kg kr kp (m+1) (St.mk [(2,b),(3,x3),(6,x6),(53,Ij),(54,yK),(55,rC)] H) =
aW .lss 3 false false rC yK fun h=>aX h (cR 106 Ij rC H fun i=>
aQ 108 i H fun t2=>
eX 108 H fun c=>
cg 108 c.1 (b7 c.1 c.2 t2) c.2 lo fun a=>
fl 108 c.1 0 3 a fun j=>
aW .neq 3 false true j (iA 1) fun k=>aX k (aQ 72 b a fun d=>
cg 72 b (b7 b a d) a lo fun l=>kr (St.mk [(2,b),(3,bA false),(6,x6),(53,Ij),(54,yK),(55,rC)] l)) (cR 111 x6 rC a fun d=>
aQ 113 d a fun o=>
fl 108 c.1 1 3 a fun p=>
jI o a fun e=>
cg 3 e (b7 e a p) a lo fun f=>
aW .add 3 false true rC (iA 1) fun g=>
hY L f fun q=>bif bif Nat.beq (List.length f) L then true else aK L [(55,g),(2,b),(3,x3),(6,x6),(53,Ij),(54,yK)] [2,3,6,53,54,55] then aE (cx C) call rg n 37 lo 0 L kx kg kr kp m (St.mk [(2,b),(3,x3),(6,x6),(53,Ij),(54,yK),(55,g)] q) else none)) (kx 0 (St.mk [(2,b),(3,x3),(6,x6),(53,Ij),(54,yK),(55,rC)] H)):=r8
theorem I5 (a x3 x9 mV gR:A):aE (cx C) call rg n 54 lo 0 L kx kg kr kp (m+1) (St.mk [(2,a),(3,x3),(9,x9),(10,mV),(11,gR)] H) =
aW .lss 3 false false gR mV fun f=>aX f (cR 111 x9 gR H fun g=>
aQ 113 g H fun t2=>
fl 108 x3 3 106 H fun h=>
jI t2 H fun i=>
aQ 3 i H fun j=>
gZ 108 [(0,iA 1),(1,j)] fun k=>
(aL prog 106 1 [(0,cK H k)]).bind fun l=>
(bN prog 106 106 false h l H lo).bind fun b=>
bT 108 x3 3 b.2 fun c=>
cg 106 c (b7 c b.2 b.1) b.2 lo fun d=>
aW .add 3 false true gR (iA 1) fun e=>
hY L d fun o=>bif bif Nat.beq (List.length d) L then true else aK L [(11,e),(2,a),(3,x3),(9,x9),(10,mV)] [2,3,9,10,11] then aE (cx C) call rg n 54 lo 0 L kx kg kr kp m (St.mk [(2,a),(3,x3),(9,x9),(10,mV),(11,e)] o) else none) (kx 0 (St.mk [(2,a),(3,x3),(9,x9),(10,mV),(11,gR)] H)):=r8
theorem MF (c f d e a:A):aE (cx C) call rg n 55 lo 0 L kx kg kr kp (m+1) (St.mk [(1,c),(2,f),(15,d),(16,e),(17,a)] H) =
aW .lss 3 false false a e fun t0=>aX t0 (cR 23 d a H fun t1=>
aQ 99 t1 H fun t2=>
(ku prog 99 H).bind fun h=>
cg 99 h.1 (b7 h.1 h.2 t2) h.2 lo fun b=>
aQ 99 h.1 b fun t5=>
(C 84 [snap b t5]).bind fun t6=>
(iC prog UnOp.not t6).bind fun k=>
nF k false (aW .gtr 3 false true a (iA 0) fun l=>
nF l true (bT 25 c 1 b fun s=>
aQ 23 s b fun t=>
aW .sub 3 false true a (iA 1) fun u=>
cR 23 t u b fun v=>
(fb prog 99 v none none none b).bind fun aa=>
(fb prog 99 h.1 none none none b).bind fun ab=>some [ab,aa,v,u,a,t,s]) (some [ud,ud,ud,ud,ud,ud,ud]) fun l9=>dD l9 fun o w x y ae=>eU ae fun z a0 af=>bk af fun g a1=>some [o,w,x,y,z,a0,g,l,l,a]) (some [ud,ud,ud,ud,ud,ud,ud,ud,ud,ud]) fun l8=>ow l8 fun u9 o w x y z a0 g a1=>eU a1 fun ao ap aq=>pY g true ((call 85 [o,u9] b lo).bind fun i=>ee i.1 (fun p=>
nF g true (aW .geq 3 false true p (iA 0) fun j=>some [j]) (some [ud]) fun q=>bk q fun r ar=>
(cu k (some [bA true,ud]) ((cu g (some r) (some (bA false))).bind fun a2=>some [a2,a2])).bind fun a3=>eU a3 fun ai au av=>aX ai (kr (St.mk [(1,c),(2,iA 60),(15,d),(16,e),(17,a)] i.2)) (aW .add 3 false true a (iA 1) fun a4=>
hY L i.2 fun aj=>bif bif Nat.beq (List.length i.2) L then true else aK L [(17,a4),(1,c),(2,f),(15,d),(16,e)] [1,2,15,16,17] then aE (cx C) call rg n 55 lo 0 L kx kg kr kp m (St.mk [(1,c),(2,f),(15,d),(16,e),(17,a4)] aj) else none)) fun p=>kp p (St.mk [(1,c),(2,f),(15,d),(16,e),(17,a)] i.2)) (nF g true (aW .geq 3 false true (ud) (iA 0) fun ak=>some [ak]) (some [ud]) fun al=>bk al fun am aw=>
(cu k (some [bA true,ud]) ((cu g (some am) (some (bA false))).bind fun j=>some [j,j])).bind fun q=>eU q fun r ax a3=>aX r (kr (St.mk [(1,c),(2,iA 60),(15,d),(16,e),(17,a)] b)) (aW .add 3 false true a (iA 1) fun a5=>
hY L b fun an=>bif bif Nat.beq (List.length b) L then true else aK L [(17,a5),(1,c),(2,f),(15,d),(16,e)] [1,2,15,16,17] then aE (cx C) call rg n 55 lo 0 L kx kg kr kp m (St.mk [(1,c),(2,f),(15,d),(16,e),(17,a5)] an) else none))) (kx 0 (St.mk [(1,c),(2,f),(15,d),(16,e),(17,a)] H)):=r8
theorem MG (b c x3 a x8 Ib Ic Ci:A):aE (cx C) call rg n 56 lo 0 L kx kg kr kp (m+1) (St.mk [(1,b),(2,c),(3,x3),(4,a),(8,x8),(27,Ib),(28,Ic),(29,Ci)] H) =
aW .lss 3 false false Ci Ic fun x=>aX x (cR 29 Ib Ci H fun y=>
aQ 3 y H fun t2=>
(C 23 [snap H t2,snap H (iA 0),snap H (iA 8)]).bind fun z=>
(iC prog UnOp.not z).bind fun t4=>
(cu t4 (some [bA true,ud,ud,ud,ud,ud,ud,ud,ud,ud,ud,ud,ud,ud,ud,ud]) (bT 50 a 2 H fun f=>
aQ 29 f H fun g=>
cR 29 g Ci H fun h=>
aQ 3 h H fun i=>
aW .neq 3 false false i t2 fun d=>
(cu d (bT 50 a 2 H fun j=>
aQ 29 j H fun k=>
cR 29 k Ci H fun l=>
aQ 3 l H fun o=>
aW .neq 3 false true o (iA 0) fun p=>some [p,p,o,l,Ci,k,j]) (some [bA false,ud,ud,ud,ud,ud,ud])).bind fun a1=>dD a1 fun e q r s a2=>eU a2 fun t u a3=>bk a3 fun v a8=>some [e,e,q,r,s,t,u,v,d,d,t2,i,h,Ci,g,f])).bind fun l5=>ow l5 fun u6 u7 u8 u9 ad e q r a6=>ow a6 fun s t u v ae af ag ah ai=>aX u6 (kr (St.mk [(1,b),(2,c),(3,x3),(4,a),(8,bA false),(27,Ib),(28,Ic),(29,Ci)] H)) (aW .add 3 false true Ci (iA 1) fun w=>
hY L H fun a7=>bif bif Nat.beq (List.length H) L then true else aK L [(29,w),(1,b),(2,c),(3,x3),(4,a),(8,x8),(27,Ib),(28,Ic)] [1,2,3,4,8,27,28,29] then aE (cx C) call rg n 56 lo 0 L kx kg kr kp m (St.mk [(1,b),(2,c),(3,x3),(4,a),(8,x8),(27,Ib),(28,Ic),(29,w)] a7) else none)) (kx 0 (St.mk [(1,b),(2,c),(3,x3),(4,a),(8,x8),(27,Ib),(28,Ic),(29,Ci)] H)):=r8
theorem MH (c d x8 gR yL Ik e:A):aE (cx C) call rg n 56 lo 1 L kx kg kr kp (m+1) (St.mk [(1,c),(2,d),(8,x8),(11,gR),(57,yL),(58,Ik),(59,e)] H) =
aW .lss 3 false false e Ik fun p=>aX p (cR 48 yL e H fun q=>
aQ 46 q H fun t2=>
eX 46 H fun b=>
cg 46 b.1 (b7 b.1 b.2 t2) b.2 lo fun a=>
aQ 46 b.1 a fun r=>
(C 52 [snap a r,snap a d]).bind fun s=>
(iC prog UnOp.not s).bind fun t=>
(cu t (some [bA true,ud,ud,ud,ud]) (bT 46 b.1 1 a fun f=>
aQ 3 f a fun g=>
aW .neq 3 false false g c fun h=>some [h,h,c,g,f])).bind fun u=>dD u fun v a2 a3 a4 w=>bk w fun a5 a6=>
(cu v (some [bA true,ud,ud,ud,ud]) (bT 46 b.1 2 a fun i=>
aQ 3 i a fun j=>
aW .lss 3 false false j gR fun k=>some [k,k,gR,j,i])).bind fun x=>dD x fun y a7 a8 a9 z=>bk z fun aa ab=>aX y (kr (St.mk [(1,c),(2,d),(8,bA false),(11,gR),(57,yL),(58,Ik),(59,e)] a)) (fl 46 b.1 2 3 a fun a0=>
aW .add 3 false true a0 (iA 1) fun l=>
aW .add 3 false true e (iA 1) fun o=>
hY L a fun a1=>bif bif Nat.beq (List.length a) L then true else aK L [(59,o),(11,l),(1,c),(2,d),(8,x8),(57,yL),(58,Ik)] [1,2,8,11,57,58,59] then aE (cx C) call rg n 56 lo 1 L kx kg kr kp m (St.mk [(1,c),(2,d),(8,x8),(11,l),(57,yL),(58,Ik),(59,o)] a1) else none)) (kx 2 (St.mk [(1,c),(2,d),(8,x8),(11,gR),(57,yL),(58,Ik),(59,e)] H)):=r8
theorem MI (a b c x5:A):aE (cx C) call rg n 57 lo 0 L kx kg kr kp (m+1) (St.mk [(0,a),(1,b),(4,c),(5,x5)] H) =
dp 29 a H fun e=>
aW .lss 3 false false x5 e fun f=>aX f (cR 29 a x5 H fun t2=>
aQ 3 t2 H fun g=>
cR 29 b x5 H fun h=>
aQ 3 h H fun i=>
aW .neq 3 false false g i fun j=>aX j (kr (St.mk [(0,a),(1,b),(4,bA false),(5,x5)] H)) (aW .add 3 false true x5 (iA 1) fun d=>
hY L H fun k=>bif bif Nat.beq (List.length H) L then true else aK L [(5,d),(0,a),(1,b),(4,c)] [0,1,4,5] then aE (cx C) call rg n 57 lo 0 L kx kg kr kp m (St.mk [(0,a),(1,b),(4,c),(5,d)] k) else none)) (kx 0 (St.mk [(0,a),(1,b),(4,c),(5,x5)] H)):=r8
theorem MJ (a b c x7 x8:A):aE (cx C) call rg n 58 lo 0 L kx kg kr kp (m+1) (St.mk [(0,a),(1,b),(4,c),(7,x7),(8,x8)] H) =
aW .lss 3 false false x8 x7 fun e=>aX e (cR 29 a x8 H fun f=>
aQ 3 f H fun t2=>
aW .eql 3 false false b t2 fun g=>aX g (kr (St.mk [(0,a),(1,b),(4,x8),(7,x7),(8,x8)] H)) (aW .add 3 false true x8 (iA 1) fun d=>
hY L H fun h=>bif bif Nat.beq (List.length H) L then true else aK L [(8,d),(0,a),(1,b),(4,c),(7,x7)] [0,1,4,7,8] then aE (cx C) call rg n 58 lo 0 L kx kg kr kp m (St.mk [(0,a),(1,b),(4,c),(7,x7),(8,d)] h) else none)) (kx 0 (St.mk [(0,a),(1,b),(4,c),(7,x7),(8,x8)] H)):=r8
theorem I6 (f e x3 mV gR n5:A):aE (cx C) call rg n 59 lo 0 L kx kg kr kp (m+1) (St.mk [(0,f),(2,e),(3,x3),(10,mV),(11,gR),(12,n5)] H) =
aW .lss 3 false false n5 gR fun i=>aX i (cR 29 mV n5 H fun j=>
aQ 3 j H fun t2=>
fl 28 e 1 26 H fun k=>
cR 26 k t2 H fun l=>
fl 50 l 2 29 H fun h=>
dp 29 h H fun o=>aE (cx C) call rg n 59 lo 1 (List.length H) (fun b a=>bif Nat.beq b 2 then
aW .add 3 false true (lk a 12) (iA 1) fun c=>
hY L (St.H a) fun g=>bif bif Nat.beq (List.length (St.H a)) L then true else aK L ((12,c) :: (47,c) :: St.fr a) [0,2,3,10,11,12] then aE (cx C) call rg n 59 lo 0 L kx kg kr kp m (St.mk [(0,lk a 0),(2,lk a 2),(3,lk a 3),(10,lk a 10),(11,lk a 11),(12,c)] g) else none else bif Nat.beq b 1 then
aW .add 3 false true (lk a 12) (iA 1) fun c=>
hY L (St.H a) fun g=>bif bif Nat.beq (List.length (St.H a)) L then true else aK L ((12,c) :: (47,c) :: St.fr a) [0,2,3,10,11,12] then aE (cx C) call rg n 59 lo 0 L kx kg kr kp m (St.mk [(0,lk a 0),(2,lk a 2),(3,lk a 3),(10,lk a 10),(11,lk a 11),(12,c)] g) else none else kx b (St.mk [(0,lk a 0),(2,lk a 2),(3,lk a 3),(10,lk a 10),(11,lk a 11),(12,lk a 12)] (St.H a))) (fun b a=>kg b (St.mk [(0,lk a 0),(2,lk a 2),(3,lk a 3),(10,lk a 10),(11,lk a 11),(12,lk a 12)] (St.H a))) (fun d=>kr (St.mk [(0,lk d 0),(2,lk d 2),(3,lk d 3),(10,lk d 10),(11,lk d 11),(12,lk d 12)] (St.H d))) (fun b a=>kp b (St.mk [(0,lk a 0),(2,lk a 2),(3,lk a 3),(10,lk a 10),(11,lk a 11),(12,lk a 12)] (St.H a))) n (St.mk [(0,f),(2,e),(3,x3),(6,t2),(10,mV),(11,gR),(12,n5),(21,h),(22,o),(23,iA 0)] H)) (kx 0 (St.mk [(0,f),(2,e),(3,x3),(10,mV),(11,gR),(12,n5)] H)):=r8
theorem I7 (a c x3 x6 mV gR n5 Cg Ch Br:A):aE (cx C) call rg n 59 lo 1 L kx kg kr kp (m+1) (St.mk [(0,a),(2,c),(3,x3),(6,x6),(10,mV),(11,gR),(12,n5),(21,Cg),(22,Ch),(23,Br)] H) =
aW .lss 3 false false Br Ch fun t=>aX t (cR 29 Cg Br H fun u=>
aQ 3 u H fun t2=>
gZ 39 [(0,x6),(1,Br),(2,t2)] fun v=>
eX 39 H fun e=>
cg 39 e.1 (b7 e.1 e.2 v) e.2 lo fun d=>
aQ 3 x3 d fun w=>
aW .geq 3 false false Br w fun b=>
nF b true (some a) (some (ud)) fun x=>
nF b true (some x6) (some (ud)) fun y=>
nF b true (aW .add 3 false true y (iA 1) fun g=>some g) (some (ud)) fun g=>
nF b true (aQ 39 e.1 d fun h=>some h) (some (ud)) fun h=>
nF b true (gZ 72 [(0,iA 2),(2,h)] fun i=>some i) (some (ud)) fun i=>
nF b true ((C 54 [snap d i]).bind fun j=>some j) (some (ud)) fun j=>
nF b true (gZ 68 [(0,g),(2,j)] fun k=>some k) (some (ud)) fun k=>pY b true (dA (cx C) call x [k] d lo (fun l f=>
(cu b ((iC prog UnOp.not l).bind fun o=>some [o,o]) (some [bA false,ud])).bind fun z=>eU z fun p a4 a5=>aX p (kr (St.mk [(0,a),(2,c),(3,x3),(6,x6),(10,mV),(11,gR),(12,n5),(21,Cg),(22,Ch),(23,Br)] f)) (aW .add 3 false true Br (iA 1) fun q=>
hY L f fun a0=>bif bif Nat.beq (List.length f) L then true else aK L [(23,q),(0,a),(2,c),(3,x3),(6,x6),(10,mV),(11,gR),(12,n5),(21,Cg),(22,Ch)] [0,2,3,6,10,11,12,21,22,23] then aE (cx C) call rg n 59 lo 1 L kx kg kr kp m (St.mk [(0,a),(2,c),(3,x3),(6,x6),(10,mV),(11,gR),(12,n5),(21,Cg),(22,Ch),(23,q)] a0) else none)) fun l f=>kp l (St.mk [(0,a),(2,c),(3,x3),(6,x6),(10,mV),(11,gR),(12,n5),(21,Cg),(22,Ch),(23,Br)] f)) ((cu b ((iC prog UnOp.not (ud)).bind fun r=>some [r,r]) (some [bA false,ud])).bind fun a1=>eU a1 fun a2 p a6=>aX a2 (kr (St.mk [(0,a),(2,c),(3,x3),(6,x6),(10,mV),(11,gR),(12,n5),(21,Cg),(22,Ch),(23,Br)] d)) (aW .add 3 false true Br (iA 1) fun s=>
hY L d fun a3=>bif bif Nat.beq (List.length d) L then true else aK L [(23,s),(0,a),(2,c),(3,x3),(6,x6),(10,mV),(11,gR),(12,n5),(21,Cg),(22,Ch)] [0,2,3,6,10,11,12,21,22,23] then aE (cx C) call rg n 59 lo 1 L kx kg kr kp m (St.mk [(0,a),(2,c),(3,x3),(6,x6),(10,mV),(11,gR),(12,n5),(21,Cg),(22,Ch),(23,s)] a3) else none))) (kx 2 (St.mk [(0,a),(2,c),(3,x3),(6,x6),(10,mV),(11,gR),(12,n5),(21,Cg),(22,Ch),(23,Br)] H)):=r8
theorem MK (a b x3:A):aE (cx C) call rg n 61 lo 0 L kx kg kr kp (m+1) (St.mk [(1,a),(2,b),(3,x3)] H) =
fl 25 a 0 22 H fun d=>
dp 22 d H fun t2=>
aW .lss 3 false false x3 t2 fun e=>aX e (fl 25 a 0 22 H fun f=>
cR 22 f x3 H fun g=>
aQ 68 g H fun h=>
(C 86 [snap H h]).bind fun i=>
(iC prog UnOp.not i).bind fun j=>aX j (kr (St.mk [(1,a),(2,iA 60),(3,x3)] H)) (aW .add 3 false true x3 (iA 1) fun c=>
hY L H fun k=>bif bif Nat.beq (List.length H) L then true else aK L [(3,c),(1,a),(2,b)] [1,2,3] then aE (cx C) call rg n 61 lo 0 L kx kg kr kp m (St.mk [(1,a),(2,b),(3,c)] k) else none)) (kx 0 (St.mk [(1,a),(2,b),(3,x3)] H)):=r8
theorem ML (c f b:A):aE (cx C) call rg n 61 lo 1 L kx kg kr kp (m+1) (St.mk [(1,c),(2,f),(4,b)] H) =
fl 25 c 1 23 H fun t1=>
dp 23 t1 H fun t2=>
aW .lss 3 false false b t2 fun t3=>aX t3 (fl 25 c 1 23 H fun t5=>
cR 23 t5 b H fun t6=>
aQ 99 t6 H fun t7=>
eX 99 H fun d=>
cg 99 d.1 (b7 d.1 d.2 t7) d.2 lo fun a=>
cR 99 d.1 (iA 0) a fun ba=>
aQ 3 ba a fun bb=>
(C 87 [snap a bb]).bind fun bc=>
(iC prog UnOp.not bc).bind fun bd=>
(cu bd (some [bA true,ud,ud,ud,ud]) (cR 99 d.1 (iA 1) a fun t=>
aQ 3 t a fun u=>
(C 87 [snap a u]).bind fun v=>
(iC prog UnOp.not v).bind fun w=>some [w,w,v,u,t])).bind fun be=>dD be fun bf ca cb cc bg=>bk bg fun cd ce=>
(cu bf (some [bA true,ud,ud,ud,ud,ud]) (cR 99 d.1 (iA 0) a fun x=>
aQ 3 x a fun y=>
cR 99 d.1 (iA 1) a fun z=>
aQ 3 z a fun a0=>
aW .geq 3 false false y a0 fun a1=>some [a1,a1,a0,z,y,x])).bind fun bh=>dD bh fun bi cf ch ci bj=>eU bj fun cj ck cl=>aX bi (kr (St.mk [(1,c),(2,iA 60),(4,b)] a)) (aW .gtr 3 false true b (iA 0) fun a2=>
nF a2 true (cR 99 d.1 (iA 0) a fun a3=>
aQ 3 a3 a fun a4=>
bT 25 c 1 a fun a5=>
aQ 23 a5 a fun a6=>
aW .sub 3 false true b (iA 1) fun a7=>
cR 23 a6 a7 a fun a8=>
cR 99 a8 (iA 0) a fun a9=>
aQ 3 a9 a fun aa=>
aW .lss 3 false false a4 aa fun r=>
nF r false (cR 99 d.1 (iA 0) a fun ab=>
aQ 3 ab a fun ad=>
bT 25 c 1 a fun ae=>
aQ 23 ae a fun af=>
aW .sub 3 false true b (iA 1) fun ag=>
cR 23 af ag a fun ah=>
cR 99 ah (iA 0) a fun ai=>
aQ 3 ai a fun aj=>
aW .eql 3 false false ad aj fun s=>
nF s true (cR 99 d.1 (iA 1) a fun ak=>
aQ 3 ak a fun bl=>
bT 25 c 1 a fun al=>
aQ 23 al a fun am=>
aW .sub 3 false true b (iA 1) fun an=>
cR 23 am an a fun ao=>
cR 99 ao (iA 1) a fun ap=>
aQ 3 ap a fun bm=>some [bm,ap,ao,an,b,am,al,bl,ak]) (some [ud,ud,ud,ud,ud,ud,ud,ud,ud]) fun bn=>ow bn fun g h e i j k l o bo=>bk bo fun p cm=>some [g,h,e,i,j,k,l,o,p,s,s,aj,ai,ah,ag,b,af,ae,ad,ab]) (some [ud,ud,ud,ud,ud,ud,ud,ud,ud,ud,ud,ud,ud,ud,ud,ud,ud,ud,ud,ud]) fun bp=>ow bp fun q aq ar au av aw ax ay bq=>ow bq fun az g h e i j k l br=>dD br fun o p b0 b1 cn=>some [q,aq,ar,au,av,aw,ax,ay,az,g,h,e,i,j,k,l,o,p,b0,b1,r,r,aa,a9,a8,a7,b,a6,a5,a4,a3]) (some [ud,ud,ud,ud,ud,ud,ud,ud,ud,ud,ud,ud,ud,ud,ud,ud,ud,ud,ud,ud,ud,ud,ud,ud,ud,ud,ud,ud,ud,ud,ud]) fun bs=>ow bs fun bt co cp cq cr cs ct bu bv=>ow bv fun cv q aq ar au av aw ax bw=>ow bw fun ay az g h e i j k bx=>dD bx fun l o p b0 bz=>eU bz fun b1 cw c0=>bk c0 fun cy cz=>
nF q true (aW .leq 3 false false bu bt fun c1=>some [c1]) (some [ud]) fun c2=>bk c2 fun c3 d0=>
nF e false ((cu q (some c3) (some (bA false))).bind fun c4=>some [c4]) (some [ud]) fun c5=>bk c5 fun c6 d1=>
(cu a2 ((cu e (some (bA true)) (some c6)).bind fun b2=>some [b2,b2]) (some [bA false,ud])).bind fun c7=>eU c7 fun c8 d2 d3=>aX c8 (kr (St.mk [(1,c),(2,iA 60),(4,b)] a)) (aW .add 3 false true b (iA 1) fun b3=>
hY L a fun c9=>bif bif Nat.beq (List.length a) L then true else aK L [(4,b3),(1,c),(2,f)] [1,2,4] then aE (cx C) call rg n 61 lo 1 L kx kg kr kp m (St.mk [(1,c),(2,f),(4,b3)] c9) else none))) (kx 2 (St.mk [(1,c),(2,f),(4,b)] H)):=r8
theorem MM (b a c x5 x6:A):aE (cx C) call rg n 62 lo 0 L kx kg kr kp (m+1) (St.mk [(1,b),(2,a),(4,c),(5,x5),(6,x6)] H) =
fl 28 a 2 3 H fun t1=>
aW .lss 3 false false x6 t1 fun t2=>aX t2 (fl 50 x5 1 29 H fun t4=>
cR 29 t4 x6 H fun t5=>
aQ 3 t5 H fun t6=>
(C 60 [snap H t6,snap H (iA 0),snap H (iA 8)]).bind fun t7=>
(iC prog UnOp.not t7).bind fun g=>
nF g false (bT 50 x5 2 H fun h=>
aQ 29 h H fun i=>
cR 29 i x6 H fun j=>
aQ 3 j H fun k=>
aW .neq 3 false true k (iA 0) fun e=>
nF e true (bT 50 x5 2 H fun l=>
aQ 29 l H fun o=>
cR 29 o x6 H fun p=>
aQ 3 p H fun a8=>
bT 50 x5 1 H fun q=>
aQ 29 q H fun r=>
cR 29 r x6 H fun s=>
aQ 3 s H fun a9=>some [a9,s,x6,r,q,a8,p,x6,o,l]) (some [ud,ud,ud,ud,ud,ud,ud,ud,ud,ud]) fun aa=>ow aa fun f t u v w d x y ab=>eU ab fun z a0 an=>some [f,t,u,v,w,d,x,y,z,a0,e,e,k,j,x6,i,h]) (some [ud,ud,ud,ud,ud,ud,ud,ud,ud,ud,ud,ud,ud,ud,ud,ud,ud]) fun l9=>ow l9 fun ae ao ap aq ar f t u af=>ow af fun v w d x y z a0 au ag=>bk ag fun av aw=>
nF d true (aW .neq 3 false false f ae fun ah=>some [ah]) (some [ud]) fun ai=>bk ai fun aj ax=>
(cu g (some [bA true,ud]) ((cu d (some aj) (some (bA false))).bind fun a1=>some [a1,a1])).bind fun ak=>eU ak fun al ay az=>aX al (kr (St.mk [(1,b),(2,a),(4,bA false),(5,x5),(6,x6)] H)) (aW .add 3 false true x6 (iA 1) fun a2=>
hY L H fun am=>bif bif Nat.beq (List.length H) L then true else aK L [(6,a2),(1,b),(2,a),(4,c),(5,x5)] [1,2,4,5,6] then aE (cx C) call rg n 62 lo 0 L kx kg kr kp m (St.mk [(1,b),(2,a),(4,c),(5,x5),(6,a2)] am) else none)) (kx 0 (St.mk [(1,b),(2,a),(4,c),(5,x5),(6,x6)] H)):=r8
theorem MN (c d e x5 x7:A):aE (cx C) call rg n 62 lo 1 L kx kg kr kp (m+1) (St.mk [(1,c),(2,d),(4,e),(5,x5),(7,x7)] H) =
fl 50 x5 0 48 H fun t1=>
dp 48 t1 H fun t2=>
aW .lss 3 false false x7 t2 fun t3=>aX t3 (fl 50 x5 0 48 H fun t5=>
cR 48 t5 x7 H fun t6=>
aQ 46 t6 H fun t7=>
eX 46 H fun b=>
cg 46 b.1 (b7 b.1 b.2 t7) b.2 lo fun a=>
aQ 46 b.1 a fun ae=>
fl 28 d 1 26 a fun af=>
dp 26 af a fun ag=>
(C 88 [snap a ae,snap a ag]).bind fun ah=>
(iC prog UnOp.not ah).bind fun ai=>
(cu ai (some [bA true,ud,ud,ud,ud]) (bT 46 b.1 1 a fun i=>
aQ 3 i a fun j=>
aW .neq 3 false false j c fun k=>some [k,k,c,j,i])).bind fun aj=>dD aj fun ak b3 b4 b5 al=>bk al fun b6 b8=>
(cu ak (some [bA true,ud,ud,ud,ud,ud]) (bT 46 b.1 2 a fun l=>
aQ 3 l a fun o=>
bT 28 d 2 a fun p=>
aQ 3 p a fun q=>
aW .lss 3 false false o q fun r=>some [r,r,q,p,o,l])).bind fun am=>dD am fun s b9 ba bb an=>eU an fun bc bd be=>
nF s false (aW .gtr 3 false true x7 (iA 0) fun g=>
nF g true (bT 46 b.1 2 a fun t=>
aQ 3 t a fun ao=>
bT 50 x5 0 a fun u=>
aQ 48 u a fun v=>
aW .sub 3 false true x7 (iA 1) fun w=>
cR 48 v w a fun x=>
bT 46 x 2 a fun y=>
aQ 3 y a fun ap=>some [ap,y,x,w,x7,v,u,ao,t]) (some [ud,ud,ud,ud,ud,ud,ud,ud,ud]) fun aq=>ow aq fun z a0 a1 a2 a3 a4 h a5 ar=>bk ar fun f bf=>some [z,a0,a1,a2,a3,a4,h,a5,f,g,g,x7]) (some [ud,ud,ud,ud,ud,ud,ud,ud,ud,ud,ud,ud]) fun au=>ow au fun av z a0 a1 a2 a3 a4 h aw=>dD aw fun a5 f bg bh bi=>
nF f true (aW .leq 3 false false h av fun ax=>some [ax]) (some [ud]) fun ay=>bk ay fun az bj=>
(cu s (some [bA true,ud]) ((cu f (some az) (some (bA false))).bind fun a6=>some [a6,a6])).bind fun b0=>eU b0 fun b1 bl bm=>aX b1 (kr (St.mk [(1,c),(2,d),(4,bA false),(5,x5),(7,x7)] a)) (aW .add 3 false true x7 (iA 1) fun a7=>
hY L a fun b2=>bif bif Nat.beq (List.length a) L then true else aK L [(7,a7),(1,c),(2,d),(4,e),(5,x5)] [1,2,4,5,7] then aE (cx C) call rg n 62 lo 1 L kx kg kr kp m (St.mk [(1,c),(2,d),(4,e),(5,x5),(7,a7)] b2) else none)) (kx 2 (St.mk [(1,c),(2,d),(4,e),(5,x5),(7,x7)] H)):=r8
theorem MO (a b c x5:A):aE (cx C) call rg n 64 lo 0 L kx kg kr kp (m+1) (St.mk [(0,a),(1,b),(4,c),(5,x5)] H) =
dp 29 a H fun e=>
aW .lss 3 false false x5 e fun f=>aX f (cR 29 a x5 H fun t2=>
aQ 3 t2 H fun g=>
aW .eql 3 false false g b fun h=>aX h (kr (St.mk [(0,a),(1,b),(4,bA true),(5,x5)] H)) (aW .add 3 false true x5 (iA 1) fun d=>
hY L H fun i=>bif bif Nat.beq (List.length H) L then true else aK L [(5,d),(0,a),(1,b),(4,c)] [0,1,4,5] then aE (cx C) call rg n 64 lo 0 L kx kg kr kp m (St.mk [(0,a),(1,b),(4,c),(5,d)] i) else none)) (kx 0 (St.mk [(0,a),(1,b),(4,c),(5,x5)] H)):=r8
theorem MP (b x3 a x6 x7:A):aE (cx C) call rg n 79 lo 0 L kx kg kr kp (m+1) (St.mk [(2,b),(3,x3),(4,a),(6,x6),(7,x7)] H) =
fl 108 a 3 106 H fun e=>
dp 106 e H fun t2=>
aW .lss 3 false false x7 t2 fun f=>aX f (fl 108 a 3 106 H fun g=>
cR 106 g x7 H fun h=>
fl 108 h 0 3 H fun i=>
aW .neq 3 false true i (iA 1) fun j=>aX j (kr (St.mk [(2,A.imm [] true),(3,bA false),(4,a),(6,x6),(7,x7)] H)) (fl 108 a 3 106 H fun k=>
cR 106 k x7 H fun l=>
fl 108 l 1 3 H fun o=>
(aL prog 29 1 [(0,cK H o)]).bind fun p=>
(bN prog 29 29 false x6 p H lo).bind fun c=>
aW .add 3 false true x7 (iA 1) fun d=>
hY L c.2 fun q=>bif bif Nat.beq (List.length c.2) L then true else aK L [(7,d),(6,c.1),(2,b),(3,x3),(4,a)] [2,3,4,6,7] then aE (cx C) call rg n 79 lo 0 L kx kg kr kp m (St.mk [(2,b),(3,x3),(4,a),(6,c.1),(7,d)] q) else none)) (kx 0 (St.mk [(2,b),(3,x3),(4,a),(6,x6),(7,x7)] H)):=r8
theorem MQ (b a c x9 mV gR:A):aE (cx C) call rg n 85 lo 0 L kx kg kr kp (m+1) (St.mk [(0,b),(1,a),(4,c),(9,x9),(10,mV),(11,gR)] H) =
aW .lss 3 false false gR mV fun g=>aX g (cR 29 x9 gR H fun h=>
aQ 3 h H fun t2=>
dp 29 a H fun i=>
aW .geq 3 false false gR i fun j=>aX j (kr (St.mk [(0,b),(1,a),(4,iA 1),(9,x9),(10,mV),(11,gR)] H)) (cR 29 a gR H fun k=>
aQ 3 k H fun l=>
(call 100 [t2,l] H lo).bind fun d=>ee d.1 (fun e=>
aW .neq 3 false true e (iA 0) fun o=>aX o (kr (St.mk [(0,b),(1,a),(4,e),(9,x9),(10,mV),(11,gR)] d.2)) (aW .add 3 false true gR (iA 1) fun f=>
hY L d.2 fun p=>bif bif Nat.beq (List.length d.2) L then true else aK L [(11,f),(0,b),(1,a),(4,c),(9,x9),(10,mV)] [0,1,4,9,10,11] then aE (cx C) call rg n 85 lo 0 L kx kg kr kp m (St.mk [(0,b),(1,a),(4,c),(9,x9),(10,mV),(11,f)] p) else none)) fun e=>kp e (St.mk [(0,b),(1,a),(4,c),(9,x9),(10,mV),(11,gR)] d.2))) (kx 0 (St.mk [(0,b),(1,a),(4,c),(9,x9),(10,mV),(11,gR)] H)):=r8
theorem MR (a c x3 b:A):aE (cx C) call rg n 90 lo 0 L kx kg kr kp (m+1) (St.mk [(0,a),(2,c),(3,x3),(4,b)] H) =
dp 29 a H fun h=>
aW .lss 3 false false b h fun i=>aX i (fl 108 x3 3 106 H fun j=>
cR 29 a b H fun k=>
aQ 3 k H fun l=>
(C 103 [snap H l]).bind fun o=>
(aL prog 106 1 [(0,cK H o)]).bind fun p=>
(bN prog 106 106 false j p H lo).bind fun d=>
bT 108 x3 3 d.2 fun e=>
cg 106 e (b7 e d.2 d.1) d.2 lo fun f=>
aW .add 3 false true b (iA 1) fun g=>
hY L f fun q=>bif bif Nat.beq (List.length f) L then true else aK L [(4,g),(0,a),(2,c),(3,x3)] [0,2,3,4] then aE (cx C) call rg n 90 lo 0 L kx kg kr kp m (St.mk [(0,a),(2,c),(3,x3),(4,g)] q) else none) (kx 0 (St.mk [(0,a),(2,c),(3,x3),(4,b)] H)):=r8
theorem MS (b c a d Lc:A):aE (cx C) call rg n 93 lo 0 L kx kg kr kp (m+1) (St.mk [(0,b),(1,c),(4,a),(36,d),(37,Lc)] H) =
aW .lss 3 false false Lc d fun l=>aX l (bT 108 a 3 H fun h=>
aQ 106 h H fun t2=>
aW .add 3 false true c (iA 1) fun o=>bif bif jA 3 h then bif jA 3 a then true else false else false then
(call 93 [b,o] H lo).bind fun e=>ee e.1 (fun g=>
(aL prog 106 1 [(0,cK e.2 g)]).bind fun p=>
(bN prog 106 106 false t2 p e.2 lo).bind fun f=>
bT 108 a 3 f.2 fun i=>
cg 106 i (b7 i f.2 f.1) f.2 lo fun j=>
aW .add 3 false true Lc (iA 1) fun k=>
hY L j fun q=>bif bif Nat.beq (List.length j) L then true else aK L [(37,k),(0,b),(1,c),(4,a),(36,d)] [0,1,4,36,37] then aE (cx C) call rg n 93 lo 0 L kx kg kr kp m (St.mk [(0,b),(1,c),(4,a),(36,d),(37,k)] q) else none) fun g=>kp g (St.mk [(0,A.any),(1,A.any),(4,A.any),(36,A.any),(37,A.any)] e.2) else none) (kx 1 (St.mk [(0,b),(1,c),(4,a),(36,d),(37,Lc)] H)):=r8
theorem MT (a b c x7 x8:A):aE (cx C) call rg n 99 lo 0 L kx kg kr kp (m+1) (St.mk [(0,a),(1,b),(4,c),(7,x7),(8,x8)] H) =
aW .lss 3 false false x8 x7 fun f=>aX f (cR 22 a x8 H fun g=>
aQ 68 g H fun t2=>dA (cx C) call b [t2] H lo (fun d h3=>aX d (kr (St.mk [(0,a),(1,b),(4,x8),(7,x7),(8,x8)] h3)) (aW .add 3 false true x8 (iA 1) fun e=>
hY L h3 fun h=>bif bif Nat.beq (List.length h3) L then true else aK L [(8,e),(0,a),(1,b),(4,c),(7,x7)] [0,1,4,7,8] then aE (cx C) call rg n 99 lo 0 L kx kg kr kp m (St.mk [(0,a),(1,b),(4,c),(7,x7),(8,e)] h) else none)) fun d h3=>kp d (St.mk [(0,a),(1,b),(4,c),(7,x7),(8,x8)] h3)) (kx 0 (St.mk [(0,a),(1,b),(4,c),(7,x7),(8,x8)] H)):=r8
theorem Kk (a c x3 b:A):aE (cx C) call rg n 102 lo 0 L kx kg kr kp (m+1) (St.mk [(1,a),(2,c),(3,x3),(4,b)] H) =
fl 108 a 3 106 H fun f=>
dp 106 f H fun t2=>
aW .lss 3 false false b t2 fun g=>aX g (fl 108 a 3 106 H fun h=>
cR 106 h b H fun i=>
aQ 108 i H fun j=>
(C 102 [snap H j]).bind fun k=>
(bN prog 66 66 false x3 k H lo).bind fun d=>
aW .add 3 false true b (iA 1) fun e=>
hY L d.2 fun l=>bif bif Nat.beq (List.length d.2) L then true else aK L [(4,e),(3,d.1),(1,a),(2,c)] [1,2,3,4] then aE (cx C) call rg n 102 lo 0 L kx kg kr kp m (St.mk [(1,a),(2,c),(3,d.1),(4,e)] l) else none) (kx 1 (St.mk [(1,a),(2,c),(3,x3),(4,b)] H)):=r8
theorem Kn (a d x3:A):aE (cx C) call rg n 106 lo 0 L kx kg kr kp (m+1) (St.mk [(0,a),(2,d),(3,x3)] H) =
(call 104 [a,iA 1] H lo).bind fun H0=>ee H0.1 (fun e=>
cR 66 e (iA 0) H0.2 fun t2=>
aQ 5 t2 H0.2 fun b=>
aW .eql 3 false true x3 (iA 0) fun r=>
(cu r (some [bA true,ud,ud]) (aW .neq 5 false true b (A.v (.int .u8 0)) fun i=>some [i,i,b])).bind fun s=>eU s fun t u7 u=>bk u fun u8 l8=>
(cu t (aW .lss 3 false true x3 (iA 9) fun f=>
(cu f (some [bA true,ud,ud]) (aW .leq 5 false true b (A.v (.int .u8 1)) fun j=>some [j,j,b])).bind fun w=>eU w fun g k x=>bk x fun l o=>some [g,g,k,l,f,f,x3]) (some [bA false,ud,ud,ud,ud,ud,ud])).bind fun y=>dD y fun z g k l o=>eU o fun ab ad a0=>bk a0 fun ae af=>
(call 94 [a,z] H0.2 lo).bind fun c=>ee c.1 (fun p=>
aW .and 5 false true b (A.v (.int .u8 127)) fun a2=>
(bz prog 5 146 a2 c.2).bind fun a3=>
aW .mul 3 true false (iA 7) x3 fun a4=>
aW .shl 146 false false a3 a4 fun a5=>
aW .or 146 false false d a5 fun h=>
aW .lss 5 false true b (A.v (.int .u8 128)) fun a6=>aX a6 (kr (St.mk [(0,a),(2,h),(3,x3)] c.2)) (aW .add 3 false true x3 (iA 1) fun q=>
hY L c.2 fun a7=>bif bif Nat.beq (List.length c.2) L then true else aK L [(3,q),(2,h),(0,a)] [0,2,3] then aE (cx C) call rg n 106 lo 0 L kx kg kr kp m (St.mk [(0,a),(2,h),(3,q)] a7) else none)) fun p=>kp p (St.mk [(0,a),(2,d),(3,x3)] c.2)) fun e=>kp e (St.mk [(0,a),(2,d),(3,x3)] H0.2):=r8
theorem Ko (a b c x7 x8 x9:A):aE (cx C) call rg n 109 lo 0 L kx kg kr kp (m+1) (St.mk [(0,a),(1,b),(4,c),(7,x7),(8,x8),(9,x9)] H) =
aW .lss 146 false false x9 x7 fun p=>
(cu p (jI a H fun g=>
bT 152 g 2 H fun t2=>
aQ 4 t2 H fun h=>
(iC prog UnOp.not h).bind fun i=>some [i,i,h,t2,g,a]) (some [bA false,ud,ud,ud,ud,ud])).bind fun q=>dD q fun r y u4 z s=>eU s fun u6 u7 l7=>aX r (bT 108 x8 3 H fun j=>
aQ 106 j H fun t=>
aW .add 3 false true b (iA 1) fun u=>bif bif jA 2 j then bif jA 2 x8 then true else false else false then
(call 109 [a,u] H lo).bind fun d=>ee d.1 (fun f=>
(aL prog 106 1 [(0,cK d.2 f)]).bind fun w=>
(bN prog 106 106 false t w d.2 lo).bind fun e=>
bT 108 x8 3 e.2 fun k=>
cg 106 k (b7 k e.2 e.1) e.2 lo fun l=>
aW .add 146 false true x9 (A.v (.int .u64 1)) fun o=>
hY L l fun x=>bif bif Nat.beq (List.length l) L then true else aK L [(9,o),(0,a),(1,b),(4,c),(7,x7),(8,x8)] [0,1,4,7,8,9] then aE (cx C) call rg n 109 lo 0 L kx kg kr kp m (St.mk [(0,a),(1,b),(4,c),(7,x7),(8,x8),(9,o)] x) else none) fun f=>kp f (St.mk [(0,A.any),(1,A.any),(4,A.any),(7,A.any),(8,A.any),(9,A.any)] d.2) else none) (kx 1 (St.mk [(0,a),(1,b),(4,c),(7,x7),(8,x8),(9,x9)] H)):=r8
theorem Kp (c x3 rC yH yL:A):aE (cx C) call rg n 110 lo 0 L kx kg kr kp (m+1) (St.mk [(2,c),(3,x3),(55,rC),(56,yH),(57,yL)] H) =
aW .lss 3 false false yL yH fun g=>aX g (cR 106 rC yL H fun h=>
aQ 108 h H fun t2=>
eX 108 H fun a=>
cg 108 a.1 (b7 a.1 a.2 t2) a.2 lo fun b=>
aQ 108 a.1 b fun i=>
(C 110 [snap b i]).bind fun d=>
eE d 0 fun j=>
eE d 1 fun k=>
(iC prog UnOp.not k).bind fun l=>aX l (kr (St.mk [(2,iA 0),(3,bA false),(55,rC),(56,yH),(57,yL)] b)) ((Fy false c [j]).bind fun e=>
aW .add 3 false true yL (iA 1) fun f=>
hY L b fun o=>bif bif Nat.beq (List.length b) L then true else aK L [(57,f),(2,e),(3,x3),(55,rC),(56,yH)] [2,3,55,56,57] then aE (cx C) call rg n 110 lo 0 L kx kg kr kp m (St.mk [(2,e),(3,x3),(55,rC),(56,yH),(57,f)] o) else none)) (kx 0 (St.mk [(2,c),(3,x3),(55,rC),(56,yH),(57,yL)] H)):=r8
theorem vJ (d a b:A):aE (cx C) call rg n 112 lo 0 L kx kg kr kp (m+1) (St.mk [(0,d),(1,a),(4,b)] H) =
aW .geq 146 false true a (A.v (.int .u64 128)) fun f=>aX f ((bz prog 146 5 a H).bind fun g=>
aW .or 5 false true g (A.v (.int .u8 128)) fun t2=>
(aL prog 66 1 [(0,cK H t2)]).bind fun h=>
(bN prog 66 66 false d h H lo).bind fun c=>
aW .shr 146 false true a (A.v (.int .u64 7)) fun e=>
hY L c.2 fun i=>bif bif Nat.beq (List.length c.2) L then true else aK L [(1,e),(0,c.1),(4,b)] [0,1,4] then aE (cx C) call rg n 112 lo 0 L kx kg kr kp m (St.mk [(0,c.1),(1,e),(4,b)] i) else none) (kx 0 (St.mk [(0,d),(1,a),(4,b)] H)):=r8
theorem DQ (e b x5 c HZ Ia:A):aE (cx C) call rg n 115 lo 0 L kx kg kr kp (m+1) (St.mk [(0,e),(2,b),(5,x5),(17,c),(18,HZ),(19,Ia)] H) =
aW .lss 3 false false Ia HZ fun i=>aX i (cR 106 c Ia H fun j=>
aQ 108 j H fun t2=>
eX 108 H fun d=>
cg 108 d.1 (b7 d.1 d.2 t2) d.2 lo fun a=>
aQ 139 b a fun k=>
fl 108 d.1 0 3 a fun l=>
jI k a fun o=>
cR 155 o l a fun p=>
fl 138 p 0 136 a fun q=>
aQ 108 d.1 a fun r=>dA (cx C) call q [e,r] a lo (fun f g=>
aW .add 3 false true Ia (iA 1) fun h=>
hY L g fun s=>bif bif Nat.beq (List.length g) L then true else aK L [(19,h),(0,f),(2,b),(5,x5),(17,c),(18,HZ)] [0,2,5,17,18,19] then aE (cx C) call rg n 115 lo 0 L kx kg kr kp m (St.mk [(0,f),(2,b),(5,x5),(17,c),(18,HZ),(19,h)] s) else none) fun f g=>kp f (St.mk [(0,e),(2,b),(5,x5),(17,c),(18,HZ),(19,Ia)] g)) (kx 0 (St.mk [(0,e),(2,b),(5,x5),(17,c),(18,HZ),(19,Ia)] H)):=r8
theorem Ks (a b x3:A):aE (cx C) call rg n 117 lo 0 L kx kg kr kp (m+1) (St.mk [(1,a),(2,b),(3,x3)] H) =
fl 108 a 3 106 H fun d=>
dp 106 d H fun t2=>
aW .lss 3 false false x3 t2 fun e=>aX e (fl 108 a 3 106 H fun f=>
cR 106 f x3 H fun g=>
aQ 108 g H fun h=>
(C 117 [snap H h]).bind fun i=>
(iC prog UnOp.not i).bind fun j=>aX j (kr (St.mk [(1,a),(2,bA false),(3,x3)] H)) (aW .add 3 false true x3 (iA 1) fun c=>
hY L H fun k=>bif bif Nat.beq (List.length H) L then true else aK L [(3,c),(1,a),(2,b)] [1,2,3] then aE (cx C) call rg n 117 lo 0 L kx kg kr kp m (St.mk [(1,a),(2,b),(3,c)] k) else none)) (kx 1 (St.mk [(1,a),(2,b),(3,x3)] H)):=r8
theorem Kt (a c x3 b:A):aE (cx C) call rg n 118 lo 0 L kx kg kr kp (m+1) (St.mk [(1,a),(2,c),(3,x3),(4,b)] H) =
fl 108 a 3 106 H fun f=>
dp 106 f H fun t2=>
aW .lss 3 false false b t2 fun g=>aX g (fl 108 a 3 106 H fun h=>
cR 106 h b H fun i=>
aQ 108 i H fun j=>
(C 118 [snap H j]).bind fun k=>
(Fy false x3 [k]).bind fun d=>
aW .add 3 false true b (iA 1) fun e=>
hY L H fun l=>bif bif Nat.beq (List.length H) L then true else aK L [(4,e),(3,d),(1,a),(2,c)] [1,2,3,4] then aE (cx C) call rg n 118 lo 0 L kx kg kr kp m (St.mk [(1,a),(2,c),(3,d),(4,e)] l) else none) (kx 0 (St.mk [(1,a),(2,c),(3,x3),(4,b)] H)):=r8
theorem Kv (a e x3 b:A):aE (cx C) call rg n 122 lo 0 L kx kg kr kp (m+1) (St.mk [(0,a),(2,e),(3,x3),(4,b)] H) =
jI a H fun s=>
fl 152 s 2 4 H fun t2=>
(iC prog UnOp.not t2).bind fun t=>aX t ((call 121 [a] H lo).bind fun c=>ee c.1 (fun d=>
aW .eql 3 false true b (iA 9) fun u=>
(cu u (aW .gtr 5 false true d (A.v (.int .u8 1)) fun k=>some [k,k,d]) (some [bA false,ud,ud])).bind fun w=>eU w fun x u9 y=>bk y fun ab ad=>
(cu x (some [bA true,ud,ud,ud,ud,ud,ud]) (aW .gtr 3 false true b (iA 0) fun h=>
(cu h (aW .eql 5 false true d (A.v (.int .u8 0)) fun l=>some [l,l,d]) (some [bA false,ud,ud])).bind fun z=>eU z fun i o a0=>bk a0 fun p q=>some [i,i,o,p,h,h,b])).bind fun a1=>dD a1 fun a2 i o p q=>eU q fun ae af a3=>bk a3 fun ag ah=>aX a2 (jI a c.2 fun j=>
bT 152 j 2 c.2 fun f=>
cg 4 f (b7 f c.2 (bA true)) c.2 lo fun a4=>kr (St.mk [(0,a),(2,A.v (.int .u64 0)),(3,x3),(4,b)] a4)) (aW .rem 5 false true d (A.v (.int .u8 128)) fun j=>
(bz prog 5 146 j c.2).bind fun f=>
aW .mul 3 true false (iA 7) b fun a6=>
aW .shl 146 false false f a6 fun a7=>
aW .add 146 false false x3 a7 fun g=>
aW .lss 5 false true d (A.v (.int .u8 128)) fun a8=>aX a8 (kr (St.mk [(0,a),(2,g),(3,g),(4,b)] c.2)) (aW .add 3 false true b (iA 1) fun r=>
hY L c.2 fun a9=>bif bif Nat.beq (List.length c.2) L then true else aK L [(4,r),(3,g),(0,a),(2,e)] [0,2,3,4] then aE (cx C) call rg n 122 lo 0 L kx kg kr kp m (St.mk [(0,a),(2,e),(3,g),(4,r)] a9) else none))) fun d=>kp d (St.mk [(0,a),(2,e),(3,x3),(4,b)] c.2)) (kx 0 (St.mk [(0,a),(2,e),(3,x3),(4,b)] H)):=r8
theorem DR (n lo b lo':Nat) (g f x5 i:A) (H:aB):qH (cx C) call rg n 26 lo 0 b [(2,g),(4,f),(5,x5)] [i] H lo'=bif Nat.ble lo' lo then JC H b (eX 68 H fun c=>
cg 68 c.1 (b7 c.1 c.2 i) c.2 lo fun H1=>JC H1 b (fl 28 g 0 25 (List.set H1 b (aC.rng jW.busy)) fun p=>
aQ 68 c.1 (List.set H1 b (aC.rng jW.busy)) fun q=>
(C 53 [snap (List.set H1 b (aC.rng jW.busy)) p,snap (List.set H1 b (aC.rng jW.busy)) q]).bind fun j=>
eE j 0 fun r=>
eE j 1 fun k=>
eX 25 (List.set H1 b (aC.rng jW.busy)) fun d=>
cg 25 d.1 (b7 d.1 d.2 r) d.2 lo fun a=>
aW .neq 32 false true k (iA 0) fun s=>aX s (aQ 28 f a fun h=>
cg 28 f (b7 f a h) a lo fun l=>
cg 32 x5 (b7 x5 l k) l lo fun e=>Fz e b (some (Out.ret (bA false),List.set e b (aC.rng (jW.done It.ret))))) (aQ 25 d.1 a fun h=>
bT 28 g 0 a fun o=>
cg 25 o (b7 o a h) a lo fun e=>Fz e b (some (Out.ret (bA true),List.set e b (aC.rng jW.ready)))))) else none:=r8
end Go.Proofs.YtebkhfhcipnfgaaGreat
