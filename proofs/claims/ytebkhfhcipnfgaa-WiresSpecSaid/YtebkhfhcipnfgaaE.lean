/-
 What the interpreter does with the program's functions: equations, by a tool; the kernel checks each.
-/
import Derived.Test.YtebkhfhcipnfgaaEvLaw
import Derived.Test.YtebkhfhcipnfgaaRows
namespace Go.Proofs.Ytebkhfhcipnfgaa
open Go.Proofs.Try (prog)
set_option linter.unusedVariables false
set_option linter.unusedSimpArgs false
set_option maxHeartbeats 4000000
set_option maxRecDepth 100000
set_option linter.defProp false
theorem r8 {α:Sort _} {a b:α} (h:a=b:=by kernel_rfl):a=b:=h
def De:List ((Nat×Nat)×List Nat):=[((5,30),[1,2,3,6,7,9,11,63,64,65,117,118,119]),((5,23),[1,2,3,6,7,9,10,11,12,63,64,65,89,90,91]),((5,16),[1,2,3,6,7,9,10,11,12,63,64,65,75,76,77]),((5,11),[1,2,3,6,7,63,64,65]),((6,11),[4,8,39,40,41]),((8,5),[1,2,4]),((13,11),[1,2,3,48,49,50]),((13,5),[1,2,3,31,32,33]),((14,10),[1,2,5]),((14,4),[1,2,3]),((18,4),[0,1,4,5]),((19,39),[2,3,6,7,14,15,16,162,163,164]),((19,27),[1,2,3,6,7,14,15,16,83,84,85]),((19,16),[1,2,3,6,7,8,54,55,56]),((19,7),[1,2,3,6,7,8,9,33,34,35]),((20,48),[0,4,7,405,406]),((22,9),[0,1,4,5,6]),((22,4),[0,1,4,5]),((26,3),[2,3,9,10,11]),((33,4),[1,2,15,16,17]),((34,11),[1,2,8,11,57,58,59]),((34,4),[1,2,3,4,8,27,28,29]),((35,9),[2,3,6,53,54,55]),((37,9),[1,2,4]),((37,4),[1,2,3]),((38,10),[1,2,4,5,7]),((38,5),[1,2,4,5,6]),((40,9),[2,3,4,6]),((40,4),[2,3,4,5]),((42,3),[0,1,2,6,7,8,9,10]),((47,6),[2,3,4,6,7]),((50,1000003),[2,4,5]),((54,30),[0,4,6,9,11,15,16,17,177,178,179,185,186,187]),((54,26),[0,4,6,9,11,177,178,179]),((54,15),[0,3,4,6,9,11,98,99,100]),((54,5),[0,3,4,5,6,7,30,31]),((55,4),[0,1,4,5]),((61,3),[0,2,3,4]),((65,2),[0,1,4,9,10,11]),((77,2),[0,1,4,7,8]),((78,4),[0,2,3,6,10,11,12,21,22,23]),((78,1),[0,2,3,10,11,12]),((81,3),[0,4,5,10,11]),((82,3),[1,4,5,9,10,11]),((86,8),[1,2,3,4]),((88,2),[0,1,4,7,8]),((91,11),[0,1,4,36,37]),((93,2),[0,3,4,7,8]),((95,21),[0,1,4,7,8,9]),((96,7),[2,3,55,56,57]),((98,1),[0,1,4]),((101,3),[0,2,5,17,18,19]),((102,8),[1,2,3]),((103,5),[1,2,3,4]),((109,3),[0,2,3]),((111,1),[0,2,3]),((113,3),[0,2,3,4])]
def Ju (f r:Nat):List Nat:=uj f r De
def F0:List ((Nat×Nat)×List (Nat×Nat×Nat)):=[((91,11),[(4,4,5)]),((91,3000000),[(4,4,0)]),((95,21),[(8,4,5)]),((95,3000000),[(4,4,0)]),((100,2000001),[(3,0,0)]),((61,3),[(3,4,5)]),((26,3),[(3,4,5)]),((47,6),[(6,0,2)]),((19,27),[(16,0,2)]),((19,39),[(6,3,4)]),((45,3000000),[(2,0,5)]),((46,3000000),[(2,0,500004)])]
def MI (f r:Nat):List (Nat×Nat×Nat):=A3 f r F0
def F6:List (Nat×Nat):=[(33,115),(57,137)]
def MK (f t:Nat):Bool:=vK f t F6
def Ky:List (Nat×Nat):=[(46,7)]
def S4 (f t:Nat):Bool:=vK f t Ky
def Dh:List (Nat×Nat):=[(11,10),(12,13),(78,43)]
def Jv (f t:Nat):Bool:=vK f t Dh
def Dd:List ((Nat×Nat)×List Nat):=[]
def Jt (f r:Nat):List Nat:=uj f r Dd
def Ge:List (Nat×Nat):=[(91,3),(95,2),(101,5),(98,1000)]
def MP (k:Nat):Nat:=E3 k Ge
def Gs:List (Nat×Nat):=[(45,0),(84,0)]
def MZ (k:Nat):Bool:=vK k 0 Gs
noncomputable def cx (C:Nat->List A->Option A):Cx:={ P:=prog,glob:=fun _=>none,isOrc:=fun k=>BV k [20,44,45,46,50,54,57,65,78,84,89,90,91,92,95,97,98,100,101,107,109,110,112,113],isOrcV:=fun k=>BV k [20,44,45,46,50,54,57,65,78,84,89,90,91,92,95,97,98,100,101,107,109,110,112,113],C:=C,keep:=Ju,wrAt:=S4,acts:=MI,loud:=Jv,arr:=MK,join:=Jt,cut:=MP,fre:=MZ,deep:=fun k=>iU k [] }
theorem Fq:Nat.ble prog.funcs.size 57=false:=r8
theorem Jx:Nat.ble prog.funcs.size 65=false:=r8
theorem Jy:Nat.ble prog.funcs.size 84=false:=r8
theorem Fs:Nat.ble prog.funcs.size 89=false:=r8
theorem ov:Nat.ble prog.funcs.size 92=false:=r8
theorem BP:Nat.ble prog.funcs.size 97=false:=r8
theorem pF:Nat.ble prog.funcs.size 98=false:=r8
theorem xl:Nat.ble prog.funcs.size 100=false:=r8
theorem GA:Nat.ble prog.funcs.size 101=false:=r8
theorem xm:Nat.ble prog.funcs.size 107=false:=r8
theorem xn:Nat.ble prog.funcs.size 109=false:=r8
theorem BN:Nat.ble prog.funcs.size 110=false:=r8
theorem BO:Nat.ble prog.funcs.size 112=false:=r8
theorem xo:Nat.ble prog.funcs.size 113=false:=r8
variable (C:Nat->List A->Option A) (call:bj) (rg:bj->bj)
variable (n lo L:Nat) (kx kg:Nat->St->Option R) (kr:St->Option R) (kp:A->St->Option R) (m:Nat) (H:ay)
noncomputable abbrev eY {β:Type} (l:List A) (k:A->A->List A->Option β):Option β:=bf l fun a l=>bf l fun b l=>k a b l
noncomputable abbrev dz {β:Type} (l:List A) (k:A->A->A->A->List A->Option β):Option β:=eY l fun a b l=>eY l fun c d l=>k a b c d l
noncomputable abbrev oI {β:Type} (l:List A) (k:A->A->A->A->A->A->A->A->List A->Option β):Option β:=dz l fun a b c d l=>dz l fun e f g h l=>k a b c d e f g h l
noncomputable abbrev ld:=lY prog
noncomputable abbrev Pv:=fg prog
noncomputable abbrev S1:=jL prog
noncomputable abbrev bin:=jx prog
noncomputable abbrev RH:=kU prog
noncomputable abbrev fl {β:Type} (t:TypeId) (x:A) (i:Nat) (u:TypeId) (H:ay) (k:A->Option β):Option β:=(Pv t x i H).bind fun a=>(ld u a H).bind k
noncomputable abbrev aR {β:Type} (t:TypeId) (a:A) (H:ay) (k:A->Option β):Option β:=(ld t a H).bind k
noncomputable abbrev bT {β:Type} (t:TypeId) (a:A) (i:Nat) (H:ay) (k:A->Option β):Option β:=(Pv t a i H).bind k
noncomputable abbrev cK {β:Type} (t:TypeId) (a v:A) (H:ay) (lo:Nat) (k:ay->Option β):Option β:=(S1 t a v H lo).bind k
noncomputable abbrev aU {β:Type} (o:BinOp) (t:TypeId) (i j:Bool) (x y:A) (k:A->Option β):Option β:=(bin o t i j x y).bind k
noncomputable abbrev fq {β:Type} (t:TypeId) (H:ay) (k:A×ay->Option β):Option β:=(RH t H).bind k
noncomputable abbrev je {β:Type} (x:A) (H:ay) (k:A×ay->Option β):Option β:=(wK x H).bind k
noncomputable abbrev iW {β:Type} (x:A) (H:ay) (k:A->Option β):Option β:=(zh x H).bind k
noncomputable abbrev dR {β:Type} (t:TypeId) (x i:A) (H:ay) (k:A->Option β):Option β:=(dF prog t x i H).bind k
noncomputable abbrev eG {β:Type} (x:A) (i:Nat) (k:A->Option β):Option β:=(lX x i).bind k
noncomputable abbrev dS {β:Type} (t:TypeId) (x:A) (H:ay) (k:A->Option β):Option β:=(qb prog t x H).bind k
noncomputable abbrev iT {β:Type} (t:TypeId) (l:List (Nat×A)) (k:A->Option β):Option β:=(tr prog t l).bind k
noncomputable abbrev lR {β:Type} (L:Nat) (H:ay) (k:ay->Option β):Option β:=(trim L H).bind k
noncomputable abbrev rF {β:Type} {γ:Type} (c:A) (w:Bool) (x y:Option γ) (k:γ->Option β):Option β:=(oH c w x y).bind k
abbrev lk (s:St) (i:Nat):A:=look (St.fr s) i
abbrev ud:A:=A.v undef
theorem e3 (h i j:A):aF (cx C) call rg n 3 [h,i,j] H lo =
je i H fun c=>
je j c.2 fun b=>
(C 7 []).bind fun t2=>
(iL prog UnOp.not t2).bind fun t3=>bk t3 (some (Out.ret (bA false),b.2)) (aR 28 c.1 b.2 fun t4=>
(C 8 [snap b.2 t4]).bind fun t5=>
(iL prog UnOp.not t5).bind fun t6=>bk t6 (some (Out.ret (bA true),b.2)) (aR 28 c.1 b.2 fun t7=>
aR 30 b.1 b.2 fun t8=>
(C 9 [snap b.2 t7,snap b.2 t8]).bind fun k=>
eG k 0 fun a9=>
eG k 1 fun l=>
fq 28 b.2 fun d=>
cK 28 d.1 (cD d.1 d.2 a9) d.2 lo fun e=>
aR 28 c.1 e fun aa=>
aR 30 b.1 e fun ab=>
(C 10 [snap e aa,snap e ab]).bind fun o=>
eG o 0 fun ad=>
eG o 1 fun p=>
fq 28 e fun f=>
cK 28 f.1 (cD f.1 f.2 ad) f.2 lo fun q=>
(C 11 [snap q h]).bind fun r=>
eG r 0 fun ae=>
eG r 1 fun af=>
fq 28 q fun g=>
cK 28 g.1 (cD g.1 g.2 ae) g.2 lo fun s=>
(C 12 [snap s h]).bind fun t=>
eG t 0 fun ag=>
eG t 1 fun ah=>
fq 28 s fun FF=>
cK 28 FF.1 (cD FF.1 FF.2 ag) FF.2 lo fun a=>
aR 28 c.1 a fun ai=>
(C 13 [snap a ai]).bind fun aj=>
aR 28 c.1 a fun ak=>
(C 14 [snap a ak]).bind fun al=>
aU .eql 33 false false aj al fun am=>
(cu am (aR 28 d.1 a fun u=>
aR 28 f.1 a fun v=>
(C 15 [snap a u,snap a v]).bind fun w=>some [w,w,v,u]) (some [bA false,ud,ud,ud])).bind fun an=>dz an fun ao az b0 b1 b2=>
(cu ao (aU .eql 33 false false l p fun x=>some [x,x,p,l]) (some [bA false,ud,ud,ud])).bind fun ap=>dz ap fun aq b3 b4 b5 b6=>
(cu aq (aR 28 g.1 a fun y=>
aR 28 FF.1 a fun z=>
(C 15 [snap a y,snap a z]).bind fun a0=>some [a0,a0,z,y]) (some [bA false,ud,ud,ud])).bind fun ar=>dz ar fun a1 b7 b8 b9 ba=>
rF a1 true (some [ah,af]) (some [ud,ud]) fun au=>eY au fun av aw bb=>
(cu a1 (aU .eql 33 false false aw av fun a2=>some [a2,a2]) (some [bA false,ud])).bind fun ax=>eY ax fun ay bc bd=>some (Out.ret ay,a))):=r8
theorem e7:aF (cx C) call rg n 7 [] H lo =
(C 11 [snap H (iA 2)]).bind fun t0=>
eG t0 0 fun t1=>
eG t0 1 fun t2=>
fq 28 H fun c=>
cK 28 c.1 (cD c.1 c.2 t1) c.2 lo fun H4=>
(C 11 [snap H4 (iA 0)]).bind fun t5=>
eG t5 0 fun t6=>
eG t5 1 fun t7=>
fq 28 H4 fun v=>
cK 28 v.1 (cD v.1 v.2 t6) v.2 lo fun H9=>
(C 11 [snap H9 (iA 13)]).bind fun ap=>
eG ap 0 fun ed=>
eG ap 1 fun aq=>
fq 28 H9 fun w=>
cK 28 w.1 (cD w.1 w.2 ed) w.2 lo fun x=>
aR 28 c.1 x fun ee=>
iT 30 [(3,iA 9)] fun ef=>
(C 9 [snap x ee,snap x ef]).bind fun ar=>
eG ar 0 fun eg=>
eG ar 1 fun au=>
fq 28 x fun y=>
cK 28 y.1 (cD y.1 y.2 eg) y.2 lo fun z=>
aR 28 c.1 z fun eh=>
(C 21 [snap z eh,snap z (iA 0)]).bind fun av=>
eG av 0 fun ei=>
eG av 1 fun aw=>
fq 28 z fun a0=>
cK 28 a0.1 (cD a0.1 a0.2 ei) a0.2 lo fun h=>
aR 28 c.1 h fun ej=>
(aN prog 50 2 [(0,cU h (iA 0)),(1,cU h (iA 2))]).bind fun ek=>
(C 19 [snap h ej,snap h (A.imm [] true),snap h ek]).bind fun ax=>
eG ax 0 fun el=>
eG ax 1 fun ay=>
fq 28 h fun a1=>
cK 28 a1.1 (cD a1.1 a1.2 el) a1.2 lo fun a2=>
aR 28 c.1 a2 fun em=>
(C 16 [snap a2 em,snap a2 (iA 0)]).bind fun a3=>
eG a3 0 fun en=>
eG a3 1 fun eo=>
eG a3 2 fun ik=>
eG a3 3 fun az=>
fq 28 a2 fun aj=>
fq 41 aj.2 fun GZ=>
cK 28 aj.1 (cD aj.1 GZ.2 en) GZ.2 lo fun b0=>
cK 41 GZ.1 (cD GZ.1 b0 eo) b0 lo fun d=>
aU .neq 33 false true t2 (iA 0) fun ep=>
(cu ep (some [bA true,ud,ud]) (aU .neq 33 false true t7 (iA 1) fun b1=>some [b1,b1,t7])).bind fun er=>eY er fun es il et=>bf et fun im io=>
(cu es (some [bA true,ud,ud]) (aU .neq 33 false true aq (iA 1) fun b2=>some [b2,b2,aq])).bind fun eu=>eY eu fun ev ip ew=>bf ew fun iq ir=>
(cu ev (some [bA true,ud,ud]) (aU .neq 33 false true au (iA 1) fun b3=>some [b3,b3,au])).bind fun ex=>eY ex fun ey it ez=>bf ez fun iu iv=>
(cu ey (some [bA true,ud,ud]) (aU .neq 33 false true aw (iA 1) fun b4=>some [b4,b4,aw])).bind fun f0=>eY f0 fun f1 iw f2=>bf f2 fun ix iy=>
(cu f1 (some [bA true,ud,ud]) (aU .neq 33 false true ay (iA 1) fun b5=>some [b5,b5,ay])).bind fun f3=>eY f3 fun f4 iz f5=>bf f5 fun j0 j1=>
(cu f4 (some [bA true,ud,ud]) (aU .neq 33 false true az (iA 1) fun b6=>some [b6,b6,az])).bind fun f6=>eY f6 fun f7 j2 f8=>bf f8 fun j3 j4=>
(cu f7 (some [bA true,ud,ud,ud,ud]) (bT 28 c.1 1 d fun b7=>
aR 26 b7 d fun b8=>
dS 26 b8 d fun b9=>
aU .neq 3 false true b9 (iA 2) fun ba=>some [ba,ba,b9,b8,b7])).bind fun f9=>dz f9 fun fa j5 j6 j7 fb=>bf fb fun j8 j9=>
(cu fa (some [bA true,ud,ud,ud]) (aR 28 c.1 d fun bb=>
(C 13 [snap d bb]).bind fun bc=>
aU .neq 33 false true bc (iA 0) fun bd=>some [bd,bd,bc,bb])).bind fun fc=>dz fc fun fd ja jb jc jd=>
(cu fd (some [bA true,ud,ud,ud]) (iT 28 [] fun be=>
(C 13 [snap d be]).bind fun bg=>
aU .neq 33 false true bg (iA 490) fun bh=>some [bh,bh,bg,be])).bind fun fe=>dz fe fun ff je jf jg jh=>bk ff (some (Out.ret (bA false),d)) (aR 28 c.1 d fun fg=>
iT 30 [(0,iA 4),(3,iA 2)] fun fh=>
(C 9 [snap d fg,snap d fh]).bind fun bi=>
eG bi 0 fun fi=>
eG bi 1 fun fj=>
fq 28 d fun l=>
cK 28 l.1 (cD l.1 l.2 fi) l.2 lo fun a4=>
aR 28 l.1 a4 fun fk=>
iT 30 [(0,iA 5),(3,iA 3)] fun fm=>
(C 9 [snap a4 fk,snap a4 fm]).bind fun bj=>
eG bj 0 fun fn=>
eG bj 1 fun bl=>
fq 28 a4 fun o=>
cK 28 o.1 (cD o.1 o.2 fn) o.2 lo fun a5=>
aR 28 o.1 a5 fun fo=>
iT 30 [(0,iA 6),(1,iA 1),(3,iA 3)] fun fp=>
(C 9 [snap a5 fo,snap a5 fp]).bind fun bm=>
eG bm 0 fun fr=>
eG bm 1 fun bn=>
fq 28 a5 fun p=>
cK 28 p.1 (cD p.1 p.2 fr) p.2 lo fun a6=>
aR 28 p.1 a6 fun fs=>
(C 16 [snap a6 fs,snap a6 (iA 1)]).bind fun a7=>
eG a7 0 fun ft=>
eG a7 1 fun fu=>
eG a7 2 fun bo=>
eG a7 3 fun bp=>
fq 28 a6 fun a8=>
fq 41 a8.2 fun a9=>
cK 28 a8.1 (cD a8.1 a9.2 ft) a9.2 lo fun bq=>
cK 41 a9.1 (cD a9.1 bq fu) bq lo fun aa=>
aR 28 a8.1 aa fun fv=>
(C 16 [snap aa fv,snap aa (iA 0)]).bind fun ab=>
eG ab 0 fun fw=>
eG ab 1 fun fx=>
eG ab 2 fun ji=>
eG ab 3 fun br=>
fq 28 aa fun e=>
fq 41 e.2 fun ad=>
cK 28 e.1 (cD e.1 ad.2 fw) ad.2 lo fun bs=>
cK 41 ad.1 (cD ad.1 bs fx) bs lo fun i=>
aR 28 e.1 i fun fy=>
(aN prog 50 2 [(0,cU i (iA 0)),(1,cU i (iA 1))]).bind fun fz=>
(C 19 [snap i fy,snap i (A.imm [] true),snap i fz]).bind fun bt=>
eG bt 0 fun g0=>
eG bt 1 fun bu=>
fq 28 i fun f=>
cK 28 f.1 (cD f.1 f.2 g0) f.2 lo fun j=>
aR 28 e.1 j fun g1=>
(aN prog 50 2 [(0,cU j (iA 0)),(1,cU j (iA 0))]).bind fun g2=>
(C 19 [snap j g1,snap j (A.imm [] true),snap j g2]).bind fun bv=>
eG bv 0 fun g3=>
eG bv 1 fun bw=>
fq 28 j fun q=>
cK 28 q.1 (cD q.1 q.2 g3) q.2 lo fun g=>
aR 28 e.1 g fun g4=>
(aN prog 50 1 [(0,cU g (iA 0))]).bind fun g5=>
(aN prog 50 2 [(0,cU g (iA 0)),(1,cU g (iA 1))]).bind fun g6=>
(C 19 [snap g g4,snap g g5,snap g g6]).bind fun bx=>
eG bx 0 fun g7=>
eG bx 1 fun bz=>
fq 28 g fun r=>
cK 28 r.1 (cD r.1 r.2 g7) r.2 lo fun a=>
aU .neq 33 false true fj (iA 0) fun g8=>
(cu g8 (some [bA true,ud,ud]) (aU .neq 33 false true bl (iA 0) fun c0=>some [c0,c0,bl])).bind fun g9=>eY g9 fun ga jj gb=>bf gb fun jk jl=>
(cu ga (some [bA true,ud,ud]) (aU .neq 33 false true bn (iA 0) fun c1=>some [c1,c1,bn])).bind fun gc=>eY gc fun gd jm ge=>bf ge fun jn jo=>
(cu gd (some [bA true,ud,ud]) (aU .neq 33 false true bp (iA 0) fun c2=>some [c2,c2,bp])).bind fun gf=>eY gf fun gg jp gh=>bf gh fun jq jr=>
(cu gg (some [bA true,ud,ud]) (aU .neq 33 false true br (iA 0) fun c3=>some [c3,c3,br])).bind fun gi=>eY gi fun gj js gk=>bf gk fun jt ju=>
(cu gj (some [bA true,ud,ud]) (aU .neq 33 false true bu (iA 0) fun c4=>some [c4,c4,bu])).bind fun gl=>eY gl fun gm jv gn=>bf gn fun jw jx=>
(cu gm (some [bA true,ud,ud]) (aU .neq 33 false true bw (iA 0) fun c5=>some [c5,c5,bw])).bind fun go=>eY go fun gp jy gq=>bf gq fun jz k0=>
(cu gp (some [bA true,ud,ud]) (aU .neq 33 false true bz (iA 0) fun c6=>some [c6,c6,bz])).bind fun gr=>eY gr fun gs k1 gt=>bf gt fun k2 k3=>
(cu gs (some [bA true,ud]) (some [bo,bo])).bind fun gu=>eY gu fun gv k4 k5=>bk gv (some (Out.ret (bA false),a)) (fl 28 e.1 1 26 a fun gw=>
dS 26 gw a fun gx=>
aU .neq 3 false true gx (iA 2) fun gy=>
(cu gy (some [bA true,ud,ud,ud,ud,ud,ud,ud]) (bT 28 e.1 1 a fun c7=>
aR 26 c7 a fun c8=>
dR 26 c8 (iA 0) a fun c9=>
bT 55 c9 0 a fun ca=>
aR 53 ca a fun cb=>
dS 53 cb a fun cc=>
aU .neq 3 false true cc (iA 1) fun cd=>some [cd,cd,cc,cb,ca,c9,c8,c7])).bind fun gz=>oI gz fun h0 k6 k7 k8 k9 ka kb kc kd=>
(cu h0 (some [bA true,ud,ud,ud,ud,ud,ud,ud,ud,ud]) (bT 28 e.1 1 a fun ce=>
aR 26 ce a fun cf=>
dR 26 cf (iA 0) a fun cg=>
bT 55 cg 0 a fun ch=>
aR 53 ch a fun ci=>
dR 53 ci (iA 0) a fun cj=>
aR 30 cj a fun ck=>
iT 30 [(0,iA 5),(3,iA 3)] fun cl=>
aU .neq 30 false false ck cl fun cm=>some [cm,cm,cl,ck,cj,ci,ch,cg,cf,ce])).bind fun h1=>oI h1 fun h2 ke kf kh ki kj kk kl h3=>eY h3 fun km kn ko=>
(cu h2 (some [bA true,ud,ud,ud,ud,ud]) (bT 28 e.1 0 a fun cn=>
bT 25 cn 0 a fun co=>
aR 22 co a fun cp=>
dS 22 cp a fun cq=>
aU .neq 3 false true cq (iA 1) fun cr=>some [cr,cr,cq,cp,co,cn])).bind fun h4=>dz h4 fun h5 kq ks kt h6=>eY h6 fun ku kv kw=>bk h5 (some (Out.ret (bA false),a)) (fl 28 f.1 1 26 a fun h7=>
(aN prog 50 1 [(0,cU a (iA 3))]).bind fun h8=>
(aN prog 50 1 [(0,cU a (iA 3))]).bind fun h9=>
iT 55 [(1,h8),(2,h9)] fun ha=>
(aN prog 50 1 [(0,cU a (iA 0))]).bind fun hb=>
(aN prog 50 1 [(0,cU a (iA 0))]).bind fun hc=>
iT 55 [(1,hb),(2,hc)] fun hd=>
(aN prog 26 2 [(0,cU a ha),(1,cU a hd)]).bind fun he=>
(C 22 [snap a h7,snap a he]).bind fun hf=>
(iL prog UnOp.not hf).bind fun hg=>
(cu hg (some [bA true,ud,ud,ud,ud,ud,ud,ud,ud,ud,ud,ud]) (bT 28 q.1 1 a fun cs=>
aR 26 cs a fun ct=>
(aN prog 50 1 [(0,cU a (iA 3))]).bind fun cv=>
(aN prog 50 1 [(0,cU a (iA 0))]).bind fun cw=>
iT 55 [(1,cv),(2,cw)] fun cy=>
(aN prog 50 1 [(0,cU a (iA 0))]).bind fun cz=>
(aN prog 50 1 [(0,cU a (iA 0))]).bind fun d0=>
iT 55 [(1,cz),(2,d0)] fun d1=>
(aN prog 26 2 [(0,cU a cy),(1,cU a d1)]).bind fun d2=>
(C 22 [snap a ct,snap a d2]).bind fun d3=>
(iL prog UnOp.not d3).bind fun d4=>some [d4,d4,d3,d2,d1,d0,cz,cy,cw,cv,ct,cs])).bind fun hh=>oI hh fun hi ky kz l0 l1 l2 l3 l4 hj=>dz hj fun l5 l6 l7 l8 l9=>
(cu hi (some [bA true,ud,ud,ud,ud,ud,ud,ud,ud,ud,ud,ud]) (bT 28 r.1 1 a fun d5=>
aR 26 d5 a fun d6=>
(aN prog 50 1 [(0,cU a (iA 0))]).bind fun d7=>
(aN prog 50 1 [(0,cU a (iA 0))]).bind fun d8=>
iT 55 [(1,d7),(2,d8)] fun d9=>
(aN prog 50 1 [(0,cU a (iA 0))]).bind fun da=>
(aN prog 50 1 [(0,cU a (iA 0))]).bind fun db=>
iT 55 [(1,da),(2,db)] fun dc=>
(aN prog 26 2 [(0,cU a d9),(1,cU a dc)]).bind fun dd=>
(C 22 [snap a d6,snap a dd]).bind fun de=>
(iL prog UnOp.not de).bind fun df=>some [df,df,de,dd,dc,db,da,d9,d8,d7,d6,d5])).bind fun hk=>oI hk fun hl la lb lc ld le lf lg hm=>dz hm fun lh li lj lk ll=>bk hl (some (Out.ret (bA false),a)) (aR 28 f.1 a fun hn=>
(C 16 [snap a hn,snap a (iA 0)]).bind fun ae=>
eG ae 0 fun ho=>
eG ae 1 fun hp=>
eG ae 2 fun lm=>
eG ae 3 fun hq=>
fq 28 a fun s=>
fq 41 s.2 fun af=>
cK 28 s.1 (cD s.1 af.2 ho) af.2 lo fun dg=>
cK 41 af.1 (cD af.1 dg hp) dg lo fun b=>
aU .neq 33 false true hq (iA 0) fun hr=>
(cu hr (some [bA true,ud,ud,ud]) (bT 28 f.1 2 b fun dh=>
aR 3 dh b fun di=>
aU .neq 3 false true di (iA 1) fun dj=>some [dj,dj,di,dh])).bind fun hs=>dz hs fun ht ln lp lq lr=>
(cu ht (some [bA true,ud,ud,ud,ud,ud]) (bT 28 f.1 0 b fun dk=>
bT 25 dk 0 b fun dl=>
aR 22 dl b fun dm=>
dS 22 dm b fun dn=>
aU .neq 3 false true dn (iA 3) fun dp=>some [dp,dp,dn,dm,dl,dk])).bind fun hu=>dz hu fun hv ls lt lu hw=>eY hw fun lv lw lx=>
(cu hv (some [bA true,ud,ud,ud,ud,ud,ud]) (bT 28 s.1 1 b fun dq=>
aR 26 dq b fun dr=>
bT 28 f.1 1 b fun ds=>
aR 26 ds b fun dt=>
(C 22 [snap b dr,snap b dt]).bind fun du=>
(iL prog UnOp.not du).bind fun dv=>some [dv,dv,du,dt,ds,dr,dq])).bind fun hx=>dz hx fun hy ly lz m0 hz=>eY hz fun m1 m2 i0=>bf i0 fun m3 m4=>bk hy (some (Out.ret (bA false),b)) (aR 28 s.1 b fun i1=>
(C 16 [snap b i1,snap b (iA 0)]).bind fun ag=>
eG ag 0 fun i2=>
eG ag 1 fun i3=>
eG ag 2 fun dw=>
eG ag 3 fun i4=>
fq 28 b fun ah=>
fq 41 ah.2 fun t=>
cK 28 ah.1 (cD ah.1 t.2 i2) t.2 lo fun dx=>
cK 41 t.1 (cD t.1 dx i3) dx lo fun ai=>
aR 28 ah.1 ai fun i5=>
(C 21 [snap ai i5,snap ai (iA 0)]).bind fun dy=>
eG dy 0 fun i6=>
eG dy 1 fun e0=>
fq 28 ai fun u=>
cK 28 u.1 (cD u.1 u.2 i6) u.2 lo fun k=>
aU .eql 33 false true i4 (iA 0) fun i7=>
(cu i7 (aU .eql 33 false true e0 (iA 0) fun e1=>some [e1,e1,e0]) (some [bA false,ud,ud])).bind fun i8=>eY i8 fun i9 m5 ia=>bf ia fun m6 m7=>
(cu i9 (some [dw,dw]) (some [bA false,ud])).bind fun ib=>eY ib fun ic m8 m9=>
(cu ic (aR 41 t.1 k fun e2=>
iT 41 [(2,iA 3)] fun e3=>
aU .eql 41 false false e2 e3 fun e4=>some [e4,e4,e3,e2]) (some [bA false,ud,ud,ud])).bind fun ie=>dz ie fun ig ma mb mc md=>
(cu ig (bT 28 u.1 0 k fun e5=>
bT 25 e5 0 k fun e6=>
aR 22 e6 k fun e8=>
dS 22 e8 k fun e9=>
aU .eql 3 false true e9 (iA 2) fun ea=>some [ea,ea,e9,e8,e6,e5]) (some [bA false,ud,ud,ud,ud,ud])).bind fun ih=>dz ih fun ii me mf mg ij=>eY ij fun mh mi mj=>some (Out.ret ii,k)))))):=r8
theorem e8 (d:A):aF (cx C) call rg n 8 [d] H lo =
je d H fun a=>
fl 28 a.1 0 25 a.2 fun t2=>
(C 23 [snap a.2 t2]).bind fun j=>
(iL prog UnOp.not j).bind fun k=>
(cu k (some [bA true,ud,ud,ud,ud]) (bT 28 a.1 1 a.2 fun e=>
aR 26 e a.2 fun f=>
dS 26 f a.2 fun g=>
aU .gtr 3 false true g (iA 20) fun h=>some [h,h,g,f,e])).bind fun l=>dz l fun o q r s p=>bf p fun t u=>bk o (some (Out.ret (bA false),a.2)) (aK (cx C) call rg n 8 lo 0 (List.length a.2) (fun b c=>bif Nat.beq b 0 then some (Out.ret (bA true),St.H c) else none) (fun b c=>none) (fun i=>some (Out.ret (lk i 2),St.H i)) (fun b c=>some (Out.pan b,St.H c)) n (St.mk [(1,a.1),(2,bA false),(4,iA 0)] a.2)):=r8
theorem e9 (l o:A):aF (cx C) call rg n 9 [l,o] H lo =
je l H fun b=>
je o b.2 fun d=>
fq 28 d.2 fun a=>
aR 28 b.1 a.2 fun x=>
(C 13 [snap a.2 x]).bind fun p=>
aU .neq 33 false true p (iA 0) fun y=>bk y (aR 28 a.1 a.2 fun h=>
cK 28 a.1 (cD a.1 a.2 h) a.2 lo fun q=>
aR 28 a.1 q fun i=>some (Out.ret (A.tup [i,p]),q)) (aR 30 d.1 a.2 fun h=>
fl 28 b.1 1 26 a.2 fun i=>
dS 26 i a.2 fun z=>
(C 24 [snap a.2 h,snap a.2 z]).bind fun a0=>
(iL prog UnOp.not a0).bind fun a1=>bk a1 (aR 28 a.1 a.2 fun f=>
cK 28 a.1 (cD a.1 a.2 f) a.2 lo fun r=>
aR 28 a.1 r fun g=>some (Out.ret (A.tup [g,iA 1]),r)) (bT 28 b.1 0 a.2 fun f=>
aR 25 f a.2 fun a2=>
bT 30 d.1 1 a.2 fun g=>
aR 3 g a.2 fun a3=>
aU .add 3 false true a3 (iA 1) fun a4=>
aR 30 d.1 a.2 fun a5=>
iT 75 [(0,iA 1),(1,a5)] fun a6=>
(C 26 [snap a.2 a6]).bind fun a7=>
iT 48 [(1,a4),(2,a7)] fun a8=>
(C 25 [snap a.2 a2,snap a.2 a8]).bind fun s=>
eG s 0 fun a9=>
eG s 1 fun t=>bif bif apart d.1 A.any then bif apart g A.any then bif apart d.1 A.any then bif apart f A.any then bif apart b.1 A.any then true else false else false else false else false else false then
fq 25 a.2 fun e=>
cK 25 e.1 (cD e.1 e.2 a9) e.2 lo fun c=>
aU .neq 33 false true t (iA 0) fun aa=>bk aa (aR 28 a.1 c fun j=>
cK 28 a.1 (cD a.1 c j) c lo fun u=>
aR 28 a.1 u fun ab=>some (Out.ret (A.tup [ab,t]),u)) (aR 25 e.1 c fun j=>
bT 28 b.1 0 c fun v=>
cK 25 v (cD v c j) c lo fun k=>
aR 28 b.1 k fun ad=>
cK 28 a.1 (cD a.1 k ad) k lo fun w=>
aR 28 a.1 w fun ae=>some (Out.ret (A.tup [ae,iA 0]),w)) else none)):=r8
theorem RJ (j k:A):aF (cx C) call rg n 10 [j,k] H lo =
je j H fun b=>
je k b.2 fun e=>
fq 28 e.2 fun a=>
aR 28 b.1 a.2 fun t=>
(C 14 [snap a.2 t]).bind fun l=>
aU .neq 33 false true l (iA 0) fun u=>bk u (iT 28 [] fun f=>
cK 28 a.1 (cD a.1 a.2 f) a.2 lo fun o=>
aR 28 a.1 o fun g=>some (Out.ret (A.tup [g,l]),o)) (aR 30 e.1 a.2 fun f=>
fl 28 b.1 1 26 a.2 fun g=>
dS 26 g a.2 fun v=>
(C 27 [snap a.2 f,snap a.2 v]).bind fun w=>
(iL prog UnOp.not w).bind fun x=>bk x (iT 28 [] fun y=>
cK 28 a.1 (cD a.1 a.2 y) a.2 lo fun p=>
aR 28 a.1 p fun z=>some (Out.ret (A.tup [z,iA 1]),p)) (fl 28 b.1 0 25 a.2 fun a0=>
fl 30 e.1 1 3 a.2 fun a1=>
aU .add 3 false true a1 (iA 1) fun a2=>
aR 30 e.1 a.2 fun a3=>
(C 29 [snap a.2 a3]).bind fun a4=>
iT 48 [(0,iA 0),(1,a2),(2,a4)] fun a5=>
(C 28 [snap a.2 a0,snap a.2 a5]).bind fun q=>
eG q 0 fun a6=>
eG q 1 fun r=>
bT 28 b.1 0 a.2 fun s=>
cK 25 s (cD s a.2 a6) a.2 lo fun c=>
aU .neq 33 false true r (iA 0) fun a7=>bk a7 (iT 28 [] fun h=>
cK 28 a.1 (cD a.1 c h) c lo fun d=>
aR 28 a.1 d fun i=>some (Out.ret (A.tup [i,r]),d)) (aR 28 b.1 c fun h=>
cK 28 a.1 (cD a.1 c h) c lo fun d=>
aR 28 a.1 d fun i=>some (Out.ret (A.tup [i,iA 0]),d)))):=r8
theorem RK (b:A):aF (cx C) call rg n 11 [b] H lo =
fq 28 H fun a=>
(C 30 [snap a.2 b,snap a.2 (iA 1),snap a.2 (iA 12)]).bind fun h=>
(iL prog UnOp.not h).bind fun t2=>bk t2 (aR 28 a.1 a.2 fun c=>
cK 28 a.1 (cD a.1 a.2 c) a.2 lo fun f=>
aR 28 a.1 f fun d=>some (Out.ret (A.tup [d,iA 1]),f)) ((C 31 []).bind fun c=>
(fI prog 26 b b a.2).bind fun e=>
iT 28 [(0,c),(1,e.1)] fun d=>
cK 28 a.1 (cD a.1 e.2 d) e.2 lo fun g=>
aR 28 a.1 g fun i=>some (Out.ret (A.tup [i,iA 0]),g)):=r8
theorem RL (b:A):aF (cx C) call rg n 12 [b] H lo =
fq 28 H fun a=>
aU .lss 3 false true b (iA 1) fun h=>
(cu h (some [bA true,ud,ud]) (aU .gtr 3 false true b (iA 12) fun t2=>some [t2,t2,b])).bind fun i=>eY i fun j u4 k=>bf k fun o p=>bk j (iT 28 [] fun c=>
cK 28 a.1 (cD a.1 a.2 c) a.2 lo fun f=>
aR 28 a.1 f fun d=>some (Out.ret (A.tup [d,iA 1]),f)) ((C 32 []).bind fun c=>
(fI prog 26 b b a.2).bind fun e=>
iT 28 [(0,c),(1,e.1)] fun d=>
cK 28 a.1 (cD a.1 e.2 d) e.2 lo fun g=>
aR 28 a.1 g fun l=>some (Out.ret (A.tup [l,iA 0]),g)):=r8
theorem RM (f:A):aF (cx C) call rg n 13 [f] H lo =
je f H fun a=>
fl 28 a.1 1 26 a.2 fun t2=>
dS 26 t2 a.2 fun g=>
(C 30 [snap a.2 g,snap a.2 (iA 1),snap a.2 (iA 12)]).bind fun v=>
(iL prog UnOp.not v).bind fun w=>
(cu w (some [bA true,ud,ud,ud,ud]) (bT 28 a.1 2 a.2 fun h=>
aR 3 h a.2 fun i=>
(C 30 [snap a.2 i,snap a.2 (iA 0),snap a.2 (iA 4096)]).bind fun j=>
(iL prog UnOp.not j).bind fun k=>some [k,k,j,i,h])).bind fun x=>dz x fun y u8 u9 a8 z=>bf z fun a9 aa=>
(cu y (some [bA true,ud,ud,ud,ud]) (bT 28 a.1 0 a.2 fun l=>
aR 25 l a.2 fun o=>
(C 33 [snap a.2 o]).bind fun p=>
aU .neq 33 false true p (iA 0) fun q=>some [q,q,p,o,l])).bind fun a0=>dz a0 fun a1 ab ad ae a2=>bf a2 fun af ag=>bk a1 (some (Out.ret (iA 490),a.2)) (fl 28 a.1 1 26 a.2 fun r=>
dS 26 r a.2 fun a3=>aK (cx C) call rg n 13 lo 0 (List.length a.2) (fun c b=>bif Nat.beq c 0 then
bT 28 (lk b 1) 0 (St.H b) fun a4=>
fl 25 a4 0 22 (St.H b) fun s=>
dS 22 s (St.H b) fun a5=>aK (cx C) call rg n 13 lo 1 (List.length (St.H b)) (fun d e=>bif Nat.beq d 2 then some (Out.ret (iA 0),St.H e) else none) (fun d e=>none) (fun t=>some (Out.ret (lk t 2),St.H t)) (fun d e=>some (Out.pan d,St.H e)) n (St.mk [(1,lk b 1),(2,lk b 2),(3,lk b 3),(48,s),(49,a5),(50,iA 0)] (St.H b)) else none) (fun c b=>none) (fun u=>some (Out.ret (lk u 2),St.H u)) (fun c b=>some (Out.pan c,St.H b)) n (St.mk [(1,a.1),(2,iA 0),(3,g),(31,r),(32,a3),(33,iA 0)] a.2)):=r8
theorem RN (f:A):aF (cx C) call rg n 14 [f] H lo =
je f H fun a=>
fl 28 a.1 1 26 a.2 fun t2=>
dS 26 t2 a.2 fun w=>
aU .lss 3 false true w (iA 1) fun x=>
(cu x (some [bA true,ud,ud,ud,ud]) (bT 28 a.1 1 a.2 fun g=>
aR 26 g a.2 fun h=>
dS 26 h a.2 fun i=>
aU .gtr 3 false true i (iA 12) fun j=>some [j,j,i,h,g])).bind fun y=>dz y fun z u7 u8 u9 l9=>bf l9 fun aa ab=>
(cu z (some [bA true,ud,ud,ud,ud]) (bT 28 a.1 2 a.2 fun k=>
aR 3 k a.2 fun l=>
(C 36 [snap a.2 l,snap a.2 (iA 0),snap a.2 (iA 4096)]).bind fun o=>
(iL prog UnOp.not o).bind fun p=>some [p,p,o,l,k])).bind fun a1=>dz a1 fun a2 ad ae af a3=>bf a3 fun ag ah=>
(cu a2 (some [bA true,ud,ud,ud,ud]) (bT 28 a.1 0 a.2 fun q=>
aR 25 q a.2 fun r=>
(C 37 [snap a.2 r]).bind fun s=>
aU .neq 33 false true s (iA 0) fun t=>some [t,t,s,r,q])).bind fun a4=>dz a4 fun a5 ai aj ak a6=>bf a6 fun al am=>bk a5 (some (Out.ret (iA 490),a.2)) (aK (cx C) call rg n 14 lo 0 (List.length a.2) (fun c b=>bif Nat.beq c 0 then aK (cx C) call rg n 14 lo 1 (List.length (St.H b)) (fun d e=>bif Nat.beq d 2 then some (Out.ret (iA 0),St.H e) else none) (fun d e=>none) (fun u=>some (Out.ret (lk u 2),St.H u)) (fun d e=>some (Out.pan d,St.H e)) n (St.mk [(1,lk b 1),(2,lk b 2),(5,iA 0)] (St.H b)) else none) (fun c b=>none) (fun v=>some (Out.ret (lk v 2),St.H v)) (fun c b=>some (Out.pan c,St.H b)) n (St.mk [(1,a.1),(2,iA 0),(3,iA 0)] a.2)):=r8
theorem RO (c d:A):aF (cx C) call rg n 15 [c,d] H lo =
je c H fun b=>
je d b.2 fun a=>
fl 28 b.1 2 3 a.2 fun q=>
fl 28 a.1 2 3 a.2 fun r=>
aU .eql 3 false false q r fun s=>
(cu s (bT 28 b.1 1 a.2 fun e=>
aR 26 e a.2 fun f=>
bT 28 a.1 1 a.2 fun g=>
aR 26 g a.2 fun h=>
(C 22 [snap a.2 f,snap a.2 h]).bind fun i=>some [i,i,h,g,f,e]) (some [bA false,ud,ud,ud,ud,ud])).bind fun t=>dz t fun u z a0 a1 v=>eY v fun a2 a3 a4=>
(cu u (bT 28 b.1 0 a.2 fun j=>
aR 25 j a.2 fun k=>
bT 28 a.1 0 a.2 fun l=>
aR 25 l a.2 fun o=>
(C 40 [snap a.2 k,snap a.2 o]).bind fun p=>some [p,p,o,l,k,j]) (some [bA false,ud,ud,ud,ud,ud])).bind fun w=>dz w fun x a5 a6 a7 y=>eY y fun a8 a9 aa=>some (Out.ret x,a.2):=r8
theorem RP (d:A):aF (cx C) call rg n 17 [d] H lo =
fq 30 H fun a=>
(C 47 [snap a.2 d]).bind fun e=>
eG e 0 fun t2=>
eG e 1 fun o=>
(iL prog UnOp.not o).bind fun p=>
(cu p (some [bA true,ud,ud,ud]) (dS 50 t2 a.2 fun f=>
aU .neq 3 false true f (iA 5) fun g=>some [g,g,f,t2])).bind fun q=>dz q fun r u7 u8 u9 l9=>
(cu r (some [bA true,ud,ud,ud,ud]) (dR 50 t2 (iA 0) a.2 fun h=>
aR 3 h a.2 fun i=>
aU .neq 3 false true i (iA 1) fun j=>some [j,j,i,h,t2])).bind fun s=>dz s fun t a7 a8 a9 u=>bf u fun aa ab=>bk t (iT 30 [] fun b=>
cK 30 a.1 (cD a.1 a.2 b) a.2 lo fun k=>
aR 30 a.1 k fun c=>some (Out.ret (A.tup [c,bA false]),k)) (dR 50 t2 (iA 1) a.2 fun b=>
aR 3 b a.2 fun v=>
dR 50 t2 (iA 2) a.2 fun c=>
aR 3 c a.2 fun w=>
dR 50 t2 (iA 3) a.2 fun x=>
aR 3 x a.2 fun y=>
dR 50 t2 (iA 4) a.2 fun z=>
aR 3 z a.2 fun a0=>
iT 30 [(0,v),(1,w),(2,y),(3,a0)] fun a1=>
cK 30 a.1 (cD a.1 a.2 a1) a.2 lo fun l=>
aR 30 a.1 l fun a2=>some (Out.ret (A.tup [a2,bA true]),l)):=r8
theorem RQ (c d:A):aF (cx C) call rg n 22 [c,d] H lo =
dS 26 c H fun f=>
dS 26 d H fun g=>
aU .neq 3 false false f g fun t2=>bk t2 (some (Out.ret (bA false),H)) (aK (cx C) call rg n 22 lo 0 (List.length H) (fun a b=>bif Nat.beq a 0 then some (Out.ret (bA true),St.H b) else none) (fun a b=>none) (fun e=>some (Out.ret (lk e 4),St.H e)) (fun a b=>some (Out.pan a,St.H b)) n (St.mk [(0,c),(1,d),(4,bA false),(5,iA 0)] H)):=r8
theorem RR (b:A):aF (cx C) call rg n 23 [b] H lo =
je b H fun a=>
fl 25 a.1 0 22 a.2 fun t2=>
dS 22 t2 a.2 fun g=>
aU .leq 3 false true g (iA 40) fun h=>
(cu h (bT 25 a.1 1 a.2 fun c=>
aR 23 c a.2 fun d=>
dS 23 d a.2 fun e=>
aU .leq 3 false true e (iA 40) fun f=>some [f,f,e,d,c]) (some [bA false,ud,ud,ud,ud])).bind fun i=>dz i fun j l o p k=>bf k fun q r=>some (Out.ret j,a.2):=r8
theorem RS (c b:A):aF (cx C) call rg n 24 [c,b] H lo =
je c H fun a=>
fl 30 a.1 0 3 a.2 fun t2=>
(C 30 [snap a.2 t2,snap a.2 (iA 0),snap a.2 (iA 1048576)]).bind fun p=>
(cu p (bT 30 a.1 1 a.2 fun d=>
aR 3 d a.2 fun e=>
aU .sub 3 false true b (iA 1) fun f=>
(C 30 [snap a.2 e,snap a.2 (iA 0),snap a.2 f]).bind fun g=>some [g,g,f,b,e,d]) (some [bA false,ud,ud,ud,ud,ud])).bind fun q=>dz q fun r x y z s=>eY s fun u9 a1 a2=>
(cu r (bT 30 a.1 2 a.2 fun h=>
aR 3 h a.2 fun i=>
(C 30 [snap a.2 i,snap a.2 (iA 0),snap a.2 (iA 4095)]).bind fun j=>some [j,j,i,h]) (some [bA false,ud,ud,ud])).bind fun t=>dz t fun u a3 a4 a5 a6=>
(cu u (bT 30 a.1 3 a.2 fun k=>
aR 3 k a.2 fun l=>
(C 30 [snap a.2 l,snap a.2 (iA 1),snap a.2 (iA 8)]).bind fun o=>some [o,o,l,k]) (some [bA false,ud,ud,ud])).bind fun v=>dz v fun w a7 a8 a9 aa=>some (Out.ret w,a.2):=r8
theorem RT (g h:A):aF (cx C) call rg n 25 [g,h] H lo =
je g H fun b=>
je h b.2 fun d=>
fq 25 d.2 fun a=>
aR 25 b.1 a.2 fun r=>
(C 33 [snap a.2 r]).bind fun s=>
aU .neq 33 false true s (iA 0) fun t=>
(cu t (some [bA true,ud,ud,ud]) (aR 48 d.1 a.2 fun i=>
(C 56 [snap a.2 i]).bind fun j=>
(iL prog UnOp.not j).bind fun k=>some [k,k,j,i])).bind fun u=>dz u fun v u8 u9 ae af=>bk v (aR 25 a.1 a.2 fun w=>
cK 25 a.1 (cD a.1 a.2 w) a.2 lo fun l=>
aR 25 a.1 l fun e=>some (Out.ret (A.tup [e,iA 60]),l)) (fl 25 b.1 0 22 a.2 fun x=>
dS 22 x a.2 fun e=>
aU .eql 3 false true e (iA 4096) fun y=>bk y (aR 25 a.1 a.2 fun z=>
cK 25 a.1 (cD a.1 a.2 z) a.2 lo fun o=>
aR 25 a.1 o fun a0=>some (Out.ret (A.tup [a0,iA 2]),o)) (fl 25 b.1 0 22 a.2 fun a1=>
fl 25 b.1 0 22 a.2 fun a2=>
dS 22 a2 a.2 fun a3=>
fl 25 b.1 0 22 a.2 fun a4=>
dS 22 a4 a.2 fun a5=>
(eI prog 22 a1 none (some a3) (some a5) a.2).bind fun a6=>
aR 48 d.1 a.2 fun a7=>
(aN prog 22 1 [(0,cU a.2 a7)]).bind fun a8=>
(bW prog 22 22 false a6 a8 a.2 lo).bind fun c=>
bT 25 b.1 0 c.2 fun p=>
cK 22 p (cD p c.2 c.1) c.2 lo fun f=>
aR 25 b.1 f fun a9=>
cK 25 a.1 (cD a.1 f a9) f lo fun q=>
aR 25 a.1 q fun aa=>some (Out.ret (A.tup [aa,iA 0]),q))):=r8
theorem RU (f:A):aF (cx C) call rg n 26 [f] H lo =
je f H fun g=>
iT 107 [(0,iA 3)] fun j=>
fq 107 g.2 fun a=>
cK 107 a.1 (cD a.1 a.2 j) a.2 lo fun k=>
(call 57 [g.1] k lo).bind fun c=>dU c.1 (fun d=>
dS 108 d c.2 fun l=>aK (cx C) call rg n 26 lo 0 (List.length (dX lo 3 5 a.1 c.2)) (fun e b=>bif Nat.beq e 0 then
aR 107 (lk b 3) (St.H b) fun o=>
(C 58 [snap (St.H b) o]).bind fun h=>
eG h 0 fun p=>
eG h 1 fun q=>some (Out.ret p,St.H b) else none) (fun e b=>none) (fun i=>some (Out.ret (lk i 2),St.H i)) (fun e b=>some (Out.pan e,St.H b)) n (St.mk [(2,A.imm [] true),(3,a.1),(9,d),(10,l),(11,iA 0)] (dX lo 3 5 a.1 c.2))) fun d=>some (Out.pan d,c.2):=r8
theorem RV (c b:A):aF (cx C) call rg n 27 [c,b] H lo =
je c H fun a=>
fl 30 a.1 0 3 a.2 fun t2=>
(C 36 [snap a.2 t2,snap a.2 (iA 0),snap a.2 (iA 1048576)]).bind fun p=>
(cu p (bT 30 a.1 1 a.2 fun d=>
aR 3 d a.2 fun e=>
aU .sub 3 false true b (iA 1) fun f=>
(C 36 [snap a.2 e,snap a.2 (iA 0),snap a.2 f]).bind fun g=>some [g,g,f,b,e,d]) (some [bA false,ud,ud,ud,ud,ud])).bind fun q=>dz q fun r x y z s=>eY s fun u9 a1 a2=>
(cu r (bT 30 a.1 2 a.2 fun h=>
aR 3 h a.2 fun i=>
(C 36 [snap a.2 i,snap a.2 (iA 0),snap a.2 (iA 4095)]).bind fun j=>some [j,j,i,h]) (some [bA false,ud,ud,ud])).bind fun t=>dz t fun u a3 a4 a5 a6=>
(cu u (bT 30 a.1 3 a.2 fun k=>
aR 3 k a.2 fun l=>
(C 36 [snap a.2 l,snap a.2 (iA 1),snap a.2 (iA 8)]).bind fun o=>some [o,o,l,k]) (some [bA false,ud,ud,ud])).bind fun v=>dz v fun w a7 a8 a9 aa=>some (Out.ret w,a.2):=r8
theorem RW (j k:A):aF (cx C) call rg n 28 [j,k] H lo =
je j H fun b=>
je k b.2 fun c=>
fq 25 c.2 fun a=>
aR 25 b.1 a.2 fun v=>
(C 37 [snap a.2 v]).bind fun w=>
aU .neq 33 false true w (iA 0) fun x=>
(cu x (some [bA true,ud,ud,ud]) (aR 48 c.1 a.2 fun l=>
(C 59 [snap a.2 l]).bind fun o=>
(iL prog UnOp.not o).bind fun p=>some [p,p,o,l])).bind fun y=>dz y fun z u8 u9 a8 a9=>bk z (iT 25 [] fun a0=>
cK 25 a.1 (cD a.1 a.2 a0) a.2 lo fun q=>
aR 25 a.1 q fun g=>some (Out.ret (A.tup [g,iA 60]),q)) (fl 25 b.1 0 22 a.2 fun a1=>
dS 22 a1 a.2 fun g=>
aU .eql 3 false true g (iA 4096) fun a2=>bk a2 (iT 25 [] fun d=>
cK 25 a.1 (cD a.1 a.2 d) a.2 lo fun r=>
aR 25 a.1 r fun h=>some (Out.ret (A.tup [h,iA 2]),r)) ((aN prog 22 0 []).bind fun d=>
fl 25 b.1 0 22 a.2 fun h=>
(bW prog 22 22 false d h a.2 lo).bind fun e=>bif bif apart c.1 d then true else false then
aR 48 c.1 e.2 fun s=>bif bif qD s then true else false then
(aN prog 22 1 [(0,cU e.2 s)]).bind fun a3=>
(bW prog 22 22 false e.1 a3 e.2 lo).bind fun f=>
bT 25 b.1 0 f.2 fun t=>
cK 22 t (cD t f.2 f.1) f.2 lo fun i=>
aR 25 b.1 i fun a4=>
cK 25 a.1 (cD a.1 i a4) i lo fun u=>
aR 25 a.1 u fun a5=>some (Out.ret (A.tup [a5,iA 0]),u) else none else none)):=r8
theorem RX (b:A):aF (cx C) call rg n 29 [b] H lo =
je b H fun a=>
fl 30 a.1 0 3 a.2 fun t2=>
fl 30 a.1 1 3 a.2 fun d=>
fl 30 a.1 2 3 a.2 fun e=>
fl 30 a.1 3 3 a.2 fun f=>
(aN prog 50 5 [(0,cU a.2 (iA 1)),(1,cU a.2 t2),(2,cU a.2 d),(3,cU a.2 e),(4,cU a.2 f)]).bind fun g=>
(C 61 [snap a.2 g]).bind fun h=>
(C 60 [snap a.2 h]).bind fun c=>
eG c 0 fun i=>
eG c 1 fun j=>some (Out.ret i,a.2):=r8
theorem RY (a c b:A):aF (cx C) call rg n 30 [a,c,b] H lo =
aU .leq 3 false false c a fun e=>
(cu e (aU .leq 3 false false a b fun d=>some [d,d,b,a]) (some [bA false,ud,ud,ud])).bind fun f=>dz f fun g h u4 i j=>some (Out.ret g,H):=r8
theorem RZ:aF (cx C) call rg n 31 [] H lo =
fq 25 H fun a=>
aR 25 a.1 a.2 fun c=>
cK 25 a.1 (cD a.1 a.2 c) a.2 lo fun b=>
aR 25 a.1 b fun d=>some (Out.ret d,b):=r8
theorem R0:aF (cx C) call rg n 32 [] H lo =
fq 25 H fun a=>
iT 25 [] fun c=>
cK 25 a.1 (cD a.1 a.2 c) a.2 lo fun b=>
aR 25 a.1 b fun d=>some (Out.ret d,b):=r8
theorem R1 (d:A):aF (cx C) call rg n 33 [d] H lo =
je d H fun a=>
fl 25 a.1 0 22 a.2 fun t2=>
dS 22 t2 a.2 fun j=>
aU .gtr 3 false true j (iA 4096) fun k=>
(cu k (some [bA true,ud,ud,ud]) (bT 25 a.1 0 a.2 fun e=>
aR 22 e a.2 fun f=>
(C 62 [snap a.2 f,snap a.2 (A.fn (Fn.func 63) [] [])]).bind fun g=>some [g,g,f,e])).bind fun l=>dz l fun o q r s t=>bk o (some (Out.ret (iA 60),a.2)) (fl 25 a.1 1 23 a.2 fun h=>
dS 23 h a.2 fun p=>aK (cx C) call rg n 33 lo 0 (List.length a.2) (fun b c=>bif Nat.beq b 0 then some (Out.ret (iA 0),St.H c) else none) (fun b c=>none) (fun i=>some (Out.ret (lk i 2),St.H i)) (fun b c=>some (Out.pan b,St.H c)) n (St.mk [(1,a.1),(2,iA 0),(15,h),(16,p),(17,iA 0)] a.2)):=r8
theorem R2 (f g h x3:A):aF (cx C) call rg n 34 [f,g,h,x3] H lo =
je f H fun a=>
fl 55 a.1 1 50 a.2 fun t2=>
dS 50 t2 a.2 fun s=>
aU .neq 3 false false s x3 fun t=>
(cu t (some [bA true,ud,ud,ud,ud,ud]) (bT 55 a.1 2 a.2 fun i=>
aR 50 i a.2 fun j=>
dS 50 j a.2 fun k=>
aU .neq 3 false false k x3 fun l=>some [l,l,x3,k,j,i])).bind fun u=>dz u fun v z u8 u9 w=>eY w fun a2 a3 a4=>bk v (some (Out.ret (bA false),a.2)) (fl 55 a.1 1 50 a.2 fun o=>
dS 50 o a.2 fun x=>aK (cx C) call rg n 34 lo 0 (List.length a.2) (fun c b=>bif Nat.beq c 0 then
fl 55 (lk b 4) 0 53 (St.H b) fun p=>
dS 53 p (St.H b) fun y=>aK (cx C) call rg n 34 lo 1 (List.length (St.H b)) (fun d e=>bif Nat.beq d 2 then some (Out.ret (bA true),St.H e) else none) (fun d e=>none) (fun q=>some (Out.ret (lk q 8),St.H q)) (fun d e=>some (Out.pan d,St.H e)) n (St.mk [(1,lk b 1),(2,lk b 2),(8,lk b 8),(11,lk b 3),(57,p),(58,y),(59,iA 0)] (St.H b)) else none) (fun c b=>none) (fun r=>some (Out.ret (lk r 8),St.H r)) (fun c b=>some (Out.pan c,St.H b)) n (St.mk [(1,g),(2,h),(3,x3),(4,a.1),(8,bA false),(27,o),(28,x),(29,iA 0)] a.2)):=r8
theorem R3 (l:A):aF (cx C) call rg n 35 [l] H lo =
fq 75 H fun b=>
(C 66 [snap b.2 l]).bind fun o=>
eG o 0 fun t2=>
eG o 1 fun t3=>
fq 107 b.2 fun e=>
cK 107 e.1 (cD e.1 e.2 t2) e.2 lo fun c=>
aU .neq 33 false true t3 (iA 0) fun t6=>
(cu t6 (some [bA true,ud,ud,ud]) (bT 107 e.1 0 c fun p=>
aR 3 p c fun q=>
aU .neq 3 false true q (iA 3) fun r=>some [r,r,q,p])).bind fun l7=>dz l7 fun u8 u9 ay az b0=>
(cu u8 (some [bA true,ud,ud,ud,ud]) (bT 107 e.1 3 c fun s=>
aR 105 s c fun t=>
dS 105 t c fun u=>
aU .eql 3 false true u (iA 0) fun v=>some [v,v,u,t,s])).bind fun ae=>dz ae fun af b1 b2 b3 ag=>bf ag fun b4 b5=>bk af (aR 75 b.1 c fun ah=>
cK 75 b.1 (cD b.1 c ah) c lo fun w=>
aR 75 b.1 w fun i=>some (Out.ret (A.tup [i,bA false]),w)) (fl 107 e.1 3 105 c fun ai=>
dR 105 ai (iA 0) c fun i=>
fl 107 i 1 3 c fun aj=>
bT 75 b.1 0 c fun x=>
cK 3 x (cD x c aj) c lo fun ak=>
(call 57 [b.1] ak lo).bind fun a=>dU a.1 (fun f=>
fl 75 b.1 0 3 a.2 fun al=>
aU .neq 3 false true al (iA 1) fun am=>
(cu am (bT 75 b.1 0 a.2 fun y=>
aR 3 y a.2 fun z=>
aU .neq 3 false true z (iA 2) fun a0=>some [a0,a0,z,y]) (some [bA false,ud,ud,ud])).bind fun an=>dz an fun ao b6 b7 b8 b9=>
(cu ao (some [bA true,ud,ud,ud,ud,ud,ud]) (bT 107 e.1 3 a.2 fun a1=>
aR 105 a1 a.2 fun a2=>
dS 105 a2 a.2 fun a3=>
dS 108 f a.2 fun a4=>
aU .neq 3 false false a3 a4 fun a5=>some [a5,a5,a4,f,a3,a2,a1])).bind fun ap=>dz ap fun aq ba bb bc ar=>eY ar fun bd be au=>bf au fun bg bh=>bk aq (aR 75 b.1 a.2 fun av=>
cK 75 b.1 (cD b.1 a.2 av) a.2 lo fun a6=>
aR 75 b.1 a6 fun j=>some (Out.ret (A.tup [j,bA false]),a6)) (fl 107 e.1 3 105 a.2 fun a7=>
dS 105 a7 a.2 fun j=>aK (cx C) call rg n 35 lo 0 (List.length a.2) (fun g d=>bif Nat.beq g 0 then
aR 75 (lk d 2) (St.H d) fun k=>
cK 75 (lk d 2) (cD (lk d 2) (St.H d) k) (St.H d) lo fun a8=>
aR 75 (lk d 2) a8 fun aw=>some (Out.ret (A.tup [aw,bA true]),a8) else none) (fun g d=>none) (fun h=>
aR 75 (lk h 2) (St.H h) fun k=>some (Out.ret (A.tup [k,lk h 3]),St.H h)) (fun g d=>some (Out.pan g,St.H d)) n (St.mk [(2,b.1),(3,bA false),(6,f),(53,a7),(54,j),(55,iA 0)] a.2))) fun f=>some (Out.pan f,a.2)):=r8
theorem R4 (a c b:A):aF (cx C) call rg n 36 [a,c,b] H lo =
aU .geq 3 false false a c fun e=>
(cu e (aU .leq 3 false false a b fun d=>some [d,d,b,a]) (some [bA false,ud,ud,ud])).bind fun f=>dz f fun g h u4 i j=>some (Out.ret g,H):=r8
theorem R5 (f:A):aF (cx C) call rg n 37 [f] H lo =
je f H fun a=>
fl 25 a.1 0 22 a.2 fun t2=>
dS 22 t2 a.2 fun i=>
aU .gtr 3 false true i (iA 4096) fun j=>bk j (some (Out.ret (iA 60),a.2)) (aK (cx C) call rg n 37 lo 0 (List.length a.2) (fun c b=>bif Nat.beq c 0 then aK (cx C) call rg n 37 lo 1 (List.length (St.H b)) (fun d e=>bif Nat.beq d 2 then some (Out.ret (iA 0),St.H e) else none) (fun d e=>none) (fun g=>some (Out.ret (lk g 2),St.H g)) (fun d e=>some (Out.pan d,St.H e)) n (St.mk [(1,lk b 1),(2,lk b 2),(4,iA 0)] (St.H b)) else none) (fun c b=>none) (fun h=>some (Out.ret (lk h 2),St.H h)) (fun c b=>some (Out.pan c,St.H b)) n (St.mk [(1,a.1),(2,iA 0),(3,iA 0)] a.2)):=r8
theorem R6 (i h:A):aF (cx C) call rg n 38 [i,h] H lo =
je i H fun c=>
fl 28 c.1 1 26 c.2 fun t2=>
dR 26 t2 h c.2 fun t=>
aR 55 t c.2 fun u=>
fq 55 c.2 fun d=>
cK 55 d.1 (cD d.1 d.2 u) d.2 lo fun a=>
fl 55 d.1 1 50 a fun v=>
dS 50 v a fun w=>
fl 28 c.1 2 3 a fun x=>
aU .neq 3 false false w x fun y=>
(cu y (some [bA true,ud,ud,ud,ud,ud,ud]) (bT 55 d.1 2 a fun j=>
aR 50 j a fun k=>
dS 50 k a fun l=>
bT 28 c.1 2 a fun o=>
aR 3 o a fun p=>
aU .neq 3 false false l p fun q=>some [q,q,p,o,l,k,j])).bind fun z=>dz z fun a0 a3 a4 a5 a1=>eY a1 fun a6 a7 a2=>bf a2 fun a8 a9=>bk a0 (some (Out.ret (bA false),a)) (aK (cx C) call rg n 38 lo 0 (List.length a) (fun e b=>bif Nat.beq e 0 then aK (cx C) call rg n 38 lo 1 (List.length (St.H b)) (fun f g=>bif Nat.beq f 2 then some (Out.ret (bA true),St.H g) else none) (fun f g=>none) (fun r=>some (Out.ret (lk r 4),St.H r)) (fun f g=>some (Out.pan f,St.H g)) n (St.mk [(1,lk b 1),(2,lk b 2),(4,lk b 4),(5,lk b 5),(7,iA 0)] (St.H b)) else none) (fun e b=>none) (fun s=>some (Out.ret (lk s 4),St.H s)) (fun e b=>some (Out.pan e,St.H b)) n (St.mk [(1,h),(2,c.1),(4,bA false),(5,d.1),(6,iA 0)] a)):=r8
theorem R7 (z x1:A):aF (cx C) call rg n 39 [z,x1] H lo =
je z H fun o=>
je x1 o.2 fun c=>
fl 28 o.1 1 26 c.2 fun t3=>
dS 26 t3 c.2 fun p=>
fl 48 c.1 0 3 c.2 fun t6=>
aU .eql 3 false true t6 (iA 0) fun t7=>bk t7 (fl 48 c.1 2 46 c.2 fun q=>
(C 17 [snap c.2 q]).bind fun d=>
eG d 0 fun r=>
eG d 1 fun s=>
fq 30 c.2 fun b=>
cK 30 b.1 (cD b.1 b.2 r) b.2 lo fun a=>
(cu s (aR 30 b.1 a fun e=>
(C 27 [snap a e,snap a p]).bind fun f=>some [f,f,p,e]) (some [bA false,ud,ud,ud])).bind fun t=>dz t fun u av aw ax ay=>
(cu u (bT 48 c.1 1 a fun g=>
aR 3 g a fun h=>
bT 30 b.1 1 a fun i=>
aR 3 i a fun j=>
aU .add 3 false true j (iA 1) fun k=>
aU .eql 3 false false h k fun l=>some [l,l,k,j,i,h,g]) (some [bA false,ud,ud,ud,ud,ud,ud])).bind fun v=>dz v fun w az b0 b1 x=>eY x fun b2 b3 y=>bf y fun b4 b5=>some (Out.ret w,a)) (fl 48 c.1 2 46 c.2 fun q=>
(C 68 [snap c.2 q]).bind fun d=>
eG d 0 fun r=>
eG d 1 fun s=>
fq 41 c.2 fun b=>
cK 41 b.1 (cD b.1 b.2 r) b.2 lo fun a=>
(cu s (bT 48 c.1 1 a fun e=>
aR 3 e a fun f=>
aU .eql 3 false true f (iA 0) fun a1=>some [a1,a1,f,e]) (some [bA false,ud,ud,ud])).bind fun t=>dz t fun u av aw ax ay=>
(cu u (bT 48 c.1 0 a fun g=>
aR 3 g a fun h=>
bT 41 b.1 0 a fun i=>
aR 3 i a fun j=>
aU .add 3 false true j (iA 1) fun k=>
aU .eql 3 false false h k fun l=>some [l,l,k,j,i,h,g]) (some [bA false,ud,ud,ud,ud,ud,ud])).bind fun v=>dz v fun w az b0 b1 x=>eY x fun b2 b3 y=>bf y fun b4 b5=>
(cu w (bT 41 b.1 0 a fun a2=>
aR 3 a2 a fun a3=>
aU .sub 3 false true p (iA 1) fun a4=>
(C 36 [snap a a3,snap a (iA 0),snap a a4]).bind fun a5=>some [a5,a5,a4,p,a3,a2]) (some [bA false,ud,ud,ud,ud,ud])).bind fun b6=>dz b6 fun b7 bn bo bp b8=>eY b8 fun bq br bs=>
(cu b7 (bT 41 b.1 1 a fun a6=>
aR 3 a6 a fun a7=>
bT 28 o.1 2 a fun a8=>
aR 3 a8 a fun a9=>
aU .sub 3 false true a9 (iA 1) fun aa=>
(C 36 [snap a a7,snap a (iA 0),snap a aa]).bind fun ab=>some [ab,ab,aa,a9,a8,a7,a6]) (some [bA false,ud,ud,ud,ud,ud,ud])).bind fun b9=>dz b9 fun ad bt bu bv ba=>eY ba fun bw bx bb=>bf bb fun bz c0=>
rF ad true (bT 28 o.1 1 a fun ae=>
aR 26 ae a fun af=>
bT 41 b.1 0 a fun ag=>
aR 3 ag a fun ah=>
dR 26 af ah a fun ai=>
bT 55 ai 2 a fun aj=>
aR 50 aj a fun ak=>
bT 41 b.1 1 a fun al=>
aR 3 al a fun am=>
dR 50 ak am a fun an=>
aR 3 an a fun bc=>
bT 41 b.1 2 a fun ao=>
aR 3 ao a fun bd=>some [bd,ao,bc,an,am,al,ak,aj,ai,ah,ag,af,ae]) (some [ud,ud,ud,ud,ud,ud,ud,ud,ud,ud,ud,ud,ud]) fun be=>oI be fun bg c1 bh c2 c3 c4 c5 c6 bi=>dz bi fun c7 c8 c9 ca bj=>bf bj fun cb cc=>
(cu ad (aU .eql 3 false false bh bg fun ap=>some [ap,ap]) (some [bA false,ud])).bind fun bl=>eY bl fun bm cd ce=>some (Out.ret bm,a)):=r8
theorem R8 (g h:A):aF (cx C) call rg n 40 [g,h] H lo =
je g H fun c=>
je h c.2 fun a=>
fl 25 c.1 0 22 a.2 fun t=>
dS 22 t a.2 fun u=>
fl 25 a.1 0 22 a.2 fun v=>
dS 22 v a.2 fun w=>
aU .neq 3 false false u w fun x=>
(cu x (some [bA true,ud,ud,ud,ud,ud,ud,ud]) (bT 25 c.1 1 a.2 fun i=>
aR 23 i a.2 fun j=>
dS 23 j a.2 fun k=>
bT 25 a.1 1 a.2 fun l=>
aR 23 l a.2 fun o=>
dS 23 o a.2 fun p=>
aU .neq 3 false false k p fun q=>some [q,q,p,o,l,k,j,i])).bind fun y=>oI y fun z a0 a1 a2 a3 a4 a5 a6 a7=>bk z (some (Out.ret (bA false),a.2)) (aK (cx C) call rg n 40 lo 0 (List.length a.2) (fun d b=>bif Nat.beq d 0 then aK (cx C) call rg n 40 lo 1 (List.length (St.H b)) (fun e f=>bif Nat.beq e 2 then some (Out.ret (bA true),St.H f) else none) (fun e f=>none) (fun r=>some (Out.ret (lk r 4),St.H r)) (fun e f=>some (Out.pan e,St.H f)) n (St.mk [(2,lk b 2),(3,lk b 3),(4,lk b 4),(6,iA 0)] (St.H b)) else none) (fun d b=>none) (fun s=>some (Out.ret (lk s 4),St.H s)) (fun d b=>some (Out.pan d,St.H b)) n (St.mk [(2,c.1),(3,a.1),(4,bA false),(5,iA 0)] a.2)):=r8
theorem R9 (f:A):aF (cx C) call rg n 47 [f] H lo =
(C 76 [snap H f]).bind fun g=>
eG g 0 fun k=>
eG g 1 fun t2=>
fq 107 H fun a=>
cK 107 a.1 (cD a.1 a.2 k) a.2 lo fun b=>
aU .neq 33 false true t2 (iA 0) fun l=>
(cu l (some [bA true,ud,ud,ud]) (bT 107 a.1 0 b fun h=>
aR 3 h b fun i=>
aU .neq 3 false true i (iA 3) fun j=>some [j,j,i,h])).bind fun o=>dz o fun p q r s t=>bk p (some (Out.ret (A.tup [A.imm [] true,bA false]),b)) (aK (cx C) call rg n 47 lo 0 (List.length (eL 1 (St.H (St.mk [(2,A.imm [] true),(3,bA false),(4,a.1),(6,A.imm [] true),(7,iA 0)] b)) (look (St.fr (St.mk [(2,A.imm [] true),(3,bA false),(4,a.1),(6,A.imm [] true),(7,iA 0)] b)) (Prod.fst (6,0,2)))).2) (fun d c=>bif Nat.beq d 0 then some (Out.ret (A.tup [lk c 6,bA true]),St.H c) else none) (fun d c=>none) (fun e=>some (Out.ret (A.tup [lk e 2,lk e 3]),St.H e)) (fun d c=>some (Out.pan d,St.H c)) n (St.mk [(2,A.imm [] true),(3,bA false),(4,a.1),(6,(eL 1 (St.H (St.mk [(2,A.imm [] true),(3,bA false),(4,a.1),(6,A.imm [] true),(7,iA 0)] b)) (look (St.fr (St.mk [(2,A.imm [] true),(3,bA false),(4,a.1),(6,A.imm [] true),(7,iA 0)] b)) (Prod.fst (6,0,2)))).1),(7,iA 0)] (eL 1 (St.H (St.mk [(2,A.imm [] true),(3,bA false),(4,a.1),(6,A.imm [] true),(7,iA 0)] b)) (look (St.fr (St.mk [(2,A.imm [] true),(3,bA false),(4,a.1),(6,A.imm [] true),(7,iA 0)] b)) (Prod.fst (6,0,2)))).2)):=r8
theorem Sa (c d:A):aF (cx C) call rg n 55 [c,d] H lo =
dS 50 c H fun f=>
dS 50 d H fun g=>
aU .neq 3 false false f g fun t2=>bk t2 (some (Out.ret (bA false),H)) (aK (cx C) call rg n 55 lo 0 (List.length H) (fun a b=>bif Nat.beq a 0 then some (Out.ret (bA true),St.H b) else none) (fun a b=>none) (fun e=>some (Out.ret (lk e 4),St.H e)) (fun a b=>some (Out.pan a,St.H b)) n (St.mk [(0,c),(1,d),(4,bA false),(5,iA 0)] H)):=r8
theorem Sb (b:A):aF (cx C) call rg n 56 [b] H lo =
je b H fun a=>
fl 48 a.1 0 3 a.2 fun t2=>
fl 48 a.1 1 3 a.2 fun g=>
(C 72 [snap a.2 t2,snap a.2 g]).bind fun h=>
(C 64 [snap a.2 h]).bind fun i=>
(cu i (bT 48 a.1 2 a.2 fun c=>
aR 46 c a.2 fun d=>
dS 46 d a.2 fun e=>
aU .leq 3 false true e (iA 1048576) fun f=>some [f,f,e,d,c]) (some [bA false,ud,ud,ud,ud])).bind fun j=>dz j fun k o p q l=>bf l fun r s=>some (Out.ret k,a.2):=r8
theorem Pt (a:A):aF (cx C) call rg n 57 [a] H lo =
iW a H fun e=>
bT 75 e 0 H fun v=>
iW a H fun t2=>
bT 75 t2 1 H fun f=>
bT 30 f 0 H fun w=>
iW a H fun g=>
bT 75 g 1 H fun h=>
bT 30 h 1 H fun x=>
iW a H fun i=>
bT 75 i 1 H fun j=>
bT 30 j 2 H fun y=>
iW a H fun k=>
bT 75 k 1 H fun l=>
bT 30 l 3 H fun z=>
iW a H fun o=>
bT 75 o 0 H fun a0=>
iW a H fun p=>
bT 75 p 2 H fun q=>
bT 41 q 0 H fun a1=>
iW a H fun r=>
bT 75 r 2 H fun s=>
bT 41 s 1 H fun a2=>
iW a H fun t=>
bT 75 t 2 H fun u=>
bT 41 u 2 H fun a3=>
iT 137 [(0,v),(1,w),(2,x),(3,y),(4,z),(5,a0),(6,a1),(7,a2),(8,a3)] fun a4=>bif bif apart u A.any then bif apart t A.any then bif apart a A.any then bif apart s A.any then bif apart r A.any then bif apart a A.any then bif apart q A.any then bif apart p A.any then bif apart a A.any then bif apart o A.any then bif apart a A.any then bif apart l A.any then bif apart k A.any then bif apart a A.any then bif apart j A.any then bif apart i A.any then bif apart a A.any then bif apart h A.any then bif apart g A.any then bif apart a A.any then bif apart f A.any then bif apart t2 A.any then bif apart a A.any then bif apart e A.any then bif apart a A.any then true else false else false else false else false else false else false else false else false else false else false else false else false else false else false else false else false else false else false else false else false else false else false else false else false else false then
(jC prog 137 H).bind fun b=>
cK 137 b.1 (cD b.1 b.2 a4) b.2 lo fun c=>
iW a c fun a5=>
fl 75 a5 0 3 c fun a6=>
aU .eql 3 false true a6 (iA 1) fun a7=>bk a7 ((eI prog 137 b.1 none (some (iA 5)) none c).bind fun d=>some (Out.ret d,c)) ((eI prog 137 b.1 (some (iA 5)) none none c).bind fun d=>some (Out.ret d,c)) else none:=r8
theorem Sc (f:A):aF (cx C) call rg n 58 [f] H lo =
je f H fun a=>
aR 107 a.1 a.2 fun h=>
(C 83 [snap a.2 h]).bind fun t2=>
aU .neq 33 false true t2 (iA 0) fun i=>bk i (some (Out.ret (A.tup [A.imm [] true,t2]),a.2)) (bT 107 a.1 0 a.2 fun g=>
aR 3 g a.2 fun j=>
aR 107 a.1 a.2 fun k=>bif bif iM 0 a.1 then bif iM 0 g then bif iM 0 a.1 then true else false else false else false then
(call 84 [] a.2 (List.length a.2)).bind fun b=>dU b.1 (fun c=>
iW c b.2 fun l=>
dR 158 l j b.2 fun o=>
fl 141 o 0 139 b.2 fun p=>dw (cx C) call p [A.imm [] true,k] b.2 lo (fun d e=>some (Out.ret (A.tup [d,iA 0]),e)) fun d e=>some (Out.pan d,e)) fun c=>some (Out.pan c,b.2) else none):=r8
theorem Sd (b:A):aF (cx C) call rg n 59 [b] H lo =
je b H fun a=>
fl 48 a.1 0 3 a.2 fun t2=>
(C 67 [snap a.2 t2]).bind fun q=>
(cu q (bT 48 a.1 1 a.2 fun c=>
aR 3 c a.2 fun d=>
(C 67 [snap a.2 d]).bind fun e=>some [e,e,d,c]) (some [bA false,ud,ud,ud])).bind fun r=>dz r fun s z u7 u8 l8=>
(cu s (bT 48 a.1 0 a.2 fun f=>
aR 3 f a.2 fun g=>
bT 48 a.1 1 a.2 fun h=>
aR 3 h a.2 fun i=>
aU .neq 3 false false g i fun j=>some [j,j,i,h,g,f]) (some [bA false,ud,ud,ud,ud,ud])).bind fun t=>dz t fun u a3 a4 a5 v=>eY v fun a6 a7 a8=>
(cu u (bT 48 a.1 2 a.2 fun k=>
aR 46 k a.2 fun l=>
dS 46 l a.2 fun o=>
aU .leq 3 false true o (iA 1048576) fun p=>some [p,p,o,l,k]) (some [bA false,ud,ud,ud,ud])).bind fun w=>dz w fun x a9 aa ab y=>bf y fun ad ae=>some (Out.ret x,a.2):=r8
theorem Se (b:A):aF (cx C) call rg n 60 [b] H lo =
je b H fun a=>
aR 107 a.1 a.2 fun c=>
(C 85 [snap a.2 c]).bind fun t2=>
aU .neq 33 false true t2 (iA 0) fun d=>bk d (some (Out.ret (A.tup [A.imm [] true,t2]),a.2)) (aR 107 a.1 a.2 fun e=>
(C 86 [snap a.2 e]).bind fun f=>some (Out.ret (A.tup [f,iA 0]),a.2)):=r8
theorem Sf (f:A):aF (cx C) call rg n 61 [f] H lo =
fq 107 H fun g=>
iT 107 [(0,iA 3)] fun j=>
fq 107 g.2 fun b=>
cK 107 b.1 (cD b.1 b.2 j) b.2 lo fun h=>aK (cx C) call rg n 61 lo 0 (List.length (dX lo 3 5 b.1 h)) (fun c a=>bif Nat.beq c 0 then
aR 107 (lk a 3) (St.H a) fun d=>
cK 107 (lk a 2) (cD (lk a 2) (St.H a) d) (St.H a) lo fun i=>
aR 107 (lk a 2) i fun k=>some (Out.ret k,i) else none) (fun c a=>none) (fun e=>
aR 107 (lk e 2) (St.H e) fun d=>some (Out.ret d,St.H e)) (fun c a=>some (Out.pan c,St.H a)) n (St.mk [(0,f),(2,g.1),(3,b.1),(4,iA 0)] (dX lo 3 5 b.1 h)):=r8
theorem Sg (a b:A):aF (cx C) call rg n 62 [a,b] H lo =
(C 88 [snap H a,snap H b]).bind fun c=>
aU .geq 3 false true c (iA 0) fun d=>some (Out.ret d,H):=r8
theorem Sh (b:A):aF (cx C) call rg n 63 [b] H lo =
je b H fun a=>
aR 48 a.1 a.2 fun c=>
(C 56 [snap a.2 c]).bind fun t2=>
(iL prog UnOp.not t2).bind fun d=>some (Out.ret d,a.2):=r8
theorem Si (b:A):aF (cx C) call rg n 64 [b] H lo =
je b H fun a=>
dR 116 a.1 (iA 0) a.2 fun k=>
aR 3 k a.2 fun t2=>
aU .geq 3 false true t2 (iA 0) fun l=>
(cu l (dR 116 a.1 (iA 0) a.2 fun c=>
aR 3 c a.2 fun d=>
dR 116 a.1 (iA 1) a.2 fun e=>
aR 3 e a.2 fun f=>
aU .lss 3 false false d f fun g=>some [g,g,f,e,d,c]) (some [bA false,ud,ud,ud,ud,ud])).bind fun o=>dz o fun p t u v q=>eY q fun w x y=>
(cu p (dR 116 a.1 (iA 1) a.2 fun h=>
aR 3 h a.2 fun i=>
aU .lss 3 false true i (iA 24) fun j=>some [j,j,i,h]) (some [bA false,ud,ud,ud])).bind fun r=>dz r fun s z a0 a1 a2=>some (Out.ret s,a.2):=r8
theorem Sj (b d:A):aF (cx C) call rg n 65 [b,d] H lo =
dS 50 b H fun f=>aK (cx C) call rg n 65 lo 0 (List.length H) (fun c a=>bif Nat.beq c 0 then
dS 50 (lk a 0) (St.H a) fun t2=>
dS 50 (lk a 1) (St.H a) fun g=>
aU .lss 3 false false t2 g fun h=>bk h (some (Out.ret (A.v (.int .i64 (-1))),St.H a)) (some (Out.ret (iA 0),St.H a)) else none) (fun c a=>none) (fun e=>some (Out.ret (lk e 4),St.H e)) (fun c a=>some (Out.pan c,St.H a)) n (St.mk [(0,b),(1,d),(4,iA 0),(9,b),(10,f),(11,iA 0)] H):=r8
theorem Sk (x:A):aF (cx C) call rg n 66 [x] H lo =
fq 107 H fun a=>
fq 33 a.2 fun b=>
iT 150 [(0,x)] fun t2=>
je t2 b.2 fun h=>
(call 91 [h.1,iA 0] h.2 lo).bind fun d=>dU d.1 (fun i=>
cK 107 a.1 (cD a.1 d.2 i) d.2 lo fun j=>
iW h.1 j fun e=>
fl 150 e 0 46 j fun t9=>
dS 46 t9 j fun a3=>
aU .eql 3 false true a3 (iA 0) fun k=>
(call 92 [h.1,k] j lo).bind fun c=>dU c.1 (fun l=>
aR 107 a.1 c.2 fun o=>
cK 107 a.1 (cD a.1 c.2 o) c.2 lo fun y=>
cK 33 b.1 (cD b.1 y (iA 0)) y lo fun f=>
aU .neq 20 false true (A.v Value.nilIface) (A.v Value.nilIface) fun a4=>bk a4 (iT 107 [] fun p=>
(mL prog (A.v Value.nilIface) 33 false).bind fun g=>
cK 107 a.1 (cD a.1 f p) f lo fun z=>
cK 33 b.1 (cD b.1 z g) z lo fun q=>
aR 107 a.1 q fun a6=>
aR 33 b.1 q fun a7=>some (Out.ret (A.tup [a6,a7]),q)) (aR 107 a.1 f fun p=>
aR 33 b.1 f fun g=>some (Out.ret (A.tup [p,g]),f))) fun l=>
aU .neq 20 false true l (A.v Value.nilIface) fun o=>bk o (iT 107 [] fun r=>
(mL prog l 33 false).bind fun s=>
cK 107 a.1 (cD a.1 c.2 r) c.2 lo fun a0=>
cK 33 b.1 (cD b.1 a0 s) a0 lo fun t=>
aR 107 a.1 t fun g=>
aR 33 b.1 t fun a8=>some (Out.ret (A.tup [g,a8]),t)) (aR 107 a.1 c.2 fun r=>
aR 33 b.1 c.2 fun s=>some (Out.ret (A.tup [r,s]),c.2))) fun i=>
aU .neq 20 false true i (A.v Value.nilIface) fun t6=>bk t6 (iT 107 [] fun e=>
(mL prog i 33 false).bind fun u=>
cK 107 a.1 (cD a.1 d.2 e) d.2 lo fun H9=>
cK 33 b.1 (cD b.1 H9 u) H9 lo fun w=>
aR 107 a.1 w fun k=>
aR 33 b.1 w fun aa=>some (Out.ret (A.tup [k,aa]),w)) (aR 107 a.1 d.2 fun e=>
aR 33 b.1 d.2 fun u=>some (Out.ret (A.tup [e,u]),d.2)):=r8
theorem Sl (a:A):aF (cx C) call rg n 67 [a] H lo =
aU .geq 3 false true a (iA 0) fun c=>
(cu c (aU .lss 3 false true a (iA 24) fun b=>some [b,b,a]) (some [bA false,ud,ud])).bind fun d=>eY d fun e g f=>bf f fun u4 h=>some (Out.ret e,H):=r8
theorem Sm (d:A):aF (cx C) call rg n 68 [d] H lo =
fq 41 H fun a=>
(C 47 [snap a.2 d]).bind fun e=>
eG e 0 fun t2=>
eG e 1 fun o=>
(iL prog UnOp.not o).bind fun p=>
(cu p (some [bA true,ud,ud,ud]) (dS 50 t2 a.2 fun f=>
aU .neq 3 false true f (iA 4) fun g=>some [g,g,f,t2])).bind fun q=>dz q fun r u7 u8 u9 l9=>
(cu r (some [bA true,ud,ud,ud,ud]) (dR 50 t2 (iA 0) a.2 fun h=>
aR 3 h a.2 fun i=>
aU .neq 3 false true i (iA 2) fun j=>some [j,j,i,h,t2])).bind fun s=>dz s fun t a5 a6 a7 u=>bf u fun a8 a9=>bk t (iT 41 [] fun b=>
cK 41 a.1 (cD a.1 a.2 b) a.2 lo fun k=>
aR 41 a.1 k fun c=>some (Out.ret (A.tup [c,bA false]),k)) (dR 50 t2 (iA 1) a.2 fun b=>
aR 3 b a.2 fun v=>
dR 50 t2 (iA 2) a.2 fun c=>
aR 3 c a.2 fun w=>
dR 50 t2 (iA 3) a.2 fun x=>
aR 3 x a.2 fun y=>
iT 41 [(0,v),(1,w),(2,y)] fun z=>
cK 41 a.1 (cD a.1 a.2 z) a.2 lo fun l=>
aR 41 a.1 l fun a0=>some (Out.ret (A.tup [a0,bA true]),l)):=r8
theorem Sn (c d:A):aF (cx C) call rg n 69 [c,d] H lo =
je c H fun b=>
je d b.2 fun a=>
fl 48 b.1 0 3 a.2 fun s=>
fl 48 a.1 0 3 a.2 fun t=>
aU .eql 3 false false s t fun u=>
(cu u (bT 48 b.1 1 a.2 fun e=>
aR 3 e a.2 fun f=>
bT 48 a.1 1 a.2 fun g=>
aR 3 g a.2 fun h=>
aU .eql 3 false false f h fun i=>some [i,i,h,g,f,e]) (some [bA false,ud,ud,ud,ud,ud])).bind fun v=>dz v fun w u9 a1 a2 x=>eY x fun a3 a4 a5=>
(cu w (bT 48 b.1 2 a.2 fun j=>
aR 46 j a.2 fun k=>
(bn prog 46 9 k a.2).bind fun l=>
bT 48 a.1 2 a.2 fun o=>
aR 46 o a.2 fun p=>
(bn prog 46 9 p a.2).bind fun q=>
aU .eql 9 false false l q fun r=>some [r,r,q,p,o,l,k,j]) (some [bA false,ud,ud,ud,ud,ud,ud,ud])).bind fun y=>oI y fun z a6 a7 a8 a9 aa ab ad ae=>some (Out.ret z,a.2):=r8
theorem So (b c:A):aF (cx C) call rg n 72 [b,c] H lo =
fq 116 H fun a=>
(Cz true b [c]).bind fun e=>
(Cz false b [c]).bind fun t2=>
iT 116 [(0,e),(1,t2)] fun f=>
cK 116 a.1 (cD a.1 a.2 f) a.2 lo fun d=>
aR 116 a.1 d fun g=>some (Out.ret g,d):=r8
theorem Sp (d:A):aF (cx C) call rg n 76 [d] H lo =
fq 107 H fun b=>
iT 155 [(0,d)] fun y=>
je y b.2 fun e=>
(call 95 [e.1,iA 0] e.2 lo).bind fun g=>dU g.1 (fun h=>
fq 107 g.2 fun c=>
cK 107 c.1 (cD c.1 c.2 h) c.2 lo fun a=>
iW e.1 a fun z=>
fl 155 z 2 4 a fun t9=>
(cu t9 (some [bA true,ud,ud,ud,ud,ud,ud,ud]) (iW e.1 a fun k=>
bT 155 k 1 a fun l=>
aR 3 l a fun o=>
dS 46 d a fun p=>
aU .neq 3 false false o p fun q=>some [q,q,p,d,o,l,k,e.1])).bind fun a1=>oI a1 fun a2 ae af ag ah ai aj ak al=>
(cu a2 (some [bA true,ud,ud,ud]) (aR 107 c.1 a fun r=>
(C 85 [snap a r]).bind fun s=>
aU .neq 33 false true s (iA 0) fun t=>some [t,t,s,r])).bind fun a3=>dz a3 fun u am an ao ap=>
rF u false (aR 107 c.1 a fun v=>
(C 86 [snap a v]).bind fun w=>
(bn prog 46 9 w a).bind fun a5=>
(bn prog 46 9 d a).bind fun a6=>some [a6,d,a5,w,v]) (some [ud,ud,ud,ud,ud]) fun a7=>dz a7 fun a8 aq a9 ar aa=>bf aa fun au av=>
(cu u (some [bA true,ud]) (aU .neq 9 false false a9 a8 fun x=>some [x,x])).bind fun ab=>eY ab fun ad aw ax=>bk ad (iT 107 [] fun i=>
cK 107 b.1 (cD b.1 a i) a lo fun f=>
aR 107 b.1 f fun j=>some (Out.ret (A.tup [j,iA 10]),f)) (aR 107 c.1 a fun i=>
cK 107 b.1 (cD b.1 a i) a lo fun f=>
aR 107 b.1 f fun j=>some (Out.ret (A.tup [j,iA 0]),f))) fun h=>some (Out.pan h,g.2):=r8
theorem Sq (b:A):aF (cx C) call rg n 83 [b] H lo =
je b H fun a=>
aR 107 a.1 a.2 fun c=>
(C 96 [snap a.2 c]).bind fun t2=>
eG t2 0 fun d=>
eG t2 1 fun e=>
(iL prog UnOp.not e).bind fun f=>bk f (some (Out.ret (iA 1),a.2)) (aU .gtr 3 false true d (iA 16) fun g=>bk g (some (Out.ret (iA 2),a.2)) (some (Out.ret (iA 0),a.2))):=r8
theorem Sr:aF (cx C) call rg n 84 [] H lo =
iT 158 [] fun j=>
je j H fun e=>
fq 142 e.2 fun a=>
cK 142 a.1 (cD a.1 a.2 e.1) a.2 lo fun b=>
aR 142 a.1 b fun k=>
iW k b fun l=>
dR 158 l (iA 1) b fun o=>
bT 141 o 0 b fun f=>
cK 139 f (cD f b (A.fn (Fn.func 97) [] [])) b lo fun c=>
aR 142 a.1 c fun p=>
iW p c fun q=>
dR 158 q (iA 2) c fun r=>
bT 141 r 0 c fun g=>
cK 139 g (cD g c (A.fn (Fn.func 100) [] [])) c lo fun d=>
aR 142 a.1 d fun s=>
iW s d fun t=>
dR 158 t (iA 3) d fun u=>
bT 141 u 0 d fun h=>
cK 139 h (cD h d (A.fn (Fn.func 101) [] [a.1])) d lo fun i=>
aR 142 a.1 i fun v=>some (Out.ret v,i):=r8
theorem Ss (b:A):aF (cx C) call rg n 85 [b] H lo =
je b H fun a=>
aR 107 a.1 a.2 fun c=>
(C 102 [snap a.2 c]).bind fun t2=>
(iL prog UnOp.not t2).bind fun d=>bk d (some (Out.ret (iA 1),a.2)) (aR 107 a.1 a.2 fun e=>
(C 103 [snap a.2 e]).bind fun f=>
aU .gtr 3 false true f (iA 16) fun g=>bk g (some (Out.ret (iA 2),a.2)) (some (Out.ret (iA 0),a.2))):=r8
theorem Su (k:A):aF (cx C) call rg n 86 [k] H lo =
je k H fun a=>
fl 107 a.1 0 3 a.2 fun t2=>
aU .eql 3 false true t2 (iA 1) fun r=>bk r ((aN prog 46 1 [(0,cU a.2 (A.v (.int .u8 1)))]).bind fun h=>
fl 107 a.1 1 3 a.2 fun s=>
(C 105 [snap a.2 s]).bind fun c=>
(C 104 [snap a.2 c]).bind fun d=>
(bW prog 46 46 false h d a.2 lo).bind fun l=>some (Out.ret l.1,l.2)) (aU .eql 3 false true t2 (iA 2) fun h=>bk h ((aN prog 46 1 [(0,cU a.2 (A.v (.int .u8 2)))]).bind fun e=>
fl 107 a.1 2 9 a.2 fun c=>
dS 9 c a.2 fun d=>
(bn prog 3 160 d a.2).bind fun i=>
(C 104 [snap a.2 i]).bind fun j=>
(bW prog 46 46 false e j a.2 lo).bind fun b=>bif bif apart a.1 e then true else false then
bT 107 a.1 2 b.2 fun o=>bif bif apart o e then true else false then
aR 9 o b.2 fun t=>
(bW prog 46 9 false b.1 t b.2 lo).bind fun p=>some (Out.ret p.1,p.2) else none else none) ((aN prog 46 1 [(0,cU a.2 (A.v (.int .u8 3)))]).bind fun e=>
fl 107 a.1 3 105 a.2 fun c=>
dS 105 c a.2 fun d=>
(bn prog 3 160 d a.2).bind fun i=>
(C 104 [snap a.2 i]).bind fun j=>
(bW prog 46 46 false e j a.2 lo).bind fun b=>aK (cx C) call rg n 86 lo 0 (List.length b.2) (fun g f=>bif Nat.beq g 1 then some (Out.ret (lk f 3),St.H f) else none) (fun g f=>none) (fun q=>some (Out.ret (lk q 2),St.H q)) (fun g f=>some (Out.pan g,St.H f)) n (St.mk [(1,a.1),(2,A.imm [] true),(3,b.1),(4,iA 0)] b.2))):=r8
theorem Sv (b:A):aF (cx C) call rg n 87 [b] H lo =
fq 107 H fun a=>
iT 107 [(0,iA 1),(1,b)] fun d=>
cK 107 a.1 (cD a.1 a.2 d) a.2 lo fun c=>
aR 107 a.1 c fun e=>some (Out.ret e,c):=r8
theorem Sw (c d:A):aF (cx C) call rg n 88 [c,d] H lo =
dS 22 c H fun f=>aK (cx C) call rg n 88 lo 0 (List.length H) (fun a b=>bif Nat.beq a 0 then some (Out.ret (A.v (.int .i64 (-1))),St.H b) else none) (fun a b=>none) (fun e=>some (Out.ret (lk e 4),St.H e)) (fun a b=>some (Out.pan a,St.H b)) n (St.mk [(0,c),(1,d),(4,iA 0),(7,f),(8,iA 0)] H):=r8
theorem Pu (a b:A):aF (cx C) call rg n 89 [a,b] H lo =
(C 106 [snap H a]).bind fun d=>
(C 106 [snap H b]).bind fun c=>bk d (bk c (some (Out.ret (iA 0),H)) (some (Out.ret (A.v (.int .i64 (-1))),H))) (bk c (some (Out.ret (iA 1),H)) (aU .lss 3 false false a b fun t2=>bk t2 (some (Out.ret (A.v (.int .i64 (-1))),H)) (aU .gtr 3 false false a b fun e=>bk e (some (Out.ret (iA 1),H)) (some (Out.ret (iA 0),H))))):=r8
theorem Sx (d r:A):aF (cx C) call rg n 91 [d,r] H lo =
fq 107 H fun a=>
(call 107 [d,iA 1] a.2 lo).bind fun H1=>dU H1.1 (fun a2=>
dR 46 a2 (iA 0) H1.2 fun t3=>
aR 5 t3 H1.2 fun t4=>
(bn prog 5 3 t4 H1.2).bind fun t5=>
bT 107 a.1 0 H1.2 fun t6=>
cK 3 t6 (cD t6 H1.2 t5) H1.2 lo fun j=>
fl 107 a.1 0 3 j fun s=>
aU .eql 3 false true s (iA 1) fun a9=>bk a9 ((call 109 [d] j lo).bind fun h=>dU h.1 (fun t=>
(C 108 [snap h.2 t]).bind fun u=>
bT 107 a.1 1 h.2 fun a3=>
cK 3 a3 (cD a3 h.2 u) h.2 lo fun v=>
aR 107 a.1 v fun w=>
cK 107 a.1 (cD a.1 v w) v lo fun a4=>
aR 107 a.1 (dX lo 3 0 a.1 a4) fun aa=>some (Out.ret aa,dX lo 3 0 a.1 a4)) fun t=>some (Out.pan t,h.2)) (aU .eql 3 false true s (iA 2) fun ab=>bk ab ((call 110 [d] j lo).bind fun x=>dU x.1 (fun y=>
(call 107 [d,y] x.2 lo).bind fun c=>dU c.1 (fun i=>
(bn prog 46 9 i c.2).bind fun w=>
bT 107 a.1 2 c.2 fun q=>
cK 9 q (cD q c.2 w) c.2 lo fun z=>
aR 107 a.1 z fun f=>
cK 107 a.1 (cD a.1 z f) z lo fun e=>
aR 107 a.1 (dX lo 3 0 a.1 e) fun k=>some (Out.ret k,dX lo 3 0 a.1 e)) fun i=>some (Out.pan i,c.2)) fun y=>some (Out.pan y,x.2)) (aU .eql 3 false true s (iA 3) fun ad=>bk ad (aU .lss 3 false true r (iA 16) fun u=>
(call 92 [d,u] j lo).bind fun c=>dU c.1 (fun i=>
(call 110 [d] c.2 lo).bind fun g=>dU g.1 (fun a0=>aK (cx C) call rg n 91 lo 0 (List.length (dX lo 3 5 a.1 g.2)) (fun l b=>bif Nat.beq l 1 then
aR 107 (lk b 4) (St.H b) fun f=>
cK 107 (lk b 4) (cD (lk b 4) (St.H b) f) (St.H b) lo fun e=>
aR 107 (lk b 4) (dX lo 3 0 (lk b 4) e) fun k=>some (Out.ret k,dX lo 3 0 (lk b 4) e) else bif Nat.beq l 0 then
aR 107 (lk b 4) (St.H b) fun f=>
cK 107 (lk b 4) (cD (lk b 4) (St.H b) f) (St.H b) lo fun e=>
aR 107 (lk b 4) (dX lo 3 0 (lk b 4) e) fun k=>some (Out.ret k,dX lo 3 0 (lk b 4) e) else none) (fun l b=>none) (fun o=>
aR 107 (lk o 4) (dX lo 3 0 (lk o 4) (St.H o)) fun f=>some (Out.ret f,dX lo 3 0 (lk o 4) (St.H o))) (fun l b=>some (Out.pan l,St.H b)) n (St.mk [(0,d),(1,r),(4,a.1),(36,a0),(37,iA 0)] (dX lo 3 5 a.1 g.2))) fun a0=>some (Out.pan a0,g.2)) fun i=>some (Out.pan i,c.2)) ((call 92 [d,bA false] j lo).bind fun p=>dU p.1 (fun a5=>
aR 107 a.1 p.2 fun ae=>
cK 107 a.1 (cD a.1 p.2 ae) p.2 lo fun g=>
aR 107 a.1 (dX lo 3 0 a.1 g) fun q=>some (Out.ret q,dX lo 3 0 a.1 g)) fun a5=>some (Out.pan a5,p.2))))) fun a2=>some (Out.pan a2,H1.2):=r8
theorem CU (b a:A):aF (cx C) call rg n 92 [b,a] H lo =
(iL prog UnOp.not a).bind fun c=>bk c ((CM prog 33 (iA 10)).bind fun d=>D9 d fun a2=>some (Out.pan a2,H)) (some (Out.ret (A.tup []),H)):=r8
theorem Sy (b x1:A):aF (cx C) call rg n 95 [b,x1] H lo =
fq 107 H fun a=>
(call 112 [b] a.2 lo).bind fun H1=>dU H1.1 (fun a2=>
aU .eql 5 false true a2 (A.v (.int .u8 1)) fun t3=>bk t3 ((call 113 [b] H1.2 lo).bind fun j=>dU j.1 (fun s=>
aU .rem 160 false true s (A.v (.int .u64 2)) fun t6=>
aU .eql 160 false true t6 (A.v (.int .u64 1)) fun q=>bk q (aU .quo 160 false true s (A.v (.int .u64 2)) fun t=>
(bn prog 160 3 t j.2).bind fun k=>
(iL prog UnOp.neg k).bind fun g=>
aU .sub 3 false true g (iA 1) fun h=>
iT 107 [(0,iA 1),(1,h)] fun i=>
cK 107 a.1 (cD a.1 j.2 i) j.2 lo fun aj=>
aR 107 a.1 (dX lo 3 0 a.1 aj) fun l=>some (Out.ret l,dX lo 3 0 a.1 aj)) (aU .quo 160 false true s (A.v (.int .u64 2)) fun t=>
(bn prog 160 3 t j.2).bind fun k=>
iT 107 [(0,iA 1),(1,k)] fun g=>
cK 107 a.1 (cD a.1 j.2 g) j.2 lo fun ak=>
aR 107 a.1 (dX lo 3 0 a.1 ak) fun i=>some (Out.ret i,dX lo 3 0 a.1 ak))) fun s=>some (Out.pan s,j.2)) (aU .eql 5 false true a2 (A.v (.int .u8 2)) fun t4=>bk t4 ((call 113 [b] H1.2 lo).bind fun c=>dU c.1 (fun u=>
iW b c.2 fun q=>
fl 155 q 2 4 c.2 fun k=>
rF k false (iW b c.2 fun g=>
bT 155 g 0 c.2 fun h=>
aR 46 h c.2 fun i=>
dS 46 i c.2 fun w=>
iW b c.2 fun l=>
bT 155 l 1 c.2 fun x=>
aR 3 x c.2 fun y=>
aU .sub 3 false false w y fun z=>
(bn prog 3 160 z c.2).bind fun aa=>some [aa,z,y,x,l,b,w,i,h,g,b,u]) (some [ud,ud,ud,ud,ud,ud,ud,ud,ud,ud,ud,ud]) fun b4=>oI b4 fun b5 al b6 b7 b8 b9 ba bb bc=>dz bc fun bd be bg am c5=>
(cu k (some [bA true,ud]) (aU .gtr 160 false false am b5 fun an=>some [an,an])).bind fun ao=>eY ao fun bh ap c6=>bk bh (iW b c.2 fun ae=>
bT 155 ae 2 c.2 fun a0=>
cK 4 a0 (cD a0 c.2 (bA true)) c.2 lo fun aq=>
iT 107 [] fun af=>
cK 107 a.1 (cD a.1 aq af) aq lo fun ar=>
aR 107 a.1 (dX lo 3 0 a.1 ar) fun o=>some (Out.ret o,dX lo 3 0 a.1 ar)) (iW b c.2 fun ae=>
fl 155 ae 1 3 c.2 fun bi=>
(bn prog 160 3 u c.2).bind fun af=>
aU .add 3 false false bi af fun bj=>
iW b c.2 fun o=>
bT 155 o 1 c.2 fun a1=>
cK 3 a1 (cD a1 c.2 bj) c.2 lo fun e=>
iW b e fun ag=>
fl 155 ag 0 46 e fun r=>
iW b e fun ah=>
fl 155 ah 1 3 e fun bl=>
(bn prog 160 3 u e).bind fun ai=>
aU .sub 3 false false bl ai fun bm=>
iW b e fun bo=>
fl 155 bo 1 3 e fun bp=>
(eI prog 46 r (some bm) (some bp) none e).bind fun bq=>
(bn prog 46 9 bq e).bind fun br=>
iT 107 [(0,iA 2),(2,br)] fun bs=>
cK 107 a.1 (cD a.1 e bs) e lo fun au=>
aR 107 a.1 (dX lo 3 0 a.1 au) fun bt=>some (Out.ret bt,dX lo 3 0 a.1 au))) fun u=>some (Out.pan u,c.2)) (aU .eql 5 false true a2 (A.v (.int .u8 3)) fun t5=>bk t5 ((call 113 [b] H1.2 lo).bind fun f=>dU f.1 (fun a7=>
iW b f.2 fun t=>
fl 155 t 2 4 f.2 fun g=>
rF g false (iW b f.2 fun h=>
bT 155 h 0 f.2 fun i=>
aR 46 i f.2 fun w=>
dS 46 w f.2 fun l=>
iW b f.2 fun x=>
bT 155 x 1 f.2 fun y=>
aR 3 y f.2 fun z=>
aU .sub 3 false false l z fun aa=>
(bn prog 3 160 aa f.2).bind fun bv=>some [bv,aa,z,y,x,b,l,w,i,h,b,a7]) (some [ud,ud,ud,ud,ud,ud,ud,ud,ud,ud,ud,ud]) fun bw=>oI bw fun al b6 b7 b8 b9 ba bb bd bx=>dz bx fun be bg am bz ao=>
(cu g (some [bA true,ud]) (aU .gtr 160 false false bz al fun av=>some [av,av])).bind fun c0=>eY c0 fun ap c7 c8=>
(cu ap (some [bA true,ud,ud]) (aU .eql 3 false true x1 (iA 16) fun a0=>some [a0,a0,x1])).bind fun c1=>eY c1 fun c2 c9 c3=>bf c3 fun ca cb=>bk c2 (iW b f.2 fun o=>
bT 155 o 2 f.2 fun a1=>
cK 4 a1 (cD a1 f.2 (bA true)) f.2 lo fun e=>
iT 107 [] fun ag=>
cK 107 a.1 (cD a.1 e ag) e lo fun aw=>
aR 107 a.1 (dX lo 3 0 a.1 aw) fun r=>some (Out.ret r,dX lo 3 0 a.1 aw)) (iT 107 [(0,iA 3)] fun o=>
fq 107 f.2 fun p=>
cK 107 p.1 (cD p.1 p.2 o) p.2 lo fun e=>aK (cx C) call rg n 95 lo 0 (List.length (dX lo 3 5 p.1 e)) (fun a3 d=>bif Nat.beq a3 1 then
aR 107 (lk d 8) (St.H d) fun a4=>
cK 107 (lk d 4) (cD (lk d 4) (St.H d) a4) (St.H d) lo fun ax=>
aR 107 (lk d 4) (dX lo 3 0 (lk d 4) ax) fun ah=>some (Out.ret ah,dX lo 3 0 (lk d 4) ax) else bif Nat.beq a3 0 then
iW (lk d 0) (St.H d) fun a4=>
bT 155 a4 2 (St.H d) fun r=>
cK 4 r (cD r (St.H d) (bA true)) (St.H d) lo fun ay=>
iT 107 [] fun c4=>
cK 107 (lk d 4) (cD (lk d 4) ay c4) ay lo fun az=>
aR 107 (lk d 4) (dX lo 3 0 (lk d 4) az) fun ai=>some (Out.ret ai,dX lo 3 0 (lk d 4) az) else none) (fun a3 d=>none) (fun a8=>
aR 107 (lk a8 4) (dX lo 3 0 (lk a8 4) (St.H a8)) fun a4=>some (Out.ret a4,dX lo 3 0 (lk a8 4) (St.H a8))) (fun a3 d=>some (Out.pan a3,St.H d)) n (St.mk [(0,b),(1,x1),(4,a.1),(7,a7),(8,p.1),(9,A.v (.int .u64 0))] (dX lo 3 5 p.1 e)))) fun a7=>some (Out.pan a7,f.2)) (iW b H1.2 fun t6=>
bT 155 t6 2 H1.2 fun q=>
cK 4 q (cD q H1.2 (bA true)) H1.2 lo fun H8=>
iT 107 [] fun k=>
cK 107 a.1 (cD a.1 H8 k) H8 lo fun b1=>
aR 107 a.1 (dX lo 3 0 a.1 b1) fun h=>some (Out.ret h,dX lo 3 0 a.1 b1))))) fun a2=>some (Out.pan a2,H1.2):=r8
theorem Sz (f:A):aF (cx C) call rg n 96 [f] H lo =
je f H fun a=>
fl 107 a.1 2 9 a.2 fun t2=>
aU .eql 9 false true t2 (A.v (Value.string (ByteArray.mk #[]))) fun t3=>
(cu t3 (bT 107 a.1 3 a.2 fun g=>
aR 105 g a.2 fun h=>
dS 105 h a.2 fun i=>
aU .eql 3 false true i (iA 0) fun j=>some [j,j,i,h,g]) (some [bA false,ud,ud,ud,ud])).bind fun l4=>dz l4 fun u5 u6 u7 u8 l8=>bf l8 fun u9 l9=>
fl 107 a.1 1 3 a.2 fun a7=>
aU .eql 3 false true a7 (iA 0) fun a8=>
(cu a8 (bT 107 a.1 3 a.2 fun k=>
aR 105 k a.2 fun l=>
dS 105 l a.2 fun o=>
aU .eql 3 false true o (iA 0) fun p=>some [p,p,o,l,k]) (some [bA false,ud,ud,ud,ud])).bind fun a9=>dz a9 fun aa b0 b1 b2 ab=>bf ab fun b3 b4=>
fl 107 a.1 1 3 a.2 fun ad=>
aU .eql 3 false true ad (iA 0) fun ae=>
(cu ae (bT 107 a.1 2 a.2 fun q=>
aR 9 q a.2 fun r=>
aU .eql 9 false true r (A.v (Value.string (ByteArray.mk #[]))) fun s=>some [s,s,r,q]) (some [bA false,ud,ud,ud])).bind fun af=>dz af fun ag b5 b6 b7 b8=>
iT 171 [(1,u5),(2,aa),(3,ag)] fun ah=>
fq 171 a.2 fun FE=>
cK 171 FE.1 (cD FE.1 FE.2 ah) FE.2 lo fun b=>
fl 107 a.1 0 3 b fun ai=>
aU .lss 3 false true ai (iA 1) fun aj=>
(cu aj (some [bA true,ud,ud,ud]) (bT 107 a.1 0 b fun t=>
aR 3 t b fun u=>
aU .gtr 3 false true u (iA 3) fun w=>some [w,w,u,t])).bind fun ak=>dz ak fun al b9 ba bb bc=>
(cu al (some [bA true,ud,ud,ud,ud,ud]) (bT 107 a.1 0 b fun x=>
aR 3 x b fun y=>
dR 171 FE.1 y b fun z=>
aR 4 z b fun a0=>
(iL prog UnOp.not a0).bind fun a1=>some [a1,a1,a0,z,y,x])).bind fun am=>dz am fun an bd be bg ao=>eY ao fun bh bi bj=>bk an (some (Out.ret (A.tup [iA 0,bA false]),b)) (fl 107 a.1 0 3 b fun ap=>
aU .lss 3 false true ap (iA 3) fun aq=>bk aq (some (Out.ret (A.tup [iA 0,bA true]),b)) (fl 107 a.1 3 105 b fun a2=>
dS 105 a2 b fun ar=>aK (cx C) call rg n 96 lo 0 (List.length b) (fun d c=>bif Nat.beq d 0 then
aU .add 3 false true (lk c 2) (iA 1) fun au=>some (Out.ret (A.tup [au,bA true]),St.H c) else none) (fun d c=>none) (fun e=>some (Out.ret (A.tup [lk e 2,lk e 3]),St.H e)) (fun d c=>some (Out.pan d,St.H c)) n (St.mk [(2,iA 0),(3,bA false),(55,a2),(56,ar),(57,iA 0)] b))):=r8
theorem MX (b f:A):aF (cx C) call rg n 97 [b,f] H lo =
je f H fun c=>
(aN prog 46 1 [(0,cU c.2 (A.v (.int .u8 1)))]).bind fun h=>
(bW prog 46 46 false b h c.2 lo).bind fun a=>bif bif apart c.1 b then true else false then
bT 107 c.1 1 a.2 fun g=>bif bif apart g b then true else false then
aR 3 g a.2 fun i=>
(C 99 [snap a.2 i]).bind fun j=>
(call 98 [a.1,j] a.2 lo).bind fun d=>dU d.1 (fun e=>some (Out.ret e,d.2)) fun e=>some (Out.pan e,d.2) else none else none:=r8
theorem E7 (c d:A):aF (cx C) call rg n 98 [c,d] H lo=aK (cx C) call rg n 98 lo 0 (List.length H) (fun b a=>bif Nat.beq b 0 then
(bn prog 160 5 (lk a 1) (St.H a)).bind fun g=>
(aN prog 46 1 [(0,cU (St.H a) g)]).bind fun t2=>
(bW prog 46 46 false (lk a 0) t2 (St.H a) lo).bind fun e=>some (Out.ret e.1,e.2) else none) (fun b a=>none) (fun f=>some (Out.ret (lk f 4),St.H f)) (fun b a=>some (Out.pan b,St.H a)) n (St.mk [(0,c),(1,d),(4,A.imm [] true)] H):=r8
theorem SA (a:A):aF (cx C) call rg n 99 [a] H lo =
(bn prog 3 160 a H).bind fun b=>
aU .shl 160 false true b (A.v (.int .u64 1)) fun c=>
aU .shr 3 false true a (A.v (.int .u64 63)) fun t2=>
(bn prog 3 160 t2 H).bind fun d=>
aU .xor 160 false false c d fun e=>some (Out.ret e,H):=r8
theorem Gg (b f:A):aF (cx C) call rg n 100 [b,f] H lo =
je f H fun g=>
(sf lo g.1 g.2).bind fun a=>bif bif qD (A.v (.int .u8 2)) then true else false then
(aN prog 46 1 [(0,cU a.2 (A.v (.int .u8 2)))]).bind fun t2=>
bT 107 a.1 2 a.2 fun h=>
aR 9 h a.2 fun i=>
dS 9 i a.2 fun j=>
(bn prog 3 160 j a.2).bind fun o=>
bT 107 a.1 2 a.2 fun c=>
aR 9 c a.2 fun p=>bif bif apart c b then bif apart a.1 b then bif apart j b then bif apart i b then bif apart h b then bif apart a.1 b then true else false else false else false else false else false else false then
(bW prog 46 46 false b t2 a.2 lo).bind fun k=>bif bif iM 1000 c then bif iM 1000 a.1 then true else false else false then
(call 98 [k.1,o] k.2 lo).bind fun d=>dU d.1 (fun e=>
(bW prog 46 9 false e p d.2 lo).bind fun l=>some (Out.ret l.1,l.2)) fun e=>some (Out.pan e,d.2) else none else none else none:=r8
theorem IB (a h i:A):aF (cx C) call rg n 101 [a,h,i] H lo =
je h H fun d=>
(aN prog 46 1 [(0,cU d.2 (A.v (.int .u8 3)))]).bind fun q=>
(bW prog 46 46 false a q d.2 lo).bind fun b=>bif bif apart d.1 a then true else false then
bT 107 d.1 3 b.2 fun j=>bif bif apart j a then true else false then
aR 105 j b.2 fun k=>bif bif apart k a then true else false then
dS 105 k b.2 fun l=>bif bif apart l a then true else false then
(bn prog 3 160 l b.2).bind fun r=>
(call 98 [b.1,r] b.2 lo).bind fun c=>dU c.1 (fun g=>
fl 107 d.1 3 105 c.2 fun o=>
dS 105 o c.2 fun s=>aK (cx C) call rg n 101 lo 0 (List.length c.2) (fun f e=>bif Nat.beq f 0 then some (Out.ret (lk e 0),St.H e) else none) (fun f e=>none) (fun p=>some (Out.ret (lk p 5),St.H p)) (fun f e=>some (Out.pan f,St.H e)) n (St.mk [(0,g),(2,i),(5,A.imm [] true),(17,o),(18,s),(19,iA 0)] c.2)) fun g=>some (Out.pan g,c.2) else none else none else none else none:=r8
theorem MQ (l:A):aF (cx C) call rg n 102 [l] H lo =
je l H fun a=>
fl 107 a.1 0 3 a.2 fun t2=>
aU .eql 3 false true t2 (iA 1) fun t=>bk t (fl 107 a.1 2 9 a.2 fun i=>
aU .eql 9 false true i (A.v (Value.string (ByteArray.mk #[]))) fun j=>
(cu j (bT 107 a.1 3 a.2 fun h=>
aR 105 h a.2 fun d=>
dS 105 d a.2 fun e=>
aU .eql 3 false true e (iA 0) fun c=>some [c,c,e,d,h]) (some [bA false,ud,ud,ud,ud])).bind fun u=>dz u fun w o x k y=>bf y fun p q=>some (Out.ret w,a.2)) (aU .eql 3 false true t2 (iA 2) fun z=>bk z (fl 107 a.1 1 3 a.2 fun j=>
aU .eql 3 false true j (iA 0) fun h=>
(cu h (bT 107 a.1 3 a.2 fun d=>
aR 105 d a.2 fun e=>
dS 105 e a.2 fun c=>
aU .eql 3 false true c (iA 0) fun f=>some [f,f,c,e,d]) (some [bA false,ud,ud,ud,ud])).bind fun l8=>dz l8 fun o x k p q=>bf q fun a1 a3=>some (Out.ret o,a.2)) (aU .eql 3 false true t2 (iA 3) fun i=>bk i (aK (cx C) call rg n 102 lo 0 (List.length a.2) (fun g b=>bif Nat.beq g 1 then
fl 107 (lk b 1) 1 3 (St.H b) fun d=>
aU .eql 3 false true d (iA 0) fun e=>
(cu e (bT 107 (lk b 1) 2 (St.H b) fun c=>
aR 9 c (St.H b) fun f=>
aU .eql 9 false true f (A.v (Value.string (ByteArray.mk #[]))) fun r=>some [r,r,f,c]) (some [bA false,ud,ud,ud])).bind fun a2=>dz a2 fun k p a1 a4 a5=>some (Out.ret k,St.H b) else bif Nat.beq g 0 then some (Out.ret (bA false),St.H b) else none) (fun g b=>none) (fun s=>some (Out.ret (lk s 2),St.H s)) (fun g b=>some (Out.pan g,St.H b)) n (St.mk [(1,a.1),(2,bA false),(3,iA 0)] a.2)) (some (Out.ret (bA false),a.2)))):=r8
theorem MR (d:A):aF (cx C) call rg n 103 [d] H lo =
je d H fun a=>
fl 107 a.1 0 3 a.2 fun t2=>
aU .neq 3 false true t2 (iA 3) fun f=>bk f (some (Out.ret (iA 0),a.2)) (aK (cx C) call rg n 103 lo 0 (List.length a.2) (fun c b=>bif Nat.beq c 0 then
aU .add 3 false true (lk b 3) (iA 1) fun g=>some (Out.ret g,St.H b) else none) (fun c b=>none) (fun e=>some (Out.ret (lk e 2),St.H e)) (fun c b=>some (Out.pan c,St.H b)) n (St.mk [(1,a.1),(2,iA 0),(3,iA 0),(4,iA 0)] a.2)):=r8
theorem MS (a:A):aF (cx C) call rg n 104 [a] H lo =
aU .lss 160 false true a (A.v (.int .u64 128)) fun d=>bk d ((bn prog 160 5 a H).bind fun b=>
(aN prog 46 1 [(0,cU H b)]).bind fun t2=>some (Out.ret t2,H)) (aU .rem 160 false true a (A.v (.int .u64 128)) fun b=>
aU .add 160 false true b (A.v (.int .u64 128)) fun t2=>
(bn prog 160 5 t2 H).bind fun e=>
(aN prog 46 1 [(0,cU H e)]).bind fun f=>
aU .quo 160 false true a (A.v (.int .u64 128)) fun g=>
(C 104 [snap H g]).bind fun h=>
(bW prog 46 46 false f h H lo).bind fun c=>some (Out.ret c.1,c.2)):=r8
theorem MT (a:A):aF (cx C) call rg n 105 [a] H lo =
aU .geq 3 false true a (iA 0) fun c=>bk c ((bn prog 3 160 a H).bind fun b=>
aU .mul 160 true false (A.v (.int .u64 2)) b fun t2=>some (Out.ret t2,H)) (aU .add 3 false true a (iA 1) fun b=>
(iL prog UnOp.neg b).bind fun t2=>
(bn prog 3 160 t2 H).bind fun d=>
aU .mul 160 true false (A.v (.int .u64 2)) d fun e=>
aU .add 160 false true e (A.v (.int .u64 1)) fun f=>some (Out.ret f,H)):=r8
theorem MU (a:A):aF (cx C) call rg n 106 [a] H lo =
aU .neq 3 false false a a fun b=>some (Out.ret b,H):=r8
theorem Gk (b c:A):aF (cx C) call rg n 107 [b,c] H lo =
iW b H fun f=>
fl 150 f 0 46 H fun t2=>
dS 46 t2 H fun g=>
aU .leq 3 false false c g fun h=>
(call 92 [b,h] H lo).bind fun a=>dU a.1 (fun d=>
iW b a.2 fun i=>
fl 150 i 0 46 a.2 fun j=>
(eI prog 46 j none (some c) (some c) a.2).bind fun k=>
iW b a.2 fun l=>
fl 150 l 0 46 a.2 fun o=>
(eI prog 46 o (some c) none none a.2).bind fun p=>
iW b a.2 fun q=>
bT 150 q 0 a.2 fun e=>
cK 46 e (cD e a.2 p) a.2 lo fun r=>some (Out.ret k,r)) fun d=>some (Out.pan d,a.2):=r8
theorem MV (a:A):aF (cx C) call rg n 108 [a] H lo =
aU .shr 160 false true a (A.v (.int .u64 1)) fun b=>
(bn prog 160 3 b H).bind fun c=>
aU .and 160 false true a (A.v (.int .u64 1)) fun t2=>
(bn prog 160 3 t2 H).bind fun d=>
(iL prog UnOp.neg d).bind fun e=>
aU .xor 3 false false c e fun f=>some (Out.ret f,H):=r8
theorem Gl (c:A):aF (cx C) call rg n 109 [c] H lo=aK (cx C) call rg n 109 lo 0 (List.length H) (fun b a=>bif Nat.beq b 0 then some (Out.ret (lk a 2),St.H a) else none) (fun b a=>none) (fun d=>some (Out.ret (lk d 2),St.H d)) (fun b a=>some (Out.pan b,St.H a)) n (St.mk [(0,c),(2,A.v (.int .u64 0)),(3,iA 0)] H):=r8
theorem IC (a:A):aF (cx C) call rg n 110 [a] H lo =
(call 109 [a] H lo).bind fun H0=>dU H0.1 (fun b=>
iW a H0.2 fun t2=>
fl 150 t2 0 46 H0.2 fun e=>
dS 46 e H0.2 fun f=>
(bn prog 3 160 f H0.2).bind fun g=>
aU .leq 160 false false b g fun h=>
(call 92 [a,h] H0.2 lo).bind fun c=>dU c.1 (fun d=>
(bn prog 160 3 b c.2).bind fun i=>some (Out.ret i,c.2)) fun d=>some (Out.pan d,c.2)) fun b=>some (Out.pan b,H0.2):=r8
theorem ID (a:A):aF (cx C) call rg n 112 [a] H lo =
iW a H fun f=>
fl 155 f 1 3 H fun t2=>
iW a H fun g=>
fl 155 g 0 46 H fun h=>
dS 46 h H fun i=>
aU .geq 3 false false t2 i fun j=>bk j (iW a H fun c=>
bT 155 c 2 H fun d=>
cK 4 d (cD d H (bA true)) H lo fun k=>some (Out.ret (A.v (.int .u8 0)),k)) (iW a H fun c=>
fl 155 c 1 3 H fun l=>
aU .add 3 false true l (iA 1) fun o=>
iW a H fun p=>
bT 155 p 1 H fun e=>
cK 3 e (cD e H o) H lo fun b=>
iW a b fun q=>
fl 155 q 0 46 b fun r=>
iW a b fun s=>
fl 155 s 1 3 b fun t=>
aU .sub 3 false true t (iA 1) fun u=>
dR 46 r u b fun w=>
aR 5 w b fun x=>some (Out.ret x,b)):=r8
theorem Gn (c:A):aF (cx C) call rg n 113 [c] H lo=aK (cx C) call rg n 113 lo 0 (List.length H) (fun a b=>bif Nat.beq a 0 then some (Out.ret (A.v (.int .u64 0)),St.H b) else none) (fun a b=>none) (fun d=>some (Out.ret (lk d 2),St.H d)) (fun a b=>some (Out.pan a,St.H b)) n (St.mk [(0,c),(2,A.v (.int .u64 0)),(3,A.v (.int .u64 0)),(4,iA 0)] H):=r8
theorem MW (c e d:A):aK (cx C) call rg n 8 lo 0 L kx kg kr kp (m+1) (St.mk [(1,c),(2,e),(4,d)] H) =
fl 28 c 1 26 H fun t1=>
dS 26 t1 H fun t2=>
aU .lss 3 false false d t2 fun t3=>bk t3 (fl 28 c 1 26 H fun t5=>
dR 26 t5 d H fun t6=>
aR 55 t6 H fun t7=>
fq 55 H fun b=>
cK 55 b.1 (cD b.1 b.2 t7) b.2 lo fun a=>
fl 55 b.1 0 53 a fun a9=>
dS 53 a9 a fun aa=>
aU .gtr 3 false true aa (iA 40) fun ab=>
(cu ab (some [bA true,ud,ud,ud,ud,ud,ud,ud,ud,ud,ud]) (bT 55 b.1 1 a fun i=>
aR 50 i a fun j=>
dS 50 j a fun k=>
aU .gtr 3 false true k (iA 60) fun f=>
(cu f (bT 55 b.1 1 a fun l=>
aR 50 l a fun o=>
dS 50 o a fun p=>
aU .lss 3 false true p (iA 4094) fun q=>some [q,q,p,o,l]) (some [bA false,ud,ud,ud,ud])).bind fun ad=>dz ad fun g r s t h=>bf h fun u ao=>some [g,g,r,s,t,u,f,f,k,j,i])).bind fun ae=>oI ae fun af ap aq ar g r s t h=>eY h fun u au ag=>bf ag fun av aw=>
(cu af (some [bA true,ud,ud,ud,ud]) (bT 55 b.1 1 a fun v=>
aR 50 v a fun w=>
dS 50 w a fun x=>
aU .gtr 3 false true x (iA 5000) fun y=>some [y,y,x,w,v])).bind fun ah=>dz ah fun ai ax ay az aj=>bf aj fun b0 b1=>
(cu ai (some [bA true,ud,ud,ud,ud]) (bT 55 b.1 2 a fun z=>
aR 50 z a fun a0=>
dS 50 a0 a fun a1=>
aU .gtr 3 false true a1 (iA 5000) fun a2=>some [a2,a2,a1,a0,z])).bind fun ak=>dz ak fun al b2 b3 b4 am=>bf am fun b5 b6=>bk al (kr (St.mk [(1,c),(2,bA false),(4,d)] a)) (aU .add 3 false true d (iA 1) fun a3=>
lR L a fun an=>bif bif Nat.beq (List.length a) L then true else aS L [(4,a3),(1,c),(2,e)] [1,2,4] then aK (cx C) call rg n 8 lo 0 L kx kg kr kp m (St.mk [(1,c),(2,e),(4,a3)] an) else none)) (kx 0 (St.mk [(1,c),(2,e),(4,d)] H)):=r8
theorem IE (b d x3 Eo Ep CC:A):aK (cx C) call rg n 13 lo 0 L kx kg kr kp (m+1) (St.mk [(1,b),(2,d),(3,x3),(31,Eo),(32,Ep),(33,CC)] H) =
aU .lss 3 false false CC Ep fun f=>bk f (dR 26 Eo CC H fun g=>
aR 55 g H fun t2=>
fq 55 H fun c=>
cK 55 c.1 (cD c.1 c.2 t2) c.2 lo fun a=>
aR 55 c.1 a fun h=>
fl 28 b 2 3 a fun i=>
(C 34 [snap a h,snap a CC,snap a x3,snap a i]).bind fun j=>
(iL prog UnOp.not j).bind fun k=>bk k (kr (St.mk [(1,b),(2,iA 490),(3,x3),(31,Eo),(32,Ep),(33,CC)] a)) (aU .add 3 false true CC (iA 1) fun e=>
lR L a fun l=>bif bif Nat.beq (List.length a) L then true else aS L [(33,e),(1,b),(2,d),(3,x3),(31,Eo),(32,Ep)] [1,2,3,31,32,33] then aK (cx C) call rg n 13 lo 0 L kx kg kr kp m (St.mk [(1,b),(2,d),(3,x3),(31,Eo),(32,Ep),(33,e)] l) else none)) (kx 0 (St.mk [(1,b),(2,d),(3,x3),(31,Eo),(32,Ep),(33,CC)] H)):=r8
theorem IG (b h x3 d e f:A):aK (cx C) call rg n 13 lo 1 L kx kg kr kp (m+1) (St.mk [(1,b),(2,h),(3,x3),(48,d),(49,e),(50,f)] H) =
aU .lss 3 false false f e fun t0=>bk t0 (dR 22 d f H fun t1=>
aR 48 t1 H fun t2=>
fq 48 H fun g=>
cK 48 g.1 (cD g.1 g.2 t2) g.2 lo fun w=>
fl 48 g.1 2 46 w fun t6=>
(C 35 [snap w t6]).bind fun z=>
eG z 0 fun t8=>
eG z 1 fun x=>
fq 75 w fun i=>
cK 75 i.1 (cD i.1 i.2 t8) i.2 lo fun b4=>
fq 30 b4 fun j=>
fq 41 j.2 fun c=>
fl 75 i.1 1 30 c.2 fun b5=>
bT 75 i.1 2 c.2 fun a0=>
aR 41 a0 c.2 fun b6=>bif bif apart a0 j.1 then bif apart i.1 j.1 then true else false else false then
cK 30 j.1 (cD j.1 c.2 b5) c.2 lo fun a1=>
cK 41 c.1 (cD c.1 a1 b6) a1 lo fun a=>
(cu x (bT 75 i.1 0 a fun a2=>
aR 3 a2 a fun a3=>
aU .eql 3 false true a3 (iA 1) fun a4=>some [a4,a4,a3,a2]) (some [bA false,ud,ud,ud])).bind fun b7=>dz b7 fun b8 c5 c6 c7 c8=>bk b8 (aR 30 j.1 a fun y=>
(C 24 [snap a y,snap a x3]).bind fun k=>
(cu k (bT 48 g.1 0 a fun t=>
aR 3 t a fun u=>
aU .eql 3 false true u (iA 0) fun l=>some [l,l,u,t]) (some [bA false,ud,ud,ud])).bind fun b9=>dz b9 fun ba c9 a5 bb ca=>
(cu ba (bT 48 g.1 1 a fun o=>
aR 3 o a fun p=>
bT 30 j.1 1 a fun q=>
aR 3 q a fun a6=>
aU .add 3 false true a6 (iA 1) fun a7=>
aU .eql 3 false false p a7 fun r=>some [r,r,a7,a6,q,p,o]) (some [bA false,ud,ud,ud,ud,ud,ud])).bind fun bc=>dz bc fun a8 bd be bg a9=>eY a9 fun cb aa bh=>bf bh fun bi cc=>
(iL prog UnOp.not a8).bind fun v=>bk v (kr (St.mk [(1,b),(2,iA 490),(3,x3),(48,d),(49,e),(50,f)] a)) (aU .add 3 false true f (iA 1) fun s=>
lR L a fun bj=>bif bif Nat.beq (List.length a) L then true else aS L [(50,s),(1,b),(2,h),(3,x3),(48,d),(49,e)] [1,2,3,48,49,50] then aK (cx C) call rg n 13 lo 1 L kx kg kr kp m (St.mk [(1,b),(2,h),(3,x3),(48,d),(49,e),(50,s)] bj) else none)) (bk x (fl 41 c.1 0 3 a fun k=>
aU .sub 3 false true x3 (iA 1) fun t=>
(C 30 [snap a k,snap a (iA 0),snap a t]).bind fun u=>
(cu u (bT 41 c.1 1 a fun l=>
aR 3 l a fun ab=>
bT 28 b 2 a fun ad=>
aR 3 ad a fun o=>
aU .sub 3 false true o (iA 1) fun p=>
(C 30 [snap a ab,snap a (iA 0),snap a p]).bind fun q=>some [q,q,p,o,ad,ab,l]) (some [bA false,ud,ud,ud,ud,ud,ud])).bind fun bl=>dz bl fun a5 bb cd a8 bm=>eY bm fun bd be bn=>bf bn fun bg a9=>
(cu a5 (bT 48 g.1 0 a fun r=>
aR 3 r a fun ae=>
bT 41 c.1 0 a fun af=>
aR 3 af a fun v=>
aU .add 3 false true v (iA 1) fun s=>
aU .eql 3 false false ae s fun ag=>some [ag,ag,s,v,af,ae,r]) (some [bA false,ud,ud,ud,ud,ud,ud])).bind fun bo=>dz bo fun aa bi ce cf bp=>eY bp fun cg ch bq=>bf bq fun ci cj=>
(cu aa (bT 48 g.1 1 a fun ah=>
aR 3 ah a fun ai=>
aU .eql 3 false true ai (iA 0) fun aj=>some [aj,aj,ai,ah]) (some [bA false,ud,ud,ud])).bind fun br=>dz br fun ak ck cl cm cn=>
rF ak true (bT 28 b 1 a fun al=>
aR 26 al a fun am=>
bT 41 c.1 0 a fun an=>
aR 3 an a fun ao=>
dR 26 am ao a fun ap=>
bT 55 ap 2 a fun aq=>
aR 50 aq a fun ar=>
bT 41 c.1 1 a fun au=>
aR 3 au a fun av=>
dR 50 ar av a fun aw=>
aR 3 aw a fun bs=>
bT 41 c.1 2 a fun ax=>
aR 3 ax a fun bt=>some [bt,ax,bs,aw,av,au,ar,aq,ap,ao,an,am,al]) (some [ud,ud,ud,ud,ud,ud,ud,ud,ud,ud,ud,ud,ud]) fun bu=>oI bu fun bv co bw cp cq cr cs ct bx=>dz bx fun cv cw cy cz bz=>bf bz fun d0 d1=>
(cu ak (aU .eql 3 false false bw bv fun ay=>some [ay,ay]) (some [bA false,ud])).bind fun c0=>eY c0 fun c1 d2 d3=>
(iL prog UnOp.not c1).bind fun c2=>bk c2 (kr (St.mk [(1,b),(2,iA 490),(3,x3),(48,d),(49,e),(50,f)] a)) (aU .add 3 false true f (iA 1) fun az=>
lR L a fun c3=>bif bif Nat.beq (List.length a) L then true else aS L [(50,az),(1,b),(2,h),(3,x3),(48,d),(49,e)] [1,2,3,48,49,50] then aK (cx C) call rg n 13 lo 1 L kx kg kr kp m (St.mk [(1,b),(2,h),(3,x3),(48,d),(49,e),(50,az)] c3) else none)) ((iL prog UnOp.not x).bind fun y=>bk y (kr (St.mk [(1,b),(2,iA 490),(3,x3),(48,d),(49,e),(50,f)] a)) (aU .add 3 false true f (iA 1) fun k=>
lR L a fun c4=>bif bif Nat.beq (List.length a) L then true else aS L [(50,k),(1,b),(2,h),(3,x3),(48,d),(49,e)] [1,2,3,48,49,50] then aK (cx C) call rg n 13 lo 1 L kx kg kr kp m (St.mk [(1,b),(2,h),(3,x3),(48,d),(49,e),(50,k)] c4) else none))) else none) (kx 2 (St.mk [(1,b),(2,h),(3,x3),(48,d),(49,e),(50,f)] H)):=r8
theorem IH (a b x3:A):aK (cx C) call rg n 14 lo 0 L kx kg kr kp (m+1) (St.mk [(1,a),(2,b),(3,x3)] H) =
fl 28 a 1 26 H fun d=>
dS 26 d H fun t2=>
aU .lss 3 false false x3 t2 fun e=>bk e (aR 28 a H fun f=>
(C 38 [snap H f,snap H x3]).bind fun g=>
(iL prog UnOp.not g).bind fun h=>bk h (kr (St.mk [(1,a),(2,iA 490),(3,x3)] H)) (aU .add 3 false true x3 (iA 1) fun c=>
lR L H fun i=>bif bif Nat.beq (List.length H) L then true else aS L [(3,c),(1,a),(2,b)] [1,2,3] then aK (cx C) call rg n 14 lo 0 L kx kg kr kp m (St.mk [(1,a),(2,b),(3,c)] i) else none)) (kx 0 (St.mk [(1,a),(2,b),(3,x3)] H)):=r8
theorem II (a c b:A):aK (cx C) call rg n 14 lo 1 L kx kg kr kp (m+1) (St.mk [(1,a),(2,c),(5,b)] H) =
bT 28 a 0 H fun e=>
fl 25 e 0 22 H fun t2=>
dS 22 t2 H fun f=>
aU .lss 3 false false b f fun g=>bk g (aR 28 a H fun h=>
bT 28 a 0 H fun i=>
fl 25 i 0 22 H fun j=>
dR 22 j b H fun k=>
aR 48 k H fun l=>
(C 39 [snap H h,snap H l]).bind fun o=>
(iL prog UnOp.not o).bind fun p=>bk p (kr (St.mk [(1,a),(2,iA 490),(5,b)] H)) (aU .add 3 false true b (iA 1) fun d=>
lR L H fun q=>bif bif Nat.beq (List.length H) L then true else aS L [(5,d),(1,a),(2,c)] [1,2,5] then aK (cx C) call rg n 14 lo 1 L kx kg kr kp m (St.mk [(1,a),(2,c),(5,d)] q) else none)) (kx 2 (St.mk [(1,a),(2,c),(5,b)] H)):=r8
theorem IJ (c d h b:A):aK (cx C) call rg n 22 lo 0 L kx kg kr kp (m+1) (St.mk [(0,c),(1,d),(4,h),(5,b)] H) =
dS 26 c H fun t0=>
aU .lss 3 false false b t0 fun t1=>bk t1 (dR 26 c b H fun t2=>
fl 55 t2 0 53 H fun t4=>
dS 53 t4 H fun t5=>
dR 26 d b H fun t6=>
fl 55 t6 0 53 H fun t8=>
dS 53 t8 H fun t9=>
aU .neq 3 false false t5 t9 fun a7=>
(cu a7 (some [bA true,ud,ud,ud,ud,ud,ud,ud,ud,ud,ud,ud,ud]) (dR 26 c b H fun j=>
bT 55 j 1 H fun k=>
aR 50 k H fun l=>
dR 26 d b H fun o=>
bT 55 o 1 H fun p=>
aR 50 p H fun q=>
(C 55 [snap H l,snap H q]).bind fun r=>
(iL prog UnOp.not r).bind fun s=>some [s,s,r,q,p,o,b,d,l,k,j,b,c])).bind fun a8=>oI a8 fun t al am an ao ap aq ar a9=>dz a9 fun au av aw ax aa=>bf aa fun ay az=>
rF t false (dR 26 c b H fun u=>
bT 55 u 2 H fun v=>
aR 50 v H fun ab=>
dR 26 d b H fun w=>
bT 55 w 2 H fun x=>
aR 50 x H fun ad=>some [ad,x,w,b,d,ab,v,u,b,c]) (some [ud,ud,ud,ud,ud,ud,ud,ud,ud,ud]) fun ae=>oI ae fun af b0 b1 b2 b3 ag b4 b5 ah=>eY ah fun b6 b7 b8=>
(cu t (some [bA true,ud,ud]) ((C 55 [snap H ag,snap H af]).bind fun y=>
(iL prog UnOp.not y).bind fun z=>some [z,z,y])).bind fun ai=>eY ai fun aj b9 ak=>bf ak fun ba bb=>bk aj (kr (St.mk [(0,c),(1,d),(4,bA false),(5,b)] H)) (aK (cx C) call rg n 22 lo 1 (List.length H) (fun e a=>bif Nat.beq e 2 then
aU .add 3 false true (lk a 5) (iA 1) fun f=>
lR L (St.H a) fun i=>bif bif Nat.beq (List.length (St.H a)) L then true else aS L ((5,f) :: (17,f) :: (16,lk a 5) :: St.fr a) [0,1,4,5] then aK (cx C) call rg n 22 lo 0 L kx kg kr kp m (St.mk [(0,lk a 0),(1,lk a 1),(4,lk a 4),(5,f)] i) else none else bif Nat.beq e 1 then
aU .add 3 false true (lk a 5) (iA 1) fun f=>
lR L (St.H a) fun i=>bif bif Nat.beq (List.length (St.H a)) L then true else aS L ((5,f) :: (17,f) :: (16,lk a 5) :: St.fr a) [0,1,4,5] then aK (cx C) call rg n 22 lo 0 L kx kg kr kp m (St.mk [(0,lk a 0),(1,lk a 1),(4,lk a 4),(5,f)] i) else none else kx e (St.mk [(0,lk a 0),(1,lk a 1),(4,lk a 4),(5,lk a 5)] (St.H a))) (fun e a=>kg e (St.mk [(0,lk a 0),(1,lk a 1),(4,lk a 4),(5,lk a 5)] (St.H a))) (fun g=>kr (St.mk [(0,lk g 0),(1,lk g 1),(4,lk g 4),(5,lk g 5)] (St.H g))) (fun e a=>kp e (St.mk [(0,lk a 0),(1,lk a 1),(4,lk a 4),(5,lk a 5)] (St.H a))) n (St.mk [(0,c),(1,d),(4,h),(5,b),(6,iA 0)] H))) (kx 0 (St.mk [(0,c),(1,d),(4,h),(5,b)] H)):=r8
theorem IK (b d e a c:A):aK (cx C) call rg n 22 lo 1 L kx kg kr kp (m+1) (St.mk [(0,b),(1,d),(4,e),(5,a),(6,c)] H) =
dR 26 b a H fun g=>
fl 55 g 0 53 H fun t2=>
dS 53 t2 H fun h=>
aU .lss 3 false false c h fun i=>bk i (dR 26 b a H fun j=>
fl 55 j 0 53 H fun k=>
dR 53 k c H fun l=>
aR 30 l H fun o=>
dR 26 d a H fun p=>
fl 55 p 0 53 H fun q=>
dR 53 q c H fun r=>
aR 30 r H fun s=>
aU .neq 30 false false o s fun t=>bk t (kr (St.mk [(0,b),(1,d),(4,bA false),(5,a),(6,c)] H)) (aU .add 3 false true c (iA 1) fun f=>
lR L H fun u=>bif bif Nat.beq (List.length H) L then true else aS L [(6,f),(0,b),(1,d),(4,e),(5,a)] [0,1,4,5,6] then aK (cx C) call rg n 22 lo 1 L kx kg kr kp m (St.mk [(0,b),(1,d),(4,e),(5,a),(6,f)] u) else none)) (kx 2 (St.mk [(0,b),(1,d),(4,e),(5,a),(6,c)] H)):=r8
theorem E5 (a x3 x9 wx pP:A):aK (cx C) call rg n 26 lo 0 L kx kg kr kp (m+1) (St.mk [(2,a),(3,x3),(9,x9),(10,wx),(11,pP)] H) =
aU .lss 3 false false pP wx fun f=>bk f (dR 108 x9 pP H fun g=>
aR 110 g H fun t2=>
fl 107 x3 3 105 H fun h=>
iW t2 H fun i=>
aR 3 i H fun j=>
iT 107 [(0,iA 1),(1,j)] fun k=>
(aN prog 105 1 [(0,cU H k)]).bind fun l=>
(bW prog 105 105 false h l H lo).bind fun b=>
bT 107 x3 3 b.2 fun c=>
cK 105 c (cD c b.2 b.1) b.2 lo fun d=>
aU .add 3 false true pP (iA 1) fun e=>
lR L d fun o=>bif bif Nat.beq (List.length d) L then true else aS L [(11,e),(2,a),(3,x3),(9,x9),(10,wx)] [2,3,9,10,11] then aK (cx C) call rg n 26 lo 0 L kx kg kr kp m (St.mk [(2,a),(3,x3),(9,x9),(10,wx),(11,e)] o) else none) (kx 0 (St.mk [(2,a),(3,x3),(9,x9),(10,wx),(11,pP)] H)):=r8
theorem IL (b c zR yY rD:A):aK (cx C) call rg n 33 lo 0 L kx kg kr kp (m+1) (St.mk [(1,b),(2,c),(15,zR),(16,yY),(17,rD)] H) =
aU .lss 3 false false rD yY fun t0=>bk t0 (dR 23 zR rD H fun t1=>
aR 115 t1 H fun t2=>
(jC prog 115 H).bind fun e=>
cK 115 e.1 (cD e.1 e.2 t2) e.2 lo fun a=>
aR 115 e.1 a fun t5=>
(C 64 [snap a t5]).bind fun t6=>
(iL prog UnOp.not t6).bind fun h=>
rF h false (aU .gtr 3 false true rD (iA 0) fun i=>
rF i true (bT 25 b 1 a fun p=>
aR 23 p a fun q=>
aU .sub 3 false true rD (iA 1) fun r=>
dR 23 q r a fun s=>
(eI prog 115 s none none none a).bind fun a7=>
(eI prog 115 e.1 none none none a).bind fun a8=>some [a8,a7,s,r,rD,q,p]) (some [ud,ud,ud,ud,ud,ud,ud]) fun l9=>dz l9 fun j t u v aa=>eY aa fun w x ab=>bf ab fun d y=>some [j,t,u,v,w,x,d,i,i,rD]) (some [ud,ud,ud,ud,ud,ud,ud,ud,ud,ud]) fun l8=>oI l8 fun u9 j t u v w x d y=>eY y fun al am an=>oH d true ((call 65 [j,u9] a lo).bind fun f=>dU f.1 (fun k=>
rF d true (aU .geq 3 false true k (iA 0) fun g=>some [g]) (some [ud]) fun l=>bf l fun o ao=>
(cu h (some [bA true,ud]) ((cu d (some o) (some (bA false))).bind fun z=>some [z,z])).bind fun a0=>eY a0 fun af ap aq=>bk af (kr (St.mk [(1,b),(2,iA 60),(15,zR),(16,yY),(17,rD)] f.2)) (aU .add 3 false true rD (iA 1) fun a1=>
lR L f.2 fun ag=>bif bif Nat.beq (List.length f.2) L then true else aS L [(17,a1),(1,b),(2,c),(15,zR),(16,yY)] [1,2,15,16,17] then aK (cx C) call rg n 33 lo 0 L kx kg kr kp m (St.mk [(1,b),(2,c),(15,zR),(16,yY),(17,a1)] ag) else none)) fun k=>kp k (St.mk [(1,b),(2,c),(15,zR),(16,yY),(17,rD)] f.2)) (rF d true (aU .geq 3 false true (ud) (iA 0) fun ah=>some [ah]) (some [ud]) fun ai=>bf ai fun aj ar=>
(cu h (some [bA true,ud]) ((cu d (some aj) (some (bA false))).bind fun g=>some [g,g])).bind fun l=>eY l fun o au a0=>bk o (kr (St.mk [(1,b),(2,iA 60),(15,zR),(16,yY),(17,rD)] a)) (aU .add 3 false true rD (iA 1) fun a2=>
lR L a fun ak=>bif bif Nat.beq (List.length a) L then true else aS L [(17,a2),(1,b),(2,c),(15,zR),(16,yY)] [1,2,15,16,17] then aK (cx C) call rg n 33 lo 0 L kx kg kr kp m (St.mk [(1,b),(2,c),(15,zR),(16,yY),(17,a2)] ak) else none))) (kx 0 (St.mk [(1,b),(2,c),(15,zR),(16,yY),(17,rD)] H)):=r8
theorem IM (b c x3 a x8 Em En zS:A):aK (cx C) call rg n 34 lo 0 L kx kg kr kp (m+1) (St.mk [(1,b),(2,c),(3,x3),(4,a),(8,x8),(27,Em),(28,En),(29,zS)] H) =
aU .lss 3 false false zS En fun x=>bk x (dR 50 Em zS H fun y=>
aR 3 y H fun t2=>
(C 30 [snap H t2,snap H (iA 0),snap H (iA 8)]).bind fun z=>
(iL prog UnOp.not z).bind fun t4=>
(cu t4 (some [bA true,ud,ud,ud,ud,ud,ud,ud,ud,ud,ud,ud,ud,ud,ud,ud]) (bT 55 a 2 H fun f=>
aR 50 f H fun g=>
dR 50 g zS H fun h=>
aR 3 h H fun i=>
aU .neq 3 false false i t2 fun d=>
(cu d (bT 55 a 2 H fun j=>
aR 50 j H fun k=>
dR 50 k zS H fun l=>
aR 3 l H fun o=>
aU .neq 3 false true o (iA 0) fun p=>some [p,p,o,l,zS,k,j]) (some [bA false,ud,ud,ud,ud,ud,ud])).bind fun a1=>dz a1 fun e q r s a2=>eY a2 fun t u a3=>bf a3 fun v a8=>some [e,e,q,r,s,t,u,v,d,d,t2,i,h,zS,g,f])).bind fun l5=>oI l5 fun u6 u7 u8 u9 ad e q r a6=>oI a6 fun s t u v ae af ag ah ai=>bk u6 (kr (St.mk [(1,b),(2,c),(3,x3),(4,a),(8,bA false),(27,Em),(28,En),(29,zS)] H)) (aU .add 3 false true zS (iA 1) fun w=>
lR L H fun a7=>bif bif Nat.beq (List.length H) L then true else aS L [(29,w),(1,b),(2,c),(3,x3),(4,a),(8,x8),(27,Em),(28,En)] [1,2,3,4,8,27,28,29] then aK (cx C) call rg n 34 lo 0 L kx kg kr kp m (St.mk [(1,b),(2,c),(3,x3),(4,a),(8,x8),(27,Em),(28,En),(29,w)] a7) else none)) (kx 0 (St.mk [(1,b),(2,c),(3,x3),(4,a),(8,x8),(27,Em),(28,En),(29,zS)] H)):=r8
theorem IP (c d x8 pP e Es Et:A):aK (cx C) call rg n 34 lo 1 L kx kg kr kp (m+1) (St.mk [(1,c),(2,d),(8,x8),(11,pP),(57,e),(58,Es),(59,Et)] H) =
aU .lss 3 false false Et Es fun p=>bk p (dR 53 e Et H fun q=>
aR 30 q H fun t2=>
fq 30 H fun b=>
cK 30 b.1 (cD b.1 b.2 t2) b.2 lo fun a=>
aR 30 b.1 a fun r=>
(C 24 [snap a r,snap a d]).bind fun s=>
(iL prog UnOp.not s).bind fun t=>
(cu t (some [bA true,ud,ud,ud,ud]) (bT 30 b.1 1 a fun f=>
aR 3 f a fun g=>
aU .neq 3 false false g c fun h=>some [h,h,c,g,f])).bind fun u=>dz u fun v a2 a3 a4 w=>bf w fun a5 a6=>
(cu v (some [bA true,ud,ud,ud,ud]) (bT 30 b.1 2 a fun i=>
aR 3 i a fun j=>
aU .lss 3 false false j pP fun k=>some [k,k,pP,j,i])).bind fun x=>dz x fun y a7 a8 a9 z=>bf z fun aa ab=>bk y (kr (St.mk [(1,c),(2,d),(8,bA false),(11,pP),(57,e),(58,Es),(59,Et)] a)) (fl 30 b.1 2 3 a fun a0=>
aU .add 3 false true a0 (iA 1) fun l=>
aU .add 3 false true Et (iA 1) fun o=>
lR L a fun a1=>bif bif Nat.beq (List.length a) L then true else aS L [(59,o),(11,l),(1,c),(2,d),(8,x8),(57,e),(58,Es)] [1,2,8,11,57,58,59] then aK (cx C) call rg n 34 lo 1 L kx kg kr kp m (St.mk [(1,c),(2,d),(8,x8),(11,l),(57,e),(58,Es),(59,o)] a1) else none)) (kx 2 (St.mk [(1,c),(2,d),(8,x8),(11,pP),(57,e),(58,Es),(59,Et)] H)):=r8
theorem E6 (b x3 c d e wy:A):aK (cx C) call rg n 35 lo 0 L kx kg kr kp (m+1) (St.mk [(2,b),(3,x3),(6,c),(53,d),(54,e),(55,wy)] H) =
aU .lss 3 false false wy e fun k=>bk k (dR 105 d wy H fun l=>
aR 107 l H fun t2=>
fq 107 H fun f=>
cK 107 f.1 (cD f.1 f.2 t2) f.2 lo fun a=>
fl 107 f.1 0 3 a fun o=>
aU .neq 3 false true o (iA 1) fun p=>bk p (aR 75 b a fun g=>
cK 75 b (cD b a g) a lo fun q=>kr (St.mk [(2,b),(3,bA false),(6,c),(53,d),(54,e),(55,wy)] q)) (dR 108 c wy a fun g=>
aR 110 g a fun r=>
fl 107 f.1 1 3 a fun s=>
iW r a fun h=>
cK 3 h (cD h a s) a lo fun i=>
aU .add 3 false true wy (iA 1) fun j=>
lR L i fun t=>bif bif Nat.beq (List.length i) L then true else aS L [(55,j),(2,b),(3,x3),(6,c),(53,d),(54,e)] [2,3,6,53,54,55] then aK (cx C) call rg n 35 lo 0 L kx kg kr kp m (St.mk [(2,b),(3,x3),(6,c),(53,d),(54,e),(55,j)] t) else none)) (kx 0 (St.mk [(2,b),(3,x3),(6,c),(53,d),(54,e),(55,wy)] H)):=r8
theorem IQ (a b x3:A):aK (cx C) call rg n 37 lo 0 L kx kg kr kp (m+1) (St.mk [(1,a),(2,b),(3,x3)] H) =
fl 25 a 0 22 H fun d=>
dS 22 d H fun t2=>
aU .lss 3 false false x3 t2 fun e=>bk e (fl 25 a 0 22 H fun f=>
dR 22 f x3 H fun g=>
aR 48 g H fun h=>
(C 59 [snap H h]).bind fun i=>
(iL prog UnOp.not i).bind fun j=>bk j (kr (St.mk [(1,a),(2,iA 60),(3,x3)] H)) (aU .add 3 false true x3 (iA 1) fun c=>
lR L H fun k=>bif bif Nat.beq (List.length H) L then true else aS L [(3,c),(1,a),(2,b)] [1,2,3] then aK (cx C) call rg n 37 lo 0 L kx kg kr kp m (St.mk [(1,a),(2,b),(3,c)] k) else none)) (kx 0 (St.mk [(1,a),(2,b),(3,x3)] H)):=r8
theorem IT (c f b:A):aK (cx C) call rg n 37 lo 1 L kx kg kr kp (m+1) (St.mk [(1,c),(2,f),(4,b)] H) =
fl 25 c 1 23 H fun t1=>
dS 23 t1 H fun t2=>
aU .lss 3 false false b t2 fun t3=>bk t3 (fl 25 c 1 23 H fun t5=>
dR 23 t5 b H fun t6=>
aR 115 t6 H fun t7=>
fq 115 H fun d=>
cK 115 d.1 (cD d.1 d.2 t7) d.2 lo fun a=>
dR 115 d.1 (iA 0) a fun b9=>
aR 3 b9 a fun ba=>
(C 67 [snap a ba]).bind fun bb=>
(iL prog UnOp.not bb).bind fun bc=>
(cu bc (some [bA true,ud,ud,ud,ud]) (dR 115 d.1 (iA 1) a fun t=>
aR 3 t a fun u=>
(C 67 [snap a u]).bind fun v=>
(iL prog UnOp.not v).bind fun w=>some [w,w,v,u,t])).bind fun bd=>dz bd fun be ca cb cc bg=>bf bg fun cd ce=>
(cu be (some [bA true,ud,ud,ud,ud,ud]) (dR 115 d.1 (iA 0) a fun x=>
aR 3 x a fun y=>
dR 115 d.1 (iA 1) a fun z=>
aR 3 z a fun a0=>
aU .geq 3 false false y a0 fun a1=>some [a1,a1,a0,z,y,x])).bind fun bh=>dz bh fun bi cf cg ch bj=>eY bj fun ci cj ck=>bk bi (kr (St.mk [(1,c),(2,iA 60),(4,b)] a)) (aU .gtr 3 false true b (iA 0) fun a2=>
rF a2 true (dR 115 d.1 (iA 0) a fun a3=>
aR 3 a3 a fun a4=>
bT 25 c 1 a fun a5=>
aR 23 a5 a fun a6=>
aU .sub 3 false true b (iA 1) fun a7=>
dR 23 a6 a7 a fun a8=>
dR 115 a8 (iA 0) a fun a9=>
aR 3 a9 a fun aa=>
aU .lss 3 false false a4 aa fun r=>
rF r false (dR 115 d.1 (iA 0) a fun ab=>
aR 3 ab a fun ad=>
bT 25 c 1 a fun ae=>
aR 23 ae a fun af=>
aU .sub 3 false true b (iA 1) fun ag=>
dR 23 af ag a fun ah=>
dR 115 ah (iA 0) a fun ai=>
aR 3 ai a fun aj=>
aU .eql 3 false false ad aj fun s=>
rF s true (dR 115 d.1 (iA 1) a fun ak=>
aR 3 ak a fun bl=>
bT 25 c 1 a fun al=>
aR 23 al a fun am=>
aU .sub 3 false true b (iA 1) fun an=>
dR 23 am an a fun ao=>
dR 115 ao (iA 1) a fun ap=>
aR 3 ap a fun bm=>some [bm,ap,ao,an,b,am,al,bl,ak]) (some [ud,ud,ud,ud,ud,ud,ud,ud,ud]) fun bn=>oI bn fun g h e i j k l o bo=>bf bo fun p cl=>some [g,h,e,i,j,k,l,o,p,s,s,aj,ai,ah,ag,b,af,ae,ad,ab]) (some [ud,ud,ud,ud,ud,ud,ud,ud,ud,ud,ud,ud,ud,ud,ud,ud,ud,ud,ud,ud]) fun bp=>oI bp fun q aq ar au av aw ax ay bq=>oI bq fun az g h e i j k l br=>dz br fun o p b0 b1 cm=>some [q,aq,ar,au,av,aw,ax,ay,az,g,h,e,i,j,k,l,o,p,b0,b1,r,r,aa,a9,a8,a7,b,a6,a5,a4,a3]) (some [ud,ud,ud,ud,ud,ud,ud,ud,ud,ud,ud,ud,ud,ud,ud,ud,ud,ud,ud,ud,ud,ud,ud,ud,ud,ud,ud,ud,ud,ud,ud]) fun bs=>oI bs fun bt cn co cp cq cr cs bu bv=>oI bv fun ct q aq ar au av aw ax bw=>oI bw fun ay az g h e i j k bx=>dz bx fun l o p b0 bz=>eY bz fun b1 cv c0=>bf c0 fun cw cy=>
rF q true (aU .leq 3 false false bu bt fun c1=>some [c1]) (some [ud]) fun c2=>bf c2 fun c3 cz=>
rF e false ((cu q (some c3) (some (bA false))).bind fun c4=>some [c4]) (some [ud]) fun c5=>bf c5 fun c6 d0=>
(cu a2 ((cu e (some (bA true)) (some c6)).bind fun b2=>some [b2,b2]) (some [bA false,ud])).bind fun c7=>eY c7 fun c8 d1 d2=>bk c8 (kr (St.mk [(1,c),(2,iA 60),(4,b)] a)) (aU .add 3 false true b (iA 1) fun b3=>
lR L a fun c9=>bif bif Nat.beq (List.length a) L then true else aS L [(4,b3),(1,c),(2,f)] [1,2,4] then aK (cx C) call rg n 37 lo 1 L kx kg kr kp m (St.mk [(1,c),(2,f),(4,b3)] c9) else none))) (kx 2 (St.mk [(1,c),(2,f),(4,b)] H)):=r8
theorem IU (d c e b a:A):aK (cx C) call rg n 38 lo 0 L kx kg kr kp (m+1) (St.mk [(1,d),(2,c),(4,e),(5,b),(6,a)] H) =
fl 28 c 2 3 H fun t1=>
aU .lss 3 false false a t1 fun t2=>bk t2 (fl 55 b 1 50 H fun t4=>
dR 50 t4 a H fun t5=>
aR 3 t5 H fun t6=>
(C 36 [snap H t6,snap H (iA 0),snap H (iA 8)]).bind fun t7=>
(iL prog UnOp.not t7).bind fun i=>
rF i false (bT 55 b 2 H fun j=>
aR 50 j H fun k=>
dR 50 k a H fun l=>
aR 3 l H fun o=>
aU .neq 3 false true o (iA 0) fun g=>
rF g true (bT 55 b 2 H fun p=>
aR 50 p H fun q=>
dR 50 q a H fun r=>
aR 3 r H fun aa=>
bT 55 b 1 H fun s=>
aR 50 s H fun t=>
dR 50 t a H fun u=>
aR 3 u H fun ab=>some [ab,u,a,t,s,aa,r,a,q,p]) (some [ud,ud,ud,ud,ud,ud,ud,ud,ud,ud]) fun ad=>oI ad fun h v w x y f z a0 ae=>eY ae fun a1 a2 ap=>some [h,v,w,x,y,f,z,a0,a1,a2,g,g,o,l,a,k,j]) (some [ud,ud,ud,ud,ud,ud,ud,ud,ud,ud,ud,ud,ud,ud,ud,ud,ud]) fun l9=>oI l9 fun ag aq ar au av h v w ah=>oI ah fun x y f z a0 a1 a2 aw ai=>bf ai fun ax ay=>
rF f true (aU .neq 3 false false h ag fun aj=>some [aj]) (some [ud]) fun ak=>bf ak fun al az=>
(cu i (some [bA true,ud]) ((cu f (some al) (some (bA false))).bind fun a3=>some [a3,a3])).bind fun am=>eY am fun an b0 b1=>bk an (kr (St.mk [(1,d),(2,c),(4,bA false),(5,b),(6,a)] H)) (aU .add 3 false true a (iA 1) fun a4=>
lR L H fun ao=>bif bif Nat.beq (List.length H) L then true else aS L [(6,a4),(1,d),(2,c),(4,e),(5,b)] [1,2,4,5,6] then aK (cx C) call rg n 38 lo 0 L kx kg kr kp m (St.mk [(1,d),(2,c),(4,e),(5,b),(6,a4)] ao) else none)) (kx 0 (St.mk [(1,d),(2,c),(4,e),(5,b),(6,a)] H)):=r8
theorem IV (d e f b x7:A):aK (cx C) call rg n 38 lo 1 L kx kg kr kp (m+1) (St.mk [(1,d),(2,e),(4,f),(5,b),(7,x7)] H) =
fl 55 b 0 53 H fun t1=>
dS 53 t1 H fun t2=>
aU .lss 3 false false x7 t2 fun t3=>bk t3 (fl 55 b 0 53 H fun t5=>
dR 53 t5 x7 H fun t6=>
aR 30 t6 H fun t7=>
fq 30 H fun c=>
cK 30 c.1 (cD c.1 c.2 t7) c.2 lo fun a=>
aR 30 c.1 a fun af=>
fl 28 e 1 26 a fun ag=>
dS 26 ag a fun ah=>
(C 27 [snap a af,snap a ah]).bind fun ai=>
(iL prog UnOp.not ai).bind fun aj=>
(cu aj (some [bA true,ud,ud,ud,ud]) (bT 30 c.1 1 a fun j=>
aR 3 j a fun k=>
aU .neq 3 false false k d fun l=>some [l,l,d,k,j])).bind fun ak=>dz ak fun al b4 b5 b6 am=>bf am fun b7 b8=>
(cu al (some [bA true,ud,ud,ud,ud,ud]) (bT 30 c.1 2 a fun o=>
aR 3 o a fun p=>
bT 28 e 2 a fun q=>
aR 3 q a fun r=>
aU .lss 3 false false p r fun s=>some [s,s,r,q,p,o])).bind fun an=>dz an fun t b9 ba bb ao=>eY ao fun bc bd be=>
rF t false (aU .gtr 3 false true x7 (iA 0) fun h=>
rF h true (bT 30 c.1 2 a fun u=>
aR 3 u a fun ap=>
bT 55 b 0 a fun v=>
aR 53 v a fun w=>
aU .sub 3 false true x7 (iA 1) fun x=>
dR 53 w x a fun y=>
bT 30 y 2 a fun z=>
aR 3 z a fun aq=>some [aq,z,y,x,x7,w,v,ap,u]) (some [ud,ud,ud,ud,ud,ud,ud,ud,ud]) fun ar=>oI ar fun a0 a1 a2 a3 a4 a5 i a6 au=>bf au fun g bg=>some [a0,a1,a2,a3,a4,a5,i,a6,g,h,h,x7]) (some [ud,ud,ud,ud,ud,ud,ud,ud,ud,ud,ud,ud]) fun av=>oI av fun aw a0 a1 a2 a3 a4 a5 i ax=>dz ax fun a6 g bh bi bj=>
rF g true (aU .leq 3 false false i aw fun ay=>some [ay]) (some [ud]) fun az=>bf az fun b0 bl=>
(cu t (some [bA true,ud]) ((cu g (some b0) (some (bA false))).bind fun a7=>some [a7,a7])).bind fun b1=>eY b1 fun b2 bm bn=>bk b2 (kr (St.mk [(1,d),(2,e),(4,bA false),(5,b),(7,x7)] a)) (aU .add 3 false true x7 (iA 1) fun a8=>
lR L a fun b3=>bif bif Nat.beq (List.length a) L then true else aS L [(7,a8),(1,d),(2,e),(4,f),(5,b)] [1,2,4,5,7] then aK (cx C) call rg n 38 lo 1 L kx kg kr kp m (St.mk [(1,d),(2,e),(4,f),(5,b),(7,a8)] b3) else none)) (kx 2 (St.mk [(1,d),(2,e),(4,f),(5,b),(7,x7)] H)):=r8
theorem IW (a x3 c b:A):aK (cx C) call rg n 40 lo 0 L kx kg kr kp (m+1) (St.mk [(2,a),(3,x3),(4,c),(5,b)] H) =
fl 25 a 0 22 H fun e=>
dS 22 e H fun t2=>
aU .lss 3 false false b t2 fun f=>bk f (fl 25 a 0 22 H fun g=>
dR 22 g b H fun h=>
aR 48 h H fun i=>
fl 25 x3 0 22 H fun j=>
dR 22 j b H fun k=>
aR 48 k H fun l=>
(C 69 [snap H i,snap H l]).bind fun o=>
(iL prog UnOp.not o).bind fun p=>bk p (kr (St.mk [(2,a),(3,x3),(4,bA false),(5,b)] H)) (aU .add 3 false true b (iA 1) fun d=>
lR L H fun q=>bif bif Nat.beq (List.length H) L then true else aS L [(5,d),(2,a),(3,x3),(4,c)] [2,3,4,5] then aK (cx C) call rg n 40 lo 0 L kx kg kr kp m (St.mk [(2,a),(3,x3),(4,c),(5,d)] q) else none)) (kx 0 (St.mk [(2,a),(3,x3),(4,c),(5,b)] H)):=r8
theorem IX (a x3 c b:A):aK (cx C) call rg n 40 lo 1 L kx kg kr kp (m+1) (St.mk [(2,a),(3,x3),(4,c),(6,b)] H) =
fl 25 a 1 23 H fun e=>
dS 23 e H fun t2=>
aU .lss 3 false false b t2 fun f=>bk f (fl 25 a 1 23 H fun g=>
dR 23 g b H fun h=>
aR 115 h H fun i=>
fl 25 x3 1 23 H fun j=>
dR 23 j b H fun k=>
aR 115 k H fun l=>
aU .neq 115 false false i l fun o=>bk o (kr (St.mk [(2,a),(3,x3),(4,bA false),(6,b)] H)) (aU .add 3 false true b (iA 1) fun d=>
lR L H fun p=>bif bif Nat.beq (List.length H) L then true else aS L [(6,d),(2,a),(3,x3),(4,c)] [2,3,4,6] then aK (cx C) call rg n 40 lo 1 L kx kg kr kp m (St.mk [(2,a),(3,x3),(4,c),(6,d)] p) else none)) (kx 2 (St.mk [(2,a),(3,x3),(4,c),(6,b)] H)):=r8
theorem IY (b x3 a c x7:A):aK (cx C) call rg n 47 lo 0 L kx kg kr kp (m+1) (St.mk [(2,b),(3,x3),(4,a),(6,c),(7,x7)] H) =
fl 107 a 3 105 H fun f=>
dS 105 f H fun t2=>
aU .lss 3 false false x7 t2 fun g=>bk g (fl 107 a 3 105 H fun h=>
dR 105 h x7 H fun i=>
fl 107 i 0 3 H fun j=>
aU .neq 3 false true j (iA 1) fun k=>bk k (kr (St.mk [(2,A.imm [] true),(3,bA false),(4,a),(6,c),(7,x7)] H)) (fl 107 a 3 105 H fun l=>
dR 105 l x7 H fun o=>
fl 107 o 1 3 H fun p=>
(aN prog 50 1 [(0,cU H p)]).bind fun q=>
(bW prog 50 50 false c q H lo).bind fun d=>
aU .add 3 false true x7 (iA 1) fun e=>
lR L d.2 fun r=>bif bif Nat.beq (List.length d.2) L then true else aS L [(7,e),(6,d.1),(2,b),(3,x3),(4,a)] [2,3,4,6,7] then aK (cx C) call rg n 47 lo 0 L kx kg kr kp m (St.mk [(2,b),(3,x3),(4,a),(6,d.1),(7,e)] r) else none)) (kx 0 (St.mk [(2,b),(3,x3),(4,a),(6,c),(7,x7)] H)):=r8
theorem IZ (a c d b:A):aK (cx C) call rg n 55 lo 0 L kx kg kr kp (m+1) (St.mk [(0,a),(1,c),(4,d),(5,b)] H) =
dS 50 a H fun f=>
aU .lss 3 false false b f fun g=>bk g (dR 50 a b H fun t2=>
aR 3 t2 H fun h=>
dR 50 c b H fun i=>
aR 3 i H fun j=>
aU .neq 3 false false h j fun k=>bk k (kr (St.mk [(0,a),(1,c),(4,bA false),(5,b)] H)) (aU .add 3 false true b (iA 1) fun e=>
lR L H fun l=>bif bif Nat.beq (List.length H) L then true else aS L [(5,e),(0,a),(1,c),(4,d)] [0,1,4,5] then aK (cx C) call rg n 55 lo 0 L kx kg kr kp m (St.mk [(0,a),(1,c),(4,d),(5,e)] l) else none)) (kx 0 (St.mk [(0,a),(1,c),(4,d),(5,b)] H)):=r8
theorem I0 (a c x3 b:A):aK (cx C) call rg n 61 lo 0 L kx kg kr kp (m+1) (St.mk [(0,a),(2,c),(3,x3),(4,b)] H) =
dS 50 a H fun h=>
aU .lss 3 false false b h fun i=>bk i (fl 107 x3 3 105 H fun j=>
dR 50 a b H fun k=>
aR 3 k H fun l=>
(C 87 [snap H l]).bind fun o=>
(aN prog 105 1 [(0,cU H o)]).bind fun p=>
(bW prog 105 105 false j p H lo).bind fun d=>
bT 107 x3 3 d.2 fun e=>
cK 105 e (cD e d.2 d.1) d.2 lo fun f=>
aU .add 3 false true b (iA 1) fun g=>
lR L f fun q=>bif bif Nat.beq (List.length f) L then true else aS L [(4,g),(0,a),(2,c),(3,x3)] [0,2,3,4] then aK (cx C) call rg n 61 lo 0 L kx kg kr kp m (St.mk [(0,a),(2,c),(3,x3),(4,g)] q) else none) (kx 0 (St.mk [(0,a),(2,c),(3,x3),(4,b)] H)):=r8
theorem I1 (b a c x9 wx pP:A):aK (cx C) call rg n 65 lo 0 L kx kg kr kp (m+1) (St.mk [(0,b),(1,a),(4,c),(9,x9),(10,wx),(11,pP)] H) =
aU .lss 3 false false pP wx fun g=>bk g (dR 50 x9 pP H fun h=>
aR 3 h H fun t2=>
dS 50 a H fun i=>
aU .geq 3 false false pP i fun j=>bk j (kr (St.mk [(0,b),(1,a),(4,iA 1),(9,x9),(10,wx),(11,pP)] H)) (dR 50 a pP H fun k=>
aR 3 k H fun l=>
(call 89 [t2,l] H lo).bind fun d=>dU d.1 (fun e=>
aU .neq 3 false true e (iA 0) fun o=>bk o (kr (St.mk [(0,b),(1,a),(4,e),(9,x9),(10,wx),(11,pP)] d.2)) (aU .add 3 false true pP (iA 1) fun f=>
lR L d.2 fun p=>bif bif Nat.beq (List.length d.2) L then true else aS L [(11,f),(0,b),(1,a),(4,c),(9,x9),(10,wx)] [0,1,4,9,10,11] then aK (cx C) call rg n 65 lo 0 L kx kg kr kp m (St.mk [(0,b),(1,a),(4,c),(9,x9),(10,wx),(11,f)] p) else none)) fun e=>kp e (St.mk [(0,b),(1,a),(4,c),(9,x9),(10,wx),(11,pP)] d.2))) (kx 0 (St.mk [(0,b),(1,a),(4,c),(9,x9),(10,wx),(11,pP)] H)):=r8
theorem I2 (a c x3 b:A):aK (cx C) call rg n 86 lo 0 L kx kg kr kp (m+1) (St.mk [(1,a),(2,c),(3,x3),(4,b)] H) =
fl 107 a 3 105 H fun f=>
dS 105 f H fun t2=>
aU .lss 3 false false b t2 fun g=>bk g (fl 107 a 3 105 H fun h=>
dR 105 h b H fun i=>
aR 107 i H fun j=>
(C 86 [snap H j]).bind fun k=>
(bW prog 46 46 false x3 k H lo).bind fun d=>
aU .add 3 false true b (iA 1) fun e=>
lR L d.2 fun l=>bif bif Nat.beq (List.length d.2) L then true else aS L [(4,e),(3,d.1),(1,a),(2,c)] [1,2,3,4] then aK (cx C) call rg n 86 lo 0 L kx kg kr kp m (St.mk [(1,a),(2,c),(3,d.1),(4,e)] l) else none) (kx 1 (St.mk [(1,a),(2,c),(3,x3),(4,b)] H)):=r8
theorem I3 (a b c x7 x8:A):aK (cx C) call rg n 88 lo 0 L kx kg kr kp (m+1) (St.mk [(0,a),(1,b),(4,c),(7,x7),(8,x8)] H) =
aU .lss 3 false false x8 x7 fun f=>bk f (dR 22 a x8 H fun g=>
aR 48 g H fun t2=>dw (cx C) call b [t2] H lo (fun d h3=>bk d (kr (St.mk [(0,a),(1,b),(4,x8),(7,x7),(8,x8)] h3)) (aU .add 3 false true x8 (iA 1) fun e=>
lR L h3 fun h=>bif bif Nat.beq (List.length h3) L then true else aS L [(8,e),(0,a),(1,b),(4,c),(7,x7)] [0,1,4,7,8] then aK (cx C) call rg n 88 lo 0 L kx kg kr kp m (St.mk [(0,a),(1,b),(4,c),(7,x7),(8,e)] h) else none)) fun d h3=>kp d (St.mk [(0,a),(1,b),(4,c),(7,x7),(8,x8)] h3)) (kx 0 (St.mk [(0,a),(1,b),(4,c),(7,x7),(8,x8)] H)):=r8
theorem I4 (b c a FL Hj:A):aK (cx C) call rg n 91 lo 0 L kx kg kr kp (m+1) (St.mk [(0,b),(1,c),(4,a),(36,FL),(37,Hj)] H) =
aU .lss 3 false false Hj FL fun k=>bk k (bT 107 a 3 H fun g=>
aR 105 g H fun t2=>
aU .add 3 false true c (iA 1) fun l=>bif bif iM 3 g then bif iM 3 a then true else false else false then
(call 91 [b,l] H lo).bind fun d=>dU d.1 (fun f=>
(aN prog 105 1 [(0,cU d.2 f)]).bind fun o=>
(bW prog 105 105 false t2 o d.2 lo).bind fun e=>
bT 107 a 3 e.2 fun h=>
cK 105 h (cD h e.2 e.1) e.2 lo fun i=>
aU .add 3 false true Hj (iA 1) fun j=>
lR L i fun p=>bif bif Nat.beq (List.length i) L then true else aS L [(37,j),(0,b),(1,c),(4,a),(36,FL)] [0,1,4,36,37] then aK (cx C) call rg n 91 lo 0 L kx kg kr kp m (St.mk [(0,b),(1,c),(4,a),(36,FL),(37,j)] p) else none) fun f=>kp f (St.mk [(0,A.any),(1,A.any),(4,A.any),(36,A.any),(37,A.any)] d.2) else none) (kx 1 (St.mk [(0,b),(1,c),(4,a),(36,FL),(37,Hj)] H)):=r8
theorem I5 (a b c x7 x8 x9:A):aK (cx C) call rg n 95 lo 0 L kx kg kr kp (m+1) (St.mk [(0,a),(1,b),(4,c),(7,x7),(8,x8),(9,x9)] H) =
aU .lss 160 false false x9 x7 fun p=>
(cu p (iW a H fun g=>
bT 155 g 2 H fun t2=>
aR 4 t2 H fun h=>
(iL prog UnOp.not h).bind fun i=>some [i,i,h,t2,g,a]) (some [bA false,ud,ud,ud,ud,ud])).bind fun q=>dz q fun r y u4 z s=>eY s fun u6 u7 l7=>bk r (bT 107 x8 3 H fun j=>
aR 105 j H fun t=>
aU .add 3 false true b (iA 1) fun u=>bif bif iM 2 j then bif iM 2 x8 then true else false else false then
(call 95 [a,u] H lo).bind fun d=>dU d.1 (fun f=>
(aN prog 105 1 [(0,cU d.2 f)]).bind fun w=>
(bW prog 105 105 false t w d.2 lo).bind fun e=>
bT 107 x8 3 e.2 fun k=>
cK 105 k (cD k e.2 e.1) e.2 lo fun l=>
aU .add 160 false true x9 (A.v (.int .u64 1)) fun o=>
lR L l fun x=>bif bif Nat.beq (List.length l) L then true else aS L [(9,o),(0,a),(1,b),(4,c),(7,x7),(8,x8)] [0,1,4,7,8,9] then aK (cx C) call rg n 95 lo 0 L kx kg kr kp m (St.mk [(0,a),(1,b),(4,c),(7,x7),(8,x8),(9,o)] x) else none) fun f=>kp f (St.mk [(0,A.any),(1,A.any),(4,A.any),(7,A.any),(8,A.any),(9,A.any)] d.2) else none) (kx 1 (St.mk [(0,a),(1,b),(4,c),(7,x7),(8,x8),(9,x9)] H)):=r8
theorem I6 (d x3 wy Er a:A):aK (cx C) call rg n 96 lo 0 L kx kg kr kp (m+1) (St.mk [(2,d),(3,x3),(55,wy),(56,Er),(57,a)] H) =
aU .lss 3 false false a Er fun h=>bk h (dR 105 wy a H fun i=>
aR 107 i H fun t2=>
fq 107 H fun b=>
cK 107 b.1 (cD b.1 b.2 t2) b.2 lo fun c=>
aR 107 b.1 c fun j=>
(C 96 [snap c j]).bind fun e=>
eG e 0 fun k=>
eG e 1 fun l=>
(iL prog UnOp.not l).bind fun o=>bk o (kr (St.mk [(2,iA 0),(3,bA false),(55,wy),(56,Er),(57,a)] c)) ((Cz false d [k]).bind fun f=>
aU .add 3 false true a (iA 1) fun g=>
lR L c fun p=>bif bif Nat.beq (List.length c) L then true else aS L [(57,g),(2,f),(3,x3),(55,wy),(56,Er)] [2,3,55,56,57] then aK (cx C) call rg n 96 lo 0 L kx kg kr kp m (St.mk [(2,f),(3,x3),(55,wy),(56,Er),(57,g)] p) else none)) (kx 0 (St.mk [(2,d),(3,x3),(55,wy),(56,Er),(57,a)] H)):=r8
theorem yj (d a b:A):aK (cx C) call rg n 98 lo 0 L kx kg kr kp (m+1) (St.mk [(0,d),(1,a),(4,b)] H) =
aU .geq 160 false true a (A.v (.int .u64 128)) fun f=>bk f ((bn prog 160 5 a H).bind fun g=>
aU .or 5 false true g (A.v (.int .u8 128)) fun t2=>
(aN prog 46 1 [(0,cU H t2)]).bind fun h=>
(bW prog 46 46 false d h H lo).bind fun c=>
aU .shr 160 false true a (A.v (.int .u64 7)) fun e=>
lR L c.2 fun i=>bif bif Nat.beq (List.length c.2) L then true else aS L [(1,e),(0,c.1),(4,b)] [0,1,4] then aK (cx C) call rg n 98 lo 0 L kx kg kr kp m (St.mk [(0,c.1),(1,e),(4,b)] i) else none) (kx 0 (St.mk [(0,d),(1,a),(4,b)] H)):=r8
theorem Bc (f b e rD c CB:A):aK (cx C) call rg n 101 lo 0 L kx kg kr kp (m+1) (St.mk [(0,f),(2,b),(5,e),(17,rD),(18,c),(19,CB)] H) =
aU .lss 3 false false CB c fun j=>bk j (dR 105 rD CB H fun k=>
aR 107 k H fun t2=>
fq 107 H fun d=>
cK 107 d.1 (cD d.1 d.2 t2) d.2 lo fun a=>
aR 142 b a fun l=>
fl 107 d.1 0 3 a fun o=>
iW l a fun p=>
dR 158 p o a fun q=>
fl 141 q 0 139 a fun r=>
aR 107 d.1 a fun s=>dw (cx C) call r [f,s] a lo (fun g h=>
aU .add 3 false true CB (iA 1) fun i=>
lR L h fun t=>bif bif Nat.beq (List.length h) L then true else aS L [(19,i),(0,g),(2,b),(5,e),(17,rD),(18,c)] [0,2,5,17,18,19] then aK (cx C) call rg n 101 lo 0 L kx kg kr kp m (St.mk [(0,g),(2,b),(5,e),(17,rD),(18,c),(19,i)] t) else none) fun g h=>kp g (St.mk [(0,f),(2,b),(5,e),(17,rD),(18,c),(19,CB)] h)) (kx 0 (St.mk [(0,f),(2,b),(5,e),(17,rD),(18,c),(19,CB)] H)):=r8
theorem Gi (a b x3:A):aK (cx C) call rg n 102 lo 0 L kx kg kr kp (m+1) (St.mk [(1,a),(2,b),(3,x3)] H) =
fl 107 a 3 105 H fun d=>
dS 105 d H fun t2=>
aU .lss 3 false false x3 t2 fun e=>bk e (fl 107 a 3 105 H fun f=>
dR 105 f x3 H fun g=>
aR 107 g H fun h=>
(C 102 [snap H h]).bind fun i=>
(iL prog UnOp.not i).bind fun j=>bk j (kr (St.mk [(1,a),(2,bA false),(3,x3)] H)) (aU .add 3 false true x3 (iA 1) fun c=>
lR L H fun k=>bif bif Nat.beq (List.length H) L then true else aS L [(3,c),(1,a),(2,b)] [1,2,3] then aK (cx C) call rg n 102 lo 0 L kx kg kr kp m (St.mk [(1,a),(2,b),(3,c)] k) else none)) (kx 1 (St.mk [(1,a),(2,b),(3,x3)] H)):=r8
theorem Gj (a c x3 b:A):aK (cx C) call rg n 103 lo 0 L kx kg kr kp (m+1) (St.mk [(1,a),(2,c),(3,x3),(4,b)] H) =
fl 107 a 3 105 H fun f=>
dS 105 f H fun t2=>
aU .lss 3 false false b t2 fun g=>bk g (fl 107 a 3 105 H fun h=>
dR 105 h b H fun i=>
aR 107 i H fun j=>
(C 103 [snap H j]).bind fun k=>
(Cz false x3 [k]).bind fun d=>
aU .add 3 false true b (iA 1) fun e=>
lR L H fun l=>bif bif Nat.beq (List.length H) L then true else aS L [(4,e),(3,d),(1,a),(2,c)] [1,2,3,4] then aK (cx C) call rg n 103 lo 0 L kx kg kr kp m (St.mk [(1,a),(2,c),(3,d),(4,e)] l) else none) (kx 0 (St.mk [(1,a),(2,c),(3,x3),(4,b)] H)):=r8
theorem Gm (a d x3:A):aK (cx C) call rg n 109 lo 0 L kx kg kr kp (m+1) (St.mk [(0,a),(2,d),(3,x3)] H) =
(call 107 [a,iA 1] H lo).bind fun H0=>dU H0.1 (fun e=>
dR 46 e (iA 0) H0.2 fun t2=>
aR 5 t2 H0.2 fun b=>
aU .eql 3 false true x3 (iA 0) fun r=>
(cu r (some [bA true,ud,ud]) (aU .neq 5 false true b (A.v (.int .u8 0)) fun i=>some [i,i,b])).bind fun s=>eY s fun t u7 u=>bf u fun u8 l8=>
(cu t (aU .lss 3 false true x3 (iA 9) fun f=>
(cu f (some [bA true,ud,ud]) (aU .leq 5 false true b (A.v (.int .u8 1)) fun j=>some [j,j,b])).bind fun w=>eY w fun g k x=>bf x fun l o=>some [g,g,k,l,f,f,x3]) (some [bA false,ud,ud,ud,ud,ud,ud])).bind fun y=>dz y fun z g k l o=>eY o fun ab ad a0=>bf a0 fun ae af=>
(call 92 [a,z] H0.2 lo).bind fun c=>dU c.1 (fun p=>
aU .and 5 false true b (A.v (.int .u8 127)) fun a2=>
(bn prog 5 160 a2 c.2).bind fun a3=>
aU .mul 3 true false (iA 7) x3 fun a4=>
aU .shl 160 false false a3 a4 fun a5=>
aU .or 160 false false d a5 fun h=>
aU .lss 5 false true b (A.v (.int .u8 128)) fun a6=>bk a6 (kr (St.mk [(0,a),(2,h),(3,x3)] c.2)) (aU .add 3 false true x3 (iA 1) fun q=>
lR L c.2 fun a7=>bif bif Nat.beq (List.length c.2) L then true else aS L [(3,q),(2,h),(0,a)] [0,2,3] then aK (cx C) call rg n 109 lo 0 L kx kg kr kp m (St.mk [(0,a),(2,h),(3,q)] a7) else none)) fun p=>kp p (St.mk [(0,a),(2,d),(3,x3)] c.2)) fun e=>kp e (St.mk [(0,a),(2,d),(3,x3)] H0.2):=r8
theorem Gp (a e x3 b:A):aK (cx C) call rg n 113 lo 0 L kx kg kr kp (m+1) (St.mk [(0,a),(2,e),(3,x3),(4,b)] H) =
iW a H fun s=>
fl 155 s 2 4 H fun t2=>
(iL prog UnOp.not t2).bind fun t=>bk t ((call 112 [a] H lo).bind fun c=>dU c.1 (fun d=>
aU .eql 3 false true b (iA 9) fun u=>
(cu u (aU .gtr 5 false true d (A.v (.int .u8 1)) fun k=>some [k,k,d]) (some [bA false,ud,ud])).bind fun w=>eY w fun x u9 y=>bf y fun ab ad=>
(cu x (some [bA true,ud,ud,ud,ud,ud,ud]) (aU .gtr 3 false true b (iA 0) fun h=>
(cu h (aU .eql 5 false true d (A.v (.int .u8 0)) fun l=>some [l,l,d]) (some [bA false,ud,ud])).bind fun z=>eY z fun i o a0=>bf a0 fun p q=>some [i,i,o,p,h,h,b])).bind fun a1=>dz a1 fun a2 i o p q=>eY q fun ae af a3=>bf a3 fun ag ah=>bk a2 (iW a c.2 fun j=>
bT 155 j 2 c.2 fun f=>
cK 4 f (cD f c.2 (bA true)) c.2 lo fun a4=>kr (St.mk [(0,a),(2,A.v (.int .u64 0)),(3,x3),(4,b)] a4)) (aU .rem 5 false true d (A.v (.int .u8 128)) fun j=>
(bn prog 5 160 j c.2).bind fun f=>
aU .mul 3 true false (iA 7) b fun a6=>
aU .shl 160 false false f a6 fun a7=>
aU .add 160 false false x3 a7 fun g=>
aU .lss 5 false true d (A.v (.int .u8 128)) fun a8=>bk a8 (kr (St.mk [(0,a),(2,g),(3,g),(4,b)] c.2)) (aU .add 3 false true b (iA 1) fun r=>
lR L c.2 fun a9=>bif bif Nat.beq (List.length c.2) L then true else aS L [(4,r),(3,g),(0,a),(2,e)] [0,2,3,4] then aK (cx C) call rg n 113 lo 0 L kx kg kr kp m (St.mk [(0,a),(2,e),(3,g),(4,r)] a9) else none))) fun d=>kp d (St.mk [(0,a),(2,e),(3,x3),(4,b)] c.2)) (kx 0 (St.mk [(0,a),(2,e),(3,x3),(4,b)] H)):=r8
end Go.Proofs.Ytebkhfhcipnfgaa
