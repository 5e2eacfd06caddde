/-
 What the interpreter does with the program's functions: equations, by a tool; the kernel checks each.
-/
import Derived.Test.YtdmgdjnadbakfaaGreatEvLaw
import Derived.Test.YtdmgdjnadbakfaaGreatRows
namespace Go.Proofs.YtdmgdjnadbakfaaGreat
open Go.Proofs.Tryz (prog)
set_option linter.unusedVariables false
set_option linter.unusedSimpArgs false
set_option maxHeartbeats 4000000
set_option maxRecDepth 100000
set_option linter.defProp false
theorem j9 {α:Sort _} {a b:α} (h:a=b:=by kernel_rfl):a=b:=h
def Hb:List ((Nat×Nat)×List Nat):=[((5,2),[1,2,3]),((8,2),[0,1,4,5,7]),((10,2),[2,3,4,5]),((14,3),[4,5,12,13,14]),((15,1000006),[2,3,4]),((16,2),[2,4,5,10,11,12]),((17,4),[0,1,4,5]),((18,4),[0,1,4,5]),((19,4),[2,3,4,5]),((20,1000006),[2]),((23,15),[0,69,70,71]),((23,9),[0,4,42,51,52,53]),((23,6),[0,42]),((23,1),[0,13,14]),((33,14),[1,2,7]),((33,9),[1,2,3,4,6]),((33,2),[1,2,3]),((35,2),[1,3,5,6,7]),((36,2),[1,3,5,6,7]),((45,6),[2,3,6,23,24,25]),((47,3),[2,3,9,10,11]),((48,1000004),[3,4,5,6]),((55,11),[1,2,5]),((55,5),[1,2,3,4]),((56,3),[0,1,2,6,7,8]),((60,3),[1,4,5,6,7]),((61,5),[1,2,3,4,5,6]),((66,2),[0,3,4,13,14,15]),((72,3),[0,2,3,4]),((74,2),[0,1,4,5]),((77,2),[0,3,4,5]),((78,6),[2,3,5,6]),((79,3),[0,2,3,4]),((81,2),[0,1,4,7,8]),((84,11),[0,1,4,36,37]),((88,2),[0,3,4,7,8]),((92,8),[1,2,3,4]),((95,3),[0,2,3]),((97,7),[2,3,55,56,57]),((99,1),[0,1,4]),((102,3),[0,2,5,17,18,19]),((103,21),[0,1,4,7,8,9]),((104,8),[1,2,3]),((105,5),[1,2,3,4]),((109,3),[0,2,3,4])]
def M8 (f r:Nat):List Nat:=xp f r Hb
def Kc:List ((Nat×Nat)×List (Nat×Nat×Nat)):=[((84,11),[(4,4,5)]),((84,3000000),[(4,4,0)]),((103,21),[(8,4,5)]),((103,3000000),[(4,4,0)]),((101,2000001),[(3,0,0)]),((47,3),[(3,4,5)]),((8,2),[(4,2,0),(4,3,0),(4,4,0),(4,6,0),(4,7,0),(4,8,0)]),((79,3),[(3,4,5)]),((78,6),[(5,0,2)]),((45,6),[(6,0,2)]),((15,1000006),[(3,2,0),(3,3,0),(3,4,0)]),((61,5),[(3,0,2)]),((14,3),[(4,2,0),(4,3,0),(4,4,0)]),((60,3),[(6,2,4),(6,3,3),(6,4,2)]),((20,1000006),[(2,1,2)])]
def QS (f r:Nat):List (Nat×Nat×Nat):=EI f r Kc
def Kf:List (Nat×Nat):=[]
def QU (f t:Nat):Bool:=zh f t Kf
def Oq:List (Nat×Nat):=[]
def XD (f t:Nat):Bool:=zh f t Oq
def Hd:List (Nat×Nat):=[]
def M9 (f t:Nat):Bool:=zh f t Hd
def G2:List ((Nat×Nat)×List Nat):=[]
def M7 (f r:Nat):List Nat:=xp f r G2
def Ki:List (Nat×Nat):=[(84,3),(103,2),(102,5),(99,1000)]
def QX (k:Nat):Nat:=Jk k Ki
def Ks:List (Nat×Nat):=[(87,0),(53,0),(54,0),(63,0),(49,0),(50,0)]
def Ra (k:Nat):Bool:=zh k 0 Ks
noncomputable def cx (C:Nat->List A->Option A):Cx:={ P:=prog,glob:=fun _=>none,isOrc:=fun k=>FG k [21,22,23,24,25,26,27,28,29,30,31,39,40,43,46,48,49,50,51,53,54,63,66,68,69,70,81,82,83,84,85,87,93,95,96,98,99,101,102,103,108,109],isOrcV:=fun k=>FG k [21,22,23,24,25,26,27,28,29,30,31,39,40,43,46,48,49,50,51,53,54,63,66,68,69,70,81,82,83,84,85,87,93,95,96,98,99,101,102,103,108,109],C:=C,keep:=M8,wrAt:=XD,acts:=QS,loud:=M9,arr:=QU,join:=M7,cut:=QX,fre:=Ra,deep:=fun k=>jJ k [48] }
theorem Xr (C:Nat->List A->Option A):Array.size (Program.funcs (Cx.P (cx C)))=126:=j9
theorem yq {C:Nat->List A->Option A} {m b:Nat} {base:bj} {args:List A} {H:aB} {lo:Nat}:bq (cx C) m base (Array.size (Program.funcs (Cx.P (cx C)))+b) args H lo=base (126+b) args H lo:=Da.trans (YA (fun q=>base (q+b) args H lo) (Xr C))
theorem dT:Nat.ble prog.funcs.size 22=false:=j9
theorem Nb:Nat.ble prog.funcs.size 23=false:=j9
theorem Nc:Nat.ble prog.funcs.size 24=false:=j9
theorem Nd:Nat.ble prog.funcs.size 25=false:=j9
theorem Nf:Nat.ble prog.funcs.size 26=false:=j9
theorem Ng:Nat.ble prog.funcs.size 27=false:=j9
theorem Nh:Nat.ble prog.funcs.size 28=false:=j9
theorem Ni:Nat.ble prog.funcs.size 29=false:=j9
theorem Nj:Nat.ble prog.funcs.size 30=false:=j9
theorem gq:Nat.ble prog.funcs.size 31=false:=j9
theorem og:Nat.ble prog.funcs.size 40=false:=j9
theorem B9:Nat.ble prog.funcs.size 46=false:=j9
theorem zs:Nat.ble prog.funcs.size 48=false:=j9
theorem JC:Nat.ble prog.funcs.size 49=false:=j9
theorem Fx:Nat.ble prog.funcs.size 50=false:=j9
theorem Ca:Nat.ble prog.funcs.size 51=false:=j9
theorem JD:Nat.ble prog.funcs.size 53=false:=j9
theorem JE:Nat.ble prog.funcs.size 54=false:=j9
theorem JF:Nat.ble prog.funcs.size 63=false:=j9
theorem Cb:Nat.ble prog.funcs.size 66=false:=j9
theorem JG:Nat.ble prog.funcs.size 68=false:=j9
theorem JH:Nat.ble prog.funcs.size 69=false:=j9
theorem Nk:Nat.ble prog.funcs.size 81=false:=j9
theorem Nl:Nat.ble prog.funcs.size 82=false:=j9
theorem qF:Nat.ble prog.funcs.size 85=false:=j9
theorem Nm:Nat.ble prog.funcs.size 87=false:=j9
theorem Fy:Nat.ble prog.funcs.size 93=false:=j9
theorem Fz:Nat.ble prog.funcs.size 95=false:=j9
theorem JI:Nat.ble prog.funcs.size 96=false:=j9
theorem FA:Nat.ble prog.funcs.size 98=false:=j9
theorem rS:Nat.ble prog.funcs.size 99=false:=j9
theorem A1:Nat.ble prog.funcs.size 101=false:=j9
theorem Kz:Nat.ble prog.funcs.size 102=false:=j9
theorem Fw:Nat.ble prog.funcs.size 108=false:=j9
theorem A2:Nat.ble prog.funcs.size 109=false:=j9
variable (C:Nat->List A->Option A) (call:bj) (rg:bj->bj)
variable (n lo L:Nat) (kx kg:Nat->St->Option R) (kr:St->Option R) (kp:A->St->Option R) (m:Nat) (H:aB)
noncomputable abbrev gM {β:Type} (l:List A) (k:A->A->List A->Option β):Option β:=bE l fun a l=>bE l fun b l=>k a b l
noncomputable abbrev fM {β:Type} (l:List A) (k:A->A->A->A->List A->Option β):Option β:=gM l fun a b l=>gM l fun c d l=>k a b c d l
noncomputable abbrev u1 {β:Type} (l:List A) (k:A->A->A->A->A->A->A->A->List A->Option β):Option β:=fM l fun a b c d l=>fM l fun e f g h l=>k a b c d e f g h l
noncomputable abbrev ld:=nM prog
noncomputable abbrev Tg:=gg prog
noncomputable abbrev XC:=lK prog
noncomputable abbrev bin:=kT prog
noncomputable abbrev VX:=mL prog
noncomputable abbrev fl {β:Type} (t:TypeId) (x:A) (i:Nat) (u:TypeId) (H:aB) (k:A->Option β):Option β:=(Tg t x i H).bind fun a=>(ld u a H).bind k
noncomputable abbrev aJ {β:Type} (t:TypeId) (a:A) (H:aB) (k:A->Option β):Option β:=(ld t a H).bind k
noncomputable abbrev bZ {β:Type} (t:TypeId) (a:A) (i:Nat) (H:aB) (k:A->Option β):Option β:=(Tg t a i H).bind k
noncomputable abbrev bK {β:Type} (t:TypeId) (a v:A) (H:aB) (lo:Nat) (k:aB->Option β):Option β:=(XC t a v H lo).bind k
noncomputable abbrev aZ {β:Type} (o:BinOp) (t:TypeId) (i j:Bool) (x y:A) (k:A->Option β):Option β:=(bin o t i j x y).bind k
noncomputable abbrev eD {β:Type} (t:TypeId) (H:aB) (k:A×aB->Option β):Option β:=(VX t H).bind k
noncomputable abbrev fw {β:Type} (x:A) (H:aB) (k:A×aB->Option β):Option β:=(Al x H).bind k
noncomputable abbrev fH {β:Type} (x:A) (H:aB) (k:A->Option β):Option β:=(CO x H).bind k
noncomputable abbrev de {β:Type} (t:TypeId) (x i:A) (H:aB) (k:A->Option β):Option β:=(c7 prog t x i H).bind k
noncomputable abbrev dP {β:Type} (x:A) (i:Nat) (k:A->Option β):Option β:=(nL x i).bind k
noncomputable abbrev dN {β:Type} (t:TypeId) (x:A) (H:aB) (k:A->Option β):Option β:=(qX prog t x H).bind k
noncomputable abbrev eE {β:Type} (t:TypeId) (l:List (Nat×A)) (k:A->Option β):Option β:=(wC prog t l).bind k
noncomputable abbrev jF {β:Type} (L:Nat) (H:aB) (k:aB->Option β):Option β:=(trim L H).bind k
noncomputable abbrev ss {β:Type} {γ:Type} (c:A) (w:Bool) (x y:Option γ) (k:γ->Option β):Option β:=(qC c w x y).bind k
abbrev lk (s:St) (i:Nat):A:=look (St.fr s) i
abbrev ud:A:=A.v undef
theorem e3 (k l h x3:A):aE (cx C) call rg n 3 [k,l,h,x3] H lo =
fw k H fun g=>
fw l g.2 fun a=>
(C 4 []).bind fun t2=>
(gB prog UnOp.not t2).bind fun t3=>aY t3 (some (Out.ret (bA false),a.2)) (aJ 31 g.1 a.2 fun t4=>
(C 5 [snap a.2 t4]).bind fun t5=>
(gB prog UnOp.not t5).bind fun t6=>aY t6 (some (Out.ret (bA true),a.2)) (aJ 31 g.1 a.2 fun t7=>
aJ 33 a.1 a.2 fun t8=>
(C 6 [snap a.2 t7,snap a.2 t8]).bind fun o=>
dP o 0 fun a7=>
dP o 1 fun p=>
eD 31 a.2 fun c=>
bK 31 c.1 (bF c.1 c.2 a7) c.2 lo fun d=>
aJ 31 g.1 d fun a8=>
aJ 33 a.1 d fun a9=>
(C 7 [snap d a8,snap d a9]).bind fun q=>
dP q 0 fun aa=>
dP q 1 fun r=>
eD 31 d fun e=>
bK 31 e.1 (bF e.1 e.2 aa) e.2 lo fun i=>
(C 8 [snap i h,snap i x3]).bind fun s=>
dP s 0 fun ab=>
dP s 1 fun t=>
eD 31 i fun f=>
bK 31 f.1 (bF f.1 f.2 ab) f.2 lo fun j=>
(C 9 [snap j h,snap j x3]).bind fun u=>
dP u 0 fun ad=>
dP u 1 fun v=>
eD 31 j fun sI=>
bK 31 sI.1 (bF sI.1 sI.2 ad) sI.2 lo fun b=>
aJ 31 c.1 b fun ae=>
aJ 31 e.1 b fun af=>
(C 10 [snap b ae,snap b af]).bind fun ag=>
(di ag (aZ .eql 36 false false p r fun w=>some [w,w,r,p]) (some [bA false,ud,ud,ud])).bind fun ah=>fM ah fun ai an ao ap aq=>
(di ai (aJ 31 f.1 b fun x=>
aJ 31 sI.1 b fun y=>
(C 10 [snap b x,snap b y]).bind fun z=>some [z,z,y,x]) (some [bA false,ud,ud,ud])).bind fun aj=>fM aj fun ak ar au av aw=>
(di ak (aZ .eql 36 false false t v fun a0=>some [a0,a0,v,t]) (some [bA false,ud,ud,ud])).bind fun al=>fM al fun am ax ay DJ az=>some (Out.ret am,b))):=j9
theorem e4:aE (cx C) call rg n 4 [] H lo =
(C 11 [snap H (iA 0),snap H (iA 0),snap H (iA 10)]).bind fun t0=>
dP t0 0 fun t1=>
dP t0 1 fun t2=>
eD 26 H fun f=>
bK 26 f.1 (bF f.1 f.2 t1) f.2 lo fun r=>
(C 11 [snap r (iA 2),snap r (iA 0),snap r (iA 5)]).bind fun t5=>
dP t5 0 fun t6=>
dP t5 1 fun t7=>
eD 26 r fun s=>
bK 26 s.1 (bF s.1 s.2 t6) s.2 lo fun t=>
(C 11 [snap t (iA 0),snap t (iA 0),snap t (iA 0)]).bind fun aa=>
dP aa 0 fun ch=>
dP aa 1 fun ab=>
eD 26 t fun u=>
bK 26 u.1 (bF u.1 u.2 ch) u.2 lo fun v=>
(C 11 [snap v (iA 0),snap v (iA 1),snap v (iA 5)]).bind fun ad=>
dP ad 0 fun ci=>
dP ad 1 fun ae=>
eD 26 v fun i=>
bK 26 i.1 (bF i.1 i.2 ci) i.2 lo fun j=>
aJ 26 i.1 j fun cj=>
(C 12 [snap j cj,snap j (iA 0),snap j (iA 9)]).bind fun af=>
dP af 0 fun ck=>
dP af 1 fun ag=>
eD 26 j fun w=>
bK 26 w.1 (bF w.1 w.2 ck) w.2 lo fun k=>
aJ 26 f.1 k fun cl=>
(C 13 [snap k cl,snap k (iA 10),snap k (iA 1)]).bind fun ah=>
dP ah 0 fun cm=>
dP ah 1 fun ai=>
eD 26 k fun DH=>
bK 26 DH.1 (bF DH.1 DH.2 cm) DH.2 lo fun a4=>
(C 14 [snap a4 (iA 0),snap a4 (A.imm [] true)]).bind fun aj=>
dP aj 0 fun cn=>
dP aj 1 fun ak=>
eD 26 a4 fun x=>
bK 26 x.1 (bF x.1 x.2 cn) x.2 lo fun a5=>
(C 8 [snap a5 (iA 0),snap a5 (iA 10)]).bind fun al=>
dP al 0 fun co=>
dP al 1 fun am=>
eD 31 a5 fun g=>
bK 31 g.1 (bF g.1 g.2 co) g.2 lo fun y=>
aJ 31 g.1 y fun cp=>
eE 33 [] fun cq=>
(C 6 [snap y cp,snap y cq]).bind fun an=>
dP an 0 fun cr=>
dP an 1 fun ao=>
eD 31 y fun z=>
bK 31 z.1 (bF z.1 z.2 cr) z.2 lo fun c=>
aZ .neq 36 false true t2 (iA 0) fun cs=>
(di cs (some [bA true,ud,ud]) (aZ .neq 36 false true t7 (iA 1) fun ap=>some [ap,ap,t7])).bind fun ct=>gM ct fun cu fp cv=>bE cv fun fq fr=>
(di cu (some [bA true,ud,ud]) (aZ .neq 36 false true ab (iA 1) fun aq=>some [aq,aq,ab])).bind fun cw=>gM cw fun cy fs cz=>bE cz fun ft fu=>
(di cy (some [bA true,ud,ud]) (aZ .neq 36 false true ae (iA 0) fun ar=>some [ar,ar,ae])).bind fun d0=>gM d0 fun d1 fv d2=>bE d2 fun fw fx=>
(di d1 (some [bA true,ud,ud]) (aZ .neq 36 false true ag (iA 530) fun au=>some [au,au,ag])).bind fun d3=>gM d3 fun d4 fy d5=>bE d5 fun fz g0=>
(di d4 (some [bA true,ud,ud]) (aZ .neq 36 false true ai (iA 530) fun av=>some [av,av,ai])).bind fun d6=>gM d6 fun d7 g1 d8=>bE d8 fun g2 g3=>
(di d7 (some [bA true,ud,ud]) (aZ .neq 36 false true ak (iA 530) fun aw=>some [aw,aw,ak])).bind fun d9=>gM d9 fun da g4 db=>bE db fun g5 g6=>
(di da (some [bA true,ud,ud]) (aZ .neq 36 false true am (iA 0) fun ax=>some [ax,ax,am])).bind fun dc=>gM dc fun dd g7 df=>bE df fun g8 g9=>
(di dd (some [bA true,ud,ud]) (aZ .neq 36 false true ao (iA 530) fun ay=>some [ay,ay,ao])).bind fun dg=>gM dg fun dh ga dj=>bE dj fun gb gc=>
(di dh (some [bA true,ud,ud,ud]) (aJ 26 f.1 c fun az=>
(C 15 [snap c az]).bind fun b0=>
aZ .neq 36 false true b0 (iA 0) fun b1=>some [b1,b1,b0,az])).bind fun dk=>fM dk fun dl gd ge gf gg=>
(di dl (some [bA true,ud,ud,ud]) (eE 26 [] fun b2=>
(C 15 [snap c b2]).bind fun b3=>
aZ .neq 36 false true b3 (iA 530) fun b4=>some [b4,b4,b3,b2])).bind fun dm=>fM dm fun dn gh gi gj gk=>aY dn (some (Out.ret (bA false),c)) (aJ 31 g.1 c fun dp=>
eE 33 [(0,iA 3),(2,iA 3),(3,iA 2)] fun dq=>
eE 33 [(0,iA 3),(2,iA 5),(3,iA 1)] fun dr=>
eE 33 [(0,iA 1),(2,iA 1),(3,iA 20)] fun ds=>
eE 33 [(0,iA 4)] fun dt=>
eE 33 [(0,iA 5),(2,iA 1)] fun du=>
eE 33 [(0,iA 6),(2,iA 1)] fun dv=>
(aF prog 84 6 [(0,cC c dq),(1,cC c dr),(2,cC c ds),(3,cC c dt),(4,cC c du),(5,cC c dv)]).bind fun dw=>
(C 16 [snap c dp,snap c dw]).bind fun b5=>
dP b5 0 fun dx=>
dP b5 1 fun dy=>
eD 31 c fun e=>
bK 31 e.1 (bF e.1 e.2 dx) e.2 lo fun a0=>
aJ 31 e.1 a0 fun dz=>
eE 33 [(0,iA 3),(1,iA 1),(2,iA 12),(3,iA 1)] fun e0=>
(C 6 [snap a0 dz,snap a0 e0]).bind fun b6=>
dP b6 0 fun e1=>
dP b6 1 fun b7=>
eD 31 a0 fun a1=>
bK 31 a1.1 (bF a1.1 a1.2 e1) a1.2 lo fun h=>
aJ 31 e.1 h fun e2=>
eE 33 [(0,iA 2),(1,iA 1)] fun e3=>
eE 33 [(0,iA 3),(1,iA 1),(2,iA 12),(3,iA 4)] fun e5=>
(aF prog 84 2 [(0,cC h e3),(1,cC h e5)]).bind fun e6=>
(C 16 [snap h e2,snap h e6]).bind fun b8=>
dP b8 0 fun e7=>
dP b8 1 fun b9=>
eD 31 h fun d=>
bK 31 d.1 (bF d.1 d.2 e7) d.2 lo fun a2=>
aJ 31 d.1 a2 fun e8=>
eE 33 [(0,iA 6),(1,iA 1)] fun e9=>
(C 6 [snap a2 e8,snap a2 e9]).bind fun ba=>
dP ba 0 fun ea=>
dP ba 1 fun bb=>
eD 31 a2 fun a3=>
bK 31 a3.1 (bF a3.1 a3.2 ea) a3.2 lo fun l=>
aJ 31 d.1 l fun eb=>
eE 33 [(0,iA 7),(1,iA 1),(2,iA 2)] fun ec=>
(aF prog 84 1 [(0,cC l ec)]).bind fun ed=>
(C 16 [snap l eb,snap l ed]).bind fun bc=>
dP bc 0 fun ee=>
dP bc 1 fun bd=>
eD 31 l fun o=>
bK 31 o.1 (bF o.1 o.2 ee) o.2 lo fun a=>
(gB prog UnOp.not dy).bind fun ef=>
(di ef (some [bA true,ud,ud]) (aZ .neq 36 false true b7 (iA 530) fun be=>some [be,be,b7])).bind fun eg=>gM eg fun eh gl ei=>bE ei fun gm gn=>
(di eh (some [bA true,ud,ud]) ((gB prog UnOp.not b9).bind fun bf=>some [bf,bf,b9])).bind fun ej=>gM ej fun ek go el=>bE el fun gp gq=>
(di ek (some [bA true,ud,ud]) (aZ .neq 36 false true bb (iA 530) fun bg=>some [bg,bg,bb])).bind fun em=>gM em fun en gr eo=>bE eo fun gs gt=>
(di en (some [bA true,ud,ud]) ((gB prog UnOp.not bd).bind fun bh=>some [bh,bh,bd])).bind fun ep=>gM ep fun er gu es=>bE es fun gv gw=>aY er (some (Out.ret (bA false),a)) (eE 50 [(2,iA 10)] fun et=>
eE 50 [(0,iA 1),(1,iA 1),(2,iA 20)] fun eu=>
(aF prog 22 2 [(0,cC a et),(1,cC a eu)]).bind fun p=>
fl 31 e.1 2 22 a fun ev=>
(eI prog 22 p (some (iA 1)) none none a).bind fun ew=>
(C 17 [snap a ev,snap a ew]).bind fun ex=>
(gB prog UnOp.not ex).bind fun ey=>
(di ey (some [bA true,ud,ud,ud,ud,ud,ud,ud]) (bZ 31 e.1 3 a fun bi=>
de 29 bi (iA 0) a fun bj=>
aJ 23 bj a fun bk=>
eE 54 [(0,iA 5),(1,iA 1)] fun bl=>
(aF prog 23 1 [(0,cC a bl)]).bind fun bm=>
(C 18 [snap a bk,snap a bm]).bind fun bn=>
(gB prog UnOp.not bn).bind fun bo=>some [bo,bo,bn,bm,bl,bk,bj,bi])).bind fun ez=>u1 ez fun bp gx gy gz h0 h1 h2 h3 h4=>
ss bp false (bZ 31 d.1 0 a fun bq=>
de 27 bq (iA 1) a fun br=>
aJ 26 br a fun f0=>
eE 54 [(0,iA 12),(1,iA 4)] fun bs=>
(aF prog 23 1 [(0,cC a bs)]).bind fun bt=>
(aF prog 24 3 [(0,cC a (bA true)),(1,cC a (bA true)),(2,cC a (bA false))]).bind fun bu=>
eE 26 [(0,iA 1),(1,p),(2,bt),(3,bu)] fun f1=>some [f1,bu,bt,bs,p,f0,br,bq]) (some [ud,ud,ud,ud,ud,ud,ud,ud]) fun f2=>u1 f2 fun f3 h5 h6 h7 h8 f4 h9 ha hb=>
(di bp (some [bA true,ud,ud]) ((C 19 [snap a f4,snap a f3]).bind fun bv=>
(gB prog UnOp.not bv).bind fun bw=>some [bw,bw,bv])).bind fun f5=>gM f5 fun f6 hc f7=>bE f7 fun hd he=>aY f6 (some (Out.ret (bA false),a)) (bZ 31 d.1 0 a fun f8=>
de 27 f8 (iA 1) a fun f9=>
aJ 26 f9 a fun fa=>
(C 20 [snap a fa]).bind fun bx=>
dP bx 0 fun a6=>
dP bx 1 fun fb=>
(C 14 [snap a (iA 1),snap a a6]).bind fun bz=>
dP bz 0 fun fc=>
dP bz 1 fun c0=>
eD 26 a fun q=>
bK 26 q.1 (bF q.1 q.2 fc) q.2 lo fun b=>
aZ .eql 36 false true fb (iA 0) fun fd=>
(di fd (aZ .eql 36 false true c0 (iA 0) fun c1=>some [c1,c1,c0]) (some [bA false,ud,ud])).bind fun fe=>gM fe fun ff hf fg=>bE fg fun hg hh=>
(di ff (dN 56 a6 b fun c2=>
aZ .eql 3 false true c2 (iA 3) fun c3=>some [c3,c3,c2,a6]) (some [bA false,ud,ud,ud])).bind fun fh=>fM fh fun fi hi hj hk hl=>
(di fi (aJ 26 q.1 b fun c4=>
bZ 31 d.1 0 b fun c5=>
de 27 c5 (iA 1) b fun c6=>
aJ 26 c6 b fun c7=>
(C 19 [snap b c4,snap b c7]).bind fun c8=>some [c8,c8,c7,c6,c5,c4]) (some [bA false,ud,ud,ud,ud,ud])).bind fun fj=>fM fj fun fk hm hn ho fm=>gM fm fun hp hq hr=>
(di fk (bZ 31 o.1 0 b fun c9=>
de 27 c9 (iA 1) b fun ca=>
aJ 26 ca b fun cb=>
(aF prog 24 2 [(0,cC b (bA true)),(1,cC b (bA true))]).bind fun cc=>
eE 26 [(0,iA 1),(1,p),(3,cc)] fun cd=>
(C 19 [snap b cb,snap b cd]).bind fun ce=>some [ce,ce,cd,cc,p,cb,ca,c9]) (some [bA false,ud,ud,ud,ud,ud,ud,ud])).bind fun fn=>u1 fn fun fo hs ht hu hv hw hx hy hz=>some (Out.ret fo,b)))):=j9
theorem e5 (d:A):aE (cx C) call rg n 5 [d] H lo =
fw d H fun c=>aH (cx C) call rg n 5 lo 0 (List.length c.2) (fun b a=>bif Nat.beq b 0 then
fl 31 (lk a 1) 2 22 (St.H a) fun f=>
dN 22 f (St.H a) fun g=>
aZ .leq 3 false true g (iA 40) fun h=>some (Out.ret h,St.H a) else none) (fun b a=>none) (fun e=>some (Out.ret (lk e 2),St.H e)) (fun b a=>some (Out.pan b,St.H a)) n (St.mk [(1,c.1),(2,bA false),(3,iA 0)] c.2):=j9
theorem e6 (x0 x1:A):aE (cx C) call rg n 6 [x0,x1] H lo =
fw x0 H fun r0=>
fw x1 r0.2 fun k=>
eD 31 k.2 fun b=>
eD 36 b.2 fun a=>
aJ 31 r0.1 a.2 fun t4=>
fl 33 k.1 1 3 a.2 fun t6=>
eE 62 [(0,t4),(1,t6)] fun t7=>
fw t7 a.2 fun p=>
(call 23 [p.1] p.2 lo).bind fun t=>cf t.1 (fun aa=>
(qe prog 66 t.2).bind fun d=>
(iy prog 66 d.1 (iA 1) (A.fn (Fn.func 24) [] []) d.2 lo).bind fun an=>
(iy prog 66 d.1 (iA 2) (A.fn (Fn.func 25) [] []) an lo).bind fun ao=>
(iy prog 66 d.1 (iA 3) (A.fn (Fn.func 26) [] []) ao lo).bind fun ap=>
(iy prog 66 d.1 (iA 4) (A.fn (Fn.func 27) [] []) ap lo).bind fun q=>
(iy prog 66 d.1 (iA 5) (A.fn (Fn.func 28) [] []) q lo).bind fun l=>
(iy prog 66 d.1 (iA 6) (A.fn (Fn.func 29) [] []) l lo).bind fun aq=>
(iy prog 66 d.1 (iA 7) (A.fn (Fn.func 30) [] []) aq lo).bind fun e=>
fl 33 k.1 0 3 e fun ar=>
(gS prog 66 d.1 ar true e).bind fun ab=>
dP ab 0 fun au=>
dP ab 1 fun av=>
(di av (bZ 33 k.1 1 e fun ad=>
aJ 3 ad e fun ae=>
(C 32 [snap e ae,snap e (iA 0),snap e (iA 1)]).bind fun af=>some [af,af,ae,ad]) (some [bA false,ud,ud,ud])).bind fun aw=>fM aw fun ax b8 b9 ba bb=>
(call 31 [ax,iA 530] e lo).bind fun r=>cf r.1 (fun ag=>
aJ 33 k.1 r.2 fun ay=>dJ (cx C) call au [p.1,ay] r.2 lo (fun ah f=>
fH p.1 f fun u=>
fl 62 u 0 31 f fun o=>
bK 31 b.1 (bF b.1 f o) f lo fun g=>
bK 36 a.1 (bF a.1 g (iA 0)) g lo fun s=>
(call 22 [A.v Value.nilIface] s lo).bind fun c=>cf c.1 (fun w=>
aZ .neq 36 false true w (iA 0) fun x=>aY x (eE 31 [] fun y=>
bK 31 b.1 (bF b.1 c.2 y) c.2 lo fun ai=>
bK 36 a.1 (bF a.1 ai w) ai lo fun z=>
aJ 31 b.1 z fun az=>
aJ 36 a.1 z fun b0=>some (Out.ret (A.tup [az,b0]),z)) (aJ 31 b.1 c.2 fun y=>
aJ 36 a.1 c.2 fun b1=>some (Out.ret (A.tup [y,b1]),c.2))) fun w=>none) fun ah f=>
(call 22 [ah] f lo).bind fun h=>cf h.1 (fun a0=>
aZ .neq 36 false true a0 (iA 0) fun o=>aY o (eE 31 [] fun a1=>
bK 31 b.1 (bF b.1 h.2 a1) h.2 lo fun s=>
bK 36 a.1 (bF a.1 s a0) s lo fun c=>
aJ 31 b.1 c fun b2=>
aJ 36 a.1 c fun x=>some (Out.ret (A.tup [b2,x]),c)) (aJ 31 b.1 h.2 fun a1=>
aJ 36 a.1 h.2 fun a2=>some (Out.ret (A.tup [a1,a2]),h.2))) fun a0=>none) fun ag=>
(call 22 [ag] r.2 lo).bind fun i=>cf i.1 (fun a3=>
aZ .neq 36 false true a3 (iA 0) fun u=>aY u (eE 31 [] fun a4=>
bK 31 b.1 (bF b.1 i.2 a4) i.2 lo fun aj=>
bK 36 a.1 (bF a.1 aj a3) aj lo fun g=>
aJ 31 b.1 g fun a2=>
aJ 36 a.1 g fun b3=>some (Out.ret (A.tup [a2,b3]),g)) (aJ 31 b.1 i.2 fun a4=>
aJ 36 a.1 i.2 fun o=>some (Out.ret (A.tup [a4,o]),i.2))) fun a3=>none) fun aa=>
(call 22 [aa] t.2 lo).bind fun j=>cf j.1 (fun a5=>
aZ .neq 36 false true a5 (iA 0) fun b4=>aY b4 (eE 31 [] fun a6=>
bK 31 b.1 (bF b.1 j.2 a6) j.2 lo fun q=>
bK 36 a.1 (bF a.1 q a5) q lo fun l=>
aJ 31 b.1 l fun b5=>
aJ 36 a.1 l fun b6=>some (Out.ret (A.tup [b5,b6]),l)) (aJ 31 b.1 j.2 fun a6=>
aJ 36 a.1 j.2 fun b7=>some (Out.ret (A.tup [a6,b7]),j.2))) fun a5=>none:=j9
theorem e7 (x0 x1:A):aE (cx C) call rg n 7 [x0,x1] H lo =
fw x0 H fun d=>
fw x1 d.2 fun c=>
eD 31 c.2 fun b=>
aJ 31 d.1 b.2 fun t3=>
(C 33 [snap b.2 t3]).bind fun t4=>
(gB prog UnOp.not t4).bind fun t5=>
(di t5 (some [bA true,ud,ud,ud,ud]) (bZ 33 c.1 1 b.2 fun t6=>
aJ 3 t6 b.2 fun t7=>
(C 34 [snap b.2 t7,snap b.2 (iA 0),snap b.2 (iA 1)]).bind fun t8=>
(gB prog UnOp.not t8).bind fun t9=>some [t9,t9,t8,t7,t6])).bind fun l6=>fM l6 fun u7 u8 u9 bw bg=>bE bg fun bx bz=>aY u7 (eE 31 [] fun bh=>
bK 31 b.1 (bF b.1 b.2 bh) b.2 lo fun ay=>
aJ 31 b.1 ay fun a8=>some (Out.ret (A.tup [a8,iA 530]),ay)) (fl 33 c.1 1 3 b.2 fun bi=>
bZ 31 d.1 0 b.2 fun a8=>
de 27 a8 bi b.2 fun bj=>
aJ 26 bj b.2 fun bk=>
eD 26 b.2 fun e=>
bK 26 e.1 (bF e.1 e.2 bk) e.2 lo fun a=>
fl 33 c.1 0 3 a fun a9=>
aZ .eql 3 false true a9 (iA 4) fun bl=>aY bl (fl 33 c.1 1 3 a fun aa=>
fl 26 e.1 3 24 a fun t=>
dN 24 t a fun r=>
bZ 31 d.1 1 a fun o=>
de 28 o aa a fun i=>
bK 3 i (bF i a r) a lo fun ab=>
aJ 31 d.1 ab fun u=>
bK 31 b.1 (bF b.1 ab u) ab lo fun az=>
aJ 31 b.1 az fun p=>some (Out.ret (A.tup [p,iA 0]),az)) (aZ .eql 3 false true a9 (iA 5) fun bm=>aY bm (fl 33 c.1 2 3 a fun ad=>
fl 26 e.1 1 22 a fun r=>
dN 22 r a fun o=>
aZ .sub 3 false true o (iA 1) fun i=>
(C 34 [snap a ad,snap a (iA 0),snap a i]).bind fun ae=>
(gB prog UnOp.not ae).bind fun u=>aY u (eE 31 [] fun q=>
bK 31 b.1 (bF b.1 a q) a lo fun b0=>
aJ 31 b.1 b0 fun v=>some (Out.ret (A.tup [v,iA 530]),b0)) (aJ 26 e.1 a fun q=>
fl 33 c.1 1 3 a fun v=>
bZ 31 d.1 1 a fun j=>
de 28 j v a fun w=>
aJ 3 w a fun s=>
fl 26 e.1 1 22 a fun af=>
fl 33 c.1 2 3 a fun ag=>
de 22 af ag a fun ah=>
aJ 50 ah a fun ai=>
(C 35 [snap a q,snap a s,snap a ai]).bind fun aj=>
(gB prog UnOp.not aj).bind fun ak=>aY ak (eE 31 [] fun h=>
bK 31 b.1 (bF b.1 a h) a lo fun b1=>
aJ 31 b.1 b1 fun x=>some (Out.ret (A.tup [x,iA 530]),b1)) ((aF prog 22 0 []).bind fun h=>
fl 31 d.1 2 22 a fun x=>
(bp prog 22 22 false h x a lo).bind fun k=>bif bif apart e.1 h then true else false then
bZ 26 e.1 1 k.2 fun b2=>bif bif apart b2 h then true else false then
aJ 22 b2 k.2 fun a2=>bif bif apart c.1 h then true else false then
bZ 33 c.1 2 k.2 fun a3=>bif bif apart a3 h then true else false then
aJ 3 a3 k.2 fun al=>bif bif apart a2 h then true else false then
de 22 a2 al k.2 fun a4=>bif bif apart a4 h then true else false then
aJ 50 a4 k.2 fun b3=>bif bif kJ b3 then true else false then
(aF prog 22 1 [(0,cC k.2 b3)]).bind fun a5=>
(bp prog 22 22 false k.1 a5 k.2 lo).bind fun a6=>
bZ 31 d.1 2 a6.2 fun y=>
bK 22 y (bF y a6.2 a6.1) a6.2 lo fun am=>
aJ 31 d.1 am fun a7=>
bK 31 b.1 (bF b.1 am a7) am lo fun b4=>
aJ 31 b.1 b4 fun an=>some (Out.ret (A.tup [an,iA 0]),b4) else none else none else none else none else none else none else none))) (aZ .eql 3 false true a9 (iA 6) fun aa=>aY aa (fl 33 c.1 2 3 a fun t=>
fl 26 e.1 2 23 a fun o=>
dN 23 o a fun i=>
aZ .sub 3 false true i (iA 1) fun ae=>
(C 34 [snap a t,snap a (iA 0),snap a ae]).bind fun u=>
(gB prog UnOp.not u).bind fun q=>aY q (eE 31 [] fun p=>
bK 31 b.1 (bF b.1 a p) a lo fun z=>
aJ 31 b.1 z fun j=>some (Out.ret (A.tup [j,iA 530]),z)) (aJ 26 e.1 a fun p=>
fl 33 c.1 1 3 a fun j=>
bZ 31 d.1 1 a fun w=>
de 28 w j a fun s=>
aJ 3 s a fun bn=>
fl 26 e.1 2 23 a fun bo=>
fl 33 c.1 2 3 a fun ah=>
de 23 bo ah a fun ai=>
aJ 54 ai a fun aj=>
(C 36 [snap a p,snap a bn,snap a aj]).bind fun ak=>
(gB prog UnOp.not ak).bind fun h=>aY h (eE 31 [] fun a0=>
bK 31 b.1 (bF b.1 a a0) a lo fun b5=>
aJ 31 b.1 b5 fun f=>some (Out.ret (A.tup [f,iA 530]),b5)) (bZ 33 c.1 1 a fun a0=>
aJ 3 a0 a fun x=>
(aF prog 23 0 []).bind fun f=>
fl 33 c.1 1 3 a fun a2=>
bZ 31 d.1 3 a fun a3=>
de 29 a3 a2 a fun al=>
aJ 23 al a fun a4=>bif bif apart a0 f then bif apart c.1 f then true else false else false then
(bp prog 23 23 false f a4 a lo).bind fun g=>bif bif apart e.1 f then true else false then
bZ 26 e.1 2 g.2 fun a5=>bif bif apart a5 f then true else false then
aJ 23 a5 g.2 fun b6=>bif bif apart c.1 f then true else false then
bZ 33 c.1 2 g.2 fun y=>bif bif apart y f then true else false then
aJ 3 y g.2 fun bq=>bif bif apart b6 f then true else false then
de 23 b6 bq g.2 fun a7=>bif bif apart a7 f then true else false then
aJ 54 a7 g.2 fun b7=>bif bif kJ b7 then true else false then
(aF prog 23 1 [(0,cC g.2 b7)]).bind fun an=>bif bif apart a0 g.1 then bif apart c.1 g.1 then true else false else false then
(bp prog 23 23 false g.1 an g.2 lo).bind fun a1=>bif bif apart d.1 g.1 then bif apart d.1 f then true else false else false then
bZ 31 d.1 3 a1.2 fun br=>
de 29 br x a1.2 fun b8=>
bK 23 b8 (bF b8 a1.2 a1.1) a1.2 lo fun ao=>
aJ 31 d.1 ao fun bs=>
bK 31 b.1 (bF b.1 ao bs) ao lo fun b9=>
aJ 31 b.1 b9 fun bt=>some (Out.ret (A.tup [bt,iA 0]),b9) else none else none else none else none else none else none else none else none else none else none))) (aJ 31 d.1 a fun ad=>
aJ 33 c.1 a fun t=>
(C 37 [snap a ad,snap a t]).bind fun r=>
dP r 0 fun o=>
dP r 1 fun i=>
eD 26 a fun sI=>
bK 26 sI.1 (bF sI.1 sI.2 o) sI.2 lo fun l=>
aZ .neq 36 false true i (iA 0) fun q=>aY q (eE 31 [] fun p=>
bK 31 b.1 (bF b.1 l p) l lo fun z=>
aJ 31 b.1 z fun j=>some (Out.ret (A.tup [j,i]),z)) (fl 33 c.1 1 3 l fun v=>
aJ 26 sI.1 l fun j=>
bZ 31 d.1 0 l fun w=>
de 27 w v l fun s=>
bK 26 s (bF s l j) l lo fun ap=>
aJ 31 d.1 ap fun af=>
bK 31 b.1 (bF b.1 ap af) ap lo fun ba=>
aJ 31 b.1 ba fun ag=>some (Out.ret (A.tup [ag,iA 0]),ba)))))):=j9
theorem e8 (e f:A):aE (cx C) call rg n 8 [e,f] H lo =
eD 31 H fun a=>aH (cx C) call rg n 8 lo 0 (List.length (bR lo 7 0 a.1 (bR lo 6 0 a.1 (bR lo 5 0 a.1 (bR lo 3 0 a.1 (bR lo 2 0 a.1 (bR lo 1 0 a.1 a.2))))))) (fun c b=>bif Nat.beq c 0 then
aJ 31 (lk b 4) (St.H b) fun t2=>
bK 31 (lk b 4) (bF (lk b 4) (St.H b) t2) (St.H b) lo fun g=>
aJ 31 (lk b 4) g fun h=>some (Out.ret (A.tup [h,iA 0]),g) else none) (fun c b=>none) (fun d=>
aJ 31 (lk d 4) (St.H d) fun t2=>some (Out.ret (A.tup [t2,lk d 5]),St.H d)) (fun c b=>some (Out.pan c,St.H b)) n (St.mk [(0,e),(1,f),(4,a.1),(5,iA 0),(7,iA 0)] (bR lo 7 0 a.1 (bR lo 6 0 a.1 (bR lo 5 0 a.1 (bR lo 3 0 a.1 (bR lo 2 0 a.1 (bR lo 1 0 a.1 a.2))))))):=j9
theorem e9 (g h:A):aE (cx C) call rg n 9 [g,h] H lo =
eD 31 H fun a=>
(C 38 [snap a.2 (iA 0),snap a.2 g,snap a.2 h]).bind fun i=>
dP i 0 fun t2=>
dP i 1 fun j=>
eD 26 a.2 fun c=>
bK 26 c.1 (bF c.1 c.2 t2) c.2 lo fun b=>
aZ .neq 36 false true j (iA 0) fun p=>aY p (eE 31 [] fun e=>
bK 31 a.1 (bF a.1 b e) b lo fun k=>
aJ 31 a.1 k fun l=>some (Out.ret (A.tup [l,j]),k)) ((C 38 [snap b (iA 1),snap b g,snap b h]).bind fun e=>
dP e 0 fun q=>
dP e 1 fun l=>
eD 26 b fun d=>
bK 26 d.1 (bF d.1 d.2 q) d.2 lo fun f=>
aJ 26 c.1 f fun r=>
aJ 26 d.1 f fun s=>
eE 27 [(0,r),(1,s)] fun t=>
eE 28 [(0,iA 1),(1,iA 1)] fun u=>
eE 31 [(0,t),(1,u)] fun v=>
bK 31 a.1 (bF a.1 f v) f lo fun o=>
aJ 31 a.1 o fun w=>some (Out.ret (A.tup [w,iA 0]),o)):=j9
theorem V0 (c d:A):aE (cx C) call rg n 10 [c,d] H lo =
fw c H fun e=>
fw d e.2 fun b=>aH (cx C) call rg n 10 lo 0 (List.length b.2) (fun a s2=>bif Nat.beq a 0 then
fl 31 (lk s2 2) 2 22 (St.H s2) fun f=>
fl 31 (lk s2 3) 2 22 (St.H s2) fun g=>
(C 17 [snap (St.H s2) f,snap (St.H s2) g]).bind fun h=>some (Out.ret h,St.H s2) else none) (fun a s2=>none) (fun a2=>some (Out.ret (lk a2 4),St.H a2)) (fun a s2=>some (Out.pan a,St.H s2)) n (St.mk [(2,e.1),(3,b.1),(4,bA false),(5,iA 0)] b.2):=j9
theorem V1 (d b c:A):aE (cx C) call rg n 11 [d,b,c] H lo =
eD 26 H fun a=>
(C 32 [snap a.2 d,snap a.2 (iA 0),snap a.2 (iA 1)]).bind fun o=>
(gB prog UnOp.not o).bind fun t2=>
(di t2 (some [bA true,ud,ud,ud]) ((C 32 [snap a.2 b,snap a.2 (iA 0),snap a.2 (iA 1)]).bind fun g=>
(gB prog UnOp.not g).bind fun h=>some [h,h,g,b])).bind fun p=>fM p fun u4 v w x y=>
(di u4 (some [bA true,ud,ud,ud]) ((C 32 [snap a.2 c,snap a.2 (iA 1),snap a.2 (iA 4096)]).bind fun i=>
(gB prog UnOp.not i).bind fun j=>some [j,j,i,c])).bind fun q=>fM q fun r z a0 a1 a2=>aY r (aJ 26 a.1 a.2 fun e=>
bK 26 a.1 (bF a.1 a.2 e) a.2 lo fun k=>
aJ 26 a.1 k fun f=>some (Out.ret (A.tup [f,iA 1]),k)) (eE 50 [(1,b),(2,c)] fun e=>
(aF prog 22 1 [(0,cC a.2 e)]).bind fun s=>
(aF prog 24 1 [(0,cC a.2 (bA true))]).bind fun f=>
eE 26 [(0,d),(1,s),(3,f)] fun t=>
bK 26 a.1 (bF a.1 a.2 t) a.2 lo fun l=>
aJ 26 a.1 l fun u=>some (Out.ret (A.tup [u,iA 0]),l)):=j9
theorem V2 (x0 x1 x2:A):aE (cx C) call rg n 12 [x0,x1,x2] H lo =
fw x0 H fun h=>
eD 26 h.2 fun a=>
eD 36 a.2 fun b=>
aJ 26 h.1 b.2 fun t3=>
(C 15 [snap b.2 t3]).bind fun t4=>
aZ .eql 36 false true t4 (iA 0) fun t5=>
(call 31 [t5,iA 530] b.2 lo).bind fun e=>cf e.1 (fun a7=>
fl 26 h.1 1 22 e.2 fun o=>
dN 22 o e.2 fun r=>
eE 50 [(0,r),(1,x1),(2,x2)] fun s=>
eD 50 e.2 fun i=>
bK 50 i.1 (bF i.1 i.2 s) i.2 lo fun d=>
fl 26 h.1 1 22 d fun t=>
fl 26 h.1 1 22 d fun ah=>
dN 22 ah d fun ai=>
aZ .sub 3 false true ai (iA 1) fun aj=>
de 22 t aj d fun ak=>
fl 50 ak 1 3 d fun al=>
fl 26 h.1 0 3 d fun am=>
aZ .eql 3 false false al am fun a6=>
ss a6 true (aJ 26 h.1 d fun an=>
aJ 50 i.1 d fun ao=>some [ao,an]) (some [ud,ud]) fun ap=>gM ap fun aq ar b7=>
(di a6 ((C 41 [snap d ar,snap d aq]).bind fun a8=>some [a8,a8]) (some [bA false,ud])).bind fun au=>gM au fun av b8 b9=>
(call 31 [av,iA 530] d lo).bind fun f=>cf f.1 (fun a9=>
fl 26 h.1 1 22 f.2 fun p=>
dN 22 p f.2 fun u=>
aZ .lss 3 false true u (iA 256) fun w=>
(call 31 [w,iA 2] f.2 lo).bind fun c=>cf c.1 (fun aa=>
aJ 26 h.1 c.2 fun k=>
aJ 50 i.1 c.2 fun j=>
eE 76 [(0,bA true),(1,j)] fun x=>
(C 42 [snap c.2 k,snap c.2 x]).bind fun y=>
bK 26 a.1 (bF a.1 c.2 y) c.2 lo fun l=>
bK 36 b.1 (bF b.1 l (iA 0)) l lo fun g=>
aJ 26 a.1 g fun z=>
((call 40 [z,A.v Value.nilIface] g (List.length g)).bind fun aw=>oy (List.length g) aw).bind fun q=>
dP q 0 fun ax=>
dP q 1 fun ay=>
bK 26 a.1 (bF a.1 g ax) g lo fun ab=>
bK 36 b.1 (bF b.1 ab ay) ab lo fun a0=>
aJ 26 a.1 a0 fun az=>
aJ 36 b.1 a0 fun b0=>some (Out.ret (A.tup [az,b0]),a0)) fun aa=>
aJ 26 a.1 c.2 fun k=>
((call 40 [k,aa] c.2 (List.length c.2)).bind fun b1=>oy (List.length c.2) b1).bind fun j=>
dP j 0 fun x=>
dP j 1 fun y=>
bK 26 a.1 (bF a.1 c.2 x) c.2 lo fun l=>
bK 36 b.1 (bF b.1 l y) l lo fun g=>
aJ 26 a.1 g fun z=>
aJ 36 b.1 g fun q=>some (Out.ret (A.tup [z,q]),g)) fun a9=>
aJ 26 a.1 f.2 fun b2=>
((call 40 [b2,a9] f.2 (List.length f.2)).bind fun b3=>oy (List.length f.2) b3).bind fun p=>
dP p 0 fun u=>
dP p 1 fun w=>
bK 26 a.1 (bF a.1 f.2 u) f.2 lo fun c=>
bK 36 b.1 (bF b.1 c w) c lo fun a1=>
aJ 26 a.1 a1 fun k=>
aJ 36 b.1 a1 fun j=>some (Out.ret (A.tup [k,j]),a1)) fun a7=>
aJ 26 a.1 e.2 fun t8=>
((call 40 [t8,a7] e.2 (List.length e.2)).bind fun H9=>oy (List.length e.2) H9).bind fun o=>
dP o 0 fun r=>
dP o 1 fun s=>
bK 26 a.1 (bF a.1 e.2 r) e.2 lo fun ad=>
bK 36 b.1 (bF b.1 ad s) ad lo fun d=>
aJ 26 a.1 d fun b6=>
aJ 36 b.1 d fun t=>some (Out.ret (A.tup [b6,t]),d):=j9
theorem V3 (r s t:A):aE (cx C) call rg n 13 [r,s,t] H lo =
fw r H fun h=>
eD 26 h.2 fun b=>
eD 36 b.2 fun d=>
eE 54 [(0,s),(1,t)] fun t3=>
eD 54 d.2 fun f=>
bK 54 f.1 (bF f.1 f.2 t3) f.2 lo fun e=>
aJ 26 h.1 e fun t6=>
(C 15 [snap e t6]).bind fun t7=>
aZ .eql 36 false true t7 (iA 0) fun t8=>
(di t8 (aJ 26 h.1 e fun u=>
aJ 54 f.1 e fun w=>
(C 44 [snap e u,snap e w]).bind fun x=>some [x,x,w,u]) (some [bA false,ud,ud,ud])).bind fun l9=>fM l9 fun a5 ad ae af ag=>
(call 31 [a5,iA 530] e lo).bind fun a=>cf a.1 (fun y=>
aJ 26 h.1 a.2 fun k=>
aJ 54 f.1 a.2 fun i=>
eE 76 [(2,i)] fun l=>
(C 42 [snap a.2 k,snap a.2 l]).bind fun o=>
bK 26 b.1 (bF b.1 a.2 o) a.2 lo fun g=>
bK 36 d.1 (bF d.1 g (iA 0)) g lo fun c=>
aJ 26 b.1 c fun p=>
((call 40 [p,A.v Value.nilIface] c (List.length c)).bind fun a6=>oy (List.length c) a6).bind fun j=>
dP j 0 fun a7=>
dP j 1 fun a8=>
bK 26 b.1 (bF b.1 c a7) c lo fun z=>
bK 36 d.1 (bF d.1 z a8) z lo fun q=>
aJ 26 b.1 q fun a9=>
aJ 36 d.1 q fun aa=>some (Out.ret (A.tup [a9,aa]),q)) fun y=>
aJ 26 b.1 a.2 fun k=>
((call 40 [k,y] a.2 (List.length a.2)).bind fun ab=>oy (List.length a.2) ab).bind fun i=>
dP i 0 fun l=>
dP i 1 fun o=>
bK 26 b.1 (bF b.1 a.2 l) a.2 lo fun g=>
bK 36 d.1 (bF d.1 g o) g lo fun c=>
aJ 26 b.1 c fun p=>
aJ 36 d.1 c fun j=>some (Out.ret (A.tup [p,j]),c):=j9
theorem V4 (k f:A):aE (cx C) call rg n 14 [k,f] H lo =
eD 26 H fun b=>
bZ 26 b.1 0 b.2 fun l=>
bK 3 l (bF l b.2 k) b.2 lo fun g=>
dN 56 f g fun p=>aH (cx C) call rg n 14 lo 0 (List.length (bR lo 3 0 b.1 (bR lo 2 0 b.1 (bR lo 1 0 b.1 g)))) (fun d a=>bif Nat.beq d 0 then
aJ 26 (lk a 4) (St.H a) fun h=>
(C 15 [snap (St.H a) h]).bind fun o=>
aZ .neq 36 false true o (iA 0) fun q=>aY q (eE 26 [] fun i=>
bK 26 (lk a 4) (bF (lk a 4) (St.H a) i) (St.H a) lo fun c=>
aJ 26 (lk a 4) c fun j=>some (Out.ret (A.tup [j,o]),c)) (aJ 26 (lk a 4) (St.H a) fun i=>
bK 26 (lk a 4) (bF (lk a 4) (St.H a) i) (St.H a) lo fun c=>
aJ 26 (lk a 4) c fun j=>some (Out.ret (A.tup [j,iA 0]),c)) else none) (fun d a=>none) (fun e=>
aJ 26 (lk e 4) (St.H e) fun h=>some (Out.ret (A.tup [h,lk e 5]),St.H e)) (fun d a=>some (Out.pan d,St.H a)) n (St.mk [(4,b.1),(5,iA 0),(12,f),(13,p),(14,iA 0)] (bR lo 3 0 b.1 (bR lo 2 0 b.1 (bR lo 1 0 b.1 g)))):=j9
theorem V5 (y:A):aE (cx C) call rg n 15 [y] H lo =
fw y H fun d=>
eD 36 d.2 fun a=>
fl 26 d.1 0 3 a.2 fun t3=>
(C 32 [snap a.2 t3,snap a.2 (iA 0),snap a.2 (iA 1)]).bind fun t4=>
(gB prog UnOp.not t4).bind fun t5=>
(di t5 (some [bA true,ud,ud,ud,ud]) (bZ 26 d.1 3 a.2 fun z=>
aJ 24 z a.2 fun t7=>
dN 24 t7 a.2 fun t8=>
aZ .eql 3 false true t8 (iA 0) fun t9=>some [t9,t9,t8,t7,z])).bind fun l6=>fM l6 fun u7 u8 u9 bf aw=>bE aw fun bg bh=>
(di u7 (some [bA true,ud,ud,ud,ud,ud,ud,ud,ud,ud,ud,ud]) (bZ 26 d.1 3 a.2 fun a3=>
aJ 24 a3 a.2 fun a4=>
dN 24 a4 a.2 fun a5=>
bZ 26 d.1 1 a.2 fun a6=>
aJ 22 a6 a.2 fun a7=>
dN 22 a7 a.2 fun a8=>
bZ 26 d.1 2 a.2 fun a9=>
aJ 23 a9 a.2 fun aa=>
dN 23 aa a.2 fun ab=>
aZ .add 3 false false a8 ab fun ad=>
aZ .neq 3 false false a5 ad fun ae=>some [ae,ae,ad,ab,aa,a9,a8,a7,a6,a5,a4,a3])).bind fun ax=>u1 ax fun ay bi bj bk bl bm bn bo b0=>fM b0 fun bp bq br bs bt=>
(di ay (some [bA true,ud,ud,ud,ud]) (bZ 26 d.1 1 a.2 fun af=>
aJ 22 af a.2 fun ag=>
dN 22 ag a.2 fun ah=>
aZ .gtr 3 false true ah (iA 256) fun ai=>some [ai,ai,ah,ag,af])).bind fun b1=>fM b1 fun b2 bu bv bw b3=>bE b3 fun bx bz=>aY b2 (bK 36 a.1 (bF a.1 a.2 (iA 530)) a.2 lo fun aj=>
aJ 36 a.1 aj fun q=>some (Out.ret q,aj)) (fl 26 d.1 0 3 a.2 fun q=>
eE 26 [(0,q)] fun b4=>
eD 26 a.2 fun c=>
eD 3 c.2 fun g=>
bK 26 c.1 (bF c.1 g.2 b4) g.2 lo fun ak=>
bK 3 g.1 (bF g.1 ak (iA 0)) ak lo fun al=>
aJ 26 d.1 al fun b5=>
(call 46 [b5] al lo).bind fun f=>cf f.1 (fun r=>
(Dd prog r).bind fun am=>bif Nat.ble lo (List.length (bR lo 3 0 c.1 (bR lo 2 0 c.1 (bR lo 1 0 c.1 f.2)))) then
(rg (sx 126 call (List.length (bR lo 3 0 c.1 (bR lo 2 0 c.1 (bR lo 1 0 c.1 f.2)))) (lR (cx C) call rg n 15 lo 0 (List.length (bR lo 3 0 c.1 (bR lo 2 0 c.1 (bR lo 1 0 c.1 f.2)))) [(2,a.1),(3,c.1),(4,g.1)])) am.1 (A.yld (List.length (bR lo 3 0 c.1 (bR lo 2 0 c.1 (bR lo 1 0 c.1 f.2)))) :: am.2) (bR lo 3 0 c.1 (bR lo 2 0 c.1 (bR lo 1 0 c.1 f.2))++[az.rng cX.ready]) lo).bind fun an=>cf an.1 (fun b6=>nm (List.length (bR lo 3 0 c.1 (bR lo 2 0 c.1 (bR lo 1 0 c.1 f.2)))) an.2 (fun b=>
aJ 3 g.1 b fun i=>
fl 26 d.1 3 24 b fun s=>
dN 24 s b fun t=>
aZ .neq 3 false false i t fun u=>
(di u (some [bA true,ud,ud,ud,ud,ud]) (bZ 26 d.1 3 b fun j=>
aJ 24 j b fun k=>
de 24 k (iA 0) b fun l=>
aJ 4 l b fun o=>
(gB prog UnOp.not o).bind fun p=>some [p,p,o,l,k,j])).bind fun v=>fM v fun w b7 b8 b9 x=>gM x fun ba bb bc=>aY w (bK 36 a.1 (bF a.1 b (iA 530)) b lo fun e=>
aJ 36 a.1 e fun h=>some (Out.ret h,e)) (bK 36 a.1 (bF a.1 b (iA 0)) b lo fun e=>
aJ 36 a.1 e fun h=>some (Out.ret h,e))) (fun ao b=>bif Nat.beq ao 0 then
aJ 3 g.1 b fun i=>
fl 26 d.1 3 24 b fun s=>
dN 24 s b fun t=>
aZ .neq 3 false false i t fun u=>
(di u (some [bA true,ud,ud,ud,ud,ud]) (bZ 26 d.1 3 b fun j=>
aJ 24 j b fun k=>
de 24 k (iA 0) b fun l=>
aJ 4 l b fun o=>
(gB prog UnOp.not o).bind fun p=>some [p,p,o,l,k,j])).bind fun v=>fM v fun w b7 b8 b9 x=>gM x fun ba bb bc=>aY w (bK 36 a.1 (bF a.1 b (iA 530)) b lo fun e=>
aJ 36 a.1 e fun h=>some (Out.ret h,e)) (bK 36 a.1 (bF a.1 b (iA 0)) b lo fun e=>
aJ 36 a.1 e fun h=>some (Out.ret h,e)) else none) (fun ao b=>none) fun b=>
aJ 36 a.1 b fun i=>some (Out.ret i,b)) fun b6=>none else none) fun r=>some (Out.pan r,f.2)):=j9
theorem V6 (g e:A):aE (cx C) call rg n 16 [g,e] H lo =
fw g H fun h=>
eD 31 h.2 fun b=>
dN 84 e b.2 fun t2=>aH (cx C) call rg n 16 lo 0 (List.length b.2) (fun c a=>bif Nat.beq c 0 then
aJ 31 (lk a 2) (St.H a) fun f=>
bK 31 (lk a 4) (bF (lk a 4) (St.H a) f) (St.H a) lo fun i=>
aJ 31 (lk a 4) i fun j=>some (Out.ret (A.tup [j,bA true]),i) else none) (fun c a=>none) (fun d=>
aJ 31 (lk d 4) (St.H d) fun f=>some (Out.ret (A.tup [f,lk d 5]),St.H d)) (fun c a=>some (Out.pan c,St.H a)) n (St.mk [(2,h.1),(4,b.1),(5,bA false),(10,e),(11,t2),(12,iA 0)] b.2):=j9
theorem V7 (c d:A):aE (cx C) call rg n 17 [c,d] H lo =
dN 22 c H fun f=>
dN 22 d H fun g=>
aZ .neq 3 false false f g fun t2=>aY t2 (some (Out.ret (bA false),H)) (aH (cx C) call rg n 17 lo 0 (List.length H) (fun a b=>bif Nat.beq a 0 then some (Out.ret (bA true),St.H b) else none) (fun a b=>none) (fun e=>some (Out.ret (lk e 4),St.H e)) (fun a b=>some (Out.pan a,St.H b)) n (St.mk [(0,c),(1,d),(4,bA false),(5,iA 0)] H)):=j9
theorem V8 (c d:A):aE (cx C) call rg n 18 [c,d] H lo =
dN 23 c H fun f=>
dN 23 d H fun g=>
aZ .neq 3 false false f g fun t2=>aY t2 (some (Out.ret (bA false),H)) (aH (cx C) call rg n 18 lo 0 (List.length H) (fun a b=>bif Nat.beq a 0 then some (Out.ret (bA true),St.H b) else none) (fun a b=>none) (fun e=>some (Out.ret (lk e 4),St.H e)) (fun a b=>some (Out.pan a,St.H b)) n (St.mk [(0,c),(1,d),(4,bA false),(5,iA 0)] H)):=j9
theorem V9 (e f:A):aE (cx C) call rg n 19 [e,f] H lo =
fw e H fun b=>
fw f b.2 fun a=>
fl 26 b.1 0 3 a.2 fun t3=>
fl 26 a.1 0 3 a.2 fun t5=>
aZ .neq 3 false false t3 t5 fun t6=>
(di t6 (some [bA true,ud,ud,ud,ud,ud,ud]) (bZ 26 b.1 1 a.2 fun g=>
aJ 22 g a.2 fun h=>
bZ 26 a.1 1 a.2 fun i=>
aJ 22 i a.2 fun j=>
(C 17 [snap a.2 h,snap a.2 j]).bind fun k=>
(gB prog UnOp.not k).bind fun l=>some [l,l,k,j,i,h,g])).bind fun l7=>fM l7 fun u8 u9 ah ai a7=>gM a7 fun aj ak a8=>bE a8 fun al am=>
(di u8 (some [bA true,ud,ud,ud,ud,ud,ud]) (bZ 26 b.1 2 a.2 fun o=>
aJ 23 o a.2 fun p=>
bZ 26 a.1 2 a.2 fun q=>
aJ 23 q a.2 fun r=>
(C 18 [snap a.2 p,snap a.2 r]).bind fun s=>
(gB prog UnOp.not s).bind fun t=>some [t,t,s,r,q,p,o])).bind fun a9=>fM a9 fun aa an ao ap ab=>gM ab fun aq ar ad=>bE ad fun au av=>
(di aa (some [bA true,ud,ud,ud,ud,ud,ud,ud]) (bZ 26 b.1 3 a.2 fun u=>
aJ 24 u a.2 fun v=>
dN 24 v a.2 fun w=>
bZ 26 a.1 3 a.2 fun x=>
aJ 24 x a.2 fun y=>
dN 24 y a.2 fun z=>
aZ .neq 3 false false w z fun a0=>some [a0,a0,z,y,x,w,v,u])).bind fun ae=>u1 ae fun af aw ax ay az b0 b1 b2 b3=>aY af (some (Out.ret (bA false),a.2)) (aH (cx C) call rg n 19 lo 0 (List.length a.2) (fun c d=>bif Nat.beq c 0 then some (Out.ret (bA true),St.H d) else none) (fun c d=>none) (fun a1=>some (Out.ret (lk a1 4),St.H a1)) (fun c d=>some (Out.pan c,St.H d)) n (St.mk [(2,b.1),(3,a.1),(4,bA false),(5,iA 0)] a.2)):=j9
theorem Wa (j:A):aE (cx C) call rg n 20 [j] H lo =
fw j H fun f=>
eD 56 f.2 fun a=>
aJ 26 f.1 a.2 fun t2=>
(C 15 [snap a.2 t2]).bind fun g=>
aZ .neq 36 false true g (iA 0) fun q=>aY q (bK 56 a.1 (bF a.1 a.2 (A.imm [] true)) a.2 lo fun k=>
aJ 56 a.1 k fun r=>some (Out.ret (A.tup [r,g]),k)) (aJ 26 f.1 a.2 fun s=>
(call 46 [s] a.2 lo).bind fun c=>cf c.1 (fun h=>
(Dd prog h).bind fun l=>bif Nat.ble lo (List.length (bR lo 0 2 a.1 c.2)) then
(rg (sx 126 call (List.length (bR lo 0 2 a.1 c.2)) (lR (cx C) call rg n 20 lo 0 (List.length (bR lo 0 2 a.1 c.2)) [(2,a.1)])) l.1 (A.yld (List.length (bR lo 0 2 a.1 c.2)) :: l.2) (bR lo 0 2 a.1 c.2++[az.rng cX.ready]) lo).bind fun o=>cf o.1 (fun t=>nm (List.length (bR lo 0 2 a.1 c.2)) o.2 (fun b=>
aJ 56 a.1 b fun d=>
bK 56 a.1 (bF a.1 b d) b lo fun e=>
aJ 56 a.1 e fun i=>some (Out.ret (A.tup [i,iA 0]),e)) (fun p b=>bif Nat.beq p 0 then
aJ 56 a.1 b fun d=>
bK 56 a.1 (bF a.1 b d) b lo fun e=>
aJ 56 a.1 e fun i=>some (Out.ret (A.tup [i,iA 0]),e) else none) (fun p b=>none) fun b=>
aJ 56 a.1 b fun d=>some (Out.ret (A.tup [d,g]),b)) fun t=>none else none) fun h=>some (Out.pan h,c.2)):=j9
theorem nT (a:A):aE (cx C) call rg n 22 [a] H lo =
aZ .eql 20 false true a (A.v Value.nilIface) fun c=>aY c (some (Out.ret (iA 0),H)) ((mM prog a 36 true).bind fun b=>
dP b 1 fun t2=>
dP b 0 fun d=>aY t2 (some (Out.ret d,H)) (Du a fun e=>some (Out.pan e,H))):=j9
theorem Wb (g:A):aE (cx C) call rg n 23 [g] H lo =
fH g H fun i=>
bZ 62 i 0 H fun j=>
fl 31 j 0 27 H fun k=>aH (cx C) call rg n 23 lo 0 (List.length H) (fun c b=>bif Nat.beq c 0 then aH (cx C) call rg n 23 lo 1 (List.length (St.H b)) (fun d a=>bif Nat.beq d 2 then
fH (lk a 0) (St.H a) fun l=>
bZ 62 l 0 (St.H a) fun o=>
fl 31 o 2 22 (St.H a) fun h=>
dN 22 h (St.H a) fun p=>aH (cx C) call rg n 23 lo 3 (List.length (St.H a)) (fun e f=>bif Nat.beq e 6 then some (Out.ret (A.tup []),St.H f) else none) (fun e f=>none) (fun q=>some (Out.ret (A.tup []),St.H q)) (fun e f=>some (Out.pan e,St.H f)) n (St.mk [(0,lk a 0),(69,h),(70,p),(71,iA 0)] (St.H a)) else none) (fun d a=>none) (fun r=>some (Out.ret (A.tup []),St.H r)) (fun d a=>some (Out.pan d,St.H a)) n (St.mk [(0,lk b 0),(42,iA 0)] (St.H b)) else none) (fun c b=>none) (fun s=>some (Out.ret (A.tup []),St.H s)) (fun c b=>some (Out.pan c,St.H b)) n (St.mk [(0,g),(13,k),(14,iA 0)] H):=j9
theorem Wc (b d:A):aE (cx C) call rg n 24 [b,d] H lo =
fw d H fun a=>
fH b a.2 fun g=>
fl 62 g 1 3 a.2 fun h=>
fH b a.2 fun i=>
bZ 62 i 0 a.2 fun j=>
bZ 31 j 0 a.2 fun k=>
de 27 k h a.2 fun l=>
aJ 26 l a.2 fun o=>
fl 33 a.1 2 3 a.2 fun p=>
fl 33 a.1 3 3 a.2 fun q=>
(C 12 [snap a.2 o,snap a.2 p,snap a.2 q]).bind fun e=>
dP e 0 fun r=>
dP e 1 fun s=>
(call 51 [b,r,s] a.2 lo).bind fun c=>cf c.1 (fun f=>some (Out.ret (A.tup []),c.2)) fun f=>some (Out.pan f,c.2):=j9
theorem Wd (c e:A):aE (cx C) call rg n 25 [c,e] H lo =
fw e H fun b=>
fl 33 b.1 2 3 b.2 fun t2=>
fH c b.2 fun i=>
bZ 62 i 0 b.2 fun j=>
fl 31 j 2 22 b.2 fun k=>
dN 22 k b.2 fun l=>
aZ .sub 3 false true l (iA 1) fun o=>
(C 32 [snap b.2 t2,snap b.2 (iA 0),snap b.2 o]).bind fun p=>
(call 31 [p,iA 530] b.2 lo).bind fun a=>cf a.1 (fun f=>
fH c a.2 fun q=>
fl 62 q 1 3 a.2 fun r=>
fH c a.2 fun s=>
bZ 62 s 0 a.2 fun t=>
bZ 31 t 0 a.2 fun u=>
de 27 u r a.2 fun v=>
aJ 26 v a.2 fun w=>
fH c a.2 fun x=>
bZ 62 x 0 a.2 fun y=>
fl 31 y 2 22 a.2 fun z=>
fl 33 b.1 2 3 a.2 fun a0=>
de 22 z a0 a.2 fun a1=>
aJ 50 a1 a.2 fun a2=>
(C 52 [snap a.2 w,snap a.2 a2]).bind fun g=>
dP g 0 fun a3=>
dP g 1 fun a4=>
(call 51 [c,a3,a4] a.2 lo).bind fun d=>cf d.1 (fun h=>some (Out.ret (A.tup []),d.2)) fun h=>some (Out.pan h,d.2)) fun f=>some (Out.pan f,a.2):=j9
theorem We (b d:A):aE (cx C) call rg n 26 [b,d] H lo =
fw d H fun a=>
fH b a.2 fun g=>
fl 62 g 1 3 a.2 fun h=>
fH b a.2 fun i=>
bZ 62 i 0 a.2 fun j=>
bZ 31 j 0 a.2 fun k=>
de 27 k h a.2 fun l=>
aJ 26 l a.2 fun o=>
fl 33 a.1 2 3 a.2 fun p=>
fl 33 a.1 3 3 a.2 fun q=>
(C 13 [snap a.2 o,snap a.2 p,snap a.2 q]).bind fun e=>
dP e 0 fun r=>
dP e 1 fun s=>
(call 51 [b,r,s] a.2 lo).bind fun c=>cf c.1 (fun f=>some (Out.ret (A.tup []),c.2)) fun f=>some (Out.pan f,c.2):=j9
theorem Wf (b c:A):aE (cx C) call rg n 27 [b,c] H lo =
fw c H fun a=>
fH b a.2 fun e=>
fl 62 e 1 3 a.2 fun f=>
fH b a.2 fun g=>
fl 62 g 1 3 a.2 fun h=>
fH b a.2 fun i=>
bZ 62 i 0 a.2 fun j=>
bZ 31 j 0 a.2 fun k=>
de 27 k h a.2 fun l=>
fl 26 l 3 24 a.2 fun o=>
dN 24 o a.2 fun p=>
fH b a.2 fun q=>
bZ 62 q 0 a.2 fun r=>
bZ 31 r 1 a.2 fun s=>
de 28 s f a.2 fun d=>
bK 3 d (bF d a.2 p) a.2 lo fun t=>some (Out.ret (A.tup []),t):=j9
theorem Wg (d o:A):aE (cx C) call rg n 28 [d,o] H lo =
fw o H fun a=>
fH d a.2 fun x=>
fl 62 x 1 3 a.2 fun y=>
fH d a.2 fun z=>
bZ 62 z 0 a.2 fun t5=>
bZ 31 t5 0 a.2 fun t6=>
de 27 t6 y a.2 fun t7=>
fl 26 t7 1 22 a.2 fun f=>
fl 33 a.1 2 3 a.2 fun a3=>
dN 22 f a.2 fun a4=>
aZ .sub 3 false true a4 (iA 1) fun a5=>
(C 32 [snap a.2 a3,snap a.2 (iA 0),snap a.2 a5]).bind fun a6=>
(call 31 [a6,iA 530] a.2 lo).bind fun c=>cf c.1 (fun p=>
fH d c.2 fun q=>
bZ 62 q 1 c.2 fun r=>
aJ 3 r c.2 fun a7=>
fl 33 a.1 2 3 c.2 fun a8=>
de 22 f a8 c.2 fun a9=>
aJ 50 a9 c.2 fun aa=>bif bif cN 0 r then bif cN 0 q then bif cN 0 d then true else false else false else false then
(call 50 [aa] c.2 (List.length c.2)).bind fun g=>cf g.1 (fun h=>
(call 48 [d,a7,h] g.2 lo).bind fun i=>cf i.1 (fun j=>
(call 31 [j,iA 530] i.2 lo).bind fun b=>cf b.1 (fun s=>
fH d b.2 fun ab=>
bZ 62 ab 0 b.2 fun ad=>
fl 31 ad 2 22 b.2 fun ae=>
bZ 33 a.1 2 b.2 fun t=>
aJ 3 t b.2 fun af=>
de 22 f af b.2 fun u=>
aJ 50 u b.2 fun v=>bif bif kJ v then true else false then
(aF prog 22 1 [(0,cC b.2 v)]).bind fun ag=>bif bif cN 0 u then bif cN 0 f then bif cN 0 t then bif cN 0 a.1 then true else false else false else false else false then
(call 53 [ae] b.2 (List.length b.2)).bind fun k=>cf k.1 (fun l=>
(bp prog 22 22 false l ag k.2 lo).bind fun e=>
fH d e.2 fun ah=>
bZ 62 ah 0 e.2 fun ai=>
bZ 31 ai 2 e.2 fun w=>
bK 22 w (bF w e.2 e.1) e.2 lo fun aj=>some (Out.ret (A.tup []),aj)) fun l=>some (Out.pan l,k.2) else none else none) fun s=>some (Out.pan s,b.2)) fun j=>some (Out.pan j,i.2)) fun h=>some (Out.pan h,g.2) else none) fun p=>some (Out.pan p,c.2):=j9
theorem Pt (c s:A):aE (cx C) call rg n 29 [c,s] H lo =
fw s H fun b=>
fH c b.2 fun t1=>
fl 62 t1 1 3 b.2 fun t3=>
fH c b.2 fun t4=>
bZ 62 t4 0 b.2 fun t5=>
bZ 31 t5 0 b.2 fun t6=>
de 27 t6 t3 b.2 fun t7=>
fl 26 t7 2 23 b.2 fun f=>
fl 33 b.1 2 3 b.2 fun a7=>
dN 23 f b.2 fun a8=>
aZ .sub 3 false true a8 (iA 1) fun a9=>
(C 32 [snap b.2 a7,snap b.2 (iA 0),snap b.2 a9]).bind fun aa=>
(call 31 [aa,iA 530] b.2 lo).bind fun d=>cf d.1 (fun t=>
fH c d.2 fun u=>
bZ 62 u 1 d.2 fun v=>
aJ 3 v d.2 fun ab=>
fl 33 b.1 2 3 d.2 fun ad=>
de 23 f ad d.2 fun ae=>
aJ 54 ae d.2 fun af=>bif bif cN 0 v then bif cN 0 u then bif cN 0 c then true else false else false else false then
(call 49 [af] d.2 (List.length d.2)).bind fun h=>cf h.1 (fun i=>
(call 48 [c,ab,i] h.2 lo).bind fun j=>cf j.1 (fun k=>
(call 31 [k,iA 530] j.2 lo).bind fun a=>cf a.1 (fun w=>
fH c a.2 fun l=>
bZ 62 l 1 a.2 fun o=>
aJ 3 o a.2 fun ag=>
fH c a.2 fun ah=>
fl 62 ah 1 3 a.2 fun ai=>
fH c a.2 fun aj=>
bZ 62 aj 0 a.2 fun ak=>
bZ 31 ak 3 a.2 fun al=>
de 29 al ai a.2 fun am=>
aJ 23 am a.2 fun an=>
bZ 33 b.1 2 a.2 fun x=>
aJ 3 x a.2 fun ao=>
de 23 f ao a.2 fun y=>
aJ 54 y a.2 fun z=>bif bif kJ z then true else false then
(aF prog 23 1 [(0,cC a.2 z)]).bind fun ap=>
fH c a.2 fun p=>
bZ 62 p 0 a.2 fun q=>
bZ 31 q 3 a.2 fun aq=>bif bif cN 0 q then bif cN 0 p then bif cN 0 c then bif cN 0 y then bif cN 0 f then bif cN 0 x then bif cN 0 b.1 then bif cN 0 o then bif cN 0 l then bif cN 0 c then true else false else false else false else false else false else false else false else false else false else false then
(call 54 [an] a.2 (List.length a.2)).bind fun r=>cf r.1 (fun e=>bif bif apart q e then bif apart p e then bif apart c e then bif apart o e then bif apart l e then bif apart c e then true else false else false else false else false else false else false then
(bp prog 23 23 false e ap r.2 lo).bind fun g=>
de 29 aq ag g.2 fun a0=>
bK 23 a0 (bF a0 g.2 g.1) g.2 lo fun ar=>some (Out.ret (A.tup []),ar) else none) fun e=>some (Out.pan e,r.2) else none else none) fun w=>some (Out.pan w,a.2)) fun k=>some (Out.pan k,j.2)) fun i=>some (Out.pan i,h.2) else none) fun t=>some (Out.pan t,d.2):=j9
theorem Wh (c h:A):aE (cx C) call rg n 30 [c,h] H lo =
fw h H fun b=>
fH c b.2 fun i=>
bZ 62 i 1 b.2 fun t2=>
aJ 3 t2 b.2 fun v=>
fH c b.2 fun j=>
bZ 62 j 0 b.2 fun k=>
bZ 31 k 0 b.2 fun l=>
de 27 l v b.2 fun o=>
aJ 26 o b.2 fun w=>bif bif apart o A.any then bif apart l A.any then bif apart k A.any then bif apart j A.any then bif apart c A.any then bif apart t2 A.any then bif apart i A.any then bif apart c A.any then true else false else false else false else false else false else false else false else false then
eD 26 b.2 fun e=>
bK 26 e.1 (bF e.1 e.2 w) e.2 lo fun a=>
fl 33 b.1 2 3 a fun x=>
fH c a fun y=>
fl 62 y 1 3 a fun z=>
fH c a fun a0=>
bZ 62 a0 0 a fun a1=>
bZ 31 a1 1 a fun a2=>
de 28 a2 z a fun a3=>
aJ 3 a3 a fun a4=>
fl 26 e.1 3 24 a fun a5=>
dN 24 a5 a fun a6=>
(C 32 [snap a x,snap a a4,snap a a6]).bind fun a7=>
(call 31 [a7,iA 530] a lo).bind fun f=>cf f.1 (fun p=>
aJ 26 e.1 f.2 fun a8=>
(C 20 [snap f.2 a8]).bind fun q=>
dP q 0 fun a9=>
dP q 1 fun r=>
aZ .eql 36 false true r (iA 0) fun aa=>
(call 31 [aa,r] f.2 lo).bind fun d=>cf d.1 (fun s=>
fH c d.2 fun ab=>
fl 62 ab 1 3 d.2 fun ad=>
fl 33 b.1 2 3 d.2 fun ae=>
(eI prog 56 a9 none (some ae) none d.2).bind fun af=>
(C 14 [snap d.2 ad,snap d.2 af]).bind fun t=>
dP t 0 fun ag=>
dP t 1 fun ah=>
(call 51 [c,ag,ah] d.2 lo).bind fun g=>cf g.1 (fun u=>some (Out.ret (A.tup []),g.2)) fun u=>some (Out.pan u,g.2)) fun s=>some (Out.pan s,d.2)) fun p=>some (Out.pan p,f.2) else none:=j9
theorem tn (a b:A):aE (cx C) call rg n 31 [a,b] H lo =
(gB prog UnOp.not a).bind fun c=>aY c ((EE prog 36 b).bind fun d=>Du d fun a2=>some (Out.pan a2,H)) (some (Out.ret (A.tup []),H)):=j9
theorem Wi (a c b:A):aE (cx C) call rg n 32 [a,c,b] H lo =
aZ .leq 3 false false c a fun e=>
(di e (aZ .leq 3 false false a b fun d=>some [d,d,b,a]) (some [bA false,ud,ud,ud])).bind fun f=>fM f fun g h u4 i j=>some (Out.ret g,H):=j9
theorem Wj (e:A):aE (cx C) call rg n 33 [e] H lo =
fw e H fun d=>aH (cx C) call rg n 33 lo 0 (List.length d.2) (fun b a=>bif Nat.beq b 0 then aH (cx C) call rg n 33 lo 2 (List.length (St.H a)) (fun c s2=>bif Nat.beq c 4 then some (Out.ret (bA true),St.H s2) else none) (fun c s2=>none) (fun a2=>some (Out.ret (lk a2 2),St.H a2)) (fun c s2=>some (Out.pan c,St.H s2)) n (St.mk [(1,lk a 1),(2,lk a 2),(7,iA 0)] (St.H a)) else none) (fun b a=>none) (fun f=>some (Out.ret (lk f 2),St.H f)) (fun b a=>some (Out.pan b,St.H a)) n (St.mk [(1,d.1),(2,bA false),(3,iA 0)] d.2):=j9
theorem Wk (a c b:A):aE (cx C) call rg n 34 [a,c,b] H lo =
aZ .geq 3 false false a c fun e=>
(di e (aZ .leq 3 false false a b fun d=>some [d,d,b,a]) (some [bA false,ud,ud,ud])).bind fun f=>fM f fun g h u4 i j=>some (Out.ret g,H):=j9
theorem Wl (c d e:A):aE (cx C) call rg n 35 [c,d,e] H lo =
fw c H fun f=>
fw e f.2 fun b=>aH (cx C) call rg n 35 lo 0 (List.length b.2) (fun a s2=>bif Nat.beq a 0 then some (Out.ret (bA false),St.H s2) else none) (fun a s2=>none) (fun a2=>some (Out.ret (lk a2 6),St.H a2)) (fun a s2=>some (Out.pan a,St.H s2)) n (St.mk [(1,d),(3,f.1),(5,b.1),(6,bA false),(7,iA 0)] b.2):=j9
theorem Wm (c d e:A):aE (cx C) call rg n 36 [c,d,e] H lo =
fw c H fun f=>
fw e f.2 fun b=>aH (cx C) call rg n 36 lo 0 (List.length b.2) (fun a s2=>bif Nat.beq a 0 then some (Out.ret (bA false),St.H s2) else none) (fun a s2=>none) (fun a2=>some (Out.ret (lk a2 6),St.H a2)) (fun a s2=>some (Out.pan a,St.H s2)) n (St.mk [(1,d),(3,f.1),(5,b.1),(6,bA false),(7,iA 0)] b.2):=j9
theorem Wn (z x1:A):aE (cx C) call rg n 37 [z,x1] H lo =
fw z H fun l=>
fw x1 l.2 fun c=>
eD 26 c.2 fun b=>
fl 33 c.1 1 3 b.2 fun t4=>
bZ 31 l.1 0 b.2 fun t5=>
de 27 t5 t4 b.2 fun t6=>
aJ 26 t6 b.2 fun t7=>
eD 26 b.2 fun d=>
bK 26 d.1 (bF d.1 d.2 t7) d.2 lo fun a=>
fl 33 c.1 0 3 a fun r=>
aZ .eql 3 false true r (iA 1) fun ab=>aY ab (aJ 26 d.1 a fun t=>
fl 33 c.1 2 3 a fun g=>
fl 33 c.1 3 3 a fun h=>
(C 57 [snap a t,snap a g,snap a h]).bind fun k=>
dP k 0 fun i=>
dP k 1 fun f=>
bK 26 b.1 (bF b.1 a i) a lo fun a1=>
aJ 26 b.1 a1 fun e=>some (Out.ret (A.tup [e,f]),a1)) (aZ .eql 3 false true r (iA 2) fun t=>aY t (fl 33 c.1 2 3 a fun g=>
fl 31 l.1 2 22 a fun h=>
dN 22 h a fun k=>
aZ .sub 3 false true k (iA 1) fun i=>
(C 34 [snap a g,snap a (iA 0),snap a i]).bind fun f=>
(gB prog UnOp.not f).bind fun o=>aY o (eE 26 [] fun e=>
bK 26 b.1 (bF b.1 a e) a lo fun p=>
aJ 26 b.1 p fun j=>some (Out.ret (A.tup [j,iA 530]),p)) (aJ 26 d.1 a fun e=>
fl 31 l.1 2 22 a fun j=>
fl 33 c.1 2 3 a fun u=>
de 22 j u a fun v=>
aJ 50 v a fun w=>
(C 58 [snap a e,snap a w]).bind fun s=>
dP s 0 fun q=>
dP s 1 fun x=>
bK 26 b.1 (bF b.1 a q) a lo fun a2=>
aJ 26 b.1 a2 fun y=>some (Out.ret (A.tup [y,x]),a2))) (aZ .eql 3 false true r (iA 3) fun ad=>aY ad (aJ 26 d.1 a fun g=>
fl 33 c.1 2 3 a fun h=>
fl 33 c.1 3 3 a fun i=>
(C 59 [snap a g,snap a h,snap a i]).bind fun f=>
dP f 0 fun o=>
dP f 1 fun e=>
bK 26 b.1 (bF b.1 a o) a lo fun p=>
aJ 26 b.1 p fun j=>some (Out.ret (A.tup [j,e]),p)) (aZ .eql 3 false true r (iA 7) fun g=>aY g (fl 33 c.1 2 3 a fun h=>
fl 33 c.1 1 3 a fun i=>
bZ 31 l.1 1 a fun f=>
de 28 f i a fun o=>
aJ 3 o a fun e=>
fl 26 d.1 3 24 a fun j=>
dN 24 j a fun ae=>
(C 34 [snap a h,snap a e,snap a ae]).bind fun u=>
(gB prog UnOp.not u).bind fun v=>aY v (eE 26 [] fun w=>
bK 26 b.1 (bF b.1 a w) a lo fun a3=>
aJ 26 b.1 a3 fun q=>some (Out.ret (A.tup [q,iA 530]),a3)) (fl 33 c.1 1 3 a fun s=>
aJ 26 d.1 a fun q=>
(C 61 [snap a q]).bind fun x=>
fl 33 c.1 2 3 a fun y=>
(eI prog 56 x none (some y) none a).bind fun af=>
(C 60 [snap a s,snap a af]).bind fun a4=>
dP a4 0 fun ag=>
dP a4 1 fun ah=>
bK 26 b.1 (bF b.1 a ag) a lo fun a5=>
aJ 26 b.1 a5 fun ai=>some (Out.ret (A.tup [ai,ah]),a5))) (eE 26 [] fun aj=>
bK 26 b.1 (bF b.1 a aj) a lo fun a6=>
aJ 26 b.1 a6 fun k=>some (Out.ret (A.tup [k,iA 530]),a6))))):=j9
theorem Wo (d b c:A):aE (cx C) call rg n 38 [d,b,c] H lo =
eD 26 H fun a=>
(C 34 [snap a.2 d,snap a.2 (iA 0),snap a.2 (iA 1)]).bind fun o=>
(gB prog UnOp.not o).bind fun t2=>
(di t2 (some [bA true,ud,ud,ud]) ((C 34 [snap a.2 b,snap a.2 (iA 0),snap a.2 (iA 1)]).bind fun g=>
(gB prog UnOp.not g).bind fun h=>some [h,h,g,b])).bind fun p=>fM p fun u4 v w x y=>
(di u4 (some [bA true,ud,ud,ud]) ((C 34 [snap a.2 c,snap a.2 (iA 1),snap a.2 (iA 4096)]).bind fun i=>
(gB prog UnOp.not i).bind fun j=>some [j,j,i,c])).bind fun q=>fM q fun r z a0 a1 a2=>aY r (eE 26 [] fun e=>
bK 26 a.1 (bF a.1 a.2 e) a.2 lo fun k=>
aJ 26 a.1 k fun f=>some (Out.ret (A.tup [f,iA 1]),k)) (eE 50 [(1,b),(2,c)] fun e=>
(aF prog 22 1 [(0,cC a.2 e)]).bind fun s=>
(aF prog 24 1 [(0,cC a.2 (bA true))]).bind fun f=>
eE 26 [(0,d),(1,s),(3,f)] fun t=>
bK 26 a.1 (bF a.1 a.2 t) a.2 lo fun l=>
aJ 26 a.1 l fun u=>some (Out.ret (A.tup [u,iA 0]),l)):=j9
theorem EW (g h:A):aE (cx C) call rg n 40 [g,h] H lo =
fw g H fun i=>
eD 26 i.2 fun a=>
(call 22 [h] a.2 lo).bind fun b=>cf b.1 (fun d=>
aZ .neq 36 false true d (iA 0) fun j=>aY j (eE 26 [] fun e=>
bK 26 a.1 (bF a.1 b.2 e) b.2 lo fun c=>
aJ 26 a.1 c fun f=>some (Out.ret (A.tup [f,d]),c)) (aJ 26 i.1 b.2 fun e=>
bK 26 a.1 (bF a.1 b.2 e) b.2 lo fun c=>
aJ 26 a.1 c fun f=>some (Out.ret (A.tup [f,iA 0]),c))) fun d=>some (Out.pan d,b.2):=j9
theorem Wp (c d:A):aE (cx C) call rg n 41 [c,d] H lo =
fw c H fun b=>
fw d b.2 fun a=>
fl 50 a.1 0 3 a.2 fun q=>
fl 26 b.1 1 22 a.2 fun r=>
dN 22 r a.2 fun s=>
aZ .eql 3 false false q s fun t=>
(di t (bZ 50 a.1 1 a.2 fun e=>
aJ 3 e a.2 fun f=>
(C 32 [snap a.2 f,snap a.2 (iA 0),snap a.2 (iA 1)]).bind fun g=>some [g,g,f,e]) (some [bA false,ud,ud,ud])).bind fun u=>fM u fun h a4 a5 a6 a7=>
ss h true (bZ 50 a.1 2 a.2 fun i=>
aJ 3 i a.2 fun v=>
aJ 26 b.1 a.2 fun j=>
(C 62 [snap a.2 j]).bind fun w=>some [w,j,v,i]) (some [ud,ud,ud,ud]) fun x=>fM x fun y a8 z a9 aa=>
(di h (aZ .gtr 3 false false z y fun k=>some [k,k]) (some [bA false,ud])).bind fun a0=>gM a0 fun a1 ab ad=>
(di a1 (bZ 50 a.1 2 a.2 fun l=>
aJ 3 l a.2 fun o=>
aZ .leq 3 false true o (iA 4096) fun p=>some [p,p,o,l]) (some [bA false,ud,ud,ud])).bind fun a2=>fM a2 fun a3 ae af ag ah=>some (Out.ret a3,a.2):=j9
theorem Wq (x0 x1:A):aE (cx C) call rg n 42 [x0,x1] H lo =
fw x0 H fun c=>
fw x1 c.2 fun d=>
eD 26 d.2 fun a=>
fl 76 d.1 0 4 a.2 fun t4=>aY t4 (fl 26 c.1 1 22 a.2 fun u=>
bZ 76 d.1 1 a.2 fun l=>
aJ 50 l a.2 fun o=>bif bif kJ o then true else false then
(aF prog 22 1 [(0,cC a.2 o)]).bind fun v=>bif bif cN 0 l then bif cN 0 d.1 then true else false else false then
(call 53 [u] a.2 (List.length a.2)).bind fun g=>cf g.1 (fun h=>
(bp prog 22 22 false h v g.2 lo).bind fun e=>
bZ 26 c.1 1 e.2 fun p=>
bK 22 p (bF p e.2 e.1) e.2 lo fun b=>
fl 26 c.1 3 24 b fun w=>
bZ 76 d.1 0 b fun q=>
aJ 4 q b fun r=>bif bif kJ r then true else false then
(aF prog 24 1 [(0,cC b r)]).bind fun x=>bif bif cN 0 q then bif cN 0 d.1 then true else false else false then
(call 63 [w] b (List.length b)).bind fun i=>cf i.1 (fun j=>
(bp prog 24 24 false j x i.2 lo).bind fun f=>
bZ 26 c.1 3 f.2 fun s=>
bK 24 s (bF s f.2 f.1) f.2 lo fun k=>
aJ 26 c.1 k fun y=>
bK 26 a.1 (bF a.1 k y) k lo fun t=>
aJ 26 a.1 t fun z=>some (Out.ret z,t)) fun j=>some (Out.pan j,i.2) else none else none) fun h=>some (Out.pan h,g.2) else none else none) (fl 26 c.1 2 23 a.2 fun u=>
bZ 76 d.1 2 a.2 fun l=>
aJ 54 l a.2 fun o=>bif bif kJ o then true else false then
(aF prog 23 1 [(0,cC a.2 o)]).bind fun v=>bif bif cN 0 l then bif cN 0 d.1 then true else false else false then
(call 54 [u] a.2 (List.length a.2)).bind fun g=>cf g.1 (fun h=>
(bp prog 23 23 false h v g.2 lo).bind fun e=>
bZ 26 c.1 2 e.2 fun p=>
bK 23 p (bF p e.2 e.1) e.2 lo fun b=>
fl 26 c.1 3 24 b fun w=>
bZ 76 d.1 0 b fun q=>
aJ 4 q b fun r=>bif bif kJ r then true else false then
(aF prog 24 1 [(0,cC b r)]).bind fun x=>bif bif cN 0 q then bif cN 0 d.1 then true else false else false then
(call 63 [w] b (List.length b)).bind fun i=>cf i.1 (fun j=>
(bp prog 24 24 false j x i.2 lo).bind fun f=>
bZ 26 c.1 3 f.2 fun s=>
bK 24 s (bF s f.2 f.1) f.2 lo fun k=>
aJ 26 c.1 k fun y=>
bK 26 a.1 (bF a.1 k y) k lo fun t=>
aJ 26 a.1 t fun z=>some (Out.ret z,t)) fun j=>some (Out.pan j,i.2) else none else none) fun h=>some (Out.pan h,g.2) else none else none):=j9
theorem Wr (g h:A):aE (cx C) call rg n 44 [g,h] H lo =
fw g H fun b=>
fw h b.2 fun a=>
fl 26 b.1 2 23 a.2 fun t3=>
dN 23 t3 a.2 fun c=>
aJ 26 b.1 a.2 fun t5=>
fl 54 a.1 0 3 a.2 fun t7=>
(C 64 [snap a.2 t5,snap a.2 t7]).bind fun i=>
ss i true (aZ .eql 3 false true c (iA 0) fun e=>
ss e false (bZ 54 a.1 0 a.2 fun j=>
aJ 3 j a.2 fun a5=>
bZ 26 b.1 2 a.2 fun k=>
aJ 23 k a.2 fun l=>
aZ .sub 3 false true c (iA 1) fun o=>
de 23 l o a.2 fun p=>
bZ 54 p 0 a.2 fun q=>
aJ 3 q a.2 fun a6=>some [a6,q,p,o,c,l,k,a5,j]) (some [ud,ud,ud,ud,ud,ud,ud,ud,ud]) fun a7=>u1 a7 fun r s t u v w f x a8=>bE a8 fun d ak=>some [r,s,t,u,v,w,f,x,d,e,e,c]) (some [ud,ud,ud,ud,ud,ud,ud,ud,ud,ud,ud,ud]) fun l9=>u1 l9 fun aa r s t u v w f ab=>fM ab fun x d al am an=>
ss d false (aZ .gtr 3 false false f aa fun ad=>some [ad]) (some [ud]) fun ae=>bE ae fun af ao=>
(di i ((di d (some (bA true)) (some af)).bind fun y=>some [y,y]) (some [bA false,ud])).bind fun ag=>gM ag fun ah ap aq=>
(di ah (bZ 54 a.1 1 a.2 fun z=>
aJ 3 z a.2 fun a0=>
(C 32 [snap a.2 a0,snap a.2 (iA 1),snap a.2 (iA 8)]).bind fun a1=>some [a1,a1,a0,z]) (some [bA false,ud,ud,ud])).bind fun ai=>fM ai fun aj ar au av aw=>some (Out.ret aj,a.2):=j9
theorem Ws (t:A):aE (cx C) call rg n 45 [t] H lo =
eD 76 H fun b=>
(C 65 [snap b.2 t]).bind fun u=>
dP u 0 fun t2=>
dP u 1 fun t3=>
eD 102 b.2 fun f=>
bK 102 f.1 (bF f.1 f.2 t2) f.2 lo fun c=>
aZ .neq 36 false true t3 (iA 0) fun t6=>
(di t6 (some [bA true,ud,ud,ud]) (bZ 102 f.1 0 c fun v=>
aJ 3 v c fun w=>
aZ .neq 3 false true w (iA 3) fun x=>some [x,x,w,v])).bind fun l7=>fM l7 fun u8 u9 aq ar au=>aY u8 (aJ 76 b.1 c fun a9=>
bK 76 b.1 (bF b.1 c a9) c lo fun y=>
aJ 76 b.1 y fun d=>some (Out.ret (A.tup [d,bA false]),y)) (fl 102 f.1 3 100 c fun e=>
dN 100 e c fun d=>aH (cx C) call rg n 45 lo 0 (List.length (eA 1 (St.H (St.mk [(2,b.1),(3,bA false),(6,A.imm [] true),(23,e),(24,d),(25,iA 0)] c)) (look (St.fr (St.mk [(2,b.1),(3,bA false),(6,A.imm [] true),(23,e),(24,d),(25,iA 0)] c)) (Prod.fst (6,0,2)))).2) (fun g a=>bif Nat.beq g 0 then
dN 105 (lk a 6) (St.H a) fun l=>
aZ .eql 3 false true l (iA 4) fun aa=>
(di aa (de 105 (lk a 6) (iA 0) (St.H a) fun z=>
aJ 3 z (St.H a) fun a0=>
aZ .eql 3 false true a0 (iA 1) fun a1=>some [a1,a1,a0,z,lk a 6]) (some [bA false,ud,ud,ud,ud])).bind fun ab=>fM ab fun ad av aw ax ae=>bE ae fun ay az=>aY ad (de 105 (lk a 6) (iA 1) (St.H a) fun o=>
aJ 3 o (St.H a) fun p=>
de 105 (lk a 6) (iA 2) (St.H a) fun h=>
aJ 3 h (St.H a) fun i=>
de 105 (lk a 6) (iA 3) (St.H a) fun j=>
aJ 3 j (St.H a) fun af=>
eE 50 [(0,p),(1,i),(2,af)] fun ag=>
eE 76 [(0,bA true),(1,ag)] fun ah=>
bK 76 (lk a 2) (bF (lk a 2) (St.H a) ah) (St.H a) lo fun a2=>
aJ 76 (lk a 2) a2 fun q=>some (Out.ret (A.tup [q,bA true]),a2)) (dN 105 (lk a 6) (St.H a) fun o=>
aZ .eql 3 false true o (iA 3) fun p=>
(di p (de 105 (lk a 6) (iA 0) (St.H a) fun h=>
aJ 3 h (St.H a) fun i=>
aZ .eql 3 false true i (iA 2) fun j=>some [j,j,i,h,lk a 6]) (some [bA false,ud,ud,ud,ud])).bind fun ai=>fM ai fun aj b0 b1 b2 ak=>bE ak fun b3 b4=>aY aj (de 105 (lk a 6) (iA 1) (St.H a) fun r=>
aJ 3 r (St.H a) fun q=>
de 105 (lk a 6) (iA 2) (St.H a) fun s=>
aJ 3 s (St.H a) fun al=>
eE 54 [(0,q),(1,al)] fun am=>
eE 76 [(2,am)] fun an=>
bK 76 (lk a 2) (bF (lk a 2) (St.H a) an) (St.H a) lo fun a3=>
aJ 76 (lk a 2) a3 fun ao=>some (Out.ret (A.tup [ao,bA true]),a3)) (aJ 76 (lk a 2) (St.H a) fun r=>
bK 76 (lk a 2) (bF (lk a 2) (St.H a) r) (St.H a) lo fun a4=>
aJ 76 (lk a 2) a4 fun s=>some (Out.ret (A.tup [s,bA false]),a4))) else none) (fun g a=>none) (fun k=>
aJ 76 (lk k 2) (St.H k) fun l=>some (Out.ret (A.tup [l,lk k 3]),St.H k)) (fun g a=>some (Out.pan g,St.H a)) n (St.mk [(2,b.1),(3,bA false),(6,(eA 1 (St.H (St.mk [(2,b.1),(3,bA false),(6,A.imm [] true),(23,e),(24,d),(25,iA 0)] c)) (look (St.fr (St.mk [(2,b.1),(3,bA false),(6,A.imm [] true),(23,e),(24,d),(25,iA 0)] c)) (Prod.fst (6,0,2)))).1),(23,e),(24,d),(25,iA 0)] (eA 1 (St.H (St.mk [(2,b.1),(3,bA false),(6,A.imm [] true),(23,e),(24,d),(25,iA 0)] c)) (look (St.fr (St.mk [(2,b.1),(3,bA false),(6,A.imm [] true),(23,e),(24,d),(25,iA 0)] c)) (Prod.fst (6,0,2)))).2)):=j9
theorem Pu (a:A):aE (cx C) call rg n 46 [a] H lo =
fw a H fun b=>some (Out.ret (A.fn (Fn.func 66) [] [b.1]),b.2):=j9
theorem Wt (d:A):aE (cx C) call rg n 47 [d] H lo =
eE 102 [(0,iA 3)] fun h=>
eD 102 H fun a=>
bK 102 a.1 (bF a.1 a.2 h) a.2 lo fun e=>
dN 105 d e fun i=>aH (cx C) call rg n 47 lo 0 (List.length (bR lo 3 5 a.1 e)) (fun c b=>bif Nat.beq c 0 then
aJ 102 (lk b 3) (St.H b) fun j=>
(C 67 [snap (St.H b) j]).bind fun f=>
dP f 0 fun k=>
dP f 1 fun l=>some (Out.ret k,St.H b) else none) (fun c b=>none) (fun g=>some (Out.ret (lk g 2),St.H g)) (fun c b=>some (Out.pan c,St.H b)) n (St.mk [(2,A.imm [] true),(3,a.1),(9,d),(10,i),(11,iA 0)] (bR lo 3 5 a.1 e)):=j9
theorem S8 (i j k:A):aE (cx C) call rg n 48 [i,j,k] H lo =
fw i H fun e=>
fw j e.2 fun f=>
fw k f.2 fun l=>
eD 4 l.2 fun a=>
aJ 60 e.1 a.2 fun r=>
aJ 3 f.1 a.2 fun s=>
fH r a.2 fun t=>
bZ 62 t 0 a.2 fun u=>
bZ 31 u 0 a.2 fun v=>
de 27 v s a.2 fun w=>
aJ 26 w a.2 fun x=>
(call 46 [x] a.2 lo).bind fun c=>cf c.1 (fun g=>
(Dd prog g).bind fun o=>bif Nat.ble lo (List.length c.2) then
(rg (sx 126 call (List.length c.2) (lR (cx C) call rg n 48 lo 0 (List.length c.2) [(3,e.1),(4,f.1),(5,l.1),(6,a.1)])) o.1 (A.yld (List.length c.2) :: o.2) (c.2++[az.rng cX.ready]) lo).bind fun p=>cf p.1 (fun y=>nm (List.length c.2) p.2 (fun b=>
bK 4 a.1 (bF a.1 b (bA false)) b lo fun d=>
aJ 4 a.1 d fun h=>some (Out.ret h,d)) (fun q b=>bif Nat.beq q 0 then
bK 4 a.1 (bF a.1 b (bA false)) b lo fun d=>
aJ 4 a.1 d fun h=>some (Out.ret h,d) else none) (fun q b=>none) fun b=>
aJ 4 a.1 b fun z=>some (Out.ret z,b)) fun y=>none else none) fun g=>some (Out.pan g,c.2):=j9
theorem S9 (a:A):aE (cx C) call rg n 49 [a] H lo =
fw a H fun b=>some (Out.ret (A.fn (Fn.func 68) [] [b.1]),b.2):=j9
theorem Q4 (a:A):aE (cx C) call rg n 50 [a] H lo =
fw a H fun b=>some (Out.ret (A.fn (Fn.func 69) [] [b.1]),b.2):=j9
theorem Pv (b d c:A):aE (cx C) call rg n 51 [b,d,c] H lo =
fw d H fun e=>
aZ .eql 36 false true c (iA 0) fun h=>
(call 31 [h,c] e.2 lo).bind fun a=>cf a.1 (fun f=>
fH b a.2 fun i=>
fl 62 i 1 3 a.2 fun j=>
aJ 26 e.1 a.2 fun k=>
fH b a.2 fun l=>
bZ 62 l 0 a.2 fun o=>
bZ 31 o 0 a.2 fun p=>
de 27 p j a.2 fun g=>
bK 26 g (bF g a.2 k) a.2 lo fun q=>some (Out.ret (A.tup []),q)) fun f=>some (Out.pan f,a.2):=j9
theorem Wu (x0 x1:A):aE (cx C) call rg n 52 [x0,x1] H lo =
fw x0 H fun e=>
fw x1 e.2 fun p=>
eD 26 p.2 fun a=>
eD 36 a.2 fun c=>
aJ 26 e.1 c.2 fun t4=>
(C 15 [snap c.2 t4]).bind fun t5=>
aZ .eql 36 false true t5 (iA 0) fun t6=>
(call 31 [t6,iA 530] c.2 lo).bind fun b=>cf b.1 (fun a8=>
fl 26 e.1 1 22 b.2 fun q=>
aJ 50 p.1 b.2 fun u=>
(C 71 [snap b.2 q,snap b.2 u]).bind fun w=>aY w (aJ 26 e.1 b.2 fun an=>
bK 26 a.1 (bF a.1 b.2 an) b.2 lo fun h=>
bK 36 c.1 (bF c.1 h (iA 0)) h lo fun i=>
aJ 26 a.1 i fun k=>
((call 40 [k,A.v Value.nilIface] i (List.length i)).bind fun ao=>oy (List.length i) ao).bind fun r=>
dP r 0 fun x=>
dP r 1 fun y=>
bK 26 a.1 (bF a.1 i x) i lo fun ad=>
bK 36 c.1 (bF c.1 ad y) ad lo fun z=>
aJ 26 a.1 z fun ap=>
aJ 36 c.1 z fun a0=>some (Out.ret (A.tup [ap,a0]),z)) (fl 26 e.1 1 22 b.2 fun aq=>
fl 26 e.1 1 22 b.2 fun k=>
dN 22 k b.2 fun r=>
aZ .sub 3 false true r (iA 1) fun x=>
de 22 aq x b.2 fun y=>
fl 50 y 1 3 b.2 fun ar=>
fl 26 e.1 0 3 b.2 fun a0=>
aZ .neq 3 false false ar a0 fun ae=>
ss ae true (aJ 26 e.1 b.2 fun au=>
aJ 50 p.1 b.2 fun av=>some [av,au]) (some [ud,ud]) fun aw=>gM aw fun ax ay bc=>
(di ae ((C 41 [snap b.2 ay,snap b.2 ax]).bind fun af=>some [af,af]) (some [bA false,ud])).bind fun az=>gM az fun b0 bd be=>
(call 31 [b0,iA 530] b.2 lo).bind fun f=>cf f.1 (fun ag=>
fl 26 e.1 1 22 f.2 fun s=>
dN 22 s f.2 fun a1=>
aZ .lss 3 false true a1 (iA 256) fun a2=>
(call 31 [a2,iA 2] f.2 lo).bind fun d=>cf d.1 (fun ah=>
aJ 26 e.1 d.2 fun l=>
aJ 50 p.1 d.2 fun j=>
eE 76 [(0,bA true),(1,j)] fun a3=>
(C 42 [snap d.2 l,snap d.2 a3]).bind fun a4=>
bK 26 a.1 (bF a.1 d.2 a4) d.2 lo fun o=>
bK 36 c.1 (bF c.1 o (iA 0)) o lo fun g=>
aJ 26 a.1 g fun a5=>
((call 40 [a5,A.v Value.nilIface] g (List.length g)).bind fun b1=>oy (List.length g) b1).bind fun t=>
dP t 0 fun b2=>
dP t 1 fun b3=>
bK 26 a.1 (bF a.1 g b2) g lo fun ai=>
bK 36 c.1 (bF c.1 ai b3) ai lo fun a6=>
aJ 26 a.1 a6 fun b4=>
aJ 36 c.1 a6 fun b5=>some (Out.ret (A.tup [b4,b5]),a6)) fun ah=>
aJ 26 a.1 d.2 fun l=>
((call 40 [l,ah] d.2 (List.length d.2)).bind fun b6=>oy (List.length d.2) b6).bind fun j=>
dP j 0 fun a3=>
dP j 1 fun a4=>
bK 26 a.1 (bF a.1 d.2 a3) d.2 lo fun o=>
bK 36 c.1 (bF c.1 o a4) o lo fun g=>
aJ 26 a.1 g fun a5=>
aJ 36 c.1 g fun t=>some (Out.ret (A.tup [a5,t]),g)) fun ag=>
aJ 26 a.1 f.2 fun b7=>
((call 40 [b7,ag] f.2 (List.length f.2)).bind fun b8=>oy (List.length f.2) b8).bind fun s=>
dP s 0 fun a1=>
dP s 1 fun a2=>
bK 26 a.1 (bF a.1 f.2 a1) f.2 lo fun d=>
bK 36 c.1 (bF c.1 d a2) d lo fun a7=>
aJ 26 a.1 a7 fun l=>
aJ 36 c.1 a7 fun j=>some (Out.ret (A.tup [l,j]),a7))) fun a8=>
aJ 26 a.1 b.2 fun t9=>
((call 40 [t9,a8] b.2 (List.length b.2)).bind fun ba=>oy (List.length b.2) ba).bind fun q=>
dP q 0 fun u=>
dP q 1 fun w=>
bK 26 a.1 (bF a.1 b.2 u) b.2 lo fun aj=>
bK 36 c.1 (bF c.1 aj w) aj lo fun h=>
aJ 26 a.1 h fun bb=>
aJ 36 c.1 h fun k=>some (Out.ret (A.tup [bb,k]),h):=j9
theorem Ta (a:A):aE (cx C) call rg n 53 [a] H lo =
dN 22 a H fun b=>
dN 22 a H fun c=>
(eI prog 22 a none (some b) (some c) H).bind fun t2=>some (Out.ret t2,H):=j9
theorem Tb (a:A):aE (cx C) call rg n 54 [a] H lo =
dN 23 a H fun b=>
dN 23 a H fun c=>
(eI prog 23 a none (some b) (some c) H).bind fun t2=>some (Out.ret t2,H):=j9
theorem Wv (f:A):aE (cx C) call rg n 55 [f] H lo =
fw f H fun a=>
fl 26 a.1 0 3 a.2 fun t2=>
(C 34 [snap a.2 t2,snap a.2 (iA 0),snap a.2 (iA 1)]).bind fun t3=>
(gB prog UnOp.not t3).bind fun t4=>
(di t4 (some [bA true,ud,ud,ud,ud,ud]) (bZ 26 a.1 1 a.2 fun g=>
aJ 22 g a.2 fun h=>
dN 22 h a.2 fun i=>
(C 34 [snap a.2 i,snap a.2 (iA 1),snap a.2 (iA 256)]).bind fun j=>
(gB prog UnOp.not j).bind fun k=>some [k,k,j,i,h,g])).bind fun l5=>fM l5 fun u6 u7 u8 u9 l9=>gM l9 fun az b0 b1=>
(di u6 (some [bA true,ud,ud,ud,ud,ud,ud,ud,ud,ud,ud,ud]) (bZ 26 a.1 3 a.2 fun l=>
aJ 24 l a.2 fun o=>
dN 24 o a.2 fun p=>
bZ 26 a.1 1 a.2 fun q=>
aJ 22 q a.2 fun r=>
dN 22 r a.2 fun s=>
bZ 26 a.1 2 a.2 fun t=>
aJ 23 t a.2 fun u=>
dN 23 u a.2 fun v=>
aZ .add 3 false false s v fun w=>
aZ .neq 3 false false p w fun x=>some [x,x,w,v,u,t,s,r,q,p,o,l])).bind fun ah=>u1 ah fun y b2 b3 b4 b5 b6 b7 b8 ai=>fM ai fun b9 ba bb bc bd=>
ss y false (bZ 26 a.1 3 a.2 fun z=>
aJ 24 z a.2 fun a0=>
(C 72 [snap a.2 a0]).bind fun aj=>
bZ 26 a.1 1 a.2 fun a1=>
aJ 22 a1 a.2 fun a2=>
dN 22 a2 a.2 fun ak=>some [ak,a2,a1,aj,a0,z]) (some [ud,ud,ud,ud,ud,ud]) fun al=>fM al fun am be bf an ao=>gM ao fun bg bh bi=>
(di y (some [bA true,ud]) (aZ .neq 3 false false an am fun a3=>some [a3,a3])).bind fun ap=>gM ap fun aq bj bk=>
(di aq (some [bA true,ud,ud,ud,ud,ud]) (bZ 26 a.1 3 a.2 fun a4=>
aJ 24 a4 a.2 fun a5=>
de 24 a5 (iA 0) a.2 fun a6=>
aJ 4 a6 a.2 fun a7=>
(gB prog UnOp.not a7).bind fun a8=>some [a8,a8,a7,a6,a5,a4])).bind fun ar=>fM ar fun au bl bm bn av=>gM av fun bo bp bq=>aY au (some (Out.ret (bA false),a.2)) (aH (cx C) call rg n 55 lo 0 (List.length a.2) (fun c b=>bif Nat.beq c 0 then aH (cx C) call rg n 55 lo 1 (List.length (St.H b)) (fun d e=>bif Nat.beq d 2 then some (Out.ret (bA true),St.H e) else none) (fun d e=>none) (fun a9=>some (Out.ret (lk a9 2),St.H a9)) (fun d e=>some (Out.pan d,St.H e)) n (St.mk [(1,lk b 1),(2,lk b 2),(5,iA 0)] (St.H b)) else none) (fun c b=>none) (fun aa=>some (Out.ret (lk aa 2),St.H aa)) (fun c b=>some (Out.pan c,St.H b)) n (St.mk [(1,a.1),(2,bA false),(3,iA 0),(4,iA 0)] a.2)):=j9
theorem Ww (c d e:A):aE (cx C) call rg n 56 [c,d,e] H lo=aH (cx C) call rg n 56 lo 0 (List.length H) (fun a b=>bif Nat.beq a 0 then some (Out.ret (A.v (.int .i64 (-1))),St.H b) else none) (fun a b=>none) (fun f=>some (Out.ret (lk f 6),St.H f)) (fun a b=>some (Out.pan a,St.H b)) n (St.mk [(0,c),(1,d),(2,e),(6,iA 0),(7,iA 0),(8,iA 0)] H):=j9
theorem Wx (j k l:A):aE (cx C) call rg n 57 [j,k,l] H lo =
fw j H fun c=>
eD 26 c.2 fun b=>
aJ 26 c.1 b.2 fun t2=>
(C 75 [snap b.2 t2]).bind fun o=>
aZ .neq 36 false true o (iA 0) fun t4=>aY t4 (eE 26 [] fun t5=>
bK 26 b.1 (bF b.1 b.2 t5) b.2 lo fun p=>
aJ 26 b.1 p fun t7=>some (Out.ret (A.tup [t7,o]),p)) (fl 26 c.1 1 22 b.2 fun t6=>
fl 26 c.1 1 22 b.2 fun t8=>
dN 22 t8 b.2 fun t9=>
aZ .sub 3 false true t9 (iA 1) fun a7=>
de 22 t6 a7 b.2 fun a8=>
aJ 50 a8 b.2 fun a9=>
eD 50 b.2 fun d=>
bK 50 d.1 (bF d.1 d.2 a9) d.2 lo fun f=>
fl 26 c.1 1 22 f fun aa=>
dN 22 aa f fun ab=>
eE 50 [(0,ab),(1,k),(2,l)] fun ad=>
eD 50 f fun e=>
bK 50 e.1 (bF e.1 e.2 ad) e.2 lo fun a=>
fl 50 d.1 1 3 a fun ae=>
fl 26 c.1 0 3 a fun af=>
aZ .neq 3 false false ae af fun ag=>
(di ag (some [bA true,ud,ud,ud,ud,ud,ud,ud,ud]) (aJ 50 e.1 a fun q=>
bZ 26 c.1 1 a fun r=>
aJ 22 r a fun s=>
dN 22 s a fun t=>
bZ 50 d.1 2 a fun u=>
aJ 3 u a fun v=>
(C 73 [snap a q,snap a t,snap a v]).bind fun w=>
(gB prog UnOp.not w).bind fun x=>some [x,x,w,v,u,t,s,r,q])).bind fun ah=>u1 ah fun ai ap aq ar au av aw ax aj=>bE aj fun ay az=>aY ai (eE 26 [] fun ak=>
bK 26 b.1 (bF b.1 a ak) a lo fun y=>
aJ 26 b.1 y fun g=>some (Out.ret (A.tup [g,iA 530]),y)) (fl 26 c.1 1 22 a fun al=>
dN 22 al a fun g=>
aZ .eql 3 false true g (iA 256) fun am=>aY am (eE 26 [] fun h=>
bK 26 b.1 (bF b.1 a h) a lo fun z=>
aJ 26 b.1 z fun i=>some (Out.ret (A.tup [i,iA 2]),z)) (aJ 26 c.1 a fun h=>
aJ 50 e.1 a fun an=>
(C 76 [snap a h,snap a an]).bind fun i=>
bK 26 b.1 (bF b.1 a i) a lo fun a0=>
aJ 26 b.1 a0 fun ao=>some (Out.ret (A.tup [ao,iA 0]),a0)))):=j9
theorem Wy (j k:A):aE (cx C) call rg n 58 [j,k] H lo =
fw j H fun c=>
fw k c.2 fun e=>
eD 26 e.2 fun a=>
aJ 26 c.1 a.2 fun t3=>
(C 75 [snap a.2 t3]).bind fun l=>
aZ .neq 36 false true l (iA 0) fun t5=>aY t5 (eE 26 [] fun t6=>
bK 26 a.1 (bF a.1 a.2 t6) a.2 lo fun o=>
aJ 26 a.1 o fun f=>some (Out.ret (A.tup [f,l]),o)) (fl 26 c.1 1 22 a.2 fun t7=>
aJ 50 e.1 a.2 fun f=>
(C 77 [snap a.2 t7,snap a.2 f]).bind fun t9=>aY t9 (aJ 26 c.1 a.2 fun a6=>
bK 26 a.1 (bF a.1 a.2 a6) a.2 lo fun p=>
aJ 26 a.1 p fun a7=>some (Out.ret (A.tup [a7,iA 0]),p)) (fl 26 c.1 1 22 a.2 fun a8=>
fl 26 c.1 1 22 a.2 fun a9=>
dN 22 a9 a.2 fun aa=>
aZ .sub 3 false true aa (iA 1) fun ab=>
de 22 a8 ab a.2 fun ad=>
aJ 50 ad a.2 fun ae=>
eD 50 a.2 fun d=>
bK 50 d.1 (bF d.1 d.2 ae) d.2 lo fun b=>
fl 50 d.1 1 3 b fun af=>
fl 26 c.1 0 3 b fun ag=>
aZ .eql 3 false false af ag fun ah=>
(di ah (some [bA true,ud,ud,ud,ud,ud,ud,ud,ud]) (aJ 50 e.1 b fun q=>
bZ 26 c.1 1 b fun r=>
aJ 22 r b fun s=>
dN 22 s b fun t=>
bZ 50 d.1 2 b fun u=>
aJ 3 u b fun v=>
(C 73 [snap b q,snap b t,snap b v]).bind fun w=>
(gB prog UnOp.not w).bind fun x=>some [x,x,w,v,u,t,s,r,q])).bind fun ai=>u1 ai fun aj aq ar au av aw ax ay ak=>bE ak fun az b0=>aY aj (eE 26 [] fun al=>
bK 26 a.1 (bF a.1 b al) b lo fun y=>
aJ 26 a.1 y fun g=>some (Out.ret (A.tup [g,iA 530]),y)) (fl 26 c.1 1 22 b fun am=>
dN 22 am b fun g=>
aZ .eql 3 false true g (iA 256) fun an=>aY an (eE 26 [] fun h=>
bK 26 a.1 (bF a.1 b h) b lo fun z=>
aJ 26 a.1 z fun i=>some (Out.ret (A.tup [i,iA 2]),z)) (aJ 26 c.1 b fun h=>
aJ 50 e.1 b fun ao=>
(C 76 [snap b h,snap b ao]).bind fun i=>
bK 26 a.1 (bF a.1 b i) b lo fun a0=>
aJ 26 a.1 a0 fun ap=>some (Out.ret (A.tup [ap,iA 0]),a0))))):=j9
theorem Wz (t c d:A):aE (cx C) call rg n 59 [t,c,d] H lo =
fw t H fun b=>
eD 26 b.2 fun a=>
aJ 26 b.1 a.2 fun t2=>
(C 75 [snap a.2 t2]).bind fun u=>
aZ .neq 36 false true u (iA 0) fun t4=>aY t4 (eE 26 [] fun t5=>
bK 26 a.1 (bF a.1 a.2 t5) a.2 lo fun v=>
aJ 26 a.1 v fun e=>some (Out.ret (A.tup [e,u]),v)) (fl 26 b.1 1 22 a.2 fun t6=>
(C 74 [snap a.2 t6,snap a.2 c]).bind fun e=>
aZ .lss 3 false true e (iA 0) fun t8=>
(di t8 (some [bA true,ud,ud,ud]) ((C 34 [snap a.2 d,snap a.2 (iA 1),snap a.2 (iA 8)]).bind fun w=>
(gB prog UnOp.not w).bind fun x=>some [x,x,w,d])).bind fun l9=>fM l9 fun ay bk bl bm bn=>aY ay (eE 26 [] fun az=>
bK 26 a.1 (bF a.1 a.2 az) a.2 lo fun y=>
aJ 26 a.1 y fun i=>some (Out.ret (A.tup [i,iA 530]),y)) (fl 26 b.1 1 22 a.2 fun b0=>
de 22 b0 e a.2 fun i=>
fl 50 i 1 3 a.2 fun b1=>
fl 26 b.1 0 3 a.2 fun b2=>
aZ .neq 3 false false b1 b2 fun z=>
ss z false (bZ 26 b.1 2 a.2 fun a0=>
aJ 23 a0 a.2 fun a1=>
dN 23 a1 a.2 fun a2=>
aZ .gtr 3 false true a2 (iA 0) fun j=>
ss j true (bZ 26 b.1 2 a.2 fun a3=>
aJ 23 a3 a.2 fun a4=>
bZ 26 b.1 2 a.2 fun a5=>
aJ 23 a5 a.2 fun a6=>
dN 23 a6 a.2 fun a7=>
aZ .sub 3 false true a7 (iA 1) fun a8=>
de 23 a4 a8 a.2 fun a9=>
bZ 54 a9 0 a.2 fun aa=>
aJ 3 aa a.2 fun b3=>some [b3,aa,a9,a8,a7,a6,a5,a4,a3,c]) (some [ud,ud,ud,ud,ud,ud,ud,ud,ud,ud]) fun b4=>u1 b4 fun ab ad ae af ag k f ah l=>gM l fun ai aj ak=>some [ab,ad,ae,af,ag,k,f,ah,ai,aj,j,j,a2,a1,a0]) (some [ud,ud,ud,ud,ud,ud,ud,ud,ud,ud,ud,ud,ud,ud,ud]) fun b5=>u1 b5 fun b6 bo bq br ab ad ae af b7=>fM b7 fun ag k f ah l=>gM l fun ai aj ak=>bE ak fun bs bt=>
ss f true (aZ .leq 3 false false k b6 fun b8=>some [b8]) (some [ud]) fun b9=>bE b9 fun ba bu=>
(di z (some [bA true,ud]) ((di f (some ba) (some (bA false))).bind fun al=>some [al,al])).bind fun bb=>gM bb fun bc bv bw=>aY bc (eE 26 [] fun o=>
bK 26 a.1 (bF a.1 a.2 o) a.2 lo fun am=>
aJ 26 a.1 am fun p=>some (Out.ret (A.tup [p,iA 530]),am)) ((aF prog 23 0 []).bind fun o=>
fl 26 b.1 2 23 a.2 fun p=>
(bp prog 23 23 false o p a.2 lo).bind fun q=>
eE 54 [(0,c),(1,d)] fun bd=>
(aF prog 23 1 [(0,cC q.2 bd)]).bind fun be=>
(bp prog 23 23 false q.1 be q.2 lo).bind fun g=>
bZ 26 b.1 2 g.2 fun an=>
bK 23 an (bF an g.2 g.1) g.2 lo fun ao=>
(aF prog 24 0 []).bind fun bf=>
fl 26 b.1 3 24 ao fun bg=>
(bp prog 24 24 false bf bg ao lo).bind fun r=>
(aF prog 24 1 [(0,cC r.2 (bA false))]).bind fun bh=>
(bp prog 24 24 false r.1 bh r.2 lo).bind fun h=>
bZ 26 b.1 3 h.2 fun ap=>
bK 24 ap (bF ap h.2 h.1) h.2 lo fun s=>
aJ 26 b.1 s fun bi=>
bK 26 a.1 (bF a.1 s bi) s lo fun aq=>
aJ 26 a.1 aq fun bj=>some (Out.ret (A.tup [bj,iA 0]),aq)))):=j9
theorem WA (i j:A):aE (cx C) call rg n 60 [i,j] H lo =
eD 26 H fun k=>
eE 26 [(0,i)] fun o=>
eD 26 k.2 fun b=>
bK 26 b.1 (bF b.1 b.2 o) b.2 lo fun l=>aH (cx C) call rg n 60 lo 0 (List.length (bR lo 3 2 b.1 (bR lo 2 3 b.1 (bR lo 1 4 b.1 l)))) (fun d a=>bif Nat.beq d 0 then
aJ 26 (lk a 6) (St.H a) fun f=>
(C 55 [snap (St.H a) f]).bind fun p=>
(gB prog UnOp.not p).bind fun q=>aY q (eE 26 [] fun g=>
bK 26 (lk a 4) (bF (lk a 4) (St.H a) g) (St.H a) lo fun c=>
aJ 26 (lk a 4) c fun h=>some (Out.ret (A.tup [h,iA 530]),c)) (aJ 26 (lk a 6) (St.H a) fun g=>
bK 26 (lk a 4) (bF (lk a 4) (St.H a) g) (St.H a) lo fun c=>
aJ 26 (lk a 4) c fun h=>some (Out.ret (A.tup [h,iA 0]),c)) else none) (fun d a=>none) (fun e=>
aJ 26 (lk e 4) (St.H e) fun f=>some (Out.ret (A.tup [f,lk e 5]),St.H e)) (fun d a=>some (Out.pan d,St.H a)) n (St.mk [(1,j),(4,k.1),(5,iA 0),(6,b.1),(7,iA 0)] (bR lo 3 2 b.1 (bR lo 2 3 b.1 (bR lo 1 4 b.1 l)))):=j9
theorem WB (d:A):aE (cx C) call rg n 61 [d] H lo =
fw d H fun a=>aH (cx C) call rg n 61 lo 0 (List.length (eA 1 (St.H (St.mk [(1,a.1),(2,A.imm [] true),(3,A.imm [] true),(4,iA 0),(5,iA 0),(6,iA 0)] a.2)) (look (St.fr (St.mk [(1,a.1),(2,A.imm [] true),(3,A.imm [] true),(4,iA 0),(5,iA 0),(6,iA 0)] a.2)) (Prod.fst (3,0,2)))).2) (fun c b=>bif Nat.beq c 0 then some (Out.ret (lk b 3),St.H b) else none) (fun c b=>none) (fun e=>some (Out.ret (lk e 2),St.H e)) (fun c b=>some (Out.pan c,St.H b)) n (St.mk [(1,a.1),(2,A.imm [] true),(3,(eA 1 (St.H (St.mk [(1,a.1),(2,A.imm [] true),(3,A.imm [] true),(4,iA 0),(5,iA 0),(6,iA 0)] a.2)) (look (St.fr (St.mk [(1,a.1),(2,A.imm [] true),(3,A.imm [] true),(4,iA 0),(5,iA 0),(6,iA 0)] a.2)) (Prod.fst (3,0,2)))).1),(4,iA 0),(5,iA 0),(6,iA 0)] (eA 1 (St.H (St.mk [(1,a.1),(2,A.imm [] true),(3,A.imm [] true),(4,iA 0),(5,iA 0),(6,iA 0)] a.2)) (look (St.fr (St.mk [(1,a.1),(2,A.imm [] true),(3,A.imm [] true),(4,iA 0),(5,iA 0),(6,iA 0)] a.2)) (Prod.fst (3,0,2)))).2):=j9
theorem WC (b:A):aE (cx C) call rg n 62 [b] H lo =
fw b H fun a=>
fl 26 a.1 1 22 a.2 fun t2=>
dN 22 t2 a.2 fun c=>
aZ .gtr 3 false true c (iA 0) fun d=>aY d (fl 26 a.1 1 22 a.2 fun e=>
aZ .sub 3 false true c (iA 1) fun f=>
de 22 e f a.2 fun g=>
fl 50 g 2 3 a.2 fun h=>some (Out.ret h,a.2)) (some (Out.ret (iA 0),a.2)):=j9
theorem Tc (a:A):aE (cx C) call rg n 63 [a] H lo =
dN 24 a H fun b=>
dN 24 a H fun c=>
(eI prog 24 a none (some b) (some c) H).bind fun t2=>some (Out.ret t2,H):=j9
theorem WD (e f:A):aE (cx C) call rg n 64 [e,f] H lo =
fw e H fun c=>
fw f c.2 fun d=>
fl 26 c.1 1 22 d.2 fun q=>
(call 81 [q,A.fn (Fn.func 82) [] [d.1]] d.2 lo).bind fun a=>cf a.1 (fun b=>
aJ 3 d.1 a.2 fun r=>
aZ .geq 3 false true r (iA 0) fun s=>
(di s (aZ .geq 3 false true b (iA 0) fun g=>some [g,g,b]) (some [bA false,ud,ud])).bind fun t=>gM t fun h a2 u=>bE u fun a3 a4=>
ss h true (bZ 26 c.1 1 a.2 fun i=>
aJ 22 i a.2 fun j=>
de 22 j b a.2 fun k=>
bZ 50 k 1 a.2 fun l=>
aJ 3 l a.2 fun v=>
bZ 26 c.1 0 a.2 fun o=>
aJ 3 o a.2 fun w=>some [w,o,v,l,k,b,j,i]) (some [ud,ud,ud,ud,ud,ud,ud,ud]) fun x=>u1 x fun y a6 z a7 a8 a9 aa ab ad=>
(di h (aZ .eql 3 false false z y fun p=>some [p,p]) (some [bA false,ud])).bind fun a0=>gM a0 fun a1 ae af=>some (Out.ret a1,a.2)) fun b=>some (Out.pan b,a.2):=j9
theorem WE (x:A):aE (cx C) call rg n 65 [x] H lo =
eD 102 H fun a=>
eD 36 a.2 fun b=>
eE 120 [(0,x)] fun t2=>
fw t2 b.2 fun h=>
(call 84 [h.1,iA 0] h.2 lo).bind fun d=>cf d.1 (fun i=>
bK 102 a.1 (bF a.1 d.2 i) d.2 lo fun j=>
fH h.1 j fun e=>
fl 120 e 0 78 j fun t9=>
dN 78 t9 j fun a3=>
aZ .eql 3 false true a3 (iA 0) fun k=>
(call 85 [h.1,k] j lo).bind fun c=>cf c.1 (fun l=>
aJ 102 a.1 c.2 fun o=>
bK 102 a.1 (bF a.1 c.2 o) c.2 lo fun y=>
bK 36 b.1 (bF b.1 y (iA 0)) y lo fun f=>
aZ .neq 20 false true (A.v Value.nilIface) (A.v Value.nilIface) fun a4=>aY a4 (eE 102 [] fun p=>
(mM prog (A.v Value.nilIface) 36 false).bind fun g=>
bK 102 a.1 (bF a.1 f p) f lo fun z=>
bK 36 b.1 (bF b.1 z g) z lo fun q=>
aJ 102 a.1 q fun a6=>
aJ 36 b.1 q fun a7=>some (Out.ret (A.tup [a6,a7]),q)) (aJ 102 a.1 f fun p=>
aJ 36 b.1 f fun g=>some (Out.ret (A.tup [p,g]),f))) fun l=>
aZ .neq 20 false true l (A.v Value.nilIface) fun o=>aY o (eE 102 [] fun r=>
(mM prog l 36 false).bind fun s=>
bK 102 a.1 (bF a.1 c.2 r) c.2 lo fun a0=>
bK 36 b.1 (bF b.1 a0 s) a0 lo fun t=>
aJ 102 a.1 t fun g=>
aJ 36 b.1 t fun a8=>some (Out.ret (A.tup [g,a8]),t)) (aJ 102 a.1 c.2 fun r=>
aJ 36 b.1 c.2 fun s=>some (Out.ret (A.tup [r,s]),c.2))) fun i=>
aZ .neq 20 false true i (A.v Value.nilIface) fun t6=>aY t6 (eE 102 [] fun e=>
(mM prog i 36 false).bind fun u=>
bK 102 a.1 (bF a.1 d.2 e) d.2 lo fun H9=>
bK 36 b.1 (bF b.1 H9 u) H9 lo fun w=>
aJ 102 a.1 w fun k=>
aJ 36 b.1 w fun aa=>some (Out.ret (A.tup [k,aa]),w)) (aJ 102 a.1 d.2 fun e=>
aJ 36 b.1 d.2 fun u=>some (Out.ret (A.tup [e,u]),d.2)):=j9
theorem Pw (d a:A):aE (cx C) call rg n 66 [d,a] H lo =
fl 26 a 1 22 H fun f=>
fl 26 a 2 23 H fun g=>
fl 26 a 3 24 H fun e=>
dN 24 e H fun h=>aH (cx C) call rg n 66 lo 0 (List.length H) (fun b c=>bif Nat.beq b 0 then some (Out.ret (A.tup []),St.H c) else none) (fun b c=>none) (fun i=>some (Out.ret (A.tup []),St.H i)) (fun b c=>some (Out.pan b,St.H c)) n (St.mk [(0,d),(3,f),(4,g),(13,e),(14,h),(15,iA 0)] H):=j9
theorem WG (f:A):aE (cx C) call rg n 67 [f] H lo =
fw f H fun a=>
aJ 102 a.1 a.2 fun h=>
(C 86 [snap a.2 h]).bind fun t2=>
aZ .neq 36 false true t2 (iA 0) fun i=>aY i (some (Out.ret (A.tup [A.imm [] true,t2]),a.2)) (bZ 102 a.1 0 a.2 fun g=>
aJ 3 g a.2 fun j=>
aJ 102 a.1 a.2 fun k=>bif bif cN 0 a.1 then bif cN 0 g then bif cN 0 a.1 then true else false else false else false then
(call 87 [] a.2 (List.length a.2)).bind fun b=>cf b.1 (fun c=>
fH c b.2 fun l=>
de 139 l j b.2 fun o=>
fl 126 o 0 124 b.2 fun p=>dJ (cx C) call p [A.imm [] true,k] b.2 lo (fun d e=>some (Out.ret (A.tup [d,iA 0]),e)) fun d e=>some (Out.pan d,e)) fun c=>some (Out.pan c,b.2) else none):=j9
theorem Td (b c:A):aE (cx C) call rg n 68 [b,c] H lo =
fw b H fun a=>
fl 76 a.1 0 4 a.2 fun t2=>
(gB prog UnOp.not t2).bind fun h=>
(di h (bZ 76 a.1 2 a.2 fun d=>
aJ 54 d a.2 fun e=>
aJ 54 c a.2 fun f=>
aZ .eql 54 false false e f fun g=>some [g,g,f,e,d]) (some [bA false,ud,ud,ud,ud])).bind fun i=>fM i fun j l o p k=>bE k fun q r=>some (Out.ret j,a.2):=j9
theorem Te (b c:A):aE (cx C) call rg n 69 [b,c] H lo =
fw b H fun a=>
fl 76 a.1 0 4 a.2 fun t2=>
(di t2 (bZ 76 a.1 1 a.2 fun d=>
aJ 50 d a.2 fun e=>
aJ 50 c a.2 fun f=>
aZ .eql 50 false false e f fun g=>some [g,g,f,e,d]) (some [bA false,ud,ud,ud,ud])).bind fun h=>fM h fun u4 j k l i=>bE i fun o p=>some (Out.ret u4,a.2):=j9
theorem WH (b c:A):aE (cx C) call rg n 71 [b,c] H lo =
fw c H fun a=>
aJ 50 a.1 a.2 fun d=>
(C 88 [snap a.2 b,snap a.2 d]).bind fun t2=>
aZ .geq 3 false true t2 (iA 0) fun e=>some (Out.ret e,a.2):=j9
theorem WI (c:A):aE (cx C) call rg n 72 [c] H lo=aH (cx C) call rg n 72 lo 0 (List.length H) (fun b a=>bif Nat.beq b 0 then some (Out.ret (lk a 3),St.H a) else none) (fun b a=>none) (fun d=>some (Out.ret (lk d 2),St.H d)) (fun b a=>some (Out.pan b,St.H a)) n (St.mk [(0,c),(2,iA 0),(3,iA 0),(4,iA 0)] H):=j9
theorem WJ (c d b:A):aE (cx C) call rg n 73 [c,d,b] H lo =
fw c H fun a=>
fl 50 a.1 0 3 a.2 fun t2=>
aZ .eql 3 false false t2 d fun p=>
(di p (bZ 50 a.1 1 a.2 fun e=>
aJ 3 e a.2 fun f=>
(C 34 [snap a.2 f,snap a.2 (iA 0),snap a.2 (iA 1)]).bind fun g=>some [g,g,f,e]) (some [bA false,ud,ud,ud])).bind fun q=>fM q fun r x y z l8=>
(di r (bZ 50 a.1 2 a.2 fun h=>
aJ 3 h a.2 fun i=>
aZ .gtr 3 false false i b fun j=>some [j,j,b,i,h]) (some [bA false,ud,ud,ud,ud])).bind fun s=>fM s fun t a1 a2 a3 u=>bE u fun a4 a5=>
(di t (bZ 50 a.1 2 a.2 fun k=>
aJ 3 k a.2 fun l=>
aZ .leq 3 false true l (iA 4096) fun o=>some [o,o,l,k]) (some [bA false,ud,ud,ud])).bind fun v=>fM v fun w a6 a7 a8 a9=>some (Out.ret w,a.2):=j9
theorem WK (c d:A):aE (cx C) call rg n 74 [c,d] H lo=aH (cx C) call rg n 74 lo 0 (List.length H) (fun a b=>bif Nat.beq a 0 then some (Out.ret (A.v (.int .i64 (-1))),St.H b) else none) (fun a b=>none) (fun e=>some (Out.ret (lk e 4),St.H e)) (fun a b=>some (Out.pan a,St.H b)) n (St.mk [(0,c),(1,d),(4,iA 0),(5,iA 0)] H):=j9
theorem WL (b:A):aE (cx C) call rg n 75 [b] H lo =
fw b H fun a=>
aJ 26 a.1 a.2 fun c=>
(C 55 [snap a.2 c]).bind fun t2=>
(gB prog UnOp.not t2).bind fun d=>aY d (some (Out.ret (iA 530),a.2)) (some (Out.ret (iA 0),a.2)):=j9
theorem WM (i j:A):aE (cx C) call rg n 76 [i,j] H lo =
fw i H fun a=>
fw j a.2 fun f=>
eD 26 f.2 fun b=>
(aF prog 22 0 []).bind fun k=>
fl 26 a.1 1 22 b.2 fun s=>
(bp prog 22 22 false k s b.2 lo).bind fun c=>bif bif apart f.1 k then true else false then
aJ 50 f.1 c.2 fun l=>bif bif kJ l then true else false then
(aF prog 22 1 [(0,cC c.2 l)]).bind fun t=>
(bp prog 22 22 false c.1 t c.2 lo).bind fun d=>
bZ 26 a.1 1 d.2 fun o=>
bK 22 o (bF o d.2 d.1) d.2 lo fun p=>
(aF prog 24 0 []).bind fun u=>
fl 26 a.1 3 24 p fun v=>
(bp prog 24 24 false u v p lo).bind fun g=>
(aF prog 24 1 [(0,cC g.2 (bA true))]).bind fun w=>
(bp prog 24 24 false g.1 w g.2 lo).bind fun e=>
bZ 26 a.1 3 e.2 fun q=>
bK 24 q (bF q e.2 e.1) e.2 lo fun h=>
aJ 26 a.1 h fun x=>
bK 26 b.1 (bF b.1 h x) h lo fun r=>
aJ 26 b.1 r fun y=>some (Out.ret y,r) else none else none:=j9
theorem WN (d e:A):aE (cx C) call rg n 77 [d,e] H lo =
fw e H fun c=>aH (cx C) call rg n 77 lo 0 (List.length c.2) (fun a b=>bif Nat.beq a 0 then some (Out.ret (bA false),St.H b) else none) (fun a b=>none) (fun f=>some (Out.ret (lk f 4),St.H f)) (fun a b=>some (Out.pan a,St.H b)) n (St.mk [(0,d),(3,c.1),(4,bA false),(5,iA 0)] c.2):=j9
theorem WO (e:A):aE (cx C) call rg n 78 [e] H lo =
(C 89 [snap H e]).bind fun f=>
dP f 0 fun k=>
dP f 1 fun t2=>
eD 102 H fun a=>
bK 102 a.1 (bF a.1 a.2 k) a.2 lo fun b=>
aZ .neq 36 false true t2 (iA 0) fun l=>
(di l (some [bA true,ud,ud,ud]) (bZ 102 a.1 0 b fun g=>
aJ 3 g b fun h=>
aZ .neq 3 false true h (iA 3) fun i=>some [i,i,h,g])).bind fun o=>fM o fun p q r s t=>aY p (some (Out.ret (A.imm [] true),b)) (aH (cx C) call rg n 78 lo 0 (List.length (eA 1 (St.H (St.mk [(2,A.imm [] true),(3,a.1),(5,A.imm [] true),(6,iA 0)] b)) (look (St.fr (St.mk [(2,A.imm [] true),(3,a.1),(5,A.imm [] true),(6,iA 0)] b)) (Prod.fst (5,0,2)))).2) (fun d c=>bif Nat.beq d 0 then some (Out.ret (lk c 5),St.H c) else none) (fun d c=>none) (fun j=>some (Out.ret (lk j 2),St.H j)) (fun d c=>some (Out.pan d,St.H c)) n (St.mk [(2,A.imm [] true),(3,a.1),(5,(eA 1 (St.H (St.mk [(2,A.imm [] true),(3,a.1),(5,A.imm [] true),(6,iA 0)] b)) (look (St.fr (St.mk [(2,A.imm [] true),(3,a.1),(5,A.imm [] true),(6,iA 0)] b)) (Prod.fst (5,0,2)))).1),(6,iA 0)] (eA 1 (St.H (St.mk [(2,A.imm [] true),(3,a.1),(5,A.imm [] true),(6,iA 0)] b)) (look (St.fr (St.mk [(2,A.imm [] true),(3,a.1),(5,A.imm [] true),(6,iA 0)] b)) (Prod.fst (5,0,2)))).2)):=j9
theorem WQ (f:A):aE (cx C) call rg n 79 [f] H lo =
eD 102 H fun g=>
eE 102 [(0,iA 3)] fun j=>
eD 102 g.2 fun b=>
bK 102 b.1 (bF b.1 b.2 j) b.2 lo fun h=>aH (cx C) call rg n 79 lo 0 (List.length (bR lo 3 5 b.1 h)) (fun c a=>bif Nat.beq c 0 then
aJ 102 (lk a 3) (St.H a) fun d=>
bK 102 (lk a 2) (bF (lk a 2) (St.H a) d) (St.H a) lo fun i=>
aJ 102 (lk a 2) i fun k=>some (Out.ret k,i) else none) (fun c a=>none) (fun e=>
aJ 102 (lk e 2) (St.H e) fun d=>some (Out.ret d,St.H e)) (fun c a=>some (Out.pan c,St.H a)) n (St.mk [(0,f),(2,g.1),(3,b.1),(4,iA 0)] (bR lo 3 5 b.1 h)):=j9
theorem WR (b:A):aE (cx C) call rg n 80 [b] H lo =
fw b H fun a=>
aJ 102 a.1 a.2 fun c=>
(C 91 [snap a.2 c]).bind fun t2=>
aZ .neq 36 false true t2 (iA 0) fun d=>aY d (some (Out.ret (A.tup [A.imm [] true,t2]),a.2)) (aJ 102 a.1 a.2 fun e=>
(C 92 [snap a.2 e]).bind fun f=>some (Out.ret (A.tup [f,iA 0]),a.2)):=j9
theorem WS (c d:A):aE (cx C) call rg n 81 [c,d] H lo =
dN 22 c H fun f=>aH (cx C) call rg n 81 lo 0 (List.length H) (fun a b=>bif Nat.beq a 0 then some (Out.ret (A.v (.int .i64 (-1))),St.H b) else none) (fun a b=>none) (fun e=>some (Out.ret (lk e 4),St.H e)) (fun a b=>some (Out.pan a,St.H b)) n (St.mk [(0,c),(1,d),(4,iA 0),(7,f),(8,iA 0)] H):=j9
theorem WT (b c:A):aE (cx C) call rg n 82 [b,c] H lo =
fw b H fun a=>
aJ 3 c a.2 fun d=>
fl 50 a.1 2 3 a.2 fun e=>
aZ .lss 3 false false d e fun f=>some (Out.ret f,a.2):=j9
theorem WU (d r:A):aE (cx C) call rg n 84 [d,r] H lo =
eD 102 H fun a=>
(call 93 [d,iA 1] a.2 lo).bind fun H1=>cf H1.1 (fun a2=>
de 78 a2 (iA 0) H1.2 fun t3=>
aJ 5 t3 H1.2 fun t4=>
(bz prog 5 3 t4 H1.2).bind fun t5=>
bZ 102 a.1 0 H1.2 fun t6=>
bK 3 t6 (bF t6 H1.2 t5) H1.2 lo fun j=>
fl 102 a.1 0 3 j fun s=>
aZ .eql 3 false true s (iA 1) fun a9=>aY a9 ((call 95 [d] j lo).bind fun h=>cf h.1 (fun t=>
(C 94 [snap h.2 t]).bind fun u=>
bZ 102 a.1 1 h.2 fun a3=>
bK 3 a3 (bF a3 h.2 u) h.2 lo fun v=>
aJ 102 a.1 v fun w=>
bK 102 a.1 (bF a.1 v w) v lo fun a4=>
aJ 102 a.1 (bR lo 3 0 a.1 a4) fun aa=>some (Out.ret aa,bR lo 3 0 a.1 a4)) fun t=>some (Out.pan t,h.2)) (aZ .eql 3 false true s (iA 2) fun ab=>aY ab ((call 96 [d] j lo).bind fun x=>cf x.1 (fun y=>
(call 93 [d,y] x.2 lo).bind fun c=>cf c.1 (fun i=>
(bz prog 78 9 i c.2).bind fun w=>
bZ 102 a.1 2 c.2 fun q=>
bK 9 q (bF q c.2 w) c.2 lo fun z=>
aJ 102 a.1 z fun f=>
bK 102 a.1 (bF a.1 z f) z lo fun e=>
aJ 102 a.1 (bR lo 3 0 a.1 e) fun k=>some (Out.ret k,bR lo 3 0 a.1 e)) fun i=>some (Out.pan i,c.2)) fun y=>some (Out.pan y,x.2)) (aZ .eql 3 false true s (iA 3) fun ad=>aY ad (aZ .lss 3 false true r (iA 16) fun u=>
(call 85 [d,u] j lo).bind fun c=>cf c.1 (fun i=>
(call 96 [d] c.2 lo).bind fun g=>cf g.1 (fun a0=>aH (cx C) call rg n 84 lo 0 (List.length (bR lo 3 5 a.1 g.2)) (fun l b=>bif Nat.beq l 1 then
aJ 102 (lk b 4) (St.H b) fun f=>
bK 102 (lk b 4) (bF (lk b 4) (St.H b) f) (St.H b) lo fun e=>
aJ 102 (lk b 4) (bR lo 3 0 (lk b 4) e) fun k=>some (Out.ret k,bR lo 3 0 (lk b 4) e) else bif Nat.beq l 0 then
aJ 102 (lk b 4) (St.H b) fun f=>
bK 102 (lk b 4) (bF (lk b 4) (St.H b) f) (St.H b) lo fun e=>
aJ 102 (lk b 4) (bR lo 3 0 (lk b 4) e) fun k=>some (Out.ret k,bR lo 3 0 (lk b 4) e) else none) (fun l b=>none) (fun o=>
aJ 102 (lk o 4) (bR lo 3 0 (lk o 4) (St.H o)) fun f=>some (Out.ret f,bR lo 3 0 (lk o 4) (St.H o))) (fun l b=>some (Out.pan l,St.H b)) n (St.mk [(0,d),(1,r),(4,a.1),(36,a0),(37,iA 0)] (bR lo 3 5 a.1 g.2))) fun a0=>some (Out.pan a0,g.2)) fun i=>some (Out.pan i,c.2)) ((call 85 [d,bA false] j lo).bind fun p=>cf p.1 (fun a5=>
aJ 102 a.1 p.2 fun ae=>
bK 102 a.1 (bF a.1 p.2 ae) p.2 lo fun g=>
aJ 102 a.1 (bR lo 3 0 a.1 g) fun q=>some (Out.ret q,bR lo 3 0 a.1 g)) fun a5=>some (Out.pan a5,p.2))))) fun a2=>some (Out.pan a2,H1.2):=j9
theorem GN (b a:A):aE (cx C) call rg n 85 [b,a] H lo =
(gB prog UnOp.not a).bind fun c=>aY c ((EE prog 36 (iA 10)).bind fun d=>Du d fun a2=>some (Out.pan a2,H)) (some (Out.ret (A.tup []),H)):=j9
theorem WV (b:A):aE (cx C) call rg n 86 [b] H lo =
fw b H fun a=>
aJ 102 a.1 a.2 fun c=>
(C 97 [snap a.2 c]).bind fun t2=>
dP t2 0 fun d=>
dP t2 1 fun e=>
(gB prog UnOp.not e).bind fun f=>aY f (some (Out.ret (iA 1),a.2)) (aZ .gtr 3 false true d (iA 16) fun g=>aY g (some (Out.ret (iA 2),a.2)) (some (Out.ret (iA 0),a.2))):=j9
theorem WW:aE (cx C) call rg n 87 [] H lo =
eE 139 [] fun j=>
fw j H fun e=>
eD 127 e.2 fun a=>
bK 127 a.1 (bF a.1 a.2 e.1) a.2 lo fun b=>
aJ 127 a.1 b fun k=>
fH k b fun l=>
de 139 l (iA 1) b fun o=>
bZ 126 o 0 b fun f=>
bK 124 f (bF f b (A.fn (Fn.func 98) [] [])) b lo fun c=>
aJ 127 a.1 c fun p=>
fH p c fun q=>
de 139 q (iA 2) c fun r=>
bZ 126 r 0 c fun g=>
bK 124 g (bF g c (A.fn (Fn.func 101) [] [])) c lo fun d=>
aJ 127 a.1 d fun s=>
fH s d fun t=>
de 139 t (iA 3) d fun u=>
bZ 126 u 0 d fun h=>
bK 124 h (bF h d (A.fn (Fn.func 102) [] [a.1])) d lo fun i=>
aJ 127 a.1 i fun v=>some (Out.ret v,i):=j9
theorem WX (c d:A):aE (cx C) call rg n 88 [c,d] H lo =
fw d H fun a=>
dN 22 c a.2 fun e=>aH (cx C) call rg n 88 lo 0 (List.length a.2) (fun b s2=>bif Nat.beq b 0 then some (Out.ret (A.v (.int .i64 (-1))),St.H s2) else none) (fun b s2=>none) (fun a2=>some (Out.ret (lk a2 4),St.H a2)) (fun b s2=>some (Out.pan b,St.H s2)) n (St.mk [(0,c),(3,a.1),(4,iA 0),(7,e),(8,iA 0)] a.2):=j9
theorem WY (d:A):aE (cx C) call rg n 89 [d] H lo =
eD 102 H fun b=>
eE 144 [(0,d)] fun y=>
fw y b.2 fun e=>
(call 103 [e.1,iA 0] e.2 lo).bind fun g=>cf g.1 (fun h=>
eD 102 g.2 fun c=>
bK 102 c.1 (bF c.1 c.2 h) c.2 lo fun a=>
fH e.1 a fun z=>
fl 144 z 2 4 a fun t9=>
(di t9 (some [bA true,ud,ud,ud,ud,ud,ud,ud]) (fH e.1 a fun k=>
bZ 144 k 1 a fun l=>
aJ 3 l a fun o=>
dN 78 d a fun p=>
aZ .neq 3 false false o p fun q=>some [q,q,p,d,o,l,k,e.1])).bind fun a1=>u1 a1 fun a2 ae af ag ah ai aj ak al=>
(di a2 (some [bA true,ud,ud,ud]) (aJ 102 c.1 a fun r=>
(C 91 [snap a r]).bind fun s=>
aZ .neq 36 false true s (iA 0) fun t=>some [t,t,s,r])).bind fun a3=>fM a3 fun u am an ao ap=>
ss u false (aJ 102 c.1 a fun v=>
(C 92 [snap a v]).bind fun w=>
(bz prog 78 9 w a).bind fun a5=>
(bz prog 78 9 d a).bind fun a6=>some [a6,d,a5,w,v]) (some [ud,ud,ud,ud,ud]) fun a7=>fM a7 fun a8 aq a9 ar aa=>bE aa fun au av=>
(di u (some [bA true,ud]) (aZ .neq 9 false false a9 a8 fun x=>some [x,x])).bind fun ab=>gM ab fun ad aw ax=>aY ad (eE 102 [] fun i=>
bK 102 b.1 (bF b.1 a i) a lo fun f=>
aJ 102 b.1 f fun j=>some (Out.ret (A.tup [j,iA 10]),f)) (aJ 102 c.1 a fun i=>
bK 102 b.1 (bF b.1 a i) a lo fun f=>
aJ 102 b.1 f fun j=>some (Out.ret (A.tup [j,iA 0]),f))) fun h=>some (Out.pan h,g.2):=j9
theorem WZ (b:A):aE (cx C) call rg n 90 [b] H lo =
eD 102 H fun a=>
eE 102 [(0,iA 1),(1,b)] fun d=>
bK 102 a.1 (bF a.1 a.2 d) a.2 lo fun c=>
aJ 102 a.1 c fun e=>some (Out.ret e,c):=j9
theorem W0 (b:A):aE (cx C) call rg n 91 [b] H lo =
fw b H fun a=>
aJ 102 a.1 a.2 fun c=>
(C 104 [snap a.2 c]).bind fun t2=>
(gB prog UnOp.not t2).bind fun d=>aY d (some (Out.ret (iA 1),a.2)) (aJ 102 a.1 a.2 fun e=>
(C 105 [snap a.2 e]).bind fun f=>
aZ .gtr 3 false true f (iA 16) fun g=>aY g (some (Out.ret (iA 2),a.2)) (some (Out.ret (iA 0),a.2))):=j9
theorem W4 (k:A):aE (cx C) call rg n 92 [k] H lo =
fw k H fun a=>
fl 102 a.1 0 3 a.2 fun t2=>
aZ .eql 3 false true t2 (iA 1) fun r=>aY r ((aF prog 78 1 [(0,cC a.2 (A.v (.int .u8 1)))]).bind fun h=>
fl 102 a.1 1 3 a.2 fun s=>
(C 107 [snap a.2 s]).bind fun c=>
(C 106 [snap a.2 c]).bind fun d=>
(bp prog 78 78 false h d a.2 lo).bind fun l=>some (Out.ret l.1,l.2)) (aZ .eql 3 false true t2 (iA 2) fun h=>aY h ((aF prog 78 1 [(0,cC a.2 (A.v (.int .u8 2)))]).bind fun e=>
fl 102 a.1 2 9 a.2 fun c=>
dN 9 c a.2 fun d=>
(bz prog 3 133 d a.2).bind fun i=>
(C 106 [snap a.2 i]).bind fun j=>
(bp prog 78 78 false e j a.2 lo).bind fun b=>bif bif apart a.1 e then true else false then
bZ 102 a.1 2 b.2 fun o=>bif bif apart o e then true else false then
aJ 9 o b.2 fun t=>
(bp prog 78 9 false b.1 t b.2 lo).bind fun p=>some (Out.ret p.1,p.2) else none else none) ((aF prog 78 1 [(0,cC a.2 (A.v (.int .u8 3)))]).bind fun e=>
fl 102 a.1 3 100 a.2 fun c=>
dN 100 c a.2 fun d=>
(bz prog 3 133 d a.2).bind fun i=>
(C 106 [snap a.2 i]).bind fun j=>
(bp prog 78 78 false e j a.2 lo).bind fun b=>aH (cx C) call rg n 92 lo 0 (List.length b.2) (fun g f=>bif Nat.beq g 1 then some (Out.ret (lk f 3),St.H f) else none) (fun g f=>none) (fun q=>some (Out.ret (lk q 2),St.H q)) (fun g f=>some (Out.pan g,St.H f)) n (St.mk [(1,a.1),(2,A.imm [] true),(3,b.1),(4,iA 0)] b.2))):=j9
theorem Q7 (b c:A):aE (cx C) call rg n 93 [b,c] H lo =
fH b H fun f=>
fl 120 f 0 78 H fun t2=>
dN 78 t2 H fun g=>
aZ .leq 3 false false c g fun h=>
(call 85 [b,h] H lo).bind fun a=>cf a.1 (fun d=>
fH b a.2 fun i=>
fl 120 i 0 78 a.2 fun j=>
(eI prog 78 j none (some c) (some c) a.2).bind fun k=>
fH b a.2 fun l=>
fl 120 l 0 78 a.2 fun o=>
(eI prog 78 o (some c) none none a.2).bind fun p=>
fH b a.2 fun q=>
bZ 120 q 0 a.2 fun e=>
bK 78 e (bF e a.2 p) a.2 lo fun r=>some (Out.ret k,r)) fun d=>some (Out.pan d,a.2):=j9
theorem W5 (a:A):aE (cx C) call rg n 94 [a] H lo =
aZ .shr 133 false true a (A.v (.int .u64 1)) fun b=>
(bz prog 133 3 b H).bind fun c=>
aZ .and 133 false true a (A.v (.int .u64 1)) fun t2=>
(bz prog 133 3 t2 H).bind fun d=>
(gB prog UnOp.neg d).bind fun e=>
aZ .xor 3 false false c e fun f=>some (Out.ret f,H):=j9
theorem Q8 (c:A):aE (cx C) call rg n 95 [c] H lo=aH (cx C) call rg n 95 lo 0 (List.length H) (fun b a=>bif Nat.beq b 0 then some (Out.ret (lk a 2),St.H a) else none) (fun b a=>none) (fun d=>some (Out.ret (lk d 2),St.H d)) (fun b a=>some (Out.pan b,St.H a)) n (St.mk [(0,c),(2,A.v (.int .u64 0)),(3,iA 0)] H):=j9
theorem Tf (a:A):aE (cx C) call rg n 96 [a] H lo =
(call 95 [a] H lo).bind fun H0=>cf H0.1 (fun b=>
fH a H0.2 fun t2=>
fl 120 t2 0 78 H0.2 fun e=>
dN 78 e H0.2 fun f=>
(bz prog 3 133 f H0.2).bind fun g=>
aZ .leq 133 false false b g fun h=>
(call 85 [a,h] H0.2 lo).bind fun c=>cf c.1 (fun d=>
(bz prog 133 3 b c.2).bind fun i=>some (Out.ret i,c.2)) fun d=>some (Out.pan d,c.2)) fun b=>some (Out.pan b,H0.2):=j9
theorem W6 (f:A):aE (cx C) call rg n 97 [f] H lo =
fw f H fun a=>
fl 102 a.1 2 9 a.2 fun t2=>
aZ .eql 9 false true t2 (A.v (Value.string (ByteArray.mk #[]))) fun t3=>
(di t3 (bZ 102 a.1 3 a.2 fun g=>
aJ 100 g a.2 fun h=>
dN 100 h a.2 fun i=>
aZ .eql 3 false true i (iA 0) fun j=>some [j,j,i,h,g]) (some [bA false,ud,ud,ud,ud])).bind fun l4=>fM l4 fun u5 u6 u7 u8 l8=>bE l8 fun u9 l9=>
fl 102 a.1 1 3 a.2 fun a7=>
aZ .eql 3 false true a7 (iA 0) fun a8=>
(di a8 (bZ 102 a.1 3 a.2 fun k=>
aJ 100 k a.2 fun l=>
dN 100 l a.2 fun o=>
aZ .eql 3 false true o (iA 0) fun p=>some [p,p,o,l,k]) (some [bA false,ud,ud,ud,ud])).bind fun a9=>fM a9 fun aa b0 b1 b2 ab=>bE ab fun b3 b4=>
fl 102 a.1 1 3 a.2 fun ad=>
aZ .eql 3 false true ad (iA 0) fun ae=>
(di ae (bZ 102 a.1 2 a.2 fun q=>
aJ 9 q a.2 fun r=>
aZ .eql 9 false true r (A.v (Value.string (ByteArray.mk #[]))) fun s=>some [s,s,r,q]) (some [bA false,ud,ud,ud])).bind fun af=>fM af fun ag b5 b6 b7 b8=>
eE 149 [(1,u5),(2,aa),(3,ag)] fun ah=>
eD 149 a.2 fun JP=>
bK 149 JP.1 (bF JP.1 JP.2 ah) JP.2 lo fun b=>
fl 102 a.1 0 3 b fun ai=>
aZ .lss 3 false true ai (iA 1) fun aj=>
(di aj (some [bA true,ud,ud,ud]) (bZ 102 a.1 0 b fun t=>
aJ 3 t b fun u=>
aZ .gtr 3 false true u (iA 3) fun w=>some [w,w,u,t])).bind fun ak=>fM ak fun al b9 ba bb bc=>
(di al (some [bA true,ud,ud,ud,ud,ud]) (bZ 102 a.1 0 b fun x=>
aJ 3 x b fun y=>
de 149 JP.1 y b fun z=>
aJ 4 z b fun a0=>
(gB prog UnOp.not a0).bind fun a1=>some [a1,a1,a0,z,y,x])).bind fun am=>fM am fun an bd be bf ao=>gM ao fun bg bh bi=>aY an (some (Out.ret (A.tup [iA 0,bA false]),b)) (fl 102 a.1 0 3 b fun ap=>
aZ .lss 3 false true ap (iA 3) fun aq=>aY aq (some (Out.ret (A.tup [iA 0,bA true]),b)) (fl 102 a.1 3 100 b fun a2=>
dN 100 a2 b fun ar=>aH (cx C) call rg n 97 lo 0 (List.length b) (fun d c=>bif Nat.beq d 0 then
aZ .add 3 false true (lk c 2) (iA 1) fun au=>some (Out.ret (A.tup [au,bA true]),St.H c) else none) (fun d c=>none) (fun e=>some (Out.ret (A.tup [lk e 2,lk e 3]),St.H e)) (fun d c=>some (Out.pan d,St.H c)) n (St.mk [(2,iA 0),(3,bA false),(55,a2),(56,ar),(57,iA 0)] b))):=j9
theorem Q9 (b f:A):aE (cx C) call rg n 98 [b,f] H lo =
fw f H fun c=>
(aF prog 78 1 [(0,cC c.2 (A.v (.int .u8 1)))]).bind fun h=>
(bp prog 78 78 false b h c.2 lo).bind fun a=>bif bif apart c.1 b then true else false then
bZ 102 c.1 1 a.2 fun g=>bif bif apart g b then true else false then
aJ 3 g a.2 fun i=>
(C 100 [snap a.2 i]).bind fun j=>
(call 99 [a.1,j] a.2 lo).bind fun d=>cf d.1 (fun e=>some (Out.ret e,d.2)) fun e=>some (Out.pan e,d.2) else none else none:=j9
theorem Jn (c d:A):aE (cx C) call rg n 99 [c,d] H lo=aH (cx C) call rg n 99 lo 0 (List.length H) (fun b a=>bif Nat.beq b 0 then
(bz prog 133 5 (lk a 1) (St.H a)).bind fun g=>
(aF prog 78 1 [(0,cC (St.H a) g)]).bind fun t2=>
(bp prog 78 78 false (lk a 0) t2 (St.H a) lo).bind fun e=>some (Out.ret e.1,e.2) else none) (fun b a=>none) (fun f=>some (Out.ret (lk f 4),St.H f)) (fun b a=>some (Out.pan b,St.H a)) n (St.mk [(0,c),(1,d),(4,A.imm [] true)] H):=j9
theorem QY (a:A):aE (cx C) call rg n 100 [a] H lo =
(bz prog 3 133 a H).bind fun b=>
aZ .shl 133 false true b (A.v (.int .u64 1)) fun c=>
aZ .shr 3 false true a (A.v (.int .u64 63)) fun t2=>
(bz prog 3 133 t2 H).bind fun d=>
aZ .xor 133 false false c d fun e=>some (Out.ret e,H):=j9
theorem Kj (b f:A):aE (cx C) call rg n 101 [b,f] H lo =
fw f H fun g=>
(vj lo g.1 g.2).bind fun a=>bif bif kJ (A.v (.int .u8 2)) then true else false then
(aF prog 78 1 [(0,cC a.2 (A.v (.int .u8 2)))]).bind fun t2=>
bZ 102 a.1 2 a.2 fun h=>
aJ 9 h a.2 fun i=>
dN 9 i a.2 fun j=>
(bz prog 3 133 j a.2).bind fun o=>
bZ 102 a.1 2 a.2 fun c=>
aJ 9 c a.2 fun p=>bif bif apart c b then bif apart a.1 b then bif apart j b then bif apart i b then bif apart h b then bif apart a.1 b then true else false else false else false else false else false else false then
(bp prog 78 78 false b t2 a.2 lo).bind fun k=>bif bif cN 1000 c then bif cN 1000 a.1 then true else false else false then
(call 99 [k.1,o] k.2 lo).bind fun d=>cf d.1 (fun e=>
(bp prog 78 9 false e p d.2 lo).bind fun l=>some (Out.ret l.1,l.2)) fun e=>some (Out.pan e,d.2) else none else none else none:=j9
theorem Mn (a h i:A):aE (cx C) call rg n 102 [a,h,i] H lo =
fw h H fun d=>
(aF prog 78 1 [(0,cC d.2 (A.v (.int .u8 3)))]).bind fun q=>
(bp prog 78 78 false a q d.2 lo).bind fun b=>bif bif apart d.1 a then true else false then
bZ 102 d.1 3 b.2 fun j=>bif bif apart j a then true else false then
aJ 100 j b.2 fun k=>bif bif apart k a then true else false then
dN 100 k b.2 fun l=>bif bif apart l a then true else false then
(bz prog 3 133 l b.2).bind fun r=>
(call 99 [b.1,r] b.2 lo).bind fun c=>cf c.1 (fun g=>
fl 102 d.1 3 100 c.2 fun o=>
dN 100 o c.2 fun s=>aH (cx C) call rg n 102 lo 0 (List.length c.2) (fun f e=>bif Nat.beq f 0 then some (Out.ret (lk e 0),St.H e) else none) (fun f e=>none) (fun p=>some (Out.ret (lk p 5),St.H p)) (fun f e=>some (Out.pan f,St.H e)) n (St.mk [(0,g),(2,i),(5,A.imm [] true),(17,o),(18,s),(19,iA 0)] c.2)) fun g=>some (Out.pan g,c.2) else none else none else none else none:=j9
theorem QZ (b x1:A):aE (cx C) call rg n 103 [b,x1] H lo =
eD 102 H fun a=>
(call 108 [b] a.2 lo).bind fun H1=>cf H1.1 (fun a2=>
aZ .eql 5 false true a2 (A.v (.int .u8 1)) fun t3=>aY t3 ((call 109 [b] H1.2 lo).bind fun j=>cf j.1 (fun s=>
aZ .rem 133 false true s (A.v (.int .u64 2)) fun t6=>
aZ .eql 133 false true t6 (A.v (.int .u64 1)) fun q=>aY q (aZ .quo 133 false true s (A.v (.int .u64 2)) fun t=>
(bz prog 133 3 t j.2).bind fun k=>
(gB prog UnOp.neg k).bind fun g=>
aZ .sub 3 false true g (iA 1) fun h=>
eE 102 [(0,iA 1),(1,h)] fun i=>
bK 102 a.1 (bF a.1 j.2 i) j.2 lo fun aj=>
aJ 102 a.1 (bR lo 3 0 a.1 aj) fun l=>some (Out.ret l,bR lo 3 0 a.1 aj)) (aZ .quo 133 false true s (A.v (.int .u64 2)) fun t=>
(bz prog 133 3 t j.2).bind fun k=>
eE 102 [(0,iA 1),(1,k)] fun g=>
bK 102 a.1 (bF a.1 j.2 g) j.2 lo fun ak=>
aJ 102 a.1 (bR lo 3 0 a.1 ak) fun i=>some (Out.ret i,bR lo 3 0 a.1 ak))) fun s=>some (Out.pan s,j.2)) (aZ .eql 5 false true a2 (A.v (.int .u8 2)) fun t4=>aY t4 ((call 109 [b] H1.2 lo).bind fun c=>cf c.1 (fun u=>
fH b c.2 fun q=>
fl 144 q 2 4 c.2 fun k=>
ss k false (fH b c.2 fun g=>
bZ 144 g 0 c.2 fun h=>
aJ 78 h c.2 fun i=>
dN 78 i c.2 fun w=>
fH b c.2 fun l=>
bZ 144 l 1 c.2 fun x=>
aJ 3 x c.2 fun y=>
aZ .sub 3 false false w y fun z=>
(bz prog 3 133 z c.2).bind fun aa=>some [aa,z,y,x,l,b,w,i,h,g,b,u]) (some [ud,ud,ud,ud,ud,ud,ud,ud,ud,ud,ud,ud]) fun b4=>u1 b4 fun b5 al b6 b7 b8 b9 ba bb bc=>fM bc fun bd be bf am c3=>
(di k (some [bA true,ud]) (aZ .gtr 133 false false am b5 fun an=>some [an,an])).bind fun ao=>gM ao fun bg ap c4=>aY bg (fH b c.2 fun ae=>
bZ 144 ae 2 c.2 fun a0=>
bK 4 a0 (bF a0 c.2 (bA true)) c.2 lo fun aq=>
eE 102 [] fun af=>
bK 102 a.1 (bF a.1 aq af) aq lo fun ar=>
aJ 102 a.1 (bR lo 3 0 a.1 ar) fun o=>some (Out.ret o,bR lo 3 0 a.1 ar)) (fH b c.2 fun ae=>
fl 144 ae 1 3 c.2 fun bh=>
(bz prog 133 3 u c.2).bind fun af=>
aZ .add 3 false false bh af fun bi=>
fH b c.2 fun o=>
bZ 144 o 1 c.2 fun a1=>
bK 3 a1 (bF a1 c.2 bi) c.2 lo fun e=>
fH b e fun ag=>
fl 144 ag 0 78 e fun r=>
fH b e fun ah=>
fl 144 ah 1 3 e fun bj=>
(bz prog 133 3 u e).bind fun ai=>
aZ .sub 3 false false bj ai fun bk=>
fH b e fun bl=>
fl 144 bl 1 3 e fun bm=>
(eI prog 78 r (some bk) (some bm) none e).bind fun bn=>
(bz prog 78 9 bn e).bind fun bo=>
eE 102 [(0,iA 2),(2,bo)] fun bp=>
bK 102 a.1 (bF a.1 e bp) e lo fun au=>
aJ 102 a.1 (bR lo 3 0 a.1 au) fun bq=>some (Out.ret bq,bR lo 3 0 a.1 au))) fun u=>some (Out.pan u,c.2)) (aZ .eql 5 false true a2 (A.v (.int .u8 3)) fun t5=>aY t5 ((call 109 [b] H1.2 lo).bind fun f=>cf f.1 (fun a7=>
fH b f.2 fun t=>
fl 144 t 2 4 f.2 fun g=>
ss g false (fH b f.2 fun h=>
bZ 144 h 0 f.2 fun i=>
aJ 78 i f.2 fun w=>
dN 78 w f.2 fun l=>
fH b f.2 fun x=>
bZ 144 x 1 f.2 fun y=>
aJ 3 y f.2 fun z=>
aZ .sub 3 false false l z fun aa=>
(bz prog 3 133 aa f.2).bind fun bs=>some [bs,aa,z,y,x,b,l,w,i,h,b,a7]) (some [ud,ud,ud,ud,ud,ud,ud,ud,ud,ud,ud,ud]) fun bt=>u1 bt fun al b6 b7 b8 b9 ba bb bd bu=>fM bu fun be bf am bv ao=>
(di g (some [bA true,ud]) (aZ .gtr 133 false false bv al fun av=>some [av,av])).bind fun bw=>gM bw fun ap c5 c6=>
(di ap (some [bA true,ud,ud]) (aZ .eql 3 false true x1 (iA 16) fun a0=>some [a0,a0,x1])).bind fun bx=>gM bx fun c0 c7 c1=>bE c1 fun c8 c9=>aY c0 (fH b f.2 fun o=>
bZ 144 o 2 f.2 fun a1=>
bK 4 a1 (bF a1 f.2 (bA true)) f.2 lo fun e=>
eE 102 [] fun ag=>
bK 102 a.1 (bF a.1 e ag) e lo fun aw=>
aJ 102 a.1 (bR lo 3 0 a.1 aw) fun r=>some (Out.ret r,bR lo 3 0 a.1 aw)) (eE 102 [(0,iA 3)] fun o=>
eD 102 f.2 fun p=>
bK 102 p.1 (bF p.1 p.2 o) p.2 lo fun e=>aH (cx C) call rg n 103 lo 0 (List.length (bR lo 3 5 p.1 e)) (fun a3 d=>bif Nat.beq a3 1 then
aJ 102 (lk d 8) (St.H d) fun a4=>
bK 102 (lk d 4) (bF (lk d 4) (St.H d) a4) (St.H d) lo fun ax=>
aJ 102 (lk d 4) (bR lo 3 0 (lk d 4) ax) fun ah=>some (Out.ret ah,bR lo 3 0 (lk d 4) ax) else bif Nat.beq a3 0 then
fH (lk d 0) (St.H d) fun a4=>
bZ 144 a4 2 (St.H d) fun r=>
bK 4 r (bF r (St.H d) (bA true)) (St.H d) lo fun ay=>
eE 102 [] fun c2=>
bK 102 (lk d 4) (bF (lk d 4) ay c2) ay lo fun az=>
aJ 102 (lk d 4) (bR lo 3 0 (lk d 4) az) fun ai=>some (Out.ret ai,bR lo 3 0 (lk d 4) az) else none) (fun a3 d=>none) (fun a8=>
aJ 102 (lk a8 4) (bR lo 3 0 (lk a8 4) (St.H a8)) fun a4=>some (Out.ret a4,bR lo 3 0 (lk a8 4) (St.H a8))) (fun a3 d=>some (Out.pan a3,St.H d)) n (St.mk [(0,b),(1,x1),(4,a.1),(7,a7),(8,p.1),(9,A.v (.int .u64 0))] (bR lo 3 5 p.1 e)))) fun a7=>some (Out.pan a7,f.2)) (fH b H1.2 fun t6=>
bZ 144 t6 2 H1.2 fun q=>
bK 4 q (bF q H1.2 (bA true)) H1.2 lo fun H8=>
eE 102 [] fun k=>
bK 102 a.1 (bF a.1 H8 k) H8 lo fun b1=>
aJ 102 a.1 (bR lo 3 0 a.1 b1) fun h=>some (Out.ret h,bR lo 3 0 a.1 b1))))) fun a2=>some (Out.pan a2,H1.2):=j9
theorem Q0 (l:A):aE (cx C) call rg n 104 [l] H lo =
fw l H fun a=>
fl 102 a.1 0 3 a.2 fun t2=>
aZ .eql 3 false true t2 (iA 1) fun t=>aY t (fl 102 a.1 2 9 a.2 fun i=>
aZ .eql 9 false true i (A.v (Value.string (ByteArray.mk #[]))) fun j=>
(di j (bZ 102 a.1 3 a.2 fun h=>
aJ 100 h a.2 fun d=>
dN 100 d a.2 fun e=>
aZ .eql 3 false true e (iA 0) fun c=>some [c,c,e,d,h]) (some [bA false,ud,ud,ud,ud])).bind fun u=>fM u fun w o x k y=>bE y fun p q=>some (Out.ret w,a.2)) (aZ .eql 3 false true t2 (iA 2) fun z=>aY z (fl 102 a.1 1 3 a.2 fun j=>
aZ .eql 3 false true j (iA 0) fun h=>
(di h (bZ 102 a.1 3 a.2 fun d=>
aJ 100 d a.2 fun e=>
dN 100 e a.2 fun c=>
aZ .eql 3 false true c (iA 0) fun f=>some [f,f,c,e,d]) (some [bA false,ud,ud,ud,ud])).bind fun l8=>fM l8 fun o x k p q=>bE q fun a1 a3=>some (Out.ret o,a.2)) (aZ .eql 3 false true t2 (iA 3) fun i=>aY i (aH (cx C) call rg n 104 lo 0 (List.length a.2) (fun g b=>bif Nat.beq g 1 then
fl 102 (lk b 1) 1 3 (St.H b) fun d=>
aZ .eql 3 false true d (iA 0) fun e=>
(di e (bZ 102 (lk b 1) 2 (St.H b) fun c=>
aJ 9 c (St.H b) fun f=>
aZ .eql 9 false true f (A.v (Value.string (ByteArray.mk #[]))) fun r=>some [r,r,f,c]) (some [bA false,ud,ud,ud])).bind fun a2=>fM a2 fun k p a1 a4 a5=>some (Out.ret k,St.H b) else bif Nat.beq g 0 then some (Out.ret (bA false),St.H b) else none) (fun g b=>none) (fun s=>some (Out.ret (lk s 2),St.H s)) (fun g b=>some (Out.pan g,St.H b)) n (St.mk [(1,a.1),(2,bA false),(3,iA 0)] a.2)) (some (Out.ret (bA false),a.2)))):=j9
theorem Q1 (d:A):aE (cx C) call rg n 105 [d] H lo =
fw d H fun a=>
fl 102 a.1 0 3 a.2 fun t2=>
aZ .neq 3 false true t2 (iA 3) fun f=>aY f (some (Out.ret (iA 0),a.2)) (aH (cx C) call rg n 105 lo 0 (List.length a.2) (fun c b=>bif Nat.beq c 0 then
aZ .add 3 false true (lk b 3) (iA 1) fun g=>some (Out.ret g,St.H b) else none) (fun c b=>none) (fun e=>some (Out.ret (lk e 2),St.H e)) (fun c b=>some (Out.pan c,St.H b)) n (St.mk [(1,a.1),(2,iA 0),(3,iA 0),(4,iA 0)] a.2)):=j9
theorem Q2 (a:A):aE (cx C) call rg n 106 [a] H lo =
aZ .lss 133 false true a (A.v (.int .u64 128)) fun d=>aY d ((bz prog 133 5 a H).bind fun b=>
(aF prog 78 1 [(0,cC H b)]).bind fun t2=>some (Out.ret t2,H)) (aZ .rem 133 false true a (A.v (.int .u64 128)) fun b=>
aZ .add 133 false true b (A.v (.int .u64 128)) fun t2=>
(bz prog 133 5 t2 H).bind fun e=>
(aF prog 78 1 [(0,cC H e)]).bind fun f=>
aZ .quo 133 false true a (A.v (.int .u64 128)) fun g=>
(C 106 [snap H g]).bind fun h=>
(bp prog 78 78 false f h H lo).bind fun c=>some (Out.ret c.1,c.2)):=j9
theorem Q3 (a:A):aE (cx C) call rg n 107 [a] H lo =
aZ .geq 3 false true a (iA 0) fun c=>aY c ((bz prog 3 133 a H).bind fun b=>
aZ .mul 133 true false (A.v (.int .u64 2)) b fun t2=>some (Out.ret t2,H)) (aZ .add 3 false true a (iA 1) fun b=>
(gB prog UnOp.neg b).bind fun t2=>
(bz prog 3 133 t2 H).bind fun d=>
aZ .mul 133 true false (A.v (.int .u64 2)) d fun e=>
aZ .add 133 false true e (A.v (.int .u64 1)) fun f=>some (Out.ret f,H)):=j9
theorem Mo (a:A):aE (cx C) call rg n 108 [a] H lo =
fH a H fun f=>
fl 144 f 1 3 H fun t2=>
fH a H fun g=>
fl 144 g 0 78 H fun h=>
dN 78 h H fun i=>
aZ .geq 3 false false t2 i fun j=>aY j (fH a H fun c=>
bZ 144 c 2 H fun d=>
bK 4 d (bF d H (bA true)) H lo fun k=>some (Out.ret (A.v (.int .u8 0)),k)) (fH a H fun c=>
fl 144 c 1 3 H fun l=>
aZ .add 3 false true l (iA 1) fun o=>
fH a H fun p=>
bZ 144 p 1 H fun e=>
bK 3 e (bF e H o) H lo fun b=>
fH a b fun q=>
fl 144 q 0 78 b fun r=>
fH a b fun s=>
fl 144 s 1 3 b fun t=>
aZ .sub 3 false true t (iA 1) fun u=>
de 78 r u b fun w=>
aJ 5 w b fun x=>some (Out.ret x,b)):=j9
theorem Kn (c:A):aE (cx C) call rg n 109 [c] H lo=aH (cx C) call rg n 109 lo 0 (List.length H) (fun a b=>bif Nat.beq a 0 then some (Out.ret (A.v (.int .u64 0)),St.H b) else none) (fun a b=>none) (fun d=>some (Out.ret (lk d 2),St.H d)) (fun a b=>some (Out.pan a,St.H b)) n (St.mk [(0,c),(2,A.v (.int .u64 0)),(3,A.v (.int .u64 0)),(4,iA 0)] H):=j9
theorem Q5 (b d x3:A):aH (cx C) call rg n 5 lo 0 L kx kg kr kp (m+1) (St.mk [(1,b),(2,d),(3,x3)] H) =
aZ .lss 3 false true x3 (iA 2) fun u=>aY u (bZ 31 b 0 H fun v=>
de 27 v x3 H fun t2=>
aJ 26 t2 H fun w=>
eD 26 H fun c=>
bK 26 c.1 (bF c.1 c.2 w) c.2 lo fun a=>
fl 26 c.1 1 22 a fun x=>
dN 22 x a fun y=>
aZ .gtr 3 false true y (iA 40) fun z=>
(di z (some [bA true,ud,ud,ud,ud]) (bZ 26 c.1 2 a fun e=>
aJ 23 e a fun f=>
dN 23 f a fun g=>
aZ .gtr 3 false true g (iA 40) fun h=>some [h,h,g,f,e])).bind fun a0=>fM a0 fun a1 ab ad ae a2=>bE a2 fun af ag=>
(di a1 (some [bA true,ud,ud,ud,ud]) (bZ 26 c.1 3 a fun i=>
aJ 24 i a fun j=>
dN 24 j a fun k=>
aZ .gtr 3 false true k (iA 80) fun l=>some [l,l,k,j,i])).bind fun a3=>fM a3 fun a4 ah ai aj a5=>bE a5 fun ak al=>
(di a4 (some [bA true,ud,ud,ud,ud,ud,ud]) (bZ 31 b 3 a fun o=>
de 29 o x3 a fun p=>
aJ 23 p a fun q=>
dN 23 q a fun r=>
aZ .gtr 3 false true r (iA 40) fun s=>some [s,s,r,q,p,o,x3])).bind fun a6=>fM a6 fun a7 am an ao a8=>gM a8 fun ap aq a9=>bE a9 fun ar au=>aY a7 (kr (St.mk [(1,b),(2,bA false),(3,x3)] a)) (aZ .add 3 false true x3 (iA 1) fun t=>
jF L a fun aa=>bif bif Nat.beq (List.length a) L then true else aP L [(3,t),(1,b),(2,d)] [1,2,3] then aH (cx C) call rg n 5 lo 0 L kx kg kr kp m (St.mk [(1,b),(2,d),(3,t)] aa) else none)) (kx 0 (St.mk [(1,b),(2,d),(3,x3)] H)):=j9
theorem Q6 (a b x4 x5 x7:A):aH (cx C) call rg n 8 lo 0 L kx kg kr kp (m+1) (St.mk [(0,a),(1,b),(4,x4),(5,x5),(7,x7)] H) =
aZ .lss 3 false true x7 (iA 2) fun k=>aY k ((C 11 [snap H x7,snap H a,snap H b]).bind fun f=>
dP f 0 fun t2=>
dP f 1 fun d=>
bZ 31 x4 0 H fun l=>
de 27 l x7 H fun g=>
bK 26 g (bF g H t2) H lo fun c=>
aZ .neq 36 false true d (iA 0) fun o=>aY o (eE 31 [] fun e=>
bK 31 x4 (bF x4 c e) c lo fun p=>kr (St.mk [(0,a),(1,b),(4,x4),(5,d),(7,x7)] p)) (bZ 31 x4 1 c fun e=>
de 28 e x7 c fun h=>
bK 3 h (bF h c (iA 1)) c lo fun i=>
aZ .add 3 false true x7 (iA 1) fun j=>
jF L (bR lo 7 0 x4 (bR lo 6 0 x4 (bR lo 5 0 x4 (bR lo 3 0 x4 (bR lo 2 0 x4 (bR lo 1 0 x4 i)))))) fun q=>bif bif Nat.beq (List.length (bR lo 7 0 x4 (bR lo 6 0 x4 (bR lo 5 0 x4 (bR lo 3 0 x4 (bR lo 2 0 x4 (bR lo 1 0 x4 i))))))) L then true else aP L [(7,j),(5,d),(0,a),(1,b),(4,x4)] [0,1,4,5,7] then aH (cx C) call rg n 8 lo 0 L kx kg kr kp m (St.mk [(0,a),(1,b),(4,x4),(5,d),(7,j)] q) else none)) (kx 0 (St.mk [(0,a),(1,b),(4,x4),(5,x5),(7,x7)] H)):=j9
theorem Mp (a x3 x4 x5:A):aH (cx C) call rg n 10 lo 0 L kx kg kr kp (m+1) (St.mk [(2,a),(3,x3),(4,x4),(5,x5)] H) =
aZ .lss 3 false true x5 (iA 2) fun s=>aY s (bZ 31 a 0 H fun t=>
de 27 t x5 H fun t2=>
aJ 26 t2 H fun u=>
bZ 31 x3 0 H fun v=>
de 27 v x5 H fun w=>
aJ 26 w H fun x=>
(C 19 [snap H u,snap H x]).bind fun y=>
(gB prog UnOp.not y).bind fun z=>
(di z (some [bA true,ud,ud,ud,ud,ud,ud,ud,ud,ud]) (bZ 31 a 1 H fun b=>
de 28 b x5 H fun c=>
aJ 3 c H fun d=>
bZ 31 x3 1 H fun e=>
de 28 e x5 H fun f=>
aJ 3 f H fun g=>
aZ .neq 3 false false d g fun h=>some [h,h,g,f,e,x5,d,c,b,x5])).bind fun l9=>u1 l9 fun i ab ad ae af ag ah ai a1=>gM a1 fun aj ak al=>
ss i false (bZ 31 a 3 H fun j=>
de 29 j x5 H fun k=>
aJ 23 k H fun a2=>
bZ 31 x3 3 H fun l=>
de 29 l x5 H fun o=>
aJ 23 o H fun a3=>some [a3,o,l,x5,a2,k,j,x5]) (some [ud,ud,ud,ud,ud,ud,ud,ud]) fun a4=>u1 a4 fun a5 am an ao a6 ap aq ar au=>
(di i (some [bA true,ud,ud]) ((C 18 [snap H a6,snap H a5]).bind fun p=>
(gB prog UnOp.not p).bind fun q=>some [q,q,p])).bind fun a7=>gM a7 fun a8 av a9=>bE a9 fun aw ax=>aY a8 (kr (St.mk [(2,a),(3,x3),(4,bA false),(5,x5)] H)) (aZ .add 3 false true x5 (iA 1) fun r=>
jF L H fun aa=>bif bif Nat.beq (List.length H) L then true else aP L [(5,r),(2,a),(3,x3),(4,x4)] [2,3,4,5] then aH (cx C) call rg n 10 lo 0 L kx kg kr kp m (St.mk [(2,a),(3,x3),(4,x4),(5,r)] aa) else none)) (kx 0 (St.mk [(2,a),(3,x3),(4,x4),(5,x5)] H)):=j9
theorem Mq (x4 x5 zZ qP pf:A):aH (cx C) call rg n 14 lo 0 L kx kg kr kp (m+1) (St.mk [(4,x4),(5,x5),(12,zZ),(13,qP),(14,pf)] H) =
aZ .lss 3 false false pf qP fun g=>aY g (de 56 zZ pf H fun h=>
aJ 78 h H fun t2=>
(C 45 [snap H t2]).bind fun d=>
dP d 0 fun i=>
dP d 1 fun j=>
eD 76 H fun b=>
bK 76 b.1 (bF b.1 b.2 i) b.2 lo fun a=>
(gB prog UnOp.not j).bind fun k=>aY k (eE 26 [] fun c=>
bK 26 x4 (bF x4 a c) a lo fun l=>kr (St.mk [(4,x4),(5,iA 530),(12,zZ),(13,qP),(14,pf)] l)) (aJ 26 x4 a fun c=>
aJ 76 b.1 a fun o=>
(C 42 [snap a c,snap a o]).bind fun p=>
bK 26 x4 (bF x4 a p) a lo fun e=>
aZ .add 3 false true pf (iA 1) fun f=>
jF L (bR lo 3 0 x4 (bR lo 2 0 x4 (bR lo 1 0 x4 e))) fun q=>bif bif Nat.beq (List.length (bR lo 3 0 x4 (bR lo 2 0 x4 (bR lo 1 0 x4 e)))) L then true else aP L [(14,f),(4,x4),(5,x5),(12,zZ),(13,qP)] [4,5,12,13,14] then aH (cx C) call rg n 14 lo 0 L kx kg kr kp m (St.mk [(4,x4),(5,x5),(12,zZ),(13,qP),(14,f)] q) else none)) (kx 0 (St.mk [(4,x4),(5,x5),(12,zZ),(13,qP),(14,pf)] H)):=j9
theorem Mr (a x4 x5 Bo Bp zZ:A):aH (cx C) call rg n 16 lo 0 L kx kg kr kp (m+1) (St.mk [(2,a),(4,x4),(5,x5),(10,Bo),(11,Bp),(12,zZ)] H) =
aZ .lss 3 false false zZ Bp fun j=>aY j (de 84 Bo zZ H fun k=>
aJ 33 k H fun t2=>
eD 33 H fun c=>
bK 33 c.1 (bF c.1 c.2 t2) c.2 lo fun d=>
aJ 31 a d fun l=>
aJ 33 c.1 d fun o=>
(C 6 [snap d l,snap d o]).bind fun h=>
dP h 0 fun p=>
dP h 1 fun q=>
eD 31 d fun e=>
bK 31 e.1 (bF e.1 e.2 p) e.2 lo fun b=>
aZ .neq 36 false true q (iA 0) fun r=>aY r (aJ 31 a b fun g=>
bK 31 x4 (bF x4 b g) b lo fun f=>kr (St.mk [(2,a),(4,x4),(5,bA false),(10,Bo),(11,Bp),(12,zZ)] f)) (aJ 31 e.1 b fun g=>
bK 31 a (bF a b g) b lo fun f=>
aZ .add 3 false true zZ (iA 1) fun i=>
jF L f fun s=>bif bif Nat.beq (List.length f) L then true else aP L [(12,i),(2,a),(4,x4),(5,x5),(10,Bo),(11,Bp)] [2,4,5,10,11,12] then aH (cx C) call rg n 16 lo 0 L kx kg kr kp m (St.mk [(2,a),(4,x4),(5,x5),(10,Bo),(11,Bp),(12,i)] s) else none)) (kx 0 (St.mk [(2,a),(4,x4),(5,x5),(10,Bo),(11,Bp),(12,zZ)] H)):=j9
theorem Ms (a b x4 x5:A):aH (cx C) call rg n 17 lo 0 L kx kg kr kp (m+1) (St.mk [(0,a),(1,b),(4,x4),(5,x5)] H) =
dN 22 a H fun d=>
aZ .lss 3 false false x5 d fun e=>aY e (de 22 a x5 H fun t2=>
aJ 50 t2 H fun f=>
de 22 b x5 H fun g=>
aJ 50 g H fun h=>
aZ .neq 50 false false f h fun i=>aY i (kr (St.mk [(0,a),(1,b),(4,bA false),(5,x5)] H)) (aZ .add 3 false true x5 (iA 1) fun c=>
jF L H fun j=>bif bif Nat.beq (List.length H) L then true else aP L [(5,c),(0,a),(1,b),(4,x4)] [0,1,4,5] then aH (cx C) call rg n 17 lo 0 L kx kg kr kp m (St.mk [(0,a),(1,b),(4,x4),(5,c)] j) else none)) (kx 0 (St.mk [(0,a),(1,b),(4,x4),(5,x5)] H)):=j9
theorem Mt (a b x4 x5:A):aH (cx C) call rg n 18 lo 0 L kx kg kr kp (m+1) (St.mk [(0,a),(1,b),(4,x4),(5,x5)] H) =
dN 23 a H fun d=>
aZ .lss 3 false false x5 d fun e=>aY e (de 23 a x5 H fun t2=>
aJ 54 t2 H fun f=>
de 23 b x5 H fun g=>
aJ 54 g H fun h=>
aZ .neq 54 false false f h fun i=>aY i (kr (St.mk [(0,a),(1,b),(4,bA false),(5,x5)] H)) (aZ .add 3 false true x5 (iA 1) fun c=>
jF L H fun j=>bif bif Nat.beq (List.length H) L then true else aP L [(5,c),(0,a),(1,b),(4,x4)] [0,1,4,5] then aH (cx C) call rg n 18 lo 0 L kx kg kr kp m (St.mk [(0,a),(1,b),(4,x4),(5,c)] j) else none)) (kx 0 (St.mk [(0,a),(1,b),(4,x4),(5,x5)] H)):=j9
theorem Mu (a x3 x4 x5:A):aH (cx C) call rg n 19 lo 0 L kx kg kr kp (m+1) (St.mk [(2,a),(3,x3),(4,x4),(5,x5)] H) =
fl 26 a 3 24 H fun c=>
dN 24 c H fun t2=>
aZ .lss 3 false false x5 t2 fun d=>aY d (fl 26 a 3 24 H fun e=>
de 24 e x5 H fun f=>
aJ 4 f H fun g=>
fl 26 x3 3 24 H fun h=>
de 24 h x5 H fun i=>
aJ 4 i H fun j=>
aZ .neq 4 false false g j fun k=>aY k (kr (St.mk [(2,a),(3,x3),(4,bA false),(5,x5)] H)) (aZ .add 3 false true x5 (iA 1) fun b=>
jF L H fun l=>bif bif Nat.beq (List.length H) L then true else aP L [(5,b),(2,a),(3,x3),(4,x4)] [2,3,4,5] then aH (cx C) call rg n 19 lo 0 L kx kg kr kp m (St.mk [(2,a),(3,x3),(4,x4),(5,b)] l) else none)) (kx 0 (St.mk [(2,a),(3,x3),(4,x4),(5,x5)] H)):=j9
theorem Mv (b qP pf:A):aH (cx C) call rg n 23 lo 0 L kx kg kr kp (m+1) (St.mk [(0,b),(13,qP),(14,pf)] H) =
aZ .lss 3 false true pf (iA 2) fun t=>aY t ((wF prog 27 qP pf).bind fun u=>
eD 26 H fun c=>
bK 26 c.1 (bF c.1 c.2 u) c.2 lo fun a=>
aJ 26 c.1 a fun v=>
(C 15 [snap a v]).bind fun w=>
aZ .eql 36 false true w (iA 0) fun x=>
(di x (bZ 26 c.1 0 a fun e=>
aJ 3 e a fun f=>
aZ .eql 3 false false f pf fun g=>some [g,g,pf,f,e]) (some [bA false,ud,ud,ud,ud])).bind fun y=>fM y fun h u9 aa ab z=>bE z fun ad ae=>
ss h true (fH b a fun i=>
bZ 62 i 0 a fun j=>
bZ 31 j 1 a fun k=>
de 28 k pf a fun l=>
aJ 3 l a fun a0=>
bZ 26 c.1 3 a fun o=>
aJ 24 o a fun p=>
dN 24 p a fun a1=>some [a1,p,o,a0,l,k,j,i,pf,b]) (some [ud,ud,ud,ud,ud,ud,ud,ud,ud,ud]) fun a2=>u1 a2 fun a3 af ag a4 ah ai aj ak a5=>gM a5 fun al am an=>
(di h ((C 32 [snap a a4,snap a (iA 1),snap a a3]).bind fun q=>some [q,q]) (some [bA false,ud])).bind fun a6=>gM a6 fun a7 ao ap=>
(call 31 [a7,iA 530] a lo).bind fun d=>cf d.1 (fun r=>
aZ .add 3 false true pf (iA 1) fun s=>
jF L d.2 fun a8=>bif bif Nat.beq (List.length d.2) L then true else aP L [(14,s),(0,b),(13,qP)] [0,13,14] then aH (cx C) call rg n 23 lo 0 L kx kg kr kp m (St.mk [(0,b),(13,qP),(14,s)] a8) else none) fun r=>kp r (St.mk [(0,b),(13,qP),(14,pf)] d.2)) (kx 0 (St.mk [(0,b),(13,qP),(14,pf)] H)):=j9
theorem Mw (d zV:A):aH (cx C) call rg n 23 lo 1 L kx kg kr kp (m+1) (St.mk [(0,d),(42,zV)] H) =
aZ .lss 3 false true zV (iA 2) fun h=>aY h (fH d H fun i=>
bZ 62 i 0 H fun t2=>
bZ 31 t2 3 H fun j=>
de 29 j zV H fun k=>
aJ 23 k H fun g=>
dN 23 g H fun l=>aH (cx C) call rg n 23 lo 2 (List.length H) (fun b a=>bif Nat.beq b 4 then
aZ .add 3 false true (lk a 42) (iA 1) fun c=>
jF L (St.H a) fun e=>bif bif Nat.beq (List.length (St.H a)) L then true else aP L ((42,c) :: (64,c) :: St.fr a) [0,42] then aH (cx C) call rg n 23 lo 1 L kx kg kr kp m (St.mk [(0,lk a 0),(42,c)] e) else none else bif Nat.beq b 3 then
aZ .add 3 false true (lk a 42) (iA 1) fun c=>
jF L (St.H a) fun e=>bif bif Nat.beq (List.length (St.H a)) L then true else aP L ((42,c) :: (64,c) :: St.fr a) [0,42] then aH (cx C) call rg n 23 lo 1 L kx kg kr kp m (St.mk [(0,lk a 0),(42,c)] e) else none else kx b (St.mk [(0,lk a 0),(42,lk a 42)] (St.H a))) (fun b a=>kg b (St.mk [(0,lk a 0),(42,lk a 42)] (St.H a))) (fun f=>kr (St.mk [(0,lk f 0),(42,lk f 42)] (St.H f))) (fun b a=>kp b (St.mk [(0,lk a 0),(42,lk a 42)] (St.H a))) n (St.mk [(0,d),(4,zV),(42,zV),(51,g),(52,l),(53,iA 0)] H)) (kx 2 (St.mk [(0,d),(42,zV)] H)):=j9
theorem Mx (a x4 zV b Gm c:A):aH (cx C) call rg n 23 lo 2 L kx kg kr kp (m+1) (St.mk [(0,a),(4,x4),(42,zV),(51,b),(52,Gm),(53,c)] H) =
aZ .lss 3 false false c Gm fun o=>aY o (de 23 b c H fun p=>
aJ 54 p H fun t2=>
eD 54 H fun d=>
bK 54 d.1 (bF d.1 d.2 t2) d.2 lo fun j=>
aJ 54 d.1 j fun q=>
(call 49 [q] j lo).bind fun f=>cf f.1 (fun g=>
(call 48 [a,x4,g] f.2 lo).bind fun h=>cf h.1 (fun i=>
(call 31 [i,iA 530] h.2 lo).bind fun e=>cf e.1 (fun k=>
aZ .add 3 false true c (iA 1) fun l=>
jF L e.2 fun r=>bif bif Nat.beq (List.length e.2) L then true else aP L [(53,l),(0,a),(4,x4),(42,zV),(51,b),(52,Gm)] [0,4,42,51,52,53] then aH (cx C) call rg n 23 lo 2 L kx kg kr kp m (St.mk [(0,a),(4,x4),(42,zV),(51,b),(52,Gm),(53,l)] r) else none) fun k=>kp k (St.mk [(0,a),(4,x4),(42,zV),(51,b),(52,Gm),(53,c)] e.2)) fun i=>kp i (St.mk [(0,a),(4,x4),(42,zV),(51,b),(52,Gm),(53,c)] h.2)) fun g=>kp g (St.mk [(0,a),(4,x4),(42,zV),(51,b),(52,Gm),(53,c)] f.2)) (kx 4 (St.mk [(0,a),(4,x4),(42,zV),(51,b),(52,Gm),(53,c)] H)):=j9
theorem My (a b c wj:A):aH (cx C) call rg n 23 lo 3 L kx kg kr kp (m+1) (St.mk [(0,a),(69,b),(70,c),(71,wj)] H) =
aZ .lss 3 false false wj c fun t0=>aY t0 (de 22 b wj H fun t1=>
aJ 50 t1 H fun t2=>
eD 50 H fun h=>
bK 50 h.1 (bF h.1 h.2 t2) h.2 lo fun w=>
aJ 50 h.1 w fun t5=>
(call 50 [t5] w lo).bind fun p=>cf p.1 (fun q=>
(call 48 [a,iA 0,q] p.2 lo).bind fun i=>cf i.1 (fun d=>
ss d false (some a) (some (ud)) fun x=>
ss d false (aJ 50 h.1 i.2 fun r=>some r) (some (ud)) fun r=>qC d false ((call 50 [r] i.2 lo).bind fun f=>cf f.1 (fun g=>qC d false ((call 48 [x,iA 1,g] f.2 lo).bind fun s=>cf s.1 (fun t=>
(di d (some (bA true)) (some t)).bind fun a5=>
(call 31 [a5,iA 530] s.2 lo).bind fun l=>cf l.1 (fun y=>
aZ .add 3 false true wj (iA 1) fun z=>
jF L l.2 fun a6=>bif bif Nat.beq (List.length l.2) L then true else aP L [(71,z),(0,a),(69,b),(70,c)] [0,69,70,71] then aH (cx C) call rg n 23 lo 3 L kx kg kr kp m (St.mk [(0,a),(69,b),(70,c),(71,z)] a6) else none) fun y=>kp y (St.mk [(0,a),(69,b),(70,c),(71,wj)] l.2)) fun t=>kp t (St.mk [(0,a),(69,b),(70,c),(71,wj)] s.2)) ((di d (some (bA true)) (some (ud))).bind fun u=>
(call 31 [u,iA 530] f.2 lo).bind fun e=>cf e.1 (fun j=>
aZ .add 3 false true wj (iA 1) fun k=>
jF L e.2 fun v=>bif bif Nat.beq (List.length e.2) L then true else aP L [(71,k),(0,a),(69,b),(70,c)] [0,69,70,71] then aH (cx C) call rg n 23 lo 3 L kx kg kr kp m (St.mk [(0,a),(69,b),(70,c),(71,k)] v) else none) fun j=>kp j (St.mk [(0,a),(69,b),(70,c),(71,wj)] e.2))) fun g=>kp g (St.mk [(0,a),(69,b),(70,c),(71,wj)] f.2)) (qC d false ((call 48 [x,iA 1,ud] i.2 lo).bind fun f=>cf f.1 (fun g=>
(di d (some (bA true)) (some g)).bind fun u=>
(call 31 [u,iA 530] f.2 lo).bind fun e=>cf e.1 (fun j=>
aZ .add 3 false true wj (iA 1) fun k=>
jF L e.2 fun v=>bif bif Nat.beq (List.length e.2) L then true else aP L [(71,k),(0,a),(69,b),(70,c)] [0,69,70,71] then aH (cx C) call rg n 23 lo 3 L kx kg kr kp m (St.mk [(0,a),(69,b),(70,c),(71,k)] v) else none) fun j=>kp j (St.mk [(0,a),(69,b),(70,c),(71,wj)] e.2)) fun g=>kp g (St.mk [(0,a),(69,b),(70,c),(71,wj)] f.2)) ((di d (some (bA true)) (some (ud))).bind fun a8=>
(call 31 [a8,iA 530] i.2 lo).bind fun o=>cf o.1 (fun a0=>
aZ .add 3 false true wj (iA 1) fun a1=>
jF L o.2 fun aa=>bif bif Nat.beq (List.length o.2) L then true else aP L [(71,a1),(0,a),(69,b),(70,c)] [0,69,70,71] then aH (cx C) call rg n 23 lo 3 L kx kg kr kp m (St.mk [(0,a),(69,b),(70,c),(71,a1)] aa) else none) fun a0=>kp a0 (St.mk [(0,a),(69,b),(70,c),(71,wj)] o.2)))) fun d=>kp d (St.mk [(0,a),(69,b),(70,c),(71,wj)] i.2)) fun q=>kp q (St.mk [(0,a),(69,b),(70,c),(71,wj)] p.2)) (kx 6 (St.mk [(0,a),(69,b),(70,c),(71,wj)] H)):=j9
theorem Mz (f h x3:A):aH (cx C) call rg n 33 lo 0 L kx kg kr kp (m+1) (St.mk [(1,f),(2,h),(3,x3)] H) =
aZ .lss 3 false true x3 (iA 2) fun v=>aY v (bZ 31 f 0 H fun w=>
de 27 w x3 H fun t2=>
aJ 26 t2 H fun x=>
eD 26 H fun c=>
bK 26 c.1 (bF c.1 c.2 x) c.2 lo fun b=>
aJ 26 c.1 b fun y=>
(C 55 [snap b y]).bind fun z=>
(gB prog UnOp.not z).bind fun t8=>
(di t8 (some [bA true,ud,ud,ud,ud]) (bZ 26 c.1 0 b fun j=>
aJ 3 j b fun k=>
aZ .neq 3 false false k x3 fun l=>some [l,l,x3,k,j])).bind fun l9=>fM l9 fun o ae af ag a2=>bE a2 fun ah ai=>
ss o false (bZ 31 f 1 b fun p=>
de 28 p x3 b fun q=>
aJ 3 q b fun a3=>
bZ 26 c.1 3 b fun r=>
aJ 24 r b fun s=>
dN 24 s b fun a4=>some [a4,s,r,a3,q,p,x3]) (some [ud,ud,ud,ud,ud,ud,ud]) fun a5=>fM a5 fun a6 aj ak a7 a8=>gM a8 fun al am a9=>bE a9 fun an ao=>
(di o (some [bA true,ud,ud]) ((C 34 [snap b a7,snap b (iA 1),snap b a6]).bind fun t=>
(gB prog UnOp.not t).bind fun u=>some [u,u,t])).bind fun aa=>gM aa fun ab ap ad=>bE ad fun aq ar=>aY ab (kr (St.mk [(1,f),(2,bA false),(3,x3)] b)) (aH (cx C) call rg n 33 lo 1 (List.length b) (fun d a=>bif Nat.beq d 2 then
aZ .add 3 false true (lk a 3) (iA 1) fun e=>
jF L (St.H a) fun i=>bif bif Nat.beq (List.length (St.H a)) L then true else aP L ((3,e) :: (13,e) :: (12,lk a 3) :: St.fr a) [1,2,3] then aH (cx C) call rg n 33 lo 0 L kx kg kr kp m (St.mk [(1,lk a 1),(2,lk a 2),(3,e)] i) else none else bif Nat.beq d 1 then
aZ .add 3 false true (lk a 3) (iA 1) fun e=>
jF L (St.H a) fun i=>bif bif Nat.beq (List.length (St.H a)) L then true else aP L ((3,e) :: (13,e) :: (12,lk a 3) :: St.fr a) [1,2,3] then aH (cx C) call rg n 33 lo 0 L kx kg kr kp m (St.mk [(1,lk a 1),(2,lk a 2),(3,e)] i) else none else kx d (St.mk [(1,lk a 1),(2,lk a 2),(3,lk a 3)] (St.H a))) (fun d a=>kg d (St.mk [(1,lk a 1),(2,lk a 2),(3,lk a 3)] (St.H a))) (fun g=>kr (St.mk [(1,lk g 1),(2,lk g 2),(3,lk g 3)] (St.H g))) (fun d a=>kp d (St.mk [(1,lk a 1),(2,lk a 2),(3,lk a 3)] (St.H a))) n (St.mk [(1,f),(2,h),(3,x3),(4,c.1),(6,iA 0)] b))) (kx 0 (St.mk [(1,f),(2,h),(3,x3)] H)):=j9
theorem MA (a b x3 x4 x6:A):aH (cx C) call rg n 33 lo 1 L kx kg kr kp (m+1) (St.mk [(1,a),(2,b),(3,x3),(4,x4),(6,x6)] H) =
bZ 31 a 3 H fun d=>
de 29 d x3 H fun e=>
aJ 23 e H fun t2=>
dN 23 t2 H fun f=>
aZ .lss 3 false false x6 f fun g=>aY g (aJ 26 x4 H fun h=>
bZ 31 a 1 H fun i=>
de 28 i x3 H fun j=>
aJ 3 j H fun k=>
bZ 31 a 3 H fun l=>
de 29 l x3 H fun o=>
aJ 23 o H fun p=>
de 23 p x6 H fun q=>
aJ 54 q H fun r=>
(C 36 [snap H h,snap H k,snap H r]).bind fun s=>
(gB prog UnOp.not s).bind fun t=>aY t (kr (St.mk [(1,a),(2,bA false),(3,x3),(4,x4),(6,x6)] H)) (aZ .add 3 false true x6 (iA 1) fun c=>
jF L H fun u=>bif bif Nat.beq (List.length H) L then true else aP L [(6,c),(1,a),(2,b),(3,x3),(4,x4)] [1,2,3,4,6] then aH (cx C) call rg n 33 lo 1 L kx kg kr kp m (St.mk [(1,a),(2,b),(3,x3),(4,x4),(6,c)] u) else none)) (kx 2 (St.mk [(1,a),(2,b),(3,x3),(4,x4),(6,x6)] H)):=j9
theorem MB (a b x7:A):aH (cx C) call rg n 33 lo 2 L kx kg kr kp (m+1) (St.mk [(1,a),(2,b),(7,x7)] H) =
fl 31 a 2 22 H fun f=>
dN 22 f H fun t2=>
aZ .lss 3 false false x7 t2 fun g=>aY g (bZ 31 a 0 H fun h=>
de 27 h (iA 0) H fun i=>
aJ 26 i H fun j=>
bZ 31 a 1 H fun k=>
de 28 k (iA 0) H fun l=>
aJ 3 l H fun o=>
fl 31 a 2 22 H fun p=>
de 22 p x7 H fun q=>
aJ 50 q H fun r=>
(C 35 [snap H j,snap H o,snap H r]).bind fun s=>
bZ 31 a 0 H fun t=>
de 27 t (iA 1) H fun u=>
aJ 26 u H fun v=>
bZ 31 a 1 H fun w=>
de 28 w (iA 1) H fun x=>
aJ 3 x H fun y=>
fl 31 a 2 22 H fun z=>
de 22 z x7 H fun a0=>
aJ 50 a0 H fun a1=>
(C 35 [snap H v,snap H y,snap H a1]).bind fun c=>
(gB prog UnOp.not s).bind fun a2=>
(di a2 ((gB prog UnOp.not c).bind fun d=>some [d,d,c]) (some [bA false,ud,ud])).bind fun a3=>gM a3 fun a4 a7 a5=>bE a5 fun a8 a9=>aY a4 (kr (St.mk [(1,a),(2,bA false),(7,x7)] H)) (aZ .add 3 false true x7 (iA 1) fun e=>
jF L H fun a6=>bif bif Nat.beq (List.length H) L then true else aP L [(7,e),(1,a),(2,b)] [1,2,7] then aH (cx C) call rg n 33 lo 2 L kx kg kr kp m (St.mk [(1,a),(2,b),(7,e)] a6) else none)) (kx 4 (St.mk [(1,a),(2,b),(7,x7)] H)):=j9
theorem MC (a x3 x5 x6 x7:A):aH (cx C) call rg n 35 lo 0 L kx kg kr kp (m+1) (St.mk [(1,a),(3,x3),(5,x5),(6,x6),(7,x7)] H) =
fl 26 x3 1 22 H fun g=>
dN 22 g H fun t2=>
aZ .lss 3 false false x7 t2 fun h=>aY h (fl 26 x3 1 22 H fun i=>
de 22 i x7 H fun j=>
aJ 50 j H fun k=>
aJ 50 x5 H fun l=>
aZ .eql 50 false false k l fun b=>
ss b true (bZ 26 x3 3 H fun c=>
aJ 24 c H fun d=>
(C 56 [snap H d,snap H (bA true),snap H x7]).bind fun o=>some [a,o,x7,d,c]) (some [ud,ud,ud,ud,ud]) fun p=>fM p fun q r w x s=>bE s fun y z=>
(di b (aZ .lss 3 false false r q fun e=>some [e,e]) (some [bA false,ud])).bind fun t=>gM t fun u a0 a1=>aY u (kr (St.mk [(1,a),(3,x3),(5,x5),(6,bA true),(7,x7)] H)) (aZ .add 3 false true x7 (iA 1) fun f=>
jF L H fun v=>bif bif Nat.beq (List.length H) L then true else aP L [(7,f),(1,a),(3,x3),(5,x5),(6,x6)] [1,3,5,6,7] then aH (cx C) call rg n 35 lo 0 L kx kg kr kp m (St.mk [(1,a),(3,x3),(5,x5),(6,x6),(7,f)] v) else none)) (kx 0 (St.mk [(1,a),(3,x3),(5,x5),(6,x6),(7,x7)] H)):=j9
theorem MD (a x3 x5 x6 x7:A):aH (cx C) call rg n 36 lo 0 L kx kg kr kp (m+1) (St.mk [(1,a),(3,x3),(5,x5),(6,x6),(7,x7)] H) =
fl 26 x3 2 23 H fun g=>
dN 23 g H fun t2=>
aZ .lss 3 false false x7 t2 fun h=>aY h (fl 26 x3 2 23 H fun i=>
de 23 i x7 H fun j=>
aJ 54 j H fun k=>
aJ 54 x5 H fun l=>
aZ .eql 54 false false k l fun b=>
ss b true (bZ 26 x3 3 H fun c=>
aJ 24 c H fun d=>
(C 56 [snap H d,snap H (bA false),snap H x7]).bind fun o=>some [a,o,x7,d,c]) (some [ud,ud,ud,ud,ud]) fun p=>fM p fun q r w x s=>bE s fun y z=>
(di b (aZ .lss 3 false false r q fun e=>some [e,e]) (some [bA false,ud])).bind fun t=>gM t fun u a0 a1=>aY u (kr (St.mk [(1,a),(3,x3),(5,x5),(6,bA true),(7,x7)] H)) (aZ .add 3 false true x7 (iA 1) fun f=>
jF L H fun v=>bif bif Nat.beq (List.length H) L then true else aP L [(7,f),(1,a),(3,x3),(5,x5),(6,x6)] [1,3,5,6,7] then aH (cx C) call rg n 36 lo 0 L kx kg kr kp m (St.mk [(1,a),(3,x3),(5,x5),(6,x6),(7,f)] v) else none)) (kx 0 (St.mk [(1,a),(3,x3),(5,x5),(6,x6),(7,x7)] H)):=j9
theorem ME (a x3 x6 c d e:A):aH (cx C) call rg n 45 lo 0 L kx kg kr kp (m+1) (St.mk [(2,a),(3,x3),(6,x6),(23,c),(24,d),(25,e)] H) =
aZ .lss 3 false false e d fun i=>aY i (de 100 c e H fun j=>
aJ 102 j H fun t2=>
eD 102 H fun f=>
bK 102 f.1 (bF f.1 f.2 t2) f.2 lo fun b=>
fl 102 f.1 0 3 b fun k=>
aZ .neq 3 false true k (iA 1) fun l=>aY l (aJ 76 a b fun o=>
bK 76 a (bF a b o) b lo fun p=>kr (St.mk [(2,a),(3,bA false),(6,x6),(23,c),(24,d),(25,e)] p)) (fl 102 f.1 1 3 b fun q=>
(aF prog 105 1 [(0,cC b q)]).bind fun r=>
(bp prog 105 105 false x6 r b lo).bind fun g=>
aZ .add 3 false true e (iA 1) fun h=>
jF L g.2 fun s=>bif bif Nat.beq (List.length g.2) L then true else aP L [(25,h),(6,g.1),(2,a),(3,x3),(23,c),(24,d)] [2,3,6,23,24,25] then aH (cx C) call rg n 45 lo 0 L kx kg kr kp m (St.mk [(2,a),(3,x3),(6,g.1),(23,c),(24,d),(25,h)] s) else none)) (kx 0 (St.mk [(2,a),(3,x3),(6,x6),(23,c),(24,d),(25,e)] H)):=j9
theorem MF (a x3 x9 Bo Bp:A):aH (cx C) call rg n 47 lo 0 L kx kg kr kp (m+1) (St.mk [(2,a),(3,x3),(9,x9),(10,Bo),(11,Bp)] H) =
aZ .lss 3 false false Bp Bo fun f=>aY f (de 105 x9 Bp H fun g=>
aJ 3 g H fun t2=>
fl 102 x3 3 100 H fun h=>
eE 102 [(0,iA 1),(1,t2)] fun i=>
(aF prog 100 1 [(0,cC H i)]).bind fun j=>
(bp prog 100 100 false h j H lo).bind fun b=>
bZ 102 x3 3 b.2 fun c=>
bK 100 c (bF c b.2 b.1) b.2 lo fun d=>
aZ .add 3 false true Bp (iA 1) fun e=>
jF L d fun k=>bif bif Nat.beq (List.length d) L then true else aP L [(11,e),(2,a),(3,x3),(9,x9),(10,Bo)] [2,3,9,10,11] then aH (cx C) call rg n 47 lo 0 L kx kg kr kp m (St.mk [(2,a),(3,x3),(9,x9),(10,Bo),(11,e)] k) else none) (kx 0 (St.mk [(2,a),(3,x3),(9,x9),(10,Bo),(11,Bp)] H)):=j9
theorem MG (a b x3 x4:A):aH (cx C) call rg n 55 lo 0 L kx kg kr kp (m+1) (St.mk [(1,a),(2,b),(3,x3),(4,x4)] H) =
fl 26 a 1 22 H fun e=>
dN 22 e H fun t2=>
aZ .lss 3 false false x4 t2 fun f=>aY f (fl 26 a 1 22 H fun g=>
de 22 g x4 H fun h=>
aJ 50 h H fun i=>
(C 73 [snap H i,snap H x4,snap H x3]).bind fun j=>
(gB prog UnOp.not j).bind fun k=>aY k (kr (St.mk [(1,a),(2,bA false),(3,x3),(4,x4)] H)) (fl 26 a 1 22 H fun l=>
de 22 l x4 H fun o=>
fl 50 o 2 3 H fun c=>
aZ .add 3 false true x4 (iA 1) fun d=>
jF L H fun p=>bif bif Nat.beq (List.length H) L then true else aP L [(4,d),(3,c),(1,a),(2,b)] [1,2,3,4] then aH (cx C) call rg n 55 lo 0 L kx kg kr kp m (St.mk [(1,a),(2,b),(3,c),(4,d)] p) else none)) (kx 0 (St.mk [(1,a),(2,b),(3,x3),(4,x4)] H)):=j9
theorem MH (b d x5:A):aH (cx C) call rg n 55 lo 1 L kx kg kr kp (m+1) (St.mk [(1,b),(2,d),(5,x5)] H) =
fl 26 b 2 23 H fun t1=>
dN 23 t1 H fun t2=>
aZ .lss 3 false false x5 t2 fun t3=>aY t3 (fl 26 b 2 23 H fun t5=>
de 23 t5 x5 H fun t6=>
aJ 54 t6 H fun t7=>
eD 54 H fun c=>
bK 54 c.1 (bF c.1 c.2 t7) c.2 lo fun a=>
aZ .gtr 3 false true x5 (iA 0) fun f=>
ss f true (bZ 54 c.1 0 a fun g=>
aJ 3 g a fun a5=>
bZ 26 b 2 a fun h=>
aJ 23 h a fun i=>
aZ .sub 3 false true x5 (iA 1) fun j=>
de 23 i j a fun k=>
bZ 54 k 0 a fun l=>
aJ 3 l a fun a6=>some [a6,l,k,j,x5,i,h,a5,g]) (some [ud,ud,ud,ud,ud,ud,ud,ud,ud]) fun a7=>u1 a7 fun a8 b1 b2 b3 b4 b5 b6 a9 aa=>bE aa fun b7 b8=>
(di f (aZ .leq 3 false false a9 a8 fun o=>some [o,o]) (some [bA false,ud])).bind fun ab=>gM ab fun ad b9 ba=>
(di ad (some [bA true,ud,ud,ud,ud]) (bZ 54 c.1 1 a fun p=>
aJ 3 p a fun q=>
(C 34 [snap a q,snap a (iA 1),snap a (iA 8)]).bind fun r=>
(gB prog UnOp.not r).bind fun s=>some [s,s,r,q,p])).bind fun ae=>fM ae fun af bb bc bd ag=>bE ag fun be bf=>aY af (kr (St.mk [(1,b),(2,bA false),(5,x5)] a)) (fl 26 b 1 22 a fun ah=>
fl 54 c.1 0 3 a fun ai=>
(C 74 [snap a ah,snap a ai]).bind fun e=>
aZ .lss 3 false true e (iA 0) fun aj=>aY aj (kr (St.mk [(1,b),(2,bA false),(5,x5)] a)) (fl 26 b 1 22 a fun ak=>
de 22 ak e a fun al=>
fl 50 al 1 3 a fun am=>
fl 26 b 0 3 a fun an=>
aZ .neq 3 false false am an fun t=>
ss t false (bZ 26 b 3 a fun u=>
aJ 24 u a fun v=>
(C 56 [snap a v,snap a (bA true),snap a e]).bind fun ao=>
bZ 26 b 3 a fun w=>
aJ 24 w a fun ap=>some [x5,ap,w,ao,e,v,u]) (some [ud,ud,ud,ud,ud,ud,ud]) fun aq=>fM aq fun ar au bg DJ av=>gM av fun bh bi aw=>bE aw fun bj bk=>
(di t (some [bA true,ud,ud]) ((C 56 [snap a au,snap a (bA false),snap a ar]).bind fun x=>
aZ .gtr 3 false false DJ x fun y=>some [y,y,x])).bind fun ax=>gM ax fun ay bl az=>bE az fun bm bn=>aY ay (kr (St.mk [(1,b),(2,bA false),(5,x5)] a)) (aZ .add 3 false true x5 (iA 1) fun z=>
jF L a fun b0=>bif bif Nat.beq (List.length a) L then true else aP L [(5,z),(1,b),(2,d)] [1,2,5] then aH (cx C) call rg n 55 lo 1 L kx kg kr kp m (St.mk [(1,b),(2,d),(5,z)] b0) else none)))) (kx 2 (St.mk [(1,b),(2,d),(5,x5)] H)):=j9
theorem MI (a b c x6 x7 x8:A):aH (cx C) call rg n 56 lo 0 L kx kg kr kp (m+1) (St.mk [(0,a),(1,b),(2,c),(6,x6),(7,x7),(8,x8)] H) =
dN 24 a H fun g=>
aZ .lss 3 false false x8 g fun h=>aY h (de 24 a x8 H fun t2=>
aJ 4 t2 H fun i=>
aZ .eql 4 false false i b fun j=>aY j (aZ .eql 3 false false x7 c fun d=>aY d (kr (St.mk [(0,a),(1,b),(2,c),(6,x8),(7,x7),(8,x8)] H)) (aZ .add 3 false true x7 (iA 1) fun e=>
aZ .add 3 false true x8 (iA 1) fun f=>
jF L H fun k=>bif bif Nat.beq (List.length H) L then true else aP L [(8,f),(7,e),(0,a),(1,b),(2,c),(6,x6)] [0,1,2,6,7,8] then aH (cx C) call rg n 56 lo 0 L kx kg kr kp m (St.mk [(0,a),(1,b),(2,c),(6,x6),(7,e),(8,f)] k) else none)) (aZ .add 3 false true x8 (iA 1) fun d=>
jF L H fun l=>bif bif Nat.beq (List.length H) L then true else aP L [(8,d),(0,a),(1,b),(2,c),(6,x6),(7,x7)] [0,1,2,6,7,8] then aH (cx C) call rg n 56 lo 0 L kx kg kr kp m (St.mk [(0,a),(1,b),(2,c),(6,x6),(7,x7),(8,d)] l) else none)) (kx 0 (St.mk [(0,a),(1,b),(2,c),(6,x6),(7,x7),(8,x8)] H)):=j9
theorem MJ (b x4 x5 x6 x7:A):aH (cx C) call rg n 60 lo 0 L kx kg kr kp (m+1) (St.mk [(1,b),(4,x4),(5,x5),(6,x6),(7,x7)] H) =
dN 56 b H fun z=>
aZ .lss 3 false false x7 z fun t1=>aY t1 (de 56 b x7 H fun t2=>
aJ 78 t2 H fun t3=>
(C 78 [snap H t3]).bind fun a=>
dN 105 a H fun t5=>
aZ .eql 3 false true t5 (iA 4) fun t6=>
(di t6 (de 105 a (iA 0) H fun s=>
aJ 3 s H fun t=>
aZ .eql 3 false true t (iA 1) fun u=>some [u,u,t,s,a]) (some [bA false,ud,ud,ud,ud])).bind fun l7=>fM l7 fun u8 u9 ao ap a6=>bE a6 fun aq ar=>aY u8 (fl 26 x6 1 22 H fun k=>
de 105 a (iA 1) H fun e=>
aJ 3 e H fun f=>
de 105 a (iA 2) H fun g=>
aJ 3 g H fun a7=>
de 105 a (iA 3) H fun a8=>
aJ 3 a8 H fun a9=>
eE 50 [(0,f),(1,a7),(2,a9)] fun l=>
(aF prog 22 1 [(0,cC H l)]).bind fun o=>
(bp prog 22 22 false k o H lo).bind fun h=>
bZ 26 x6 1 h.2 fun i=>
bK 22 i (bF i h.2 h.1) h.2 lo fun p=>
fl 26 x6 3 24 p fun q=>
(aF prog 24 1 [(0,cC p (bA true))]).bind fun r=>
(bp prog 24 24 false q r p lo).bind fun sI=>
bZ 26 x6 3 sI.2 fun d=>
bK 24 d (bF d sI.2 sI.1) sI.2 lo fun c=>
aZ .add 3 false true x7 (iA 1) fun v=>
jF L c fun aa=>bif bif Nat.beq (List.length c) L then true else aP L [(7,v),(1,b),(4,x4),(5,x5),(6,x6)] [1,4,5,6,7] then aH (cx C) call rg n 60 lo 0 L kx kg kr kp m (St.mk [(1,b),(4,x4),(5,x5),(6,x6),(7,v)] aa) else none) (dN 105 a H fun ab=>
aZ .eql 3 false true ab (iA 3) fun k=>
(di k (de 105 a (iA 0) H fun e=>
aJ 3 e H fun f=>
aZ .eql 3 false true f (iA 2) fun g=>some [g,g,f,e,a]) (some [bA false,ud,ud,ud,ud])).bind fun ad=>fM ad fun ae au av aw af=>bE af fun ax ay=>aY ae (fl 26 x6 2 23 H fun o=>
de 105 a (iA 1) H fun ag=>
aJ 3 ag H fun i=>
de 105 a (iA 2) H fun ah=>
aJ 3 ah H fun ai=>
eE 54 [(0,i),(1,ai)] fun q=>
(aF prog 23 1 [(0,cC H q)]).bind fun r=>
(bp prog 23 23 false o r H lo).bind fun sI=>
bZ 26 x6 2 sI.2 fun d=>
bK 23 d (bF d sI.2 sI.1) sI.2 lo fun c=>
fl 26 x6 3 24 c fun aj=>
(aF prog 24 1 [(0,cC c (bA false))]).bind fun ak=>
(bp prog 24 24 false aj ak c lo).bind fun j=>
bZ 26 x6 3 j.2 fun w=>
bK 24 w (bF w j.2 j.1) j.2 lo fun x=>
aZ .add 3 false true x7 (iA 1) fun y=>
jF L x fun al=>bif bif Nat.beq (List.length x) L then true else aP L [(7,y),(1,b),(4,x4),(5,x5),(6,x6)] [1,4,5,6,7] then aH (cx C) call rg n 60 lo 0 L kx kg kr kp m (St.mk [(1,b),(4,x4),(5,x5),(6,x6),(7,y)] al) else none) (eE 26 [] fun l=>
bK 26 x4 (bF x4 H l) H lo fun am=>kr (St.mk [(1,b),(4,x4),(5,iA 530),(6,x6),(7,x7)] am)))) (kx 0 (St.mk [(1,b),(4,x4),(5,x5),(6,x6),(7,x7)] H)):=j9
theorem MK (d f x3 x4 x5 x6:A):aH (cx C) call rg n 61 lo 0 L kx kg kr kp (m+1) (St.mk [(1,d),(2,f),(3,x3),(4,x4),(5,x5),(6,x6)] H) =
fl 26 d 3 24 H fun y=>
dN 24 y H fun t2=>
aZ .lss 3 false false x6 t2 fun z=>aY z (eE 102 [] fun t4=>
eD 102 H fun e=>
bK 102 e.1 (bF e.1 e.2 t4) e.2 lo fun c=>
fl 26 d 3 24 c fun t8=>
de 24 t8 x6 c fun t9=>
aJ 4 t9 c fun a3=>aY a3 (fl 26 d 1 22 c fun o=>
de 22 o x4 c fun p=>
aJ 50 p c fun q=>
eD 50 c fun b=>
bK 50 b.1 (bF b.1 b.2 q) b.2 lo fun a=>
fl 50 b.1 0 3 a fun r=>
fl 50 b.1 1 3 a fun s=>
fl 50 b.1 2 3 a fun t=>
(aF prog 105 4 [(0,cC a (iA 1)),(1,cC a r),(2,cC a s),(3,cC a t)]).bind fun a4=>
(C 79 [snap a a4]).bind fun h=>
bK 102 e.1 (bF e.1 a h) a lo fun i=>
aZ .add 3 false true x4 (iA 1) fun g=>
aJ 102 e.1 i fun u=>
(C 80 [snap i u]).bind fun v=>
dP v 0 fun w=>
dP v 1 fun a9=>
(aF prog 56 1 [(0,cC i w)]).bind fun j=>
(bp prog 56 56 false x3 j i lo).bind fun k=>
aZ .add 3 false true x6 (iA 1) fun x=>
jF L k.2 fun a5=>bif bif Nat.beq (List.length k.2) L then true else aP L [(6,x),(3,k.1),(4,g),(1,d),(2,f),(5,x5)] [1,2,3,4,5,6] then aH (cx C) call rg n 61 lo 0 L kx kg kr kp m (St.mk [(1,d),(2,f),(3,k.1),(4,g),(5,x5),(6,x)] a5) else none) (fl 26 d 2 23 c fun o=>
de 23 o x5 c fun p=>
aJ 54 p c fun q=>
eD 54 c fun b=>
bK 54 b.1 (bF b.1 b.2 q) b.2 lo fun a=>
fl 54 b.1 0 3 a fun r=>
fl 54 b.1 1 3 a fun s=>
(aF prog 105 3 [(0,cC a (iA 2)),(1,cC a r),(2,cC a s)]).bind fun a6=>
(C 79 [snap a a6]).bind fun t=>
bK 102 e.1 (bF e.1 a t) a lo fun l=>
aZ .add 3 false true x5 (iA 1) fun h=>
aJ 102 e.1 l fun a7=>
(C 80 [snap l a7]).bind fun g=>
dP g 0 fun u=>
dP g 1 fun v=>
(aF prog 56 1 [(0,cC l u)]).bind fun w=>
(bp prog 56 56 false x3 w l lo).bind fun DH=>
aZ .add 3 false true x6 (iA 1) fun j=>
jF L DH.2 fun a8=>bif bif Nat.beq (List.length DH.2) L then true else aP L [(6,j),(3,DH.1),(5,h),(1,d),(2,f),(4,x4)] [1,2,3,4,5,6] then aH (cx C) call rg n 61 lo 0 L kx kg kr kp m (St.mk [(1,d),(2,f),(3,DH.1),(4,x4),(5,h),(6,j)] a8) else none)) (kx 0 (St.mk [(1,d),(2,f),(3,x3),(4,x4),(5,x5),(6,x6)] H)):=j9
theorem BO (b x3 x4 qP pf Aa:A):aH (cx C) call rg n 66 lo 0 L kx kg kr kp (m+1) (St.mk [(0,b),(3,x3),(4,x4),(13,qP),(14,pf),(15,Aa)] H) =
aZ .lss 3 false false Aa pf fun v=>aY v (de 24 qP Aa H fun w=>
aJ 4 w H fun t2=>
eE 76 [(0,t2)] fun x=>
eD 76 H fun c=>
bK 76 c.1 (bF c.1 c.2 x) c.2 lo fun a=>
(di t2 (dN 22 x3 a fun q=>
aZ .gtr 3 false true q (iA 0) fun r=>some [r,r,q,x3]) (some [bA false,ud,ud,ud])).bind fun y=>fM y fun z u8 u9 aa ab=>aY z (de 22 x3 (iA 0) a fun i=>
aJ 50 i a fun h=>
(eI prog 22 x3 (some (iA 1)) none none a).bind fun d=>
bZ 76 c.1 1 a fun j=>bif bif apart x3 j then true else false then
bK 50 j (bF j a h) a lo fun s=>
aJ 76 c.1 s fun a0=>dJ (cx C) call b [Aa,a0] s lo (fun k f=>
(gB prog UnOp.not k).bind fun l=>aY l (kr (St.mk [(0,b),(3,d),(4,x4),(13,qP),(14,pf),(15,Aa)] f)) (aZ .add 3 false true Aa (iA 1) fun e=>
jF L f fun a1=>bif bif Nat.beq (List.length f) L then true else aP L [(15,e),(3,d),(0,b),(4,x4),(13,qP),(14,pf)] [0,3,4,13,14,15] then aH (cx C) call rg n 66 lo 0 L kx kg kr kp m (St.mk [(0,b),(3,d),(4,x4),(13,qP),(14,pf),(15,e)] a1) else none)) fun k f=>kp k (St.mk [(0,b),(3,d),(4,x4),(13,qP),(14,pf),(15,Aa)] f) else none) ((gB prog UnOp.not t2).bind fun i=>
(di i (dN 23 x4 a fun h=>
aZ .gtr 3 false true h (iA 0) fun d=>some [d,d,h,x4]) (some [bA false,ud,ud,ud])).bind fun a2=>fM a2 fun a3 ad ae af ag=>aY a3 (de 23 x4 (iA 0) a fun a4=>
aJ 54 a4 a fun l=>
(eI prog 23 x4 (some (iA 1)) none none a).bind fun e=>
bZ 76 c.1 2 a fun o=>bif bif apart x4 o then true else false then
bK 54 o (bF o a l) a lo fun t=>
aJ 76 c.1 t fun a5=>dJ (cx C) call b [Aa,a5] t lo (fun p g=>
(gB prog UnOp.not p).bind fun a6=>aY a6 (kr (St.mk [(0,b),(3,x3),(4,e),(13,qP),(14,pf),(15,Aa)] g)) (aZ .add 3 false true Aa (iA 1) fun u=>
jF L g fun a7=>bif bif Nat.beq (List.length g) L then true else aP L [(15,u),(4,e),(0,b),(3,x3),(13,qP),(14,pf)] [0,3,4,13,14,15] then aH (cx C) call rg n 66 lo 0 L kx kg kr kp m (St.mk [(0,b),(3,x3),(4,e),(13,qP),(14,pf),(15,u)] a7) else none)) fun p g=>kp p (St.mk [(0,b),(3,x3),(4,e),(13,qP),(14,pf),(15,Aa)] g) else none) (kr (St.mk [(0,b),(3,x3),(4,x4),(13,qP),(14,pf),(15,Aa)] a)))) (kx 0 (St.mk [(0,b),(3,x3),(4,x4),(13,qP),(14,pf),(15,Aa)] H)):=j9
theorem ML (a b x3 x4:A):aH (cx C) call rg n 72 lo 0 L kx kg kr kp (m+1) (St.mk [(0,a),(2,b),(3,x3),(4,x4)] H) =
dN 24 a H fun e=>
aZ .lss 3 false false x4 e fun f=>aY f (de 24 a x4 H fun t2=>
aJ 4 t2 H fun g=>aY g (aZ .add 3 false true x3 (iA 1) fun c=>
aZ .add 3 false true x4 (iA 1) fun d=>
jF L H fun h=>bif bif Nat.beq (List.length H) L then true else aP L [(4,d),(3,c),(0,a),(2,b)] [0,2,3,4] then aH (cx C) call rg n 72 lo 0 L kx kg kr kp m (St.mk [(0,a),(2,b),(3,c),(4,d)] h) else none) (aZ .add 3 false true x4 (iA 1) fun c=>
jF L H fun i=>bif bif Nat.beq (List.length H) L then true else aP L [(4,c),(0,a),(2,b),(3,x3)] [0,2,3,4] then aH (cx C) call rg n 72 lo 0 L kx kg kr kp m (St.mk [(0,a),(2,b),(3,x3),(4,c)] i) else none)) (kx 0 (St.mk [(0,a),(2,b),(3,x3),(4,x4)] H)):=j9
theorem MM (b a x4 x5:A):aH (cx C) call rg n 74 lo 0 L kx kg kr kp (m+1) (St.mk [(0,b),(1,a),(4,x4),(5,x5)] H) =
dN 22 b H fun d=>
aZ .lss 3 false false x5 d fun e=>
(di e (aZ .geq 3 false true a (iA 0) fun t2=>some [t2,t2,a]) (some [bA false,ud,ud])).bind fun f=>gM f fun g u4 h=>bE h fun o p=>aY g (de 22 b x5 H fun i=>
fl 50 i 2 3 H fun j=>
aZ .lss 3 false false a j fun k=>aY k (kr (St.mk [(0,b),(1,a),(4,x5),(5,x5)] H)) (aZ .add 3 false true x5 (iA 1) fun c=>
jF L H fun l=>bif bif Nat.beq (List.length H) L then true else aP L [(5,c),(0,b),(1,a),(4,x4)] [0,1,4,5] then aH (cx C) call rg n 74 lo 0 L kx kg kr kp m (St.mk [(0,b),(1,a),(4,x4),(5,c)] l) else none)) (kx 0 (St.mk [(0,b),(1,a),(4,x4),(5,x5)] H)):=j9
theorem MN (a x3 x4 x5:A):aH (cx C) call rg n 77 lo 0 L kx kg kr kp (m+1) (St.mk [(0,a),(3,x3),(4,x4),(5,x5)] H) =
dN 22 a H fun c=>
aZ .lss 3 false false x5 c fun d=>aY d (de 22 a x5 H fun t2=>
aJ 50 t2 H fun e=>
aJ 50 x3 H fun f=>
aZ .eql 50 false false e f fun g=>aY g (kr (St.mk [(0,a),(3,x3),(4,bA true),(5,x5)] H)) (aZ .add 3 false true x5 (iA 1) fun b=>
jF L H fun h=>bif bif Nat.beq (List.length H) L then true else aP L [(5,b),(0,a),(3,x3),(4,x4)] [0,3,4,5] then aH (cx C) call rg n 77 lo 0 L kx kg kr kp m (St.mk [(0,a),(3,x3),(4,x4),(5,b)] h) else none)) (kx 0 (St.mk [(0,a),(3,x3),(4,x4),(5,x5)] H)):=j9
theorem MO (a x3 x5 x6:A):aH (cx C) call rg n 78 lo 0 L kx kg kr kp (m+1) (St.mk [(2,a),(3,x3),(5,x5),(6,x6)] H) =
fl 102 x3 3 100 H fun d=>
dN 100 d H fun t2=>
aZ .lss 3 false false x6 t2 fun e=>aY e (fl 102 x3 3 100 H fun f=>
de 100 f x6 H fun g=>
fl 102 g 0 3 H fun h=>
aZ .neq 3 false true h (iA 1) fun i=>aY i (kr (St.mk [(2,A.imm [] true),(3,x3),(5,x5),(6,x6)] H)) (fl 102 x3 3 100 H fun j=>
de 100 j x6 H fun k=>
fl 102 k 1 3 H fun l=>
(aF prog 105 1 [(0,cC H l)]).bind fun o=>
(bp prog 105 105 false x5 o H lo).bind fun b=>
aZ .add 3 false true x6 (iA 1) fun c=>
jF L b.2 fun p=>bif bif Nat.beq (List.length b.2) L then true else aP L [(6,c),(5,b.1),(2,a),(3,x3)] [2,3,5,6] then aH (cx C) call rg n 78 lo 0 L kx kg kr kp m (St.mk [(2,a),(3,x3),(5,b.1),(6,c)] p) else none)) (kx 0 (St.mk [(2,a),(3,x3),(5,x5),(6,x6)] H)):=j9
theorem MP (a b x3 x4:A):aH (cx C) call rg n 79 lo 0 L kx kg kr kp (m+1) (St.mk [(0,a),(2,b),(3,x3),(4,x4)] H) =
dN 105 a H fun g=>
aZ .lss 3 false false x4 g fun h=>aY h (fl 102 x3 3 100 H fun i=>
de 105 a x4 H fun j=>
aJ 3 j H fun k=>
(C 90 [snap H k]).bind fun l=>
(aF prog 100 1 [(0,cC H l)]).bind fun o=>
(bp prog 100 100 false i o H lo).bind fun c=>
bZ 102 x3 3 c.2 fun d=>
bK 100 d (bF d c.2 c.1) c.2 lo fun e=>
aZ .add 3 false true x4 (iA 1) fun f=>
jF L e fun p=>bif bif Nat.beq (List.length e) L then true else aP L [(4,f),(0,a),(2,b),(3,x3)] [0,2,3,4] then aH (cx C) call rg n 79 lo 0 L kx kg kr kp m (St.mk [(0,a),(2,b),(3,x3),(4,f)] p) else none) (kx 0 (St.mk [(0,a),(2,b),(3,x3),(4,x4)] H)):=j9
theorem MQ (a b x4 x7 x8:A):aH (cx C) call rg n 81 lo 0 L kx kg kr kp (m+1) (St.mk [(0,a),(1,b),(4,x4),(7,x7),(8,x8)] H) =
aZ .lss 3 false false x8 x7 fun e=>aY e (de 22 a x8 H fun f=>
aJ 50 f H fun t2=>dJ (cx C) call b [t2] H lo (fun c h3=>aY c (kr (St.mk [(0,a),(1,b),(4,x8),(7,x7),(8,x8)] h3)) (aZ .add 3 false true x8 (iA 1) fun d=>
jF L h3 fun g=>bif bif Nat.beq (List.length h3) L then true else aP L [(8,d),(0,a),(1,b),(4,x4),(7,x7)] [0,1,4,7,8] then aH (cx C) call rg n 81 lo 0 L kx kg kr kp m (St.mk [(0,a),(1,b),(4,x4),(7,x7),(8,d)] g) else none)) fun c h3=>kp c (St.mk [(0,a),(1,b),(4,x4),(7,x7),(8,x8)] h3)) (kx 0 (St.mk [(0,a),(1,b),(4,x4),(7,x7),(8,x8)] H)):=j9
theorem MR (a b x4 JU Ld:A):aH (cx C) call rg n 84 lo 0 L kx kg kr kp (m+1) (St.mk [(0,a),(1,b),(4,x4),(36,JU),(37,Ld)] H) =
aZ .lss 3 false false Ld JU fun j=>aY j (bZ 102 x4 3 H fun f=>
aJ 100 f H fun t2=>
aZ .add 3 false true b (iA 1) fun k=>bif bif cN 3 f then bif cN 3 x4 then true else false else false then
(call 84 [a,k] H lo).bind fun c=>cf c.1 (fun e=>
(aF prog 100 1 [(0,cC c.2 e)]).bind fun l=>
(bp prog 100 100 false t2 l c.2 lo).bind fun d=>
bZ 102 x4 3 d.2 fun g=>
bK 100 g (bF g d.2 d.1) d.2 lo fun h=>
aZ .add 3 false true Ld (iA 1) fun i=>
jF L h fun o=>bif bif Nat.beq (List.length h) L then true else aP L [(37,i),(0,a),(1,b),(4,x4),(36,JU)] [0,1,4,36,37] then aH (cx C) call rg n 84 lo 0 L kx kg kr kp m (St.mk [(0,a),(1,b),(4,x4),(36,JU),(37,i)] o) else none) fun e=>kp e (St.mk [(0,A.any),(1,A.any),(4,A.any),(36,A.any),(37,A.any)] c.2) else none) (kx 1 (St.mk [(0,a),(1,b),(4,x4),(36,JU),(37,Ld)] H)):=j9
theorem MS (a x3 x4 x7 x8:A):aH (cx C) call rg n 88 lo 0 L kx kg kr kp (m+1) (St.mk [(0,a),(3,x3),(4,x4),(7,x7),(8,x8)] H) =
aZ .lss 3 false false x8 x7 fun c=>aY c (aJ 50 x3 H fun d=>
de 22 a x8 H fun t2=>
aJ 50 t2 H fun e=>
aZ .eql 50 false false d e fun f=>aY f (kr (St.mk [(0,a),(3,x3),(4,x8),(7,x7),(8,x8)] H)) (aZ .add 3 false true x8 (iA 1) fun b=>
jF L H fun g=>bif bif Nat.beq (List.length H) L then true else aP L [(8,b),(0,a),(3,x3),(4,x4),(7,x7)] [0,3,4,7,8] then aH (cx C) call rg n 88 lo 0 L kx kg kr kp m (St.mk [(0,a),(3,x3),(4,x4),(7,x7),(8,b)] g) else none)) (kx 0 (St.mk [(0,a),(3,x3),(4,x4),(7,x7),(8,x8)] H)):=j9
theorem MT (a b x3 x4:A):aH (cx C) call rg n 92 lo 0 L kx kg kr kp (m+1) (St.mk [(1,a),(2,b),(3,x3),(4,x4)] H) =
fl 102 a 3 100 H fun e=>
dN 100 e H fun t2=>
aZ .lss 3 false false x4 t2 fun f=>aY f (fl 102 a 3 100 H fun g=>
de 100 g x4 H fun h=>
aJ 102 h H fun i=>
(C 92 [snap H i]).bind fun j=>
(bp prog 78 78 false x3 j H lo).bind fun c=>
aZ .add 3 false true x4 (iA 1) fun d=>
jF L c.2 fun k=>bif bif Nat.beq (List.length c.2) L then true else aP L [(4,d),(3,c.1),(1,a),(2,b)] [1,2,3,4] then aH (cx C) call rg n 92 lo 0 L kx kg kr kp m (St.mk [(1,a),(2,b),(3,c.1),(4,d)] k) else none) (kx 1 (St.mk [(1,a),(2,b),(3,x3),(4,x4)] H)):=j9
theorem MU (a d x3:A):aH (cx C) call rg n 95 lo 0 L kx kg kr kp (m+1) (St.mk [(0,a),(2,d),(3,x3)] H) =
(call 93 [a,iA 1] H lo).bind fun H0=>cf H0.1 (fun e=>
de 78 e (iA 0) H0.2 fun t2=>
aJ 5 t2 H0.2 fun b=>
aZ .eql 3 false true x3 (iA 0) fun r=>
(di r (some [bA true,ud,ud]) (aZ .neq 5 false true b (A.v (.int .u8 0)) fun i=>some [i,i,b])).bind fun s=>gM s fun t u7 u=>bE u fun u8 l8=>
(di t (aZ .lss 3 false true x3 (iA 9) fun f=>
(di f (some [bA true,ud,ud]) (aZ .leq 5 false true b (A.v (.int .u8 1)) fun j=>some [j,j,b])).bind fun w=>gM w fun g k x=>bE x fun l o=>some [g,g,k,l,f,f,x3]) (some [bA false,ud,ud,ud,ud,ud,ud])).bind fun y=>fM y fun z g k l o=>gM o fun ab ad a0=>bE a0 fun ae af=>
(call 85 [a,z] H0.2 lo).bind fun c=>cf c.1 (fun p=>
aZ .and 5 false true b (A.v (.int .u8 127)) fun a2=>
(bz prog 5 133 a2 c.2).bind fun a3=>
aZ .mul 3 true false (iA 7) x3 fun a4=>
aZ .shl 133 false false a3 a4 fun a5=>
aZ .or 133 false false d a5 fun h=>
aZ .lss 5 false true b (A.v (.int .u8 128)) fun a6=>aY a6 (kr (St.mk [(0,a),(2,h),(3,x3)] c.2)) (aZ .add 3 false true x3 (iA 1) fun q=>
jF L c.2 fun a7=>bif bif Nat.beq (List.length c.2) L then true else aP L [(3,q),(2,h),(0,a)] [0,2,3] then aH (cx C) call rg n 95 lo 0 L kx kg kr kp m (St.mk [(0,a),(2,h),(3,q)] a7) else none)) fun p=>kp p (St.mk [(0,a),(2,d),(3,x3)] c.2)) fun e=>kp e (St.mk [(0,a),(2,d),(3,x3)] H0.2):=j9
theorem MV (c x3 IE IG IH:A):aH (cx C) call rg n 97 lo 0 L kx kg kr kp (m+1) (St.mk [(2,c),(3,x3),(55,IE),(56,IG),(57,IH)] H) =
aZ .lss 3 false false IH IG fun g=>aY g (de 100 IE IH H fun h=>
aJ 102 h H fun t2=>
eD 102 H fun a=>
bK 102 a.1 (bF a.1 a.2 t2) a.2 lo fun b=>
aJ 102 a.1 b fun i=>
(C 97 [snap b i]).bind fun d=>
dP d 0 fun j=>
dP d 1 fun k=>
(gB prog UnOp.not k).bind fun l=>aY l (kr (St.mk [(2,iA 0),(3,bA false),(55,IE),(56,IG),(57,IH)] b)) ((Jh false c [j]).bind fun e=>
aZ .add 3 false true IH (iA 1) fun f=>
jF L b fun o=>bif bif Nat.beq (List.length b) L then true else aP L [(57,f),(2,e),(3,x3),(55,IE),(56,IG)] [2,3,55,56,57] then aH (cx C) call rg n 97 lo 0 L kx kg kr kp m (St.mk [(2,e),(3,x3),(55,IE),(56,IG),(57,f)] o) else none)) (kx 0 (St.mk [(2,c),(3,x3),(55,IE),(56,IG),(57,IH)] H)):=j9
theorem BP (c a x4:A):aH (cx C) call rg n 99 lo 0 L kx kg kr kp (m+1) (St.mk [(0,c),(1,a),(4,x4)] H) =
aZ .geq 133 false true a (A.v (.int .u64 128)) fun e=>aY e ((bz prog 133 5 a H).bind fun f=>
aZ .or 5 false true f (A.v (.int .u8 128)) fun t2=>
(aF prog 78 1 [(0,cC H t2)]).bind fun g=>
(bp prog 78 78 false c g H lo).bind fun b=>
aZ .shr 133 false true a (A.v (.int .u64 7)) fun d=>
jF L b.2 fun h=>bif bif Nat.beq (List.length b.2) L then true else aP L [(1,d),(0,b.1),(4,x4)] [0,1,4] then aH (cx C) call rg n 99 lo 0 L kx kg kr kp m (St.mk [(0,b.1),(1,d),(4,x4)] h) else none) (kx 0 (St.mk [(0,c),(1,a),(4,x4)] H)):=j9
theorem ET (d b x5 IB IC ID:A):aH (cx C) call rg n 102 lo 0 L kx kg kr kp (m+1) (St.mk [(0,d),(2,b),(5,x5),(17,IB),(18,IC),(19,ID)] H) =
aZ .lss 3 false false ID IC fun h=>aY h (de 100 IB ID H fun i=>
aJ 102 i H fun t2=>
eD 102 H fun c=>
bK 102 c.1 (bF c.1 c.2 t2) c.2 lo fun a=>
aJ 127 b a fun j=>
fl 102 c.1 0 3 a fun k=>
fH j a fun l=>
de 139 l k a fun o=>
fl 126 o 0 124 a fun p=>
aJ 102 c.1 a fun q=>dJ (cx C) call p [d,q] a lo (fun e f=>
aZ .add 3 false true ID (iA 1) fun g=>
jF L f fun r=>bif bif Nat.beq (List.length f) L then true else aP L [(19,g),(0,e),(2,b),(5,x5),(17,IB),(18,IC)] [0,2,5,17,18,19] then aH (cx C) call rg n 102 lo 0 L kx kg kr kp m (St.mk [(0,e),(2,b),(5,x5),(17,IB),(18,IC),(19,g)] r) else none) fun e f=>kp e (St.mk [(0,d),(2,b),(5,x5),(17,IB),(18,IC),(19,ID)] f)) (kx 0 (St.mk [(0,d),(2,b),(5,x5),(17,IB),(18,IC),(19,ID)] H)):=j9
theorem Kk (a b x4 x7 x8 x9:A):aH (cx C) call rg n 103 lo 0 L kx kg kr kp (m+1) (St.mk [(0,a),(1,b),(4,x4),(7,x7),(8,x8),(9,x9)] H) =
aZ .lss 133 false false x9 x7 fun o=>
(di o (fH a H fun f=>
bZ 144 f 2 H fun t2=>
aJ 4 t2 H fun g=>
(gB prog UnOp.not g).bind fun h=>some [h,h,g,t2,f,a]) (some [bA false,ud,ud,ud,ud,ud])).bind fun p=>fM p fun q x u4 y r=>gM r fun z u7 l7=>aY q (bZ 102 x8 3 H fun i=>
aJ 100 i H fun s=>
aZ .add 3 false true b (iA 1) fun t=>bif bif cN 2 i then bif cN 2 x8 then true else false else false then
(call 103 [a,t] H lo).bind fun c=>cf c.1 (fun e=>
(aF prog 100 1 [(0,cC c.2 e)]).bind fun u=>
(bp prog 100 100 false s u c.2 lo).bind fun d=>
bZ 102 x8 3 d.2 fun j=>
bK 100 j (bF j d.2 d.1) d.2 lo fun k=>
aZ .add 133 false true x9 (A.v (.int .u64 1)) fun l=>
jF L k fun w=>bif bif Nat.beq (List.length k) L then true else aP L [(9,l),(0,a),(1,b),(4,x4),(7,x7),(8,x8)] [0,1,4,7,8,9] then aH (cx C) call rg n 103 lo 0 L kx kg kr kp m (St.mk [(0,a),(1,b),(4,x4),(7,x7),(8,x8),(9,l)] w) else none) fun e=>kp e (St.mk [(0,A.any),(1,A.any),(4,A.any),(7,A.any),(8,A.any),(9,A.any)] c.2) else none) (kx 1 (St.mk [(0,a),(1,b),(4,x4),(7,x7),(8,x8),(9,x9)] H)):=j9
theorem Kl (a b x3:A):aH (cx C) call rg n 104 lo 0 L kx kg kr kp (m+1) (St.mk [(1,a),(2,b),(3,x3)] H) =
fl 102 a 3 100 H fun d=>
dN 100 d H fun t2=>
aZ .lss 3 false false x3 t2 fun e=>aY e (fl 102 a 3 100 H fun f=>
de 100 f x3 H fun g=>
aJ 102 g H fun h=>
(C 104 [snap H h]).bind fun i=>
(gB prog UnOp.not i).bind fun j=>aY j (kr (St.mk [(1,a),(2,bA false),(3,x3)] H)) (aZ .add 3 false true x3 (iA 1) fun c=>
jF L H fun k=>bif bif Nat.beq (List.length H) L then true else aP L [(3,c),(1,a),(2,b)] [1,2,3] then aH (cx C) call rg n 104 lo 0 L kx kg kr kp m (St.mk [(1,a),(2,b),(3,c)] k) else none)) (kx 1 (St.mk [(1,a),(2,b),(3,x3)] H)):=j9
theorem Km (a b x3 x4:A):aH (cx C) call rg n 105 lo 0 L kx kg kr kp (m+1) (St.mk [(1,a),(2,b),(3,x3),(4,x4)] H) =
fl 102 a 3 100 H fun e=>
dN 100 e H fun t2=>
aZ .lss 3 false false x4 t2 fun f=>aY f (fl 102 a 3 100 H fun g=>
de 100 g x4 H fun h=>
aJ 102 h H fun i=>
(C 105 [snap H i]).bind fun j=>
(Jh false x3 [j]).bind fun c=>
aZ .add 3 false true x4 (iA 1) fun d=>
jF L H fun k=>bif bif Nat.beq (List.length H) L then true else aP L [(4,d),(3,c),(1,a),(2,b)] [1,2,3,4] then aH (cx C) call rg n 105 lo 0 L kx kg kr kp m (St.mk [(1,a),(2,b),(3,c),(4,d)] k) else none) (kx 0 (St.mk [(1,a),(2,b),(3,x3),(4,x4)] H)):=j9
theorem Ko (a d x3 x4:A):aH (cx C) call rg n 109 lo 0 L kx kg kr kp (m+1) (St.mk [(0,a),(2,d),(3,x3),(4,x4)] H) =
fH a H fun r=>
fl 144 r 2 4 H fun t2=>
(gB prog UnOp.not t2).bind fun s=>aY s ((call 108 [a] H lo).bind fun b=>cf b.1 (fun c=>
aZ .eql 3 false true x4 (iA 9) fun t=>
(di t (aZ .gtr 5 false true c (A.v (.int .u8 1)) fun j=>some [j,j,c]) (some [bA false,ud,ud])).bind fun u=>gM u fun w u9 x=>bE x fun aa ab=>
(di w (some [bA true,ud,ud,ud,ud,ud,ud]) (aZ .gtr 3 false true x4 (iA 0) fun g=>
(di g (aZ .eql 5 false true c (A.v (.int .u8 0)) fun k=>some [k,k,c]) (some [bA false,ud,ud])).bind fun y=>gM y fun h l z=>bE z fun o p=>some [h,h,l,o,g,g,x4])).bind fun a0=>fM a0 fun a1 h l o p=>gM p fun ad ae a2=>bE a2 fun af ag=>aY a1 (fH a b.2 fun i=>
bZ 144 i 2 b.2 fun e=>
bK 4 e (bF e b.2 (bA true)) b.2 lo fun a3=>kr (St.mk [(0,a),(2,A.v (.int .u64 0)),(3,x3),(4,x4)] a3)) (aZ .rem 5 false true c (A.v (.int .u8 128)) fun i=>
(bz prog 5 133 i b.2).bind fun e=>
aZ .mul 3 true false (iA 7) x4 fun a4=>
aZ .shl 133 false false e a4 fun a6=>
aZ .add 133 false false x3 a6 fun f=>
aZ .lss 5 false true c (A.v (.int .u8 128)) fun a7=>aY a7 (kr (St.mk [(0,a),(2,f),(3,f),(4,x4)] b.2)) (aZ .add 3 false true x4 (iA 1) fun q=>
jF L b.2 fun a8=>bif bif Nat.beq (List.length b.2) L then true else aP L [(4,q),(3,f),(0,a),(2,d)] [0,2,3,4] then aH (cx C) call rg n 109 lo 0 L kx kg kr kp m (St.mk [(0,a),(2,d),(3,f),(4,q)] a8) else none))) fun c=>kp c (St.mk [(0,a),(2,d),(3,x3),(4,x4)] b.2)) (kx 0 (St.mk [(0,a),(2,d),(3,x3),(4,x4)] H)):=j9
theorem EU (n lo b lo':Nat) (c x3 x4 y0 g:A) (H:aB):lR (cx C) call rg n 15 lo 0 b [(2,c),(3,x3),(4,x4)] [y0,g] H lo'=bif Nat.ble lo' lo then DI H b (eD 76 H fun a=>
bK 76 a.1 (bF a.1 a.2 g) a.2 lo fun H1=>DI H1 b (fl 76 a.1 0 4 (List.set H1 b (az.rng cX.busy)) fun t3=>
(di t3 (aJ 26 x3 (List.set H1 b (az.rng cX.busy)) fun h=>
bZ 76 a.1 1 (List.set H1 b (az.rng cX.busy)) fun i=>
aJ 50 i (List.set H1 b (az.rng cX.busy)) fun j=>
(C 41 [snap (List.set H1 b (az.rng cX.busy)) h,snap (List.set H1 b (az.rng cX.busy)) j]).bind fun k=>
(gB prog UnOp.not k).bind fun l=>some [l,l,k,j,i,h]) (some [bA false,ud,ud,ud,ud,ud])).bind fun l4=>fM l4 fun u5 u6 u7 u8 l8=>gM l8 fun u9 an ao=>
(di u5 (some [bA true,ud,ud,ud,ud,ud,ud,ud,ud,ud,ud]) (bZ 76 a.1 0 (List.set H1 b (az.rng cX.busy)) fun o=>
aJ 4 o (List.set H1 b (az.rng cX.busy)) fun p=>
(gB prog UnOp.not p).bind fun d=>
(di d (aJ 26 x3 (List.set H1 b (az.rng cX.busy)) fun q=>
bZ 76 a.1 2 (List.set H1 b (az.rng cX.busy)) fun r=>
aJ 54 r (List.set H1 b (az.rng cX.busy)) fun s=>
(C 44 [snap (List.set H1 b (az.rng cX.busy)) q,snap (List.set H1 b (az.rng cX.busy)) s]).bind fun t=>
(gB prog UnOp.not t).bind fun u=>some [u,u,t,s,r,q]) (some [bA false,ud,ud,ud,ud,ud])).bind fun a7=>fM a7 fun e v w x a8=>gM a8 fun y z ap=>some [e,e,v,w,x,y,z,d,d,p,o])).bind fun a9=>u1 a9 fun aa aq ar e v w x y ab=>gM ab fun z au ad=>bE ad fun av aw=>aY aa (bK 36 c (bF c (List.set H1 b (az.rng cX.busy)) (iA 530)) (List.set H1 b (az.rng cX.busy)) lo fun a0=>BJ a0 b (some (Out.ret (bA false),List.set a0 b (az.rng (cX.done IP.ret))))) (aJ 26 x3 (List.set H1 b (az.rng cX.busy)) fun ae=>
aJ 76 a.1 (List.set H1 b (az.rng cX.busy)) fun af=>
(C 42 [snap (List.set H1 b (az.rng cX.busy)) ae,snap (List.set H1 b (az.rng cX.busy)) af]).bind fun ag=>
bK 26 x3 (bF x3 (List.set H1 b (az.rng cX.busy)) ag) (List.set H1 b (az.rng cX.busy)) lo fun f=>
aJ 3 x4 f fun ah=>
aZ .add 3 false true ah (iA 1) fun ai=>
bK 3 x4 (bF x4 f ai) f lo fun a1=>BJ a1 b (some (Out.ret (bA true),List.set a1 b (az.rng cX.ready)))))) else none:=j9
theorem EV (n lo b lo':Nat) (c r o:A) (H:aB):lR (cx C) call rg n 20 lo 0 b [(2,c)] [r,o] H lo'=bif Nat.ble lo' lo then DI H b (eD 76 H fun a=>
bK 76 a.1 (bF a.1 a.2 o) a.2 lo fun H1=>DI H1 b (fl 76 a.1 0 4 (List.set H1 b (az.rng cX.busy)) fun s=>aY s (aJ 56 c (List.set H1 b (az.rng cX.busy)) fun d=>
bZ 76 a.1 1 (List.set H1 b (az.rng cX.busy)) fun e=>
fl 50 e 0 3 (List.set H1 b (az.rng cX.busy)) fun f=>
bZ 76 a.1 1 (List.set H1 b (az.rng cX.busy)) fun g=>
fl 50 g 1 3 (List.set H1 b (az.rng cX.busy)) fun h=>
bZ 76 a.1 1 (List.set H1 b (az.rng cX.busy)) fun i=>
fl 50 i 2 3 (List.set H1 b (az.rng cX.busy)) fun j=>
(aF prog 105 4 [(0,cC (List.set H1 b (az.rng cX.busy)) (iA 1)),(1,cC (List.set H1 b (az.rng cX.busy)) f),(2,cC (List.set H1 b (az.rng cX.busy)) h),(3,cC (List.set H1 b (az.rng cX.busy)) j)]).bind fun t=>
(C 47 [snap (List.set H1 b (az.rng cX.busy)) t]).bind fun u=>
(aF prog 56 1 [(0,cC (List.set H1 b (az.rng cX.busy)) u)]).bind fun v=>
(bp prog 56 56 false d v (List.set H1 b (az.rng cX.busy)) lo).bind fun k=>
bK 56 c (bF c k.2 k.1) k.2 lo fun p=>BJ p b (some (Out.ret (bA true),List.set p b (az.rng cX.ready)))) (aJ 56 c (List.set H1 b (az.rng cX.busy)) fun d=>
bZ 76 a.1 2 (List.set H1 b (az.rng cX.busy)) fun e=>
fl 54 e 0 3 (List.set H1 b (az.rng cX.busy)) fun f=>
bZ 76 a.1 2 (List.set H1 b (az.rng cX.busy)) fun g=>
fl 54 g 1 3 (List.set H1 b (az.rng cX.busy)) fun h=>
(aF prog 105 3 [(0,cC (List.set H1 b (az.rng cX.busy)) (iA 2)),(1,cC (List.set H1 b (az.rng cX.busy)) f),(2,cC (List.set H1 b (az.rng cX.busy)) h)]).bind fun i=>
(C 47 [snap (List.set H1 b (az.rng cX.busy)) i]).bind fun w=>
(aF prog 56 1 [(0,cC (List.set H1 b (az.rng cX.busy)) w)]).bind fun j=>
(bp prog 56 56 false d j (List.set H1 b (az.rng cX.busy)) lo).bind fun l=>
bK 56 c (bF c l.2 l.1) l.2 lo fun q=>BJ q b (some (Out.ret (bA true),List.set q b (az.rng cX.ready)))))) else none:=j9
theorem wW (n lo b lo':Nat) (x3 x4 x5 x6 c d:A) (H:aB):lR (cx C) call rg n 48 lo 0 b [(3,x3),(4,x4),(5,x5),(6,x6)] [c,d] H lo'=bif Nat.ble lo' lo then DI H b (eD 76 H fun a=>
bK 76 a.1 (bF a.1 a.2 d) a.2 lo fun H1=>DI H1 b (aJ 60 x3 (List.set H1 b (az.rng cX.busy)) fun t2=>
aJ 3 x4 (List.set H1 b (az.rng cX.busy)) fun h=>
fH t2 (List.set H1 b (az.rng cX.busy)) fun i=>
bZ 62 i 0 (List.set H1 b (az.rng cX.busy)) fun j=>
bZ 31 j 1 (List.set H1 b (az.rng cX.busy)) fun k=>
de 28 k h (List.set H1 b (az.rng cX.busy)) fun l=>
aJ 3 l (List.set H1 b (az.rng cX.busy)) fun o=>
aZ .lss 3 false false c o fun e=>
ss e true (aJ 87 x5 (List.set H1 b (az.rng cX.busy)) fun p=>
aJ 76 a.1 (List.set H1 b (az.rng cX.busy)) fun q=>some [q,p]) (some [ud,ud]) fun r=>gM r fun s t w=>
(di e (sd (cx C) call t [s] (List.set H1 b (az.rng cX.busy)) fun f=>some [f,f]) (some [bA false,ud])).bind fun u=>gM u fun v x y=>aY v (bK 4 x6 (bF x6 (List.set H1 b (az.rng cX.busy)) (bA true)) (List.set H1 b (az.rng cX.busy)) lo fun g=>BJ g b (some (Out.ret (bA false),List.set g b (az.rng (cX.done IP.ret))))) (BJ (List.set H1 b (az.rng cX.busy)) b (some (Out.ret (bA true),List.set (List.set H1 b (az.rng cX.busy)) b (az.rng cX.ready)))))) else none:=j9
end Go.Proofs.YtdmgdjnadbakfaaGreat
