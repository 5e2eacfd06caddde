/-
 The program's functions as plain functions: by a tool; each follows the interpreter.
-/
import Derived.Test.YtdmgdjnadbakfaaT3
import Derived.KernelRfl
namespace Go.Proofs.Ytdmgdjnadbakfaa
open Go.Proofs.Try (prog)
set_option linter.unusedVariables false
set_option linter.unusedSimpArgs false
set_option maxHeartbeats 4000000
set_option maxRecDepth 100000
variable (C:Nat->List A->Option A) (n:Nat) {ρ γ:Type} {φ:ρ->γ->Prop} {kL:R->Option ρ} (kx kg:Nat->St->Option R) (kr:St->Option R) (kp:A->St->Option R)
def jy (n:Nat) (p:aE) (q:aE):Nat->Int->Option ((Bool)⊕(Unit))
 | 0,_=>none
 | m+1,d=>bif (decide (d<2)) then (bif (decide (0<=d)&&decide (d<2)) then ((jQ d q.Desks.1 q.Desks.2).bind fun u=>(AB u).bind fun y=>(bif (y != 0) then (some true) else (bif (decide (0<=d)&&decide (d<2)) then ((jQ d q.Spoken.1 q.Spoken.2).bind fun ab=>bif (decide (0<=d)&&decide (d<2)) then ((jQ d p.Spoken.1 p.Spoken.2).bind fun ad=>some (decide (((ab.length:Int))<((ad.length:Int))))) else none) else none)).bind fun an=>(bif an then (some true) else (bif (decide (0<=d)&&decide (d<2)) then ((jQ d q.Spoken.1 q.Spoken.2).bind fun ao=>bif (decide (0<=d)&&decide (d<2)) then ((jQ d p.Spoken.1 p.Spoken.2).bind fun bm=>(et ao 0 ((bm.length:Int))).bind fun bs=>bif (decide (0<=d)&&decide (d<2)) then ((jQ d p.Spoken.1 p.Spoken.2).bind fun ca=>(E8 bs ca).bind fun cc=>some (!cc)) else none) else none) else none)).bind fun ch=>bif ch then ((some true).bind fun ck=>bif ck then (some ((Sum.inl false))) else (jy n p q m (wr .i64 (d+1)))) else (bif (decide (0<=d)&&decide (d<2)) then ((jQ d q.Synced.1 q.Synced.2).bind fun cm=>bif (decide (0<=d)&&decide (d<2)) then ((jQ d p.Synced.1 p.Synced.2).bind fun cn=>(some (decide (cm<cn))).bind fun cv=>bif cv then (some ((Sum.inl false))) else (jy n p q m (wr .i64 (d+1)))) else none) else none)) else none) else (some ((Sum.inr (()))))
theorem B4 (hy:mq C) (ie:qj C) {w309 w310 w311 w312:A} {w313:aD} (p:aE) (q:aE) {K:((Bool)⊕(Unit))->Option γ} (x0:∀ (o0:Bool) (ik:A) (u:A) (q0:aD) (q2:aD),J φ (kr (St.mk [(6,(bA o0)),(7,(pt 0 0)),(11,ik),(30,w310),(31,w311),(32,w312),(72,u)] [q0,w313,q2])) kL (K (Sum.inl o0)) some) (x1:∀ (u:A),J φ (kx 2 (St.mk [(6,w309),(7,(pt 0 0)),(11,(pt 2 0)),(30,w310),(31,w311),(32,w312),(72,u)] [bx (ai p),w313,bx (ai q)])) kL (K (Sum.inr (()))) some) :
  ∀ (m:Nat) (d:Int),J φ (aK (cx C) (ec C n 8) (ey C n 8) (n+8) 4 0 1 3 kx kg kr kp m (St.mk [(6,w309),(7,(pt 0 0)),(11,(pt 2 0)),(30,w310),(31,w311),(32,w312),(72,(iA d))] [bx (ai p),w313,bx (ai q)])) kL (jy n p q m d) K:=by
 intro m
 induction m with
 | zero=>intros; exact .nn
 | succ m ih =>
  intro d
  refine .lp (K9 ..) ?_
  unfold jy
  refine .st (aW ..) (.aY (fun kc=>?_) (fun kc=>?_))
  ·refine .s (pt 2 0) (.gd fun hg=>.st (v:=(pt 2 (0+Int.toNat d*4))) (bN (e:=26) (n:=4) (len:=2) (by kernel_rfl) (by kernel_rfl) rfl hg) (.a2 (f:=fun (y:ah)=>(ag [(iA y.Self),(im (y.Leases.map ae) false),(im (y.Calls.map af) false),(im (y.Order.map cB) false)])) (fun h=>by rw[h]; kernel_rfl) (fun h=>by rw[h]; kernel_rfl) fun ao=>.bd (g:=fun (y:Int)=>(iA y)) (by show C 20 [snap _ (ag (aa ao))]=_; simp only[cF,eA]; exact hy ao) fun mx=>.st (bq ..) (.bg (fun t (y:Bool)=>∃ bm bs ca cc ch ck cm cn cv cy dd:A,t=[(bA y),bm,bs,ca,cc,ch,ck,cm,cn,cv,cy,dd]) ?_ ?_)))
   ·refine .eQ (fun kk=>?_) (fun kk=>?_)
    ·exact .lg ⟨_,_,_,_,_,_,_,_,_,_,_,rfl⟩
    exact .s (pt 2 11) (.gd fun hg=>.st (v:=(pt 2 (11+Int.toNat d*1))) (bN (e:=23) (n:=1) (len:=2) (by kernel_rfl) (by kernel_rfl) rfl hg) (.a2 (f:=fun (y:(List av))=>(im (y.map af) false)) (fun h=>by rw[h]; kernel_rfl) (fun h=>by rw[h]; kernel_rfl) fun nb=>.st (eb (e:=62)) (.s (pt 0 11) (.gd fun hg=>.st (v:=(pt 0 (11+Int.toNat d*1))) (bN (e:=23) (n:=1) (len:=2) (by kernel_rfl) (by kernel_rfl) rfl hg) (.a2 (f:=fun (y:(List av))=>(im (y.map af) false)) (fun h=>by rw[h]; kernel_rfl) (fun h=>by rw[h]; kernel_rfl) fun nf=>.st (eb (e:=62)) (.st (aW ..) (.lg ⟨_,_,_,_,_,_,_,_,_,_,_,rfl⟩)))))))
   rintro _ ni ⟨bm,bs,ca,cc,ch,ck,cm,cn,cv,cy,dd,rfl⟩
   refine .u4 (.u4 (.u4 (.bg (fun t (y:Bool)=>∃ ea eg ej en fs fv ha hf hh hi hj hk ho hp hq hr:A,t=[(bA y),ea,eg,ej,en,fs,fv,ha,hf,hh,hi,hj,hk,ho,hp,hq,hr]) ?_ ?_)))
   ·refine .eQ (fun kn=>?_) (fun kn=>?_)
    ·exact .lg ⟨_,_,_,_,_,_,_,_,_,_,_,_,_,_,_,_,rfl⟩
    exact .s (pt 2 11) (.gd fun hg=>.st (v:=(pt 2 (11+Int.toNat d*1))) (bN (e:=23) (n:=1) (len:=2) (by kernel_rfl) (by kernel_rfl) rfl hg) (.a2 (f:=fun (y:(List av))=>(im (y.map af) false)) (fun h=>by rw[h]; kernel_rfl) (fun h=>by rw[h]; kernel_rfl) fun ko=>.s (pt 0 11) (.gd fun hg=>.st (v:=(pt 0 (11+Int.toNat d*1))) (bN (e:=23) (n:=1) (len:=2) (by kernel_rfl) (by kernel_rfl) rfl hg) (.a2 (f:=fun (y:(List av))=>(im (y.map af) false)) (fun h=>by rw[h]; kernel_rfl) (fun h=>by rw[h]; kernel_rfl) fun kt=>.st (eb (e:=62)) (.bd (eY (e:=62) (es:=2) (f:=af) (l:=ko) (a:=0) (b:=(kt.length:Int)) (by kernel_rfl) (by kernel_rfl) (fun _=>rfl) (.inl ⟨rfl,rfl⟩) (.inr ⟨_,rfl⟩)) fun hs=>.s (pt 0 11) (.gd fun hg=>.st (v:=(pt 0 (11+Int.toNat d*1))) (bN (e:=23) (n:=1) (len:=2) (by kernel_rfl) (by kernel_rfl) rfl hg) (.a2 (f:=fun (y:(List av))=>(im (y.map af) false)) (fun h=>by rw[h]; kernel_rfl) (fun h=>by rw[h]; kernel_rfl) fun ht=>.bd (g:=fun (y:Bool)=>(bA y)) (by show C 21 [snap _ (im (hs.map af) false),snap _ (im (ht.map af) false)]=_; simp only[cF,eA]; exact ie hs ht) fun lx=>.s (bA (!lx)) (.lg ⟨_,_,_,_,_,_,_,_,_,_,_,_,_,_,_,_,rfl⟩))))))))
   rintro _ ns ⟨ea,eg,ej,en,fs,fv,ha,hf,hh,hi,hj,hk,ho,hp,hq,hr,rfl⟩
   refine .u4 (.u4 (.u4 (.u4 (.uc (.Hl (fun ab=>?_) (fun ab=>?_))))))
   ·refine .bb (.s (pt 2 8) (.gd fun hg=>.st (v:=(pt 2 (8+Int.toNat d*1))) (bN (e:=3) (n:=1) (len:=2) (by kernel_rfl) (by kernel_rfl) rfl hg) (.a2 (f:=fun (y:Int)=>(iA y)) (fun h=>by rw[h]; kernel_rfl) (fun h=>by rw[h]; kernel_rfl) fun nt=>.s (pt 0 8) (.gd fun hg=>.st (v:=(pt 0 (8+Int.toNat d*1))) (bN (e:=3) (n:=1) (len:=2) (by kernel_rfl) (by kernel_rfl) rfl hg) (.a2 (f:=fun (y:Int)=>(iA y)) (fun h=>by rw[h]; kernel_rfl) (fun h=>by rw[h]; kernel_rfl) fun oc=>.cr (.u4 (.u4 (.bg (fun t (y:Bool)=>∃ hv:A,t=[(bA y),hv]) ?_ ?_))))))))
    ·exact .wj ab (.st (aW ..) (.lg ⟨_,rfl⟩))
    rintro _ oi ⟨hv,rfl⟩
    refine .uc (.uc (.aY (fun ly=>?_) (fun ly=>?_)))
    ·exact .ex (x0 _ _ _ _ _)
    refine .st (aP ..) (.s [bx (ai p),w313,bx (ai q)] (.cT (by kernel_rfl) ?_))
    exact ih _
   refine .bb (.cr (.u4 (.u4 (.bg (fun t (y:Bool)=>∃ hx:A,t=[(bA y),hx]) ?_ ?_))))
   ·exact .vS ab (.lg ⟨_,rfl⟩)
   rintro _ oj ⟨hx,rfl⟩
   refine .uc (.uc (.aY (fun mn=>?_) (fun mn=>?_)))
   ·exact .ex (x0 _ _ _ _ _)
   refine .st (aP ..) (.s [bx (ai p),w313,bx (ai q)] (.cT (by kernel_rfl) ?_))
   exact ih _
  exact .ex (x1 _)
def lG (n:Nat) (ab:Bool) (u:(List bj)) (y:Int):Nat->Int->aE->Option ((Bool)⊕(Unit))
 | 0,_,_=>none
 | m+1,q,p=>bif (decide (q<y)) then ((bX u q).bind fun ad=>(DT p ad).bind fun d=>bif (d.2 != 0) then ((Hs d.1 ((aE.mk (((ah.mk 0 ([]) ([]) ([])),(ah.mk 0 ([]) ([]) ([])))) ((0,0)) ([]) (([],[]))))).bind fun an=>bif (!an) then (some ((Sum.inl false))) else (lG n ab u y m (wr .i64 (q+1)) p)) else ((Ht d.1).bind fun ao=>(bif (!ao) then (some true) else (some (decide (((d.1.Told.length:Int))<((p.Told.length:Int)))))).bind fun bm=>bif bm then ((some true).bind fun bs=>bif bs then (some ((Sum.inl false))) else ((jy n p d.1 (n+8) 0).bind fun ca=>match ca with | (Sum.inl cc)=>some ((Sum.inl cc)) | (Sum.inr _)=>lG n ab u y m (wr .i64 (q+1)) d.1)) else ((et d.1.Told 0 ((p.Told.length:Int))).bind fun ch=>((DC ch p.Told).bind fun ck=>some (!ck)).bind fun cm=>bif cm then (some ((Sum.inl false))) else ((jy n p d.1 (n+8) 0).bind fun cn=>match cn with | (Sum.inl cv)=>some ((Sum.inl cv)) | (Sum.inr _)=>lG n ab u y m (wr .i64 (q+1)) d.1)))) else (some ((Sum.inr (()))))
theorem F3 (hh:Bu C) (hi:tv C) (hj:Bv C) (hk:qL C) (cc:mq C) (ch:qj C) (ck:Bool) (u:(List bj)) (cm:Int) {K:((Bool)⊕(Unit))->Option γ} (x0:∀ (o0:Bool) (s7:A) (an:A) (ao:A) (bm:A) (q0:aD) (q1:aD) (q2:aD),J φ (kr (St.mk [(6,(bA o0)),(7,s7),(30,an),(31,ao),(32,bm)] [q0,q1,q2])) kL (K (Sum.inl o0)) some) (x1:∀ (s6:A) (s7:A) (an:A) (ao:A) (bm:A) (q0:aD),J φ (kx 0 (St.mk [(6,s6),(7,s7),(30,an),(31,ao),(32,bm)] [q0])) kL (K (Sum.inr (()))) some) :
  ∀ (m:Nat) (bs:Int) (p:aE),J φ (aK (cx C) (ec C n 8) (ey C n 8) (n+8) 4 0 0 1 kx kg kr kp m (St.mk [(6,(bA ck)),(7,(pt 0 0)),(30,(im (u.map al) false)),(31,(iA cm)),(32,(iA bs))] [bx (ai p)])) kL (lG n ck u cm m bs p) K:=by
 intro m
 induction m with
 | zero=>intros; exact .nn
 | succ m ih =>
  intro bs p
  refine .lp (K8 ..) ?_
  unfold lG
  refine .st (aW ..) (.aY (fun hq=>?_) (fun hq=>?_))
  ·refine .bd (iT (e:=49) (es:=4)) fun q=>.s (ag (al q)) (.sq (pt 1 0) (.s [bx (ai p),bx (al q)] (.s (ag (ai p)) (.s (ag (al q)) (.bd (g:=fun (y:(aE×Int))=>(tp [(ag [(iA y.1.Desks.1.Self),(im (y.1.Desks.1.Leases.map ae) false),(im (y.1.Desks.1.Calls.map af) false),(im (y.1.Desks.1.Order.map cB) false),(iA y.1.Desks.2.Self),(im (y.1.Desks.2.Leases.map ae) false),(im (y.1.Desks.2.Calls.map af) false),(im (y.1.Desks.2.Order.map cB) false),(iA y.1.Synced.1),(iA y.1.Synced.2),(im (y.1.Told.map ae) false),(im (y.1.Spoken.1.map af) false),(im (y.1.Spoken.2.map af) false)]),(iA y.2)])) (by show C 17 [snap _ (ag (ai p)),snap _ (ag (al q))]=_; simp only[cF,eA]; exact hi p q) fun d=>.s (ag (ai d.1)) (.s (iA d.2) (.sq (pt 2 0) (.s [bx (ai p),bx (al q),bx (ai d.1)] (.st (bq ..) (.aY (fun hr=>?_) (fun hr=>?_)))))))))))
   ·refine .s (ag (ai d.1)) (.s aV (.bd (g:=fun (y:Bool)=>(bA y)) (by show C 16 [snap _ (ag (ai d.1)),snap _ aV]=_; simp only[cF,eA]; exact hh d.1 ((aE.mk (((ah.mk 0 ([]) ([]) ([])),(ah.mk 0 ([]) ([]) ([])))) ((0,0)) ([]) (([],[]))))) fun hs=>.s (bA (!hs)) (.aY (fun ht=>?_) (fun ht=>?_))))
    ·exact .ex (x0 _ _ _ _ _ _ _ _)
    refine .st (aP ..) (.st (v:=[bx (ai p)]) (dy (by kernel_rfl) (by simp only[uB,eF,eG,Nat.reduceLT,decide_true])) (.cT ((by kernel_rfl:_=(bif aG 1 (u.map al) then true else false)).trans (by simp only[eF,eG])) ?_))
    exact ih _ _
   refine .s (ag (ai d.1)) (.bd (g:=fun (y:Bool)=>(bA y)) (by show C 18 [snap _ (ag (ai d.1))]=_; simp only[cF,eA]; exact hj d.1) fun hv=>.s (bA (!hv)) (.bg (fun t (y:Bool)=>∃ cv cy dd ea eg ej en:A,t=[(bA y),cv,cy,dd,ea,eg,ej,en]) ?_ ?_))
   ·refine .eQ (fun hx=>?_) (fun hx=>?_)
    ·exact .lg ⟨_,_,_,_,_,_,_,rfl⟩
    exact .s (pt 2 10) (.s (im (d.1.Told.map ae) false) (.st (eb (e:=59)) (.s (pt 0 10) (.s (im (p.Told.map ae) false) (.st (eb (e:=59)) (.st (aW ..) (.lg ⟨_,_,_,_,_,_,_,rfl⟩)))))))
   rintro _ js ⟨cv,cy,dd,ea,eg,ej,en,rfl⟩
   refine .u4 (.u4 (.Hl (fun ca=>?_) (fun ca=>?_)))
   ·refine .bb (.s (pt 2 10) (.s (im (d.1.Told.map ae) false) (.s (pt 0 10) (.s (im (p.Told.map ae) false) (.st (eb (e:=59)) (.bd (eY (e:=59) (es:=3) (f:=ae) (l:=d.1.Told) (a:=0) (b:=(p.Told.length:Int)) (by kernel_rfl) (by kernel_rfl) (fun _=>rfl) (.inl ⟨rfl,rfl⟩) (.inr ⟨_,rfl⟩)) fun fs=>.s (pt 0 10) (.s (im (p.Told.map ae) false) (.cr (.u4 (.u4 (.bg (fun t (y:Bool)=>∃ fv ha:A,t=[(bA y),fv,ha]) ?_ ?_)))))))))))
    ·exact .wj ca (.bd (g:=fun (y:Bool)=>(bA y)) (by show C 19 [snap _ (im (fs.map ae) false),snap _ (im (p.Told.map ae) false)]=_; simp only[cF,eA]; exact hk fs p.Told) fun hy=>.s (bA (!hy)) (.lg ⟨_,_,rfl⟩))
    rintro _ kc ⟨fv,ha,rfl⟩
    refine .uc (.uc (.uc (.aY (fun ie=>?_) (fun ie=>?_))))
    ·exact .ex (x0 _ _ _ _ _ _ _ _)
    refine .as (B4 C n _ _ _ _ cc ch p d.1 ?_ ?_ _ 0)
    ·intro kk kn ko w384 w385
     exact .un rfl (.ex (x0 _ _ _ _ _ _ _ _))
    ·intro kt
     refine .un rfl (.cT (by kernel_rfl) (.s (ag (ai d.1)) (.s [bx (ai d.1),bx (al q),bx (ai d.1)] (.st (aP ..) (.st (v:=[bx (ai d.1)]) (dy (by kernel_rfl) (by simp only[uB,eF,eG,Nat.reduceLT,decide_true])) (.cT ((by kernel_rfl:_=(bif aG 1 (u.map al) then true else false)).trans (by simp only[eF,eG])) ?_))))))
     exact ih _ _
   refine .bb (.cr (.u4 (.u4 (.bg (fun t (y:Bool)=>∃ hf hg:A,t=[(bA y),hf,hg]) ?_ ?_))))
   ·exact .vS ca (.lg ⟨_,_,rfl⟩)
   rintro _ lx ⟨hf,hg,rfl⟩
   refine .uc (.uc (.uc (.aY (fun ik=>?_) (fun ik=>?_))))
   ·exact .ex (x0 _ _ _ _ _ _ _ _)
   refine .as (B4 C n _ _ _ _ cc ch p d.1 ?_ ?_ _ 0)
   ·intro ly mn mx w683 w684
    exact .un rfl (.ex (x0 _ _ _ _ _ _ _ _))
   ·intro nb
    refine .un rfl (.cT (by kernel_rfl) (.s (ag (ai d.1)) (.s [bx (ai d.1),bx (al q),bx (ai d.1)] (.st (aP ..) (.st (v:=[bx (ai d.1)]) (dy (by kernel_rfl) (by simp only[uB,eF,eG,Nat.reduceLT,decide_true])) (.cT ((by kernel_rfl:_=(bif aG 1 (u.map al) then true else false)).trans (by simp only[eF,eG])) ?_))))))
    exact ih _ _
  exact .ex (x1 _ _ _ _ _ _)
def F4 (n:Nat) (a0:Int) (a1:Int) (a2:(List bj)):Option Bool :=
 (G7 ).bind fun p=>bif (!p) then (some false) else (bif (decide (60<((a2.length:Int)))) then (some true) else ((G8 a0 a1).bind fun d=>bif (d.2 != 0) then ((Hs d.1 ((aE.mk (((ah.mk 0 ([]) ([]) ([])),(ah.mk 0 ([]) ([]) ([])))) ((0,0)) ([]) (([],[]))))).bind fun q=>some q) else ((lG n false a2 ((a2.length:Int)) (n+8) 0 d.1).bind fun u=>match u with | (Sum.inl y)=>some y | (Sum.inr _)=>some true)))
theorem T4 (C:OT) (n:Nat) (q:Bt C) (p:Bu C) (u:tv C) (ab:Bv C) (ad:qL C) (an:mq C) (ao:qj C) (h7:HF C) (a0:Int) (a1:Int) (a2:(List bj)):J (fun (o:R) y=>∃ v,o.1=.ret v/\aF o.2 v=(bA y)) (aB (cx C) (ec C n 8) (ey C n 8) (n+8) 4 [(iA a0),(iA a1),(im (a2.map al) false)] [] 0) some (F4 n a0 a1 a2) some:=by
 refine .lp (e4 ..) ?_
 unfold F4
 refine .bd (h7 ()) fun y1=>.s (bA (!y1)) (.aY (fun ca=>?_) (fun ca=>?_))
 ·exact .lv rfl
 refine .st (eb (e:=49)) (.st (ee ..) (.aY (fun cc=>?_) (fun cc=>?_)))
 ·exact .lv rfl
 refine .bd (q a0 a1) fun d=>.s (ag (ai d.1)) (.s (iA d.2) (.sq (pt 0 0) (.s [bx (ai d.1)] (.st (bq ..) (.aY (fun ch=>?_) (fun ch=>?_))))))
 ·exact .s (ag (ai d.1)) (.s aV (.bd (g:=fun (y:Bool)=>(bA y)) (by show C 16 [snap _ (ag (ai d.1)),snap _ aV]=_; simp only[cF,eA]; exact p d.1 ((aE.mk (((ah.mk 0 ([]) ([]) ([])),(ah.mk 0 ([]) ([]) ([])))) ((0,0)) ([]) (([],[]))))) fun y6=>.lv rfl))
 refine .st (eb (e:=49)) (.as (F3 C n _ _ _ _ p u ab ad an ao false a2 ((a2.length:Int)) ?_ ?_ _ 0 d.1))
 ·intro cm cn cv cy dd w692 w693 w694
  exact .un rfl (.lv rfl)
 ·intro ea eg ej en fs w700
  exact .un rfl (.cT (by kernel_rfl) (.lv rfl))
def G4 (a0:Int) (a1:Int) (a2:(List bj)):Option Bool:=F4 aH a0 a1 a2
end Go.Proofs.Ytdmgdjnadbakfaa
