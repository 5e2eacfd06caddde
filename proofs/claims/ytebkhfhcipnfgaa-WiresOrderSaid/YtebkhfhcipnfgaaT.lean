/-
 The program's functions as plain functions: by a tool; each follows the interpreter.
-/
import Derived.Test.YtebkhfhcipnfgaaT2
namespace Go.Proofs.Ytebkhfhcipnfgaa
open Go.Proofs.Try (prog)
set_option linter.unusedVariables false
set_option linter.unusedSimpArgs false
set_option maxHeartbeats 4000000
set_option maxRecDepth 100000
set_option linter.defProp false
variable (C:Nat->List A->Option A) (n:Nat) {ρ γ:Type} {φ:ρ->γ->Prop} {kL:R->Option ρ} (kx kg:Nat->St->Option R) (kr:St->Option R) (kp:A->St->Option R)
def F4 (n:Nat) (a:aq) (b:Int) (a2:Int):Option Bool:=
 (G7 ).bind fun q=>bif (!q) then (some false) else ((G8 a).bind fun r=>(bif (!r) then (some true) else ((D2 a).bind fun s=>some (s != 0))).bind fun t=>(bif t then (some true) else (some (decide (((a.Net.Queue.length:Int))<2)))).bind fun u=>bif u then (some true) else (bif decide (((a.Net.Queue.length:Int))≠0) then (bif decide ((wr .i64 (((a.Net.Queue.length:Int)) - 1))≠0) then (bif decide (((a.Net.Queue.length:Int))≠0) then (bif (decide ((Int.tmod (wr .i64 ((wr .i64 ((Int.tmod (wr .i64 (b)) ((a.Net.Queue.length:Int)))+1))+(Int.tmod (wr .i64 (a2)) (wr .i64 (((a.Net.Queue.length:Int)) - 1))))) ((a.Net.Queue.length:Int)))<(Int.tmod (wr .i64 (b)) ((a.Net.Queue.length:Int))))) then ((sP a (Int.tmod (wr .i64 ((wr .i64 ((Int.tmod (wr .i64 (b)) ((a.Net.Queue.length:Int)))+1))+(Int.tmod (wr .i64 (a2)) (wr .i64 (((a.Net.Queue.length:Int)) - 1))))) ((a.Net.Queue.length:Int)))).bind fun g=>(sP g.1 (wr .i64 ((Int.tmod (wr .i64 (b)) ((a.Net.Queue.length:Int))) - 1))).bind fun h=>(sP a (Int.tmod (wr .i64 (b)) ((a.Net.Queue.length:Int)))).bind fun i=>(sP i.1 (Int.tmod (wr .i64 ((wr .i64 ((Int.tmod (wr .i64 (b)) ((a.Net.Queue.length:Int)))+1))+(Int.tmod (wr .i64 (a2)) (wr .i64 (((a.Net.Queue.length:Int)) - 1))))) ((a.Net.Queue.length:Int)))).bind fun j=>(bif (g.2.2.2 != 0) then (some true) else (some (h.2.2.2 != 0))).bind fun v=>(bif v then (some true) else (some (i.2.2.2 != 0))).bind fun w=>(bif w then (some true) else (some (j.2.2.2 != 0))).bind fun x=>bif x then (some false) else ((bE a.Net.Queue (Int.tmod (wr .i64 ((wr .i64 ((Int.tmod (wr .i64 (b)) ((a.Net.Queue.length:Int)))+1))+(Int.tmod (wr .i64 (a2)) (wr .i64 (((a.Net.Queue.length:Int)) - 1))))) ((a.Net.Queue.length:Int)))).bind fun y=>(DQ y.Data).bind fun c=>(bE a.Net.Queue (Int.tmod (wr .i64 (b)) ((a.Net.Queue.length:Int)))).bind fun z=>(DQ z.Data).bind fun d=>(bif c.2 then (some d.2) else (some false)).bind fun a3=>(bif a3 then (some (c.1.Role==d.1.Role)) else (some false)).bind fun a4=>(bif a4 then (some (c.1.Bar==d.1.Bar)) else (some false)).bind fun a5=>(bif a5 then (some (c.1.No==d.1.No)) else (some false)).bind fun a6=>bif a6 then (some true) else ((FE h.1 j.1).bind fun a7=>some a7))) else ((sP a (Int.tmod (wr .i64 (b)) ((a.Net.Queue.length:Int)))).bind fun k=>(sP k.1 (wr .i64 ((Int.tmod (wr .i64 ((wr .i64 ((Int.tmod (wr .i64 (b)) ((a.Net.Queue.length:Int)))+1))+(Int.tmod (wr .i64 (a2)) (wr .i64 (((a.Net.Queue.length:Int)) - 1))))) ((a.Net.Queue.length:Int))) - 1))).bind fun l=>(sP a (Int.tmod (wr .i64 ((wr .i64 ((Int.tmod (wr .i64 (b)) ((a.Net.Queue.length:Int)))+1))+(Int.tmod (wr .i64 (a2)) (wr .i64 (((a.Net.Queue.length:Int)) - 1))))) ((a.Net.Queue.length:Int)))).bind fun o=>(sP o.1 (Int.tmod (wr .i64 (b)) ((a.Net.Queue.length:Int)))).bind fun p=>(bif (k.2.2.2 != 0) then (some true) else (some (l.2.2.2 != 0))).bind fun a8=>(bif a8 then (some true) else (some (o.2.2.2 != 0))).bind fun a9=>(bif a9 then (some true) else (some (p.2.2.2 != 0))).bind fun aa=>bif aa then (some false) else ((bE a.Net.Queue (Int.tmod (wr .i64 (b)) ((a.Net.Queue.length:Int)))).bind fun ab=>(DQ ab.Data).bind fun e=>(bE a.Net.Queue (Int.tmod (wr .i64 ((wr .i64 ((Int.tmod (wr .i64 (b)) ((a.Net.Queue.length:Int)))+1))+(Int.tmod (wr .i64 (a2)) (wr .i64 (((a.Net.Queue.length:Int)) - 1))))) ((a.Net.Queue.length:Int)))).bind fun ad=>(DQ ad.Data).bind fun f=>(bif e.2 then (some f.2) else (some false)).bind fun ae=>(bif ae then (some (e.1.Role==f.1.Role)) else (some false)).bind fun af=>(bif af then (some (e.1.Bar==f.1.Bar)) else (some false)).bind fun ag=>(bif ag then (some (e.1.No==f.1.No)) else (some false)).bind fun ah=>bif ah then (some true) else ((FE l.1 p.1).bind fun ai=>some ai)))) else none) else none) else none))
theorem T4 (C:OT) (n:Nat) (c2:vT C) (x:FH C) (o:Bm C) (w:FI C) (h7:I4 C) (h8:I5 C) (a:aq) (l:Int) (a2:Int):TJ C n 4 [(ag (aa a)),(uA l),(uA a2)] (F4 n a l a2) (fun y=>(bA y)):=by
 refine .lp (e4 ..) ?_
 unfold F4
 refine .s ((pt 0 0),[bx (aa a)]) (.bd (h7 ()) fun y1=>.s (bA (!y1)) (.cd ?_ ?_))
 ·exact .lv rfl
 refine .s (ag (aa a)) (.bd (g:=fun (y:Bool)=>(bA y)) (by simp only[cD,dL]; exact h8 a) fun y3=>.s (bA (!y3)) (.bg (fun t (y:Bool)=>∃ z j8 j9:A,t=[(bA y),z,j8,j9]) ?_ ?_))
 ·refine .bi ?_ ?_
  ·exact .lg ⟨_,_,_,rfl⟩
  exact .s (ag (aa a)) (.bd (g:=fun (y:Int)=>(iA y)) (by simp only[cD,dL]; exact c2 a) fun y5=>.st (aC ..) (.lg ⟨_,_,_,rfl⟩))
 rintro _ y6 ⟨z,j8,j9,rfl⟩
 refine .u4 (.bg (fun t (y:Bool)=>∃ a5 a6 a7 a8 a9:A,t=[(bA y),a5,a6,a7,a8,a9]) ?_ ?_)
 ·refine .bi ?_ ?_
  ·exact .lg ⟨_,_,_,_,_,rfl⟩
  exact .s (pt 0 0) (.s (pt 0 0) (.s (im (a.Net.Queue.map af) false) (.st (eE (e:=48)) (.st (bj ..) (.lg ⟨_,_,_,_,_,rfl⟩)))))
 rintro _ ca ⟨a5,a6,a7,a8,a9,rfl⟩
 refine .u4 (.uc (.uc (.cd ?_ ?_)))
 ·exact .lv rfl
 refine .s (pt 0 0) (.s2 (im (a.Net.Queue.map af) false) (.st (eE (e:=48)) (.st (v:=(iA (wr .i64 (l)))) (aE (hs:=by kernel_rfl) (hd:=by kernel_rfl) ..) (.gd fun hg=>.st (kz (hb:=SF hg) ..) (.st (aF ..) (.st (v:=(iA (wr .i64 (a2)))) (aE (hs:=by kernel_rfl) (hd:=by kernel_rfl) ..) (.st (dU ..) (.gd fun hg=>.st (kz (hb:=SF hg) ..) (.st (aF ..) (.gd fun hg=>.st (kz (hb:=SF hg) ..) (.st (dg ..) (.cd ?_ ?_))))))))))))
 ·refine .s (ag (aa a)) (.bd (g:=fun (y:(aq×ba×Bool×Int))=>(tp [(ag (aa y.1)),(ag (al y.2.1)),(bA y.2.2.1),(iA y.2.2.2)])) (by simp only[cD,dL]; exact o a (Int.tmod (wr .i64 ((wr .i64 ((Int.tmod (wr .i64 (l)) ((a.Net.Queue.length:Int)))+1))+(Int.tmod (wr .i64 (a2)) (wr .i64 (((a.Net.Queue.length:Int)) - 1))))) ((a.Net.Queue.length:Int)))) fun b=>.s (ag (aa b.1)) (.s (ag (al b.2.1)) (.s (bA b.2.2.1) (.s (iA b.2.2.2) (.sq (pt 1 0) (.sq (pt 2 0) (.sh (.s [bx (aa a),bx (aa b.1),bx (al b.2.1)] (.s (ag (aa b.1)) (.st (dU ..) (.bd (g:=fun (y:(aq×ba×Bool×Int))=>(tp [(ag (aa y.1)),(ag (al y.2.1)),(bA y.2.2.1),(iA y.2.2.2)])) (by simp only[cD,dL]; exact o b.1 (wr .i64 ((Int.tmod (wr .i64 (l)) ((a.Net.Queue.length:Int))) - 1))) fun d=>.s (ag (aa d.1)) (.s (ag (al d.2.1)) (.s (bA d.2.2.1) (.s (iA d.2.2.2) (.sq (pt 3 0) (.sq (pt 4 0) (.sh (.s [bx (aa a),bx (aa b.1),bx (al b.2.1),bx (aa d.1),bx (al d.2.1)] (.s (ag (aa a)) (.bd (g:=fun (y:(aq×ba×Bool×Int))=>(tp [(ag (aa y.1)),(ag (al y.2.1)),(bA y.2.2.1),(iA y.2.2.2)])) (by simp only[cD,dL]; exact o a (Int.tmod (wr .i64 (l)) ((a.Net.Queue.length:Int)))) fun h=>.s (ag (aa h.1)) ?_))))))))))))))))))))
  refine .s (ag (al h.2.1)) (.s (bA h.2.2.1) (.s (iA h.2.2.2) (.sq (pt 5 0) (.sq (pt 6 0) (.sh (.s [bx (aa a),bx (aa b.1),bx (al b.2.1),bx (aa d.1),bx (al d.2.1),bx (aa h.1),bx (al h.2.1)] (.s (ag (aa h.1)) (.bd (g:=fun (y:(aq×ba×Bool×Int))=>(tp [(ag (aa y.1)),(ag (al y.2.1)),(bA y.2.2.1),(iA y.2.2.2)])) (by simp only[cD,dL]; exact o h.1 (Int.tmod (wr .i64 ((wr .i64 ((Int.tmod (wr .i64 (l)) ((a.Net.Queue.length:Int)))+1))+(Int.tmod (wr .i64 (a2)) (wr .i64 (((a.Net.Queue.length:Int)) - 1))))) ((a.Net.Queue.length:Int)))) fun j=>.s (ag (aa j.1)) (.s (ag (al j.2.1)) (.s (bA j.2.2.1) (.s (iA j.2.2.2) (.sq (pt 7 0) (.sq (pt 8 0) (.sh (.s [bx (aa a),bx (aa b.1),bx (al b.2.1),bx (aa d.1),bx (al d.2.1),bx (aa h.1),bx (al h.2.1),bx (aa j.1),bx (al j.2.1)] (.st (aC ..) (.bg (fun t (y:Bool)=>∃ ab ad:A,t=[(bA y),ab,ad]) ?_ ?_)))))))))))))))))
  ·refine .bi ?_ ?_
   ·exact .lg ⟨_,_,rfl⟩
   exact .st (aC ..) (.lg ⟨_,_,rfl⟩)
  rintro _ cb ⟨ab,ad,rfl⟩
  refine .uc (.uc (.uc (.bg (fun t (y:Bool)=>∃ ae ah:A,t=[(bA y),ae,ah]) ?_ ?_)))
  ·refine .bi ?_ ?_
   ·exact .lg ⟨_,_,rfl⟩
   exact .st (aC ..) (.lg ⟨_,_,rfl⟩)
  rintro _ cc ⟨ae,ah,rfl⟩
  refine .uc (.uc (.uc (.bg (fun t (y:Bool)=>∃ ai aj:A,t=[(bA y),ai,aj]) ?_ ?_)))
  ·refine .bi ?_ ?_
   ·exact .lg ⟨_,_,rfl⟩
   exact .st (aC ..) (.lg ⟨_,_,rfl⟩)
  rintro _ ce ⟨ai,aj,rfl⟩
  refine .uc (.uc (.uc (.cd ?_ ?_)))
  ·exact .lv rfl
  refine .s (pt 0 0) (.s2 (im (a.Net.Queue.map af) false) (.bd (gp (e:=48) (es:=3)) fun ak=>.s2 (im (ak.Data.map c8) false) (.bd (g:=fun (y:(aO×Bool))=>(tp [(ag (au y.1)),(bA y.2)])) (by simp only[cD,dL]; exact w ak.Data) fun p=>.s (ag (au p.1)) (.s (bA p.2) (.sq (pt 9 0) (.s [bx (aa a),bx (aa b.1),bx (al b.2.1),bx (aa d.1),bx (al d.2.1),bx (aa h.1),bx (al h.2.1),bx (aa j.1),bx (al j.2.1),bx (au p.1)] (.s (pt 0 0) (.s2 (im (a.Net.Queue.map af) false) (.bd (gp (e:=48) (es:=3)) fun am=>.s2 (im (am.Data.map c8) false) (.bd (g:=fun (y:(aO×Bool))=>(tp [(ag (au y.1)),(bA y.2)])) (by simp only[cD,dL]; exact w am.Data) fun r=>.s (ag (au r.1)) (.s (bA r.2) (.sq (pt 10 0) (.s [bx (aa a),bx (aa b.1),bx (al b.2.1),bx (aa d.1),bx (al d.2.1),bx (aa h.1),bx (al h.2.1),bx (aa j.1),bx (al j.2.1),bx (au p.1),bx (au r.1)] (.bg (fun t (y:Bool)=>∃ an:A,t=[(bA y),an]) ?_ ?_))))))))))))))
  ·refine .bi ?_ ?_
   ·exact .lg ⟨_,rfl⟩
   exact .lg ⟨_,rfl⟩
  rintro _ cf ⟨an,rfl⟩
  refine .uc (.uc (.bg (fun t (y:Bool)=>∃ ao ap ar av aw:A,t=[(bA y),ao,ap,ar,av,aw]) ?_ ?_))
  ·refine .bi ?_ ?_
   ·exact .s (pt 9 1) (.s (iA p.1.Role) (.s (pt 10 1) (.s (iA r.1.Role) (.st (aV ..) (.lg ⟨_,_,_,_,_,rfl⟩)))))
   exact .lg ⟨_,_,_,_,_,rfl⟩
  rintro _ cg ⟨ao,ap,ar,av,aw,rfl⟩
  refine .u4 (.uc (.uc (.bg (fun t (y:Bool)=>∃ ax ay az b0 b1:A,t=[(bA y),ax,ay,az,b0,b1]) ?_ ?_)))
  ·refine .bi ?_ ?_
   ·exact .s (pt 9 2) (.s (iA p.1.Bar) (.s (pt 10 2) (.s (iA r.1.Bar) (.st (aV ..) (.lg ⟨_,_,_,_,_,rfl⟩)))))
   exact .lg ⟨_,_,_,_,_,rfl⟩
  rintro _ ch ⟨ax,ay,az,b0,b1,rfl⟩
  refine .u4 (.uc (.uc (.bg (fun t (y:Bool)=>∃ b2 b3 b4 b5 b6:A,t=[(bA y),b2,b3,b4,b5,b6]) ?_ ?_)))
  ·refine .bi ?_ ?_
   ·exact .s (pt 9 0) (.s (iA p.1.No) (.s (pt 10 0) (.s (iA r.1.No) (.st (aV ..) (.lg ⟨_,_,_,_,_,rfl⟩)))))
   exact .lg ⟨_,_,_,_,_,rfl⟩
  rintro _ ci ⟨b2,b3,b4,b5,b6,rfl⟩
  refine .u4 (.uc (.uc (.cd ?_ ?_)))
  ·exact .lv rfl
  exact .s (ag (aa d.1)) (.s (ag (aa j.1)) (.bd (g:=fun (y:Bool)=>(bA y)) (by simp only[cD,dL]; exact x d.1 j.1) fun cj=>.lv rfl))
 refine .s (ag (aa a)) (.bd (g:=fun (y:(aq×ba×Bool×Int))=>(tp [(ag (aa y.1)),(ag (al y.2.1)),(bA y.2.2.1),(iA y.2.2.2)])) (by simp only[cD,dL]; exact o a (Int.tmod (wr .i64 (l)) ((a.Net.Queue.length:Int)))) fun c=>.s (ag (aa c.1)) (.s (ag (al c.2.1)) (.s (bA c.2.2.1) (.s (iA c.2.2.2) (.sq (pt 1 0) (.sq (pt 2 0) (.sh (.s [bx (aa a),bx (aa c.1),bx (al c.2.1)] (.s (ag (aa c.1)) (.st (dU ..) (.bd (g:=fun (y:(aq×ba×Bool×Int))=>(tp [(ag (aa y.1)),(ag (al y.2.1)),(bA y.2.2.1),(iA y.2.2.2)])) (by simp only[cD,dL]; exact o c.1 (wr .i64 ((Int.tmod (wr .i64 ((wr .i64 ((Int.tmod (wr .i64 (l)) ((a.Net.Queue.length:Int)))+1))+(Int.tmod (wr .i64 (a2)) (wr .i64 (((a.Net.Queue.length:Int)) - 1))))) ((a.Net.Queue.length:Int))) - 1))) fun f=>.s (ag (aa f.1)) (.s (ag (al f.2.1)) (.s (bA f.2.2.1) (.s (iA f.2.2.2) (.sq (pt 3 0) (.sq (pt 4 0) (.sh (.s [bx (aa a),bx (aa c.1),bx (al c.2.1),bx (aa f.1),bx (al f.2.1)] (.s (ag (aa a)) (.bd (g:=fun (y:(aq×ba×Bool×Int))=>(tp [(ag (aa y.1)),(ag (al y.2.1)),(bA y.2.2.1),(iA y.2.2.2)])) (by simp only[cD,dL]; exact o a (Int.tmod (wr .i64 ((wr .i64 ((Int.tmod (wr .i64 (l)) ((a.Net.Queue.length:Int)))+1))+(Int.tmod (wr .i64 (a2)) (wr .i64 (((a.Net.Queue.length:Int)) - 1))))) ((a.Net.Queue.length:Int)))) fun i=>.s (ag (aa i.1)) ?_))))))))))))))))))))
 refine .s (ag (al i.2.1)) (.s (bA i.2.2.1) (.s (iA i.2.2.2) (.sq (pt 5 0) (.sq (pt 6 0) (.sh (.s [bx (aa a),bx (aa c.1),bx (al c.2.1),bx (aa f.1),bx (al f.2.1),bx (aa i.1),bx (al i.2.1)] (.s (ag (aa i.1)) (.bd (g:=fun (y:(aq×ba×Bool×Int))=>(tp [(ag (aa y.1)),(ag (al y.2.1)),(bA y.2.2.1),(iA y.2.2.2)])) (by simp only[cD,dL]; exact o i.1 (Int.tmod (wr .i64 (l)) ((a.Net.Queue.length:Int)))) fun k=>.s (ag (aa k.1)) (.s (ag (al k.2.1)) (.s (bA k.2.2.1) (.s (iA k.2.2.2) (.sq (pt 7 0) (.sq (pt 8 0) (.sh (.s [bx (aa a),bx (aa c.1),bx (al c.2.1),bx (aa f.1),bx (al f.2.1),bx (aa i.1),bx (al i.2.1),bx (aa k.1),bx (al k.2.1)] (.st (aC ..) (.bg (fun t (y:Bool)=>∃ b7 b8:A,t=[(bA y),b7,b8]) ?_ ?_)))))))))))))))))
 ·refine .bi ?_ ?_
  ·exact .lg ⟨_,_,rfl⟩
  exact .st (aC ..) (.lg ⟨_,_,rfl⟩)
 rintro _ ck ⟨b7,b8,rfl⟩
 refine .uc (.uc (.uc (.bg (fun t (y:Bool)=>∃ b9 bb:A,t=[(bA y),b9,bb]) ?_ ?_)))
 ·refine .bi ?_ ?_
  ·exact .lg ⟨_,_,rfl⟩
  exact .st (aC ..) (.lg ⟨_,_,rfl⟩)
 rintro _ cl ⟨b9,bb,rfl⟩
 refine .uc (.uc (.uc (.bg (fun t (y:Bool)=>∃ bc be:A,t=[(bA y),bc,be]) ?_ ?_)))
 ·refine .bi ?_ ?_
  ·exact .lg ⟨_,_,rfl⟩
  exact .st (aC ..) (.lg ⟨_,_,rfl⟩)
 rintro _ cm ⟨bc,be,rfl⟩
 refine .uc (.uc (.uc (.cd ?_ ?_)))
 ·exact .lv rfl
 refine .s (pt 0 0) (.s2 (im (a.Net.Queue.map af) false) (.bd (gp (e:=48) (es:=3)) fun bf=>.s2 (im (bf.Data.map c8) false) (.bd (g:=fun (y:(aO×Bool))=>(tp [(ag (au y.1)),(bA y.2)])) (by simp only[cD,dL]; exact w bf.Data) fun q=>.s (ag (au q.1)) (.s (bA q.2) (.sq (pt 9 0) (.s [bx (aa a),bx (aa c.1),bx (al c.2.1),bx (aa f.1),bx (al f.2.1),bx (aa i.1),bx (al i.2.1),bx (aa k.1),bx (al k.2.1),bx (au q.1)] (.s (pt 0 0) (.s2 (im (a.Net.Queue.map af) false) (.bd (gp (e:=48) (es:=3)) fun bh=>.s2 (im (bh.Data.map c8) false) (.bd (g:=fun (y:(aO×Bool))=>(tp [(ag (au y.1)),(bA y.2)])) (by simp only[cD,dL]; exact w bh.Data) fun u=>.s (ag (au u.1)) (.s (bA u.2) (.sq (pt 10 0) (.s [bx (aa a),bx (aa c.1),bx (al c.2.1),bx (aa f.1),bx (al f.2.1),bx (aa i.1),bx (al i.2.1),bx (aa k.1),bx (al k.2.1),bx (au q.1),bx (au u.1)] (.bg (fun t (y:Bool)=>∃ bk:A,t=[(bA y),bk]) ?_ ?_))))))))))))))
 ·refine .bi ?_ ?_
  ·exact .lg ⟨_,rfl⟩
  exact .lg ⟨_,rfl⟩
 rintro _ cn ⟨bk,rfl⟩
 refine .uc (.uc (.bg (fun t (y:Bool)=>∃ bl bm bn bo bp:A,t=[(bA y),bl,bm,bn,bo,bp]) ?_ ?_))
 ·refine .bi ?_ ?_
  ·exact .s (pt 9 1) (.s (iA q.1.Role) (.s (pt 10 1) (.s (iA u.1.Role) (.st (aV ..) (.lg ⟨_,_,_,_,_,rfl⟩)))))
  exact .lg ⟨_,_,_,_,_,rfl⟩
 rintro _ co ⟨bl,bm,bn,bo,bp,rfl⟩
 refine .u4 (.uc (.uc (.bg (fun t (y:Bool)=>∃ bq br bs bt bu:A,t=[(bA y),bq,br,bs,bt,bu]) ?_ ?_)))
 ·refine .bi ?_ ?_
  ·exact .s (pt 9 2) (.s (iA q.1.Bar) (.s (pt 10 2) (.s (iA u.1.Bar) (.st (aV ..) (.lg ⟨_,_,_,_,_,rfl⟩)))))
  exact .lg ⟨_,_,_,_,_,rfl⟩
 rintro _ cp ⟨bq,br,bs,bt,bu,rfl⟩
 refine .u4 (.uc (.uc (.bg (fun t (y:Bool)=>∃ bv bw bz c0 c1:A,t=[(bA y),bv,bw,bz,c0,c1]) ?_ ?_)))
 ·refine .bi ?_ ?_
  ·exact .s (pt 9 0) (.s (iA q.1.No) (.s (pt 10 0) (.s (iA u.1.No) (.st (aV ..) (.lg ⟨_,_,_,_,_,rfl⟩)))))
  exact .lg ⟨_,_,_,_,_,rfl⟩
 rintro _ cq ⟨bv,bw,bz,c0,c1,rfl⟩
 refine .u4 (.uc (.uc (.cd ?_ ?_)))
 ·exact .lv rfl
 exact .s (ag (aa f.1)) (.s (ag (aa k.1)) (.bd (g:=fun (y:Bool)=>(bA y)) (by simp only[cD,dL]; exact x f.1 k.1) fun cr=>.lv rfl))
def G4 (a:aq) (b:Int) (a2:Int):Option Bool:=F4 az a b a2
end Go.Proofs.Ytebkhfhcipnfgaa
