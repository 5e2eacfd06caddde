/-
 The program's functions as plain functions: what the interpreter answers of some, by a tool.
-/
import Derived.Test.YtebkhfhcipnfgaaT
namespace Go.Proofs.Ytebkhfhcipnfgaa
set_option linter.unusedVariables false
set_option linter.unusedSimpArgs false
set_option maxHeartbeats 4000000
set_option maxRecDepth 100000
set_option linter.defProp false
theorem ZP {p:Prop} (h:p:=by unfold wy; kernel_rfl):p:=h
variable (C:Nat->List A->Option A) (n:Nat) {ρ γ:Type} {φ:ρ->γ->Prop} {kL:R->Option ρ} (kx kg:Nat->St->Option R) (kr:St->Option R) (kp:A->St->Option R)
def AX:List (Nat×List A×A)->Nat->List A->Option A
 | [],_,_=>none
 | e :: t,k,args=>bif Nat.beq e.1 k&&sameAs e.2.1 args then some e.2.2 else AX t k args
theorem xz:∀ {t:List (Nat×List A×A)} {k:Nat} {args:List A} {r:A},AX t k args=some r->∃ e∈t,e.1=k/\e.2.1=args/\e.2.2=r
 | e :: t,k,args,r,h=>by
  rw[AX] at h;cases hb:Nat.beq e.1 k&&sameAs e.2.1 args with
  | true=>
   rw[hb] at h;obtain ⟨h1,h2⟩:=Bool.and_eq_true_iff.1 hb;exact⟨e,qbq,qan h1,iz _ _ h2,qcm h⟩
  | false=>
   rw[hb] at h;obtain ⟨x,q1,q2⟩:=xz h;exact⟨x,qbp _ q1,q2⟩
def P8 (t:List (Nat×List A×A)) (C:Nat->List A->Option A) (k:Nat) (args:List A):Option A:=match AX t k args with
 | some r=>some r
 | none=>C k args
def wy (e:Nat×List A×A):Prop:=Cn 23 e.1 e.2.1=some e.2.2
theorem JY {t:List (Nat×List A×A)} {C:Nat->List A->Option A} (h:∀ e∈t,C e.1 e.2.1=some e.2.2):P8 t C=C:=by
 funext k args
 unfold P8;cases hl:AX t k args with
 | none=>rfl
 | some r=>
  obtain ⟨e,q1,rfl,rfl,rfl⟩:=xz hl;exact(h e q1).symm
def Qx (w:ay) (i:Int) (y:ay) (r:bH) (h:Bool) (e:Int):Nat×List A×A:=(16,[.agg (aq w),iA i],.tup [.agg (aq y),.agg (bF r),bA h,iA e])
def R0 (w:ay) (d g:List Int) (y:ay) (e:Int):Nat×List A×A:=(19,[.agg (aq w),.imm (d.map (cI .i64)) false,.imm (g.map (cI .i64)) false],.tup [.agg (aq y),iA e])
def WV (w:ay) (i:Int) (y:ay) (e:Int):Nat×List A×A:=(21,[.agg (aq w),iA i],.tup [.agg (aq y),iA e])
def dz:ay:=⟨⟨[],[]⟩,[],0⟩
def dw:ay:=⟨⟨[],[]⟩,[⟨[],[],[]⟩,⟨[],[],[]⟩],0⟩
def p4:aC:=⟨0,1,[3,5,1,2,1,8,1,0,1,0,1,4]⟩
def p5:aC:=⟨0,1,[3,5,1,2,1,10,1,0,1,0,1,6]⟩
def p6:aC:=⟨0,2,[3,5,1,2,1,12,1,2,1,0,1,6]⟩
def r0:aC:=⟨1,0,[3,4,1,4,1,0,1,0,1,6]⟩
def rz:aC:=⟨1,0,[3,4,1,4,1,0,1,0,1,0]⟩
def r1:aC:=⟨2,0,[3,4,1,4,1,2,1,0,1,0]⟩
def dc:ay:=⟨⟨[p4,p5,p6],[]⟩,[⟨[],[],[]⟩,⟨[],[],[]⟩],0⟩
def dd:ay:=⟨⟨[p4,p6],[]⟩,[⟨[⟨5,0,0,3⟩],[],[]⟩,⟨[],[],[]⟩],0⟩
def dx:ay:=⟨⟨[p6],[]⟩,[⟨[⟨5,0,0,3⟩],[],[]⟩,⟨[],[],[]⟩],0⟩
def db (l:List aC) (g d:Int):ay:=⟨⟨l,[]⟩,[⟨[],[g],[d]⟩,⟨[],[0],[0]⟩],1⟩
def zr:bH:=⟨0,0,0⟩
def m0:=Qx dw 0 dz zr false 1
def m1:=Qx dc 1 dd zr false 0
def m2:=Qx dd 0 dx zr false 0
def m3:=Qx (db [p6,r0,r1] 3 3) 0 (db [r0,r1] 3 3) zr false 0
def m4:=Qx (db [r0,r1] 3 3) 0 (db [r1] 3 3) ⟨0,0,3⟩ true 0
def m5:=R0 dw [] [0,2] dz 1
def m6:=R0 dx [] [0,1] (db [p6,r0,r1] 3 3) 0
def m7:=R0 dx [] [0,0] (db [p6,rz,r1] 3 0) 0
def m8:=R0 dx [0] [0,1] (db [p6,rz,r1] 0 0) 0
def m9:=WV dw 0 dz 1
def mq:=WV (db [r1] 3 3) 0 (db [r1,r0] 3 3) 0
theorem TC:wy m0:=ZP
theorem TD:wy m1:=ZP
theorem TE:wy m2:=ZP
theorem TF:wy m3:=ZP
theorem TG:wy m4:=ZP
theorem TH:wy m5:=ZP
end Go.Proofs.Ytebkhfhcipnfgaa
