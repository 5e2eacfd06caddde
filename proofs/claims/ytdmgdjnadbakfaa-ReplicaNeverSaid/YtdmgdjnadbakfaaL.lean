/-
 The laws' arguments, read: by a tool.
-/
import Derived.Test.YtdmgdjnadbakfaaAs
import Derived.Test.YtdmgdjnadbakfaaEvLaw
namespace Go.Proofs.Ytdmgdjnadbakfaa
open Go.RowKit Go.ChangeShapes Go.WideShapes Go.ChangeAt Go.Deep
set_option linter.unusedVariables false
set_option linter.unusedSimpArgs false
set_option maxHeartbeats 4000000
set_option maxRecDepth 100000
theorem Ge {args:Array Value} (h:args.size=3):∃ a0 a1 a2,args=#[a0,a1,a2]:=by
 match args,h with | ⟨[a0,a1,a2]⟩,_=>exact⟨a0,a1,a2,rfl⟩
mutual
def bS:ar->Prop
 | .mk Kind N S L=>(fS Kind/\fS N/\(S.size<=m8)/\L.length<=m8)/\fE L
def fE:List ar->Prop
 | []=>True
 | x :: r=>bS x/\fE r
end
theorem po:∀ (l:List ar),fE l↔∀ z∈l,bS z
 | []=>by rw[fE]; simp
 | x :: r=>by rw[fE,po r]; simp
theorem dV (x:ar):bS x↔fS x.Kind/\fS x.N/\(x.S.size<=m8)/\(x.L.length<=m8/\∀ z∈x.L,bS z):=by
 cases x
 rw[bS,po]
 simp only[and_assoc]
def nE (x:bj):Prop:=fS x.Kind/\fS x.Who/\fS x.A/\fS x.B
def sm (x:ak):Prop:=fS x.No/\fS x.Holder/\fS x.Until
def um (x:av):Prop:=fS x.Bar/\fS x.Program
theorem Jr:Fq Try.prog 49 al nE:=Fq.of (ti (fs:=#[Field.mk "Kind" 3 0 false "" "" 0,Field.mk "Who" 3 1 false "" "" 8,Field.mk "A" 3 2 false "" "" 16,Field.mk "B" 3 3 false "" "" 24]) (Ts:=[_,_,_,_]) (by kernel_rfl) (by kernel_rfl) ⟨(vL (by kernel_rfl)),(vL (by kernel_rfl)),(vL (by kernel_rfl)),(vL (by kernel_rfl)),trivial⟩) fun l h=>by
 obtain ⟨_,_,rfl,⟨x0,rfl,h0⟩,_,_,rfl,⟨x1,rfl,h1⟩,_,_,rfl,⟨x2,rfl,h2⟩,_,_,rfl,⟨x3,rfl,h3⟩,rfl⟩:=h
 exact⟨⟨x0,x1,x2,x3⟩,by simp[al,cI,cB,cS,cL,aw,al,ae,af,aa,az,bw,aR,b7,aQ,ai,aq,dw],h0,h1,h2,h3⟩
def Fo:Prop:=∀ (a0:Int) (a1:Int) (a2:(List bj)),fS a0->fS a1->(a2.length<=m8/\∀ z∈a2,nE z)->G4 a0 a1 a2=some true
theorem JG (hp:Fo) (W:World) (base:Nat) (args:Array Value) {H:Type} {enc:TypeId×Value->H} (hg:tu enc Try.prog W base Try.f4.params args) (hl:∀ (G:Nat) (vs:List Value),(cx C0).glob G=some vs->∀ (j:Nat) (v:Value),vs[j]? = some v->W.cell? ⟨G,j,none⟩=some v) :
  Calls Try.prog 4 args W fun e W'=>e=.returned (.bool true)/\Below W.heap.size W W':=by
 obtain ⟨v0,v1,v2,rfl⟩:=Ge hg.1
 obtain ⟨a0,b0,w0⟩:=CE hg 0 rfl rfl (by kernel_rfl)
 obtain ⟨a1,b1,w1⟩:=CE hg 1 rfl rfl (by kernel_rfl)
 obtain ⟨a2,b2,w2⟩:=A4 hg 2 rfl rfl (e:=49) (by kernel_rfl) (Dk (e:=49) (es:=4) (c:=al) (by kernel_rfl) (by kernel_rfl) (by decide) (fun _=>rfl) Jr)
 refine Gy (glob:=(cx C0).glob) (O7 _ _ ((bu _ O4 (a0,a1,a2)).trans (by simp only[hp a0 a1 a2 b0 b1 b2]; rfl))) hl ?_
 exact qS w0 (qS w1 (qS w2 (by rw[bp])))
end Go.Proofs.Ytdmgdjnadbakfaa
