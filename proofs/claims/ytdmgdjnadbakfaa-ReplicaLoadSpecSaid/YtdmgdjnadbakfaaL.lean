/-
 The laws' arguments, read: by a tool.
-/
import Derived.Test.YtdmgdjnadbakfaaAs
import Derived.Test.YtdmgdjnadbakfaaEvLaw
namespace Go.Proofs.Ytdmgdjnadbakfaa
open Go.RowKit Go.ChangeShapes Go.WideShapes Go.ChangeAt Go.Deep
set_option linter.unusedVariables false
set_option linter.unusedSimpArgs false
set_option maxHeartbeats 4000000
set_option maxRecDepth 100000
theorem Hh {args:Array Value} (h:args.size=3):∃ a0 a1 a2,args=#[a0,a1,a2]:=by
 match args,h with | ⟨[a0,a1,a2]⟩,_=>exact⟨a0,a1,a2,rfl⟩
mutual
def bJ:ai->Prop
 | .mk Kind N S L=>(iR Kind/\iR N/\(S.size<=lj)/\L.length<=lj)/\fq L
def fq:List ai->Prop
 | []=>True
 | x :: r=>bJ x/\fq r
end
theorem mi:∀ (l:List ai),fq l↔∀ z∈l,bJ z
 | []=>by rw[fq]; simp
 | x :: r=>by rw[fq,mi r]; simp
theorem dD (x:ai):bJ x↔iR x.Kind/\iR x.N/\(x.S.size<=lj)/\(x.L.length<=lj/\∀ z∈x.L,bJ z):=by
 cases x
 rw[bJ,mi]
 simp only[and_assoc]
def mg (x:ak):Prop:=iR x.No/\iR x.Holder/\iR x.Until
def nS (x:ar):Prop:=iR x.Bar/\iR x.Program
def mh (x:aj):Prop:=iR x.Self/\(x.Leases.length<=lj/\∀ z∈x.Leases,mg z)/\(x.Calls.length<=lj/\∀ z∈x.Calls,nS z)/\(x.Order.length<=lj)
theorem KH:te Try.prog 59 ae mg:=te.of (kd (fs:=#[Field.mk "No" 3 0 false "" "" 0,Field.mk "Holder" 3 1 false "" "" 8,Field.mk "Until" 3 2 false "" "" 16]) (Ts:=[_,_,_]) (by kernel_rfl) (by kernel_rfl) ⟨(qk (by kernel_rfl)),(qk (by kernel_rfl)),(qk (by kernel_rfl)),trivial⟩) fun l h=>by
 obtain ⟨_,_,rfl,⟨x0,rfl,h0⟩,_,_,rfl,⟨x1,rfl,h1⟩,_,_,rfl,⟨x2,rfl,h2⟩,rfl⟩:=h
 exact⟨⟨x0,x1,x2⟩,by simp[ae,cI,cB,cS,cL,af,ae,ah,aa,aw,bf,aO,bR,aM,aB,bK,c7,aF],h0,h1,h2⟩
theorem KI:te Try.prog 62 ah nS:=te.of (kd (fs:=#[Field.mk "Bar" 3 0 false "" "" 0,Field.mk "Program" 3 1 false "" "" 8]) (Ts:=[_,_]) (by kernel_rfl) (by kernel_rfl) ⟨(qk (by kernel_rfl)),(qk (by kernel_rfl)),trivial⟩) fun l h=>by
 obtain ⟨_,_,rfl,⟨x0,rfl,h0⟩,_,_,rfl,⟨x1,rfl,h1⟩,rfl⟩:=h
 exact⟨⟨x0,x1⟩,by simp[ah,cI,cB,cS,cL,af,ae,ah,aa,aw,bf,aO,bR,aM,aB,bK,c7,aF],h0,h1⟩
theorem KG:te Try.prog 26 aa mh:=te.of (kd (fs:=#[Field.mk "Self" 3 0 false "" "" 0,Field.mk "Leases" 22 1 false "" "" 8,Field.mk "Calls" 23 2 false "" "" 32,Field.mk "Order" 24 3 false "" "" 56]) (Ts:=[_,_,_,_]) (by kernel_rfl) (by kernel_rfl) ⟨(qk (by kernel_rfl)),(pN (e:=59) (es:=3) (c:=ae) (by kernel_rfl) (by kernel_rfl) (by decide) (fun _=>rfl) KH),(pN (e:=62) (es:=2) (c:=ah) (by kernel_rfl) (by kernel_rfl) (by decide) (fun _=>rfl) KI),(uw (e:=4) (es:=1) (c:=cB) (by kernel_rfl) (by kernel_rfl) (by decide) (fun _=>rfl) (FJ (by kernel_rfl))),trivial⟩) fun l h=>by
 obtain ⟨_,_,rfl,⟨x0,rfl,h0⟩,_,_,rfl,⟨x1,rfl,h1⟩,_,_,rfl,⟨x2,rfl,h2⟩,_,_,rfl,⟨x3,rfl,h3⟩,rfl⟩:=h
 exact⟨⟨x0,x1,x2,x3⟩,by simp[aa,cI,cB,cS,cL,af,ae,ah,aa,aw,bf,aO,bR,aM,aB,bK,c7,aF],h0,h1,h2,h3⟩
def Gc:Prop:=∀ (a0:aj) (a1:Int) (a2:(List (List UInt8))),mh a0->iR a1->(a2.length<=lj/\∀ z∈a2,(z.length<=lj))->G3 a0 a1 a2=some true
theorem K2 (hp:Gc) (W:World) (base:Nat) (args:Array Value) {H:Type} {enc:TypeId×Value->H} (hg:qw enc Try.prog W base Try.f3.params args) (hl:∀ (G:Nat) (vs:List Value),(cx C0).glob G=some vs->∀ (j:Nat) (v:Value),vs[j]? = some v->W.cell? ⟨G,j,none⟩=some v) :
  Calls Try.prog 3 args W fun e W'=>e=.returned (.bool true)/\Below W.heap.size W W':=by
 obtain ⟨v0,v1,v2,rfl⟩:=Hh hg.1
 obtain ⟨a0,b0,w0⟩:=BA hg 0 rfl rfl (fs:=#[Field.mk "Self" 3 0 false "" "" 0,Field.mk "Leases" 22 1 false "" "" 8,Field.mk "Calls" 23 2 false "" "" 32,Field.mk "Order" 24 3 false "" "" 56]) (by kernel_rfl) KG
 obtain ⟨a1,b1,w1⟩:=Hu hg 1 rfl rfl (by kernel_rfl)
 obtain ⟨a2,b2,w2⟩:=Bz hg 2 rfl rfl (e:=30) (by kernel_rfl) (pN (e:=30) (es:=1) (c:=(cL c8)) (by kernel_rfl) (by kernel_rfl) (by decide) (fun _=>rfl) (uw (e:=5) (es:=1) (c:=c8) (by kernel_rfl) (by kernel_rfl) (by decide) (fun _=>rfl) (KJ (by kernel_rfl))))
 refine Hw (glob:=(cx C0).glob) (R4 _ _ ((aQ _ RZ (a0,a1,a2)).trans (by simp only[hp a0 a1 a2 b0 b1 b2]; rfl))) hl ?_
 exact rb w0 (rb w1 (rb w2 (by rw[bn])))
end Go.Proofs.Ytdmgdjnadbakfaa
