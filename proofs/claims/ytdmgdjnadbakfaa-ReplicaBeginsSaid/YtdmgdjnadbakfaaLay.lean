/-
 How Go's data lie in memory, as plain Lean data: 'Lay': a reader of cells. What it reads lies below block B, so it stays read while blocks from B on are made or written.
-/
import Derived.Below
import Derived.ChangeArms
import Derived.Deep.Slices
namespace Go.Proofs.Ytdmgdjnadbakfaa
open Go.RowKit
def isData:Obj->Bool
 | .cells ..=>true
 | .map ..=>true
 | _=>false
def Keeps (B:Nat) (w w':World):Prop:=∀ (k:Nat) (o:Obj),k<B->w.heap[k]? = some o->isData o=true->w'.heap[k]? = some o
theorem Keeps.of_below {B n:Nat} {w w':World} (h:Below B w w') (hn:n<=B):Keeps n w w':=fun k _ hk ho _=>(h.block k (Nat.lt_of_lt_of_le hk hn)).trans ho
theorem Keeps.mono {B n:Nat} {w w':World} (h:Keeps B w w') (hn:n<=B):Keeps n w w':=fun k o hk=>h k o (Nat.lt_of_lt_of_le hk hn)
theorem Keeps.refl (B:Nat) (w:World):Keeps B w w:=fun _ _ _ h _=>h
theorem Keeps.trans {B:Nat} {a b c:World} (h:Keeps B a b) (k:Keeps B b c):Keeps B a c:=fun i o hi ho hd=>k i o hi (h i o hi ho hd) hd
def KeepsOn (T:Nat->Prop) (w w':World):Prop:=∀ (k:Nat) (o:Obj),T k->w.heap[k]? = some o->isData o=true->w'.heap[k]? = some o
theorem KeepsOn.refl (T:Nat->Prop) (w:World):KeepsOn T w w:=fun _ _ _ h _=>h
theorem KeepsOn.trans {T:Nat->Prop} {a b c:World} (h:KeepsOn T a b) (k:KeepsOn T b c):KeepsOn T a c:=fun i o hi ho hd=>k i o hi (h i o hi ho hd) hd
theorem KeepsOn.sub {T T':Nat->Prop} {a b:World} (h:KeepsOn T a b) (hs:∀ k,T' k->T k):KeepsOn T' a b:=fun i o hi ho hd=>h i o (hs i hi) ho hd
theorem KeepsOn.keeps {T:Nat->Prop} {B:Nat} {a b:World} (h:KeepsOn T a b) (hs:∀ k,k<B->T k):Keeps B a b:=fun i o hi ho hd=>h i o (hs i hi) ho hd
theorem KeepsOn.alloc (T:Nat->Prop) (w:World) (o:Obj):KeepsOn T w (w.alloc o):=fun k _ _ h _=>(Below.heap_alloc w o k (Array.getElem?_eq_some_iff.1 h).1).trans h
theorem KeepsOn.of_below {T:Nat->Prop} {w w':World} (h:Below w.heap.size w w'):KeepsOn T w w':=fun k _ _ ho _=>(h.block k (Array.getElem?_eq_some_iff.1 ho).1).trans ho
theorem Keeps.alloc (B:Nat) (w:World) (o:Obj):Keeps B w (w.alloc o):=fun k _ _ h _=>(Below.heap_alloc w o k (Array.getElem?_eq_some_iff.1 h).1).trans h
theorem cell_keeps {B:Nat} {w w':World} (h:Keeps B w w') {a:Addr} {v:Value} (hb:a.block<B) (hc:w.cell? a=some v):w'.cell? a=some v:=by
 have hx:∃ o,w.heap[a.block]? = some o/\isData o=true:=by
  unfold World.cell? at hc
  cases ho:w.heap[a.block]? with
  | none=>simp[ho] at hc
  | some o=>cases o<;>simp[ho] at hc<;>exact⟨_,rfl,rfl⟩
 obtain ⟨o,ho,hd⟩:=hx
 rw[<-hc]
 exact World.cell?_of_block ((h _ o hb ho hd).trans ho.symm)
structure Lay (α:Type) where
 k:Nat
 rd:Nat->World->List Value->α->Prop
 len:∀ {B:Nat} {w:World} {cs:List Value} {a:α},rd B w cs a->cs.length=k
 mono:∀ {B B':Nat} {w:World} {cs:List Value} {a:α},B<=B'->rd B w cs a->rd B' w cs a
 stab:∀ {B:Nat} {w w':World} {cs:List Value} {a:α},Keeps B w w'->rd B w cs a->rd B w' cs a
def lInt:Lay Int:={ k:=1,rd:=fun _ _ cs n=>cs=[.int .i64 n]/\-9223372036854775808<=n/\n<=9223372036854775807,len:=fun h=>by rw[h.1]; rfl,mono:=fun _ h=>h,stab:=fun _ h=>h }
def ElemAt {α:Type} (L:Lay α) (B:Nat) (w:World) (b off i:Nat) (x:α):Prop :=
 ∃ vs:List Value,L.rd B w vs x/\∀ j,j<L.k->w.cell? ⟨b,off+i*L.k+j,none⟩=vs[j]?
def SliceOf {α:Type} (L:Lay α) (B:Nat) (w:World) (v:Value) (l:List α):Prop :=
 ∃ a cap,v=.slice a l.length cap/\l.length<=cap/\cap<=maxLen/\(0<l.length->∃ b off,a=some ⟨b,off,none⟩/\b<B/\∀ i (h:i<l.length),ElemAt L B w b off i l[i])
theorem ElemAt.mono {α:Type} {L:Lay α} {B B':Nat} {w:World} {b off i:Nat} {x:α} (hB:B<=B') (h:ElemAt L B w b off i x):ElemAt L B' w b off i x:=by
 obtain ⟨vs,h1,h2⟩:=h
 exact⟨vs,L.mono hB h1,h2⟩
theorem ElemAt.stab {α:Type} {L:Lay α} {B:Nat} {w w':World} {b off i:Nat} {x:α} (hb:b<B) (hw:Keeps B w w') (h:ElemAt L B w b off i x):ElemAt L B w' b off i x:=by
 obtain ⟨vs,h1,h2⟩:=h
 exact⟨vs,L.stab hw h1,fun j hj=>by
  have hlt:j<vs.length:=by rw[L.len h1]; exact hj
  have h3:=h2 j hj
  rw[List.getElem?_eq_getElem hlt] at h3 ⊢
  exact cell_keeps hw hb h3⟩
theorem SliceOf.mono {α:Type} {L:Lay α} {B B':Nat} {w:World} {v:Value} {l:List α} (hB:B<=B') (h:SliceOf L B w v l):SliceOf L B' w v l:=by
 obtain ⟨a,cap,e,h1,h2,h3⟩:=h
 exact⟨a,cap,e,h1,h2,fun hp=>let ⟨b,off,e',hb,h4⟩:=h3 hp; ⟨b,off,e',Nat.lt_of_lt_of_le hb hB,fun i hi=>(h4 i hi).mono hB⟩⟩
theorem SliceOf.stab {α:Type} {L:Lay α} {B:Nat} {w w':World} {v:Value} {l:List α} (hw:Keeps B w w') (h:SliceOf L B w v l):SliceOf L B w' v l:=by
 obtain ⟨a,cap,e,h1,h2,h3⟩:=h
 exact⟨a,cap,e,h1,h2,fun hp=>let ⟨b,off,e',hb,h4⟩:=h3 hp; ⟨b,off,e',hb,fun i hi=>(h4 i hi).stab hb hw⟩⟩
theorem SliceOf.nil {α:Type} (L:Lay α) (B:Nat) (w:World):SliceOf L B w (.slice none 0 0) []:=⟨none,0,rfl,Nat.le_refl _,by simp[maxLen],fun h=>by simp at h⟩
theorem ElemAt.one {α:Type} {L:Lay α} {B:Nat} {w:World} {b off i:Nat} {x:α} {v:Value} (h:ElemAt L B w b off i x) (hk:L.k=1) (hv:∀ vs,L.rd B w vs x->vs=[v]):w.cell? ⟨b,off+i,none⟩=some v:=by
 obtain ⟨vs,h1,h2⟩:=h
 have:=h2 0 (by omega)
 rw[hv vs h1,hk] at this
 simpa using this
theorem ElemAt.int {B:Nat} {w:World} {b off i:Nat} {x:Int} (h:ElemAt lInt B w b off i x):w.cell? ⟨b,off+i,none⟩=some (.int .i64 x)/\-9223372036854775808<=x/\x<=9223372036854775807:=by
 refine⟨h.one rfl (fun vs hv=>hv.1),?_⟩
 obtain ⟨vs,h1,_⟩:=h
 exact h1.2
end Go.Proofs.Ytdmgdjnadbakfaa
