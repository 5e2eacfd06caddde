/-
 What the interpreter's steps are on plain data: equations for simp.
-/
import Derived.Test.YtdmgdjnadbakfaaEvMain
namespace Go.Proofs.Ytdmgdjnadbakfaa
set_option linter.unusedVariables false
set_option linter.unusedSimpArgs false
theorem pureV_bind {α β:Type} (P:Program) (f:α->Sem β):∀ (m:Sem α),pureV P (m >>= f)=(pureV P m).bind fun a=>pureV P (f a)
 | .pure a=>rfl
 | .program k=>pureV_bind P f (k P)
 | .mark _ k=>pureV_bind P f k
 | .load .. | .store .. | .new .. | .shape .. | .freeze .. | .frozen .. | .getObj .. | .setObj .. | .choose .. | .sys .. | .halt _=>rfl
theorem pureV_underlying (P:Program) (t:TypeId):pureV P (underlying t)=P.underlying t:=by
 unfold underlying
 show pureV P (match P.underlying t with | some d=>pure d | none=>stuck "no such type")=_
 cases P.underlying t<;>rfl
@[simp] theorem bIf_bool {β:Type} (b:Bool) (x y:Option β):bIf (.v (.bool b)) x y=bif b then x else y:=rfl
@[simp] theorem gIf_true {β:Type} (b:Bool) (x y:Option β):gIf (.v (.bool b)) true x y=bif b then x else y:=rfl
@[simp] theorem gIf_false {β:Type} (b:Bool) (x y:Option β):gIf (.v (.bool b)) false x y=bif b then y else x:=by cases b<;>rfl
@[simp] theorem gIf_undef {β:Type} (w:Bool) (x y:Option β):gIf (.v undef) w x y=y:=by cases w<;>rfl
@[simp] theorem oneC_int (k:IntKind) (n:Int):(Value.int k n).oneCell'=true:=rfl
@[simp] theorem oneC_bool (b:Bool):(Value.bool b).oneCell'=true:=rfl
@[simp] theorem oneC_string (s:ByteArray):(Value.string s).oneCell'=true:=rfl
section
variable (P:Program) (t s d:TypeId) (i j:Bool) (k:IntKind) (a b:Int) (p q:Bool) (H:Heap) (lo:Nat)
@[simp] theorem aBin_eql:aBin P .eql t i j (.v (.int k a)) (.v (.int k b))=some (.v (.bool (a==b))):=by cases k<;>rfl
@[simp] theorem aBin_neq:aBin P .neq t i j (.v (.int k a)) (.v (.int k b))=some (.v (.bool (a != b))):=by cases k<;>rfl
@[simp] theorem aBin_lss:aBin P .lss t i j (.v (.int k a)) (.v (.int k b))=some (.v (.bool (decide (a<b)))):=by cases k<;>rfl
@[simp] theorem aBin_leq:aBin P .leq t i j (.v (.int k a)) (.v (.int k b))=some (.v (.bool (decide (a<=b)))):=by cases k<;>rfl
@[simp] theorem aBin_gtr:aBin P .gtr t i j (.v (.int k a)) (.v (.int k b))=some (.v (.bool (decide (b<a)))):=by cases k<;>rfl
@[simp] theorem aBin_geq:aBin P .geq t i j (.v (.int k a)) (.v (.int k b))=some (.v (.bool (decide (b<=a)))):=by cases k<;>rfl
@[simp] theorem aBin_add:aBin P .add t i j (.v (.int k a)) (.v (.int k b))=some (.v (.int k (k.wrap (a+b)))):=by cases k<;>rfl
@[simp] theorem aBin_sub:aBin P .sub t i j (.v (.int k a)) (.v (.int k b))=some (.v (.int k (k.wrap (a - b)))):=by cases k<;>rfl
@[simp] theorem aBin_mul:aBin P .mul t i j (.v (.int k a)) (.v (.int k b))=some (.v (.int k (k.wrap (a*b)))):=by cases k<;>rfl
def strEq (a b:ByteArray):Bool:=a.toList==b.toList
theorem aBin_eql_s (x y:ByteArray):aBin P .eql t i j (.v (.string x)) (.v (.string y))=some (.v (.bool (strEq x y))):=rfl
theorem aBin_rem (hb:b≠0):aBin P .rem t i j (.v (.int k a)) (.v (.int k b))=some (.v (.int k (a.tmod b))):=by
 have h:pureV P (do eqGuard .rem t (rep i) (rep j) (.int k a) (.int k b); binOp .rem t (.int k a) (.int k b))=some (.int k (a.tmod b)):=by
  show pureV P (binOp .rem t (.int k a) (.int k b))=_
  simp only[binOp,ne_eq,not_true_eq_false,if_false,Op.intDiv,if_neg hb]; rfl
 show (pureV P _).map ofV=_
 rw[h]; rfl
@[simp] theorem aUn_not:aUn P .not (.v (.bool p))=some (.v (.bool (!p))):=rfl
@[simp] theorem aUn_neg:aUn P .neg (.v (.int k a))=some (.v (.int k (k.wrap (0 - a)))):=rfl
@[simp] theorem aExtract_tup (l:List A) (n:Nat):aExtract (.tup l) n=l[n]?:=rfl
@[simp] theorem snap_v (x:Value):snap H (.v x)=.v x:=rfl
@[simp] theorem under_v (L:Nat) (x:Value):A.under L (.v x)=true:=rfl
@[simp] theorem retU_v (L:Nat) (x:Value) (H':Heap):retU L (.ret (.v x),H')=some (.v x):=rfl
@[simp] theorem outK_ret (x:A) (f g:A->Option R):outK (.ret x) f g=f x:=rfl
@[simp] theorem outK_pan (x:A) (f g:A->Option R):outK (.pan x) f g=g x:=rfl
@[simp] theorem bind_cond {α β:Type} (x y:α) (f:α->Option β):(bif p then some x else some y).bind f=f (bif p then x else y):=by cases p<;>rfl
@[simp] theorem cond_v (x y:Value):(bif p then A.v x else A.v y)=A.v (bif p then x else y):=by cases p<;>rfl
@[simp] theorem cond_bool (x y:Bool):(bif p then Value.bool x else Value.bool y)=Value.bool (bif p then x else y):=by cases p<;>rfl
@[simp] theorem cond_int (x y:Int):(bif p then Value.int k x else Value.int k y)=Value.int k (bif p then x else y):=by cases p<;>rfl
theorem aConvert_int {l:IntKind} (hs:P.underlying s=some (.int l)) (hd:P.underlying d=some (.int k)):aConvert P s d (.v (.int l a)) H=some (.v (.int k (k.wrap a))):=by
 simp only[aConvert,hs,hd]
 have h:pureV P (convert s d (.int l a))=some (.int k (k.wrap a)):=by
  unfold convert
  simp only[pureV_bind,pureV_underlying,hs,hd,Option.bind_some]
  rfl
 show (pureV P _).map ofV=_
 rw[h]; rfl
end
end Go.Proofs.Ytdmgdjnadbakfaa
