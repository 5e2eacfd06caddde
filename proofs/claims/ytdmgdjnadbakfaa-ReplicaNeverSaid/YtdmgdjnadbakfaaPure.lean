/-
 Small laws of plain data.
-/
import Derived.Test.YtdmgdjnadbakfaaEvTyped
namespace Go.Proofs.Ytdmgdjnadbakfaa
set_option linter.unusedVariables false
set_option linter.unusedSimpArgs false
@[simp] theorem or_some (a b:Bool):(bif a then some true else some b)=some (a || b):=by cases a<;>rfl
@[simp] theorem HI (a b:Bool):(bif a then some b else some false)=some (a&&b):=by cases a<;>rfl
theorem jP {n:Int} (h:-9223372036854775808<=n) (h':n<=9223372036854775807):wr .i64 n=n:=by
 simp only[wr,IntKind.wrap,IntKind.bits,IntKind.signed]
 simp
 omega
theorem bV {T:Type} (l:List T) (i:Nat):bX l (i:Int)=l[i]?:=by simp[bX]
end Go.Proofs.Ytdmgdjnadbakfaa
