/-
 Two closed facts on the program.
-/
import Derived.Test.YtdmgdjnadbakfaaL
import Derived.KernelRfl
namespace Go.Proofs.Ytdmgdjnadbakfaa
open Go.RowKit Go.Deep
theorem own:ownKnob Try.prog.godebug=none:=by kernel_rfl
theorem laidOut:laidOutB Try.prog=true:=by kernel_rfl
end Go.Proofs.Ytdmgdjnadbakfaa
