/-
 Two closed facts on the program.
-/
import Derived.Test.YthoomfjliekbdaaL
import Derived.KernelRfl
namespace Go.Proofs.Ythoomfjliekbdaa
open Go.RowKit Go.Deep
theorem own : ownKnob Try.prog.godebug = none := by kernel_rfl
theorem laidOut : laidOutB Try.prog = true := by kernel_rfl
end Go.Proofs.Ythoomfjliekbdaa
