/-
 Layer 4, in plain Lean: the stopped disk.
-/
import Derived.Test.YthoomfjliekbdaaP3
namespace Go.Proofs.Ythoomfjliekbdaa
set_option linter.unusedVariables false
set_option linter.unusedSimpArgs false
set_option maxRecDepth 100000
end Go.Proofs.Ythoomfjliekbdaa
