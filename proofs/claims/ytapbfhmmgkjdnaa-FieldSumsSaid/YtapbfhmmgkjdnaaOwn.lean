/-
  Two closed facts on the program, and the readers of layer 9's arguments.
-/
import Derived.Test.YtapbfhmmgkjdnaaW6
import Derived.Test.YtapbfhmmgkjdnaaFrame
namespace Go.Proofs.Ytapbfhmmgkjdnaa
open Go.RowKit Go.Deep
theorem own : ownKnob Try.prog.godebug = none := by kernel_rfl
theorem laidOut : laidOutB Try.prog = true := by kernel_rfl
theorem readsInt : Reads Try.prog lInt 3 := reads_int Try.underlying3
theorem readsPt : Reads Try.prog lPt 38 := by
  intro H enc w held fuel cs x h
  obtain ⟨y0, y1, n, _, hc, h0, h1⟩ := ChangeShapes.trod_struct2 Try.underlying38 h
  match cs, hc with
  | [c0, c1], _ =>
    obtain ⟨a, e0, ha⟩ := reads_int (P := Try.prog) Try.underlying3 enc w held n _ _ h0
    obtain ⟨b, e1, hb⟩ := reads_int (P := Try.prog) Try.underlying3 enc w held n _ _ h1
    have e0' : [c0] = [.int .i64 a] := e0
    have e1' : [c1] = [.int .i64 b] := e1
    cases e0'
    cases e1'
    exact ⟨(a, b), rfl, ha, hb⟩
end Go.Proofs.Ytapbfhmmgkjdnaa
