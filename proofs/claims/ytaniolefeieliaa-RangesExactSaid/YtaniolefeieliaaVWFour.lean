-- A part of the words that the print laid for this seat: what this claim names; cut by a program of this session.
import Derived.Test.YtaniolefeieliaaVWTab
/-! ### 56. Four, five, six operations that may come up next, in any order -/
namespace Go.Proofs.YtaniolefeieliaaW.PrintLast
section
variable {P : Program} {ops : Array Oper} {Q : Exit → Act → World → Prop} {md : Region.Mode} {S : World → Prop} {ds : List Nat} {T : Bool × List (List Nat × List Nat)}
end
end Go.Proofs.YtaniolefeieliaaW.PrintLast
