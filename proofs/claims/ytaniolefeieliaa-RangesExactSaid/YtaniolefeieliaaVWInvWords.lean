-- A part of the words that the print laid for this seat: what this claim names; cut by a program of this session.
import Derived.Test.YtaniolefeieliaaVWInv
import Derived.Test.YtaniolefeieliaaVWFootNe
namespace Go.Proofs.YtaniolefeieliaaW.PrintWords
open Go.RowKit
end Go.Proofs.YtaniolefeieliaaW.PrintWords
namespace Go.Proofs.YtaniolefeieliaaW.PrintLast
section
variable {ops : Array Oper} {a : Act} {o og : Oper} {g : Nat} {t : Tmp} {u : Bool}
end
end Go.Proofs.YtaniolefeieliaaW.PrintLast
