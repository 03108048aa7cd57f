-- A part of the words that the print laid for this seat: what this claim names; cut by a program of this session.
import Derived.Test.YtaniolefeieliaaVWN
/-! ### 52. A row that stays read whatever happens to a block (a set of blocks) doesn't lie there -/
namespace Go.Proofs.YtaniolefeieliaaW.PrintWords
open Go.RowKit
namespace Kd
section
variable {α : Type} {d : Kd α} {W : World} {g n : Nat} {S ok : Nat → Prop} {A : Option Addr} {ad : Addr} {xs : List α}
end
end Kd
end Go.Proofs.YtaniolefeieliaaW.PrintWords
