-- Written by a program of this session over the translation; checked by Lean alone.
import Derived.Test.YtklgifnkoeadpaaProg
import Derived.Test.YtklgifnkoeadpaaShelf
import Derived.Below
import Derived.Deep.Draws
import Derived.Deep.AppendLies
import Derived.Maps.AppendAt
import Derived.OwnWalk
import Derived.Laws.BytesArg
import Derived.Laws.MakeOwn
import Derived.Laws.OwnMore
import Derived.Deep.OwnRows
import Derived.Tactics
import Derived.Lib.ConvBytes
import Derived.Laws.Slices
import Derived.WalkKit
import Derived.KernelRfl
import Derived.RowKit3
import Derived.Deep.LoopGhost
import Derived.Deep.QuietTactic
import Derived.BigQuiet
import Derived.WideLaws
import Derived.Deep.DeepCutAuto
import Derived.Deep.CutBlock
import Derived.Deep.RegionHeld3
import Derived.Laws.Rows
import Derived.Lib.AppendStr
import Derived.ArgAppend
import Derived.Laws.IdiomCopy
import Derived.OrdersHeld
import Derived.Laws.BitsLemmas
import Derived.RowKit
import Derived.Test.YtklgifnkoeadpaaWWords
import Derived.Test.YtklgifnkoeadpaaWLast
import Derived.Test.YtklgifnkoeadpaaWTab
import Derived.Test.YtklgifnkoeadpaaWFour
import Derived.Test.YtklgifnkoeadpaaWQPut
import Derived.Test.YtklgifnkoeadpaaWApart
import Derived.Test.YtklgifnkoeadpaaWArr
import Derived.Test.YtklgifnkoeadpaaWZeros
import Derived.Test.YtklgifnkoeadpaaWFoot
import Derived.Test.YtklgifnkoeadpaaWKept
import Derived.Test.YtklgifnkoeadpaaWShare
import Derived.Test.YtklgifnkoeadpaaWN
import Derived.Test.YtklgifnkoeadpaaWFootNe
import Derived.Test.YtklgifnkoeadpaaWAt
import Derived.Test.YtklgifnkoeadpaaWEqStruct
import Derived.Test.YtklgifnkoeadpaaWRepsOne
import Derived.Test.YtklgifnkoeadpaaWInv
import Derived.Test.YtklgifnkoeadpaaWInvWords
import Derived.Test.YtklgifnkoeadpaaWGuard
import Derived.Test.YtklgifnkoeadpaaWNEv
import Derived.Test.YtklgifnkoeadpaaWMore
namespace Go.Proofs.Ytklgifnkoeadpaa.MNarrowIn
open Go.RowKit Go.Proofs.YtklgifnkoeadpaaW.PrintWords Go.Proofs.YtklgifnkoeadpaaW.PrintLast Go.Proofs.YtklgifnkoeadpaaW.PrintMore
attribute [local go_sem] max2_int min2_int max_two min_two max_three min_three max_four min_four   -- for this text's walks alone
set_option linter.unusedVariables false
set_option linter.unusedSimpArgs false
set_option linter.unnecessarySimpa false



def errW : Option Int → Value
  | none => .nilIface
  | some c => .iface 0 (.int .i64 c)
theorem errW_none : errW none = .nilIface := rfl
theorem errW_some (c : Int) : errW (some c) = .iface 0 (.int .i64 c) := rfl

theorem info3 : (Try.prog.info? 3).map (fun i => (i.zero, i.size, i.bytes)) = some (some (.int .i64 0), 1, 8) := by kernel_rfl
theorem info5 : (Try.prog.info? 5).map (fun i => (i.zero, i.size, i.bytes)) = some (some (.int .u8 0), 1, 1) := by kernel_rfl
-- the values' own types

end Go.Proofs.Ytklgifnkoeadpaa.MNarrowIn
