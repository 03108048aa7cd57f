-- Written by a program of this session over the translation; checked by Lean alone.
import Derived.Test.YtdnclldebkpkfaaDoorProg
import Derived.Test.YtdnclldebkpkfaaDoorOp
import Derived.Below
import Derived.Deep.Draws
import Derived.Deep.AppendLies
import Derived.Maps.AppendAt
import Derived.OwnWalk
import Derived.Laws.BytesArg
import Derived.Laws.MakeOwn
import Derived.Laws.OwnMore
import Derived.Deep.OwnRows
import Derived.Tactics
import Derived.Lib.ConvBytes
import Derived.Laws.Slices
import Derived.WalkKit
import Derived.KernelRfl
import Derived.RowKit3
import Derived.Deep.LoopGhost
import Derived.Deep.QuietTactic
import Derived.BigQuiet
import Derived.WideLaws
import Derived.Deep.DeepCutAuto
import Derived.Deep.CutBlock
import Derived.Deep.RegionHeld3
import Derived.Laws.Rows
import Derived.Lib.AppendStr
import Derived.ArgAppend
import Derived.Laws.IdiomCopy
import Derived.OrdersHeld
import Derived.Laws.BitsLemmas
import Derived.RowKit
import Derived.Test.YtdnclldebkpkfaaDoorWWords
import Derived.Test.YtdnclldebkpkfaaDoorWLast
import Derived.Test.YtdnclldebkpkfaaDoorWTab
import Derived.Test.YtdnclldebkpkfaaDoorWFour
import Derived.Test.YtdnclldebkpkfaaDoorWQPut
import Derived.Test.YtdnclldebkpkfaaDoorWApart
import Derived.Test.YtdnclldebkpkfaaDoorWArr
import Derived.Test.YtdnclldebkpkfaaDoorWZeros
import Derived.Test.YtdnclldebkpkfaaDoorWFoot
import Derived.Test.YtdnclldebkpkfaaDoorWKept
import Derived.Test.YtdnclldebkpkfaaDoorWShare
import Derived.Test.YtdnclldebkpkfaaDoorWN
import Derived.Test.YtdnclldebkpkfaaDoorWFootNe
import Derived.Test.YtdnclldebkpkfaaDoorWAt
import Derived.Test.YtdnclldebkpkfaaDoorWEqStruct
import Derived.Test.YtdnclldebkpkfaaDoorWRepsOne
import Derived.Test.YtdnclldebkpkfaaDoorWInv
import Derived.Test.YtdnclldebkpkfaaDoorWInvWords
import Derived.Test.YtdnclldebkpkfaaDoorWGuard
import Derived.Test.YtdnclldebkpkfaaDoorWNEv
import Derived.Test.YtdnclldebkpkfaaDoorWMore
namespace Go.Proofs.YtdnclldebkpkfaaDoor.MOidExact
open Go.RowKit Go.Proofs.YtdnclldebkpkfaaDoorW.PrintWords Go.Proofs.YtdnclldebkpkfaaDoorW.PrintLast Go.Proofs.YtdnclldebkpkfaaDoorW.PrintMore
attribute [local go_sem] max2_int min2_int max_two min_two max_three min_three max_four min_four   -- for this text's walks alone
set_option linter.unusedVariables false
set_option linter.unusedSimpArgs false
set_option linter.unnecessarySimpa false



def errW : Option Int → Value
  | none => .nilIface
  | some c => .iface 0 (.int .i64 c)
theorem errW_none : errW none = .nilIface := rfl
theorem errW_some (c : Int) : errW (some c) = .iface 0 (.int .i64 c) := rfl

theorem info3 : (Tryd.prog.info? 3).map (fun i => (i.zero, i.size, i.bytes)) = some (some (.int .i64 0), 1, 8) := by kernel_rfl
theorem info5 : (Tryd.prog.info? 5).map (fun i => (i.zero, i.size, i.bytes)) = some (some (.int .u8 0), 1, 1) := by kernel_rfl
theorem info9 : (Tryd.prog.info? 9).map (fun i => (i.zero, i.size, i.bytes)) = some (some (.string ⟨#[]⟩), 1, 16) := by kernel_rfl
-- the values' own types

end Go.Proofs.YtdnclldebkpkfaaDoor.MOidExact
