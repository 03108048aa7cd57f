/-
  No cell of these rows narrows 'for every input' (looked for: loops, veiled, ifaces, maps, wideKeys, modest, calm, conditions, laid).
  DERIVED. THE GIVEN ROWS OF THIS SEAT. 3 by the template 'for every input the law returns true; each argument reads behind the call as it read before'; 0 by the template 'total and deterministic' (their statements: YtbgmblpgdaociaaTotals.lean).
  GIVEN WITH THE SEED: the statements are not yours to turn. If you find one false, say at which input.
  Laid BY PROGRAM, IN A SANDBOX (cutbox-rows.mjs): the forced cells as the released guide's own fill.sh prints them over the translation b56794fc67d4e99f… (all of the seat's roots in one cut). By AI agents, Wed Nov 11 2026. No macro, syntax, notation, axiom, sorry.
-/
import Derived.Test.YtbgmblpgdaociaaChecked
import GoSem.Claim
import GoSem.ClaimJoined
import GoSem.ClaimMapViews
import Derived.JoinedTies
import Derived.KernelRfl
namespace Go.Proofs.Ytbgmblpgdaociaa
/- THE CELL 'sum', in the pinned program and in every row, IS THE sha256 OF THE DUMP (.gsa) THAT YtbgmblpgdaociaaProg.lean LOADS. Nothing in Lean hashes anything: it is a label: what it is worth is what the hold of that sum in a sandbox is worth. -/
noncomputable def Try.pinned : Pinned := { name := "ytbgmblpgdaociaa", sum := "b56794fc67d4e99fa5a74ecda63a983c80afffd94017b168025fb6b7b4c2221a", checked := Try.checked }
namespace Rows
def none {H : Type} : Left H := { results := [], args := [] }

/-- 'sobriquetlaw17.ShiftSets': WHATEVER THE INPUT: true; the input reads as it did. -/
def shiftSetsSpec : ChangeSpec := { name := "shiftSets", fn := fun _ => fun
  | [d1, d2, d3, d4] => { results := [.lit (.bool true)], args := [d1, d2, d3, d4] }
  | _ => none }
def shiftSetsRow : OpenClaim := { program := "ytbgmblpgdaociaa", sum := "b56794fc67d4e99fa5a74ecda63a983c80afffd94017b168025fb6b7b4c2221a", func := "sobriquet/sobriquetlaw17.ShiftSets", spec := "shiftSets", apart := false }
def ShiftSetsSaid : Prop := shiftSetsRow.holds Try.pinned (OpenSpec.ofChange shiftSetsSpec)

/-- ITS FALSE NEIGHBOUR: 'it returns false'. Refute it at one input. -/
def shiftSetsWrong : ChangeSpec := { name := "shiftSets", fn := fun _ => fun
  | [d1, d2, d3, d4] => { results := [.lit (.bool false)], args := [d1, d2, d3, d4] }
  | _ => none }
def ShiftSetsWrongFalsely : Prop := shiftSetsRow.holds Try.pinned (OpenSpec.ofChange shiftSetsWrong)

/-- 'sobriquetlaw17.ShiftCut': WHATEVER THE INPUT: true; the input reads as it did. -/
def shiftCutSpec : ChangeSpec := { name := "shiftCut", fn := fun _ => fun
  | [d1, d2, d3] => { results := [.lit (.bool true)], args := [d1, d2, d3] }
  | _ => none }
def shiftCutRow : OpenClaim := { program := "ytbgmblpgdaociaa", sum := "b56794fc67d4e99fa5a74ecda63a983c80afffd94017b168025fb6b7b4c2221a", func := "sobriquet/sobriquetlaw17.ShiftCut", spec := "shiftCut", apart := false }
def ShiftCutSaid : Prop := shiftCutRow.holds Try.pinned (OpenSpec.ofChange shiftCutSpec)

/-- ITS FALSE NEIGHBOUR: 'it returns false'. Refute it at one input. -/
def shiftCutWrong : ChangeSpec := { name := "shiftCut", fn := fun _ => fun
  | [d1, d2, d3] => { results := [.lit (.bool false)], args := [d1, d2, d3] }
  | _ => none }
def ShiftCutWrongFalsely : Prop := shiftCutRow.holds Try.pinned (OpenSpec.ofChange shiftCutWrong)

/-- 'sobriquetlaw17.ShiftPlain': WHATEVER THE INPUT: true; the input reads as it did. -/
def shiftPlainSpec : ChangeSpec := { name := "shiftPlain", fn := fun _ => fun
  | [d] => { results := [.lit (.bool true)], args := [d] }
  | _ => none }
def shiftPlainRow : OpenClaim := { program := "ytbgmblpgdaociaa", sum := "b56794fc67d4e99fa5a74ecda63a983c80afffd94017b168025fb6b7b4c2221a", func := "sobriquet/sobriquetlaw17.ShiftPlain", spec := "shiftPlain", apart := false }
def ShiftPlainSaid : Prop := shiftPlainRow.holds Try.pinned (OpenSpec.ofChange shiftPlainSpec)

/-- ITS FALSE NEIGHBOUR: 'it returns false'. Refute it at one input. -/
def shiftPlainWrong : ChangeSpec := { name := "shiftPlain", fn := fun _ => fun
  | [d] => { results := [.lit (.bool false)], args := [d] }
  | _ => none }
def ShiftPlainWrongFalsely : Prop := shiftPlainRow.holds Try.pinned (OpenSpec.ofChange shiftPlainWrong)

/- THE SECOND FORM. 'bulk': how many values and letters a reading holds, each counted each time it is reached (what is shared counts as often as it is met; a slice's spare places count too). A statement '..UptoSaid' is the law's where the arguments, and the package variables that the reading takes, are together of bulk at most 1048576: NARROWER than '..Said'. Prove '..Said' where nothing that the law and all that it calls make is longer than what came in: it says more and counts as full. Else prove '..UptoSaid'. A law counts once. -/
mutual
def uptoBulk {H : Type} : DataW H → Nat
  | .lit (.string bytes) => bytes.length + 1
  | .lit _ => 1
  | .nil => 1
  | .ptr d => uptoBulk d + 1
  | .slice elems spare => uptoBulkAll elems + uptoBulkAll spare + 1
  | .agg parts => uptoBulkAll parts + 1
  | .iface _ d => uptoBulk d + 1
  | .map entries => uptoBulkEntries entries + 1
  | .held _ => 1
def uptoBulkAll {H : Type} : List (DataW H) → Nat
  | [] => 0
  | d :: r => uptoBulk d + uptoBulkAll r
def uptoBulkEntries {H : Type} : List (Lit × DataW H) → Nat
  | [] => 0
  | x :: r => uptoBulkEntry x + uptoBulkEntries r
def uptoBulkEntry {H : Type} : Lit × DataW H → Nat
  | (.string bytes, d) => bytes.length + uptoBulk d + 1
  | (_, d) => uptoBulk d + 1
 end
def uptoSmall : (H : Type) → List (DataW H) → Bool := fun _ ds => decide (uptoBulkAll ds ≤ 1048576)
def OpenSpec.upto (s : _root_.Go.ChangeSpec) : _root_.Go.OpenSpec := { _root_.Go.OpenSpec.ofChange s with cond := some uptoSmall }

/-- 'sobriquetlaw17.ShiftSets', WHERE WHAT IT READS IS OF BULK AT MOST 1048576: true; the input reads as it did. -/
def shiftSetsUptoRow : OpenClaim := { program := "ytbgmblpgdaociaa", sum := "b56794fc67d4e99fa5a74ecda63a983c80afffd94017b168025fb6b7b4c2221a", func := "sobriquet/sobriquetlaw17.ShiftSets", spec := "shiftSets", apart := false, narrowed := true }
def ShiftSetsUptoSaid : Prop := shiftSetsUptoRow.holds Try.pinned (OpenSpec.upto shiftSetsSpec)

/-- 'sobriquetlaw17.ShiftCut', WHERE WHAT IT READS IS OF BULK AT MOST 1048576: true; the input reads as it did. -/
def shiftCutUptoRow : OpenClaim := { program := "ytbgmblpgdaociaa", sum := "b56794fc67d4e99fa5a74ecda63a983c80afffd94017b168025fb6b7b4c2221a", func := "sobriquet/sobriquetlaw17.ShiftCut", spec := "shiftCut", apart := false, narrowed := true }
def ShiftCutUptoSaid : Prop := shiftCutUptoRow.holds Try.pinned (OpenSpec.upto shiftCutSpec)

/-- 'sobriquetlaw17.ShiftPlain', WHERE WHAT IT READS IS OF BULK AT MOST 1048576: true; the input reads as it did. -/
def shiftPlainUptoRow : OpenClaim := { program := "ytbgmblpgdaociaa", sum := "b56794fc67d4e99fa5a74ecda63a983c80afffd94017b168025fb6b7b4c2221a", func := "sobriquet/sobriquetlaw17.ShiftPlain", spec := "shiftPlain", apart := false, narrowed := true }
def ShiftPlainUptoSaid : Prop := shiftPlainUptoRow.holds Try.pinned (OpenSpec.upto shiftPlainSpec)

end Rows
end Go.Proofs.Ytbgmblpgdaociaa
