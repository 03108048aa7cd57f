/-
  No cell of these rows narrows 'for every input' (looked for: loops, veiled, ifaces, maps, wideKeys, modest, calm, conditions, laid).
  DERIVED. THE GIVEN ROWS OF THIS SEAT. 4 by the template 'for every input the law returns true; each argument reads behind the call as it read before'; 0 by the template 'total and deterministic' (their statements: YtaniolefeieliaaTotals.lean).
  GIVEN WITH THE SEED: the statements are not yours to turn. If you find one false, say at which input.
  Laid BY PROGRAM, IN A SANDBOX (cutbox-rows.mjs): the forced cells as the released guide's own fill.sh prints them over the translation f67bc4c7ddba112f… (all of the seat's roots in one cut). By AI agents, Wed Nov 11 2026. No macro, syntax, notation, axiom, sorry.
-/
import Derived.Test.YtaniolefeieliaaChecked
import GoSem.Claim
import GoSem.ClaimJoined
import GoSem.ClaimMapViews
import Derived.JoinedTies
import Derived.KernelRfl
namespace Go.Proofs.Ytaniolefeieliaa
/- THE CELL 'sum', in the pinned program and in every row, IS THE sha256 OF THE DUMP (.gsa) THAT YtaniolefeieliaaProg.lean LOADS. Nothing in Lean hashes anything: it is a label: what it is worth is what the hold of that sum in a sandbox is worth. -/
noncomputable def Try.pinned : Pinned := { name := "ytaniolefeieliaa", sum := "f67bc4c7ddba112f8afb0b94bf94656269d74d542723ae79611e2364906b7bbf", checked := Try.checked }
namespace Rows
def none {H : Type} : Left H := { results := [], args := [] }

/-- 'sobriquetlaw05.RangesSmall': WHATEVER THE INPUT: true; the input reads as it did. -/
def rangesSmallSpec : ChangeSpec := { name := "rangesSmall", fn := fun _ => fun
  | [d] => { results := [.lit (.bool true)], args := [d] }
  | _ => none }
def rangesSmallRow : OpenClaim := { program := "ytaniolefeieliaa", sum := "f67bc4c7ddba112f8afb0b94bf94656269d74d542723ae79611e2364906b7bbf", func := "sobriquet/sobriquetlaw05.RangesSmall", spec := "rangesSmall", unfollowed := true, recurses := true, plainKeys := false, apart := false }
def RangesSmallSaid : Prop := rangesSmallRow.holds Try.pinned (OpenSpec.ofChange rangesSmallSpec)

/-- ITS FALSE NEIGHBOUR: 'it returns false'. Refute it at one input. -/
def rangesSmallWrong : ChangeSpec := { name := "rangesSmall", fn := fun _ => fun
  | [d] => { results := [.lit (.bool false)], args := [d] }
  | _ => none }
def RangesSmallWrongFalsely : Prop := rangesSmallRow.holds Try.pinned (OpenSpec.ofChange rangesSmallWrong)

/-- 'sobriquetlaw05.RangesExact': WHATEVER THE INPUT: true; the input reads as it did. -/
def rangesExactSpec : ChangeSpec := { name := "rangesExact", fn := fun _ => fun
  | [d1, d2, d3] => { results := [.lit (.bool true)], args := [d1, d2, d3] }
  | _ => none }
def rangesExactRow : OpenClaim := { program := "ytaniolefeieliaa", sum := "f67bc4c7ddba112f8afb0b94bf94656269d74d542723ae79611e2364906b7bbf", func := "sobriquet/sobriquetlaw05.RangesExact", spec := "rangesExact", unfollowed := true, recurses := true, plainKeys := false, apart := false }
def RangesExactSaid : Prop := rangesExactRow.holds Try.pinned (OpenSpec.ofChange rangesExactSpec)

/-- ITS FALSE NEIGHBOUR: 'it returns false'. Refute it at one input. -/
def rangesExactWrong : ChangeSpec := { name := "rangesExact", fn := fun _ => fun
  | [d1, d2, d3] => { results := [.lit (.bool false)], args := [d1, d2, d3] }
  | _ => none }
def RangesExactWrongFalsely : Prop := rangesExactRow.holds Try.pinned (OpenSpec.ofChange rangesExactWrong)

/-- 'sobriquetlaw05.RangesLook': WHATEVER THE INPUT: true; the input reads as it did. -/
def rangesLookSpec : ChangeSpec := { name := "rangesLook", fn := fun _ => fun
  | [d1, d2] => { results := [.lit (.bool true)], args := [d1, d2] }
  | _ => none }
def rangesLookRow : OpenClaim := { program := "ytaniolefeieliaa", sum := "f67bc4c7ddba112f8afb0b94bf94656269d74d542723ae79611e2364906b7bbf", func := "sobriquet/sobriquetlaw05.RangesLook", spec := "rangesLook", unfollowed := true, recurses := true, plainKeys := false, apart := false }
def RangesLookSaid : Prop := rangesLookRow.holds Try.pinned (OpenSpec.ofChange rangesLookSpec)

/-- ITS FALSE NEIGHBOUR: 'it returns false'. Refute it at one input. -/
def rangesLookWrong : ChangeSpec := { name := "rangesLook", fn := fun _ => fun
  | [d1, d2] => { results := [.lit (.bool false)], args := [d1, d2] }
  | _ => none }
def RangesLookWrongFalsely : Prop := rangesLookRow.holds Try.pinned (OpenSpec.ofChange rangesLookWrong)

/-- 'sobriquetlaw05.RangesBack': WHATEVER THE INPUT: true; the input reads as it did. -/
def rangesBackSpec : ChangeSpec := { name := "rangesBack", fn := fun _ => fun
  | [d] => { results := [.lit (.bool true)], args := [d] }
  | _ => none }
def rangesBackRow : OpenClaim := { program := "ytaniolefeieliaa", sum := "f67bc4c7ddba112f8afb0b94bf94656269d74d542723ae79611e2364906b7bbf", func := "sobriquet/sobriquetlaw05.RangesBack", spec := "rangesBack", unfollowed := true, recurses := true, plainKeys := false, apart := false }
def RangesBackSaid : Prop := rangesBackRow.holds Try.pinned (OpenSpec.ofChange rangesBackSpec)

/-- ITS FALSE NEIGHBOUR: 'it returns false'. Refute it at one input. -/
def rangesBackWrong : ChangeSpec := { name := "rangesBack", fn := fun _ => fun
  | [d] => { results := [.lit (.bool false)], args := [d] }
  | _ => none }
def RangesBackWrongFalsely : Prop := rangesBackRow.holds Try.pinned (OpenSpec.ofChange rangesBackWrong)

/- THE SECOND FORM. 'bulk': how many values and letters a reading holds, each counted each time it is reached (what is shared counts as often as it is met; a slice's spare places count too). A statement '..UptoSaid' is the law's where the arguments, and the package variables that the reading takes, are together of bulk at most 1048576: NARROWER than '..Said'. Prove '..Said' where nothing that the law and all that it calls make is longer than what came in: it says more and counts as full. Else prove '..UptoSaid'. A law counts once. -/
mutual
def uptoBulk {H : Type} : DataW H → Nat
  | .lit (.string bytes) => bytes.length + 1
  | .lit _ => 1
  | .nil => 1
  | .ptr d => uptoBulk d + 1
  | .slice elems spare => uptoBulkAll elems + uptoBulkAll spare + 1
  | .agg parts => uptoBulkAll parts + 1
  | .iface _ d => uptoBulk d + 1
  | .map entries => uptoBulkEntries entries + 1
  | .held _ => 1
def uptoBulkAll {H : Type} : List (DataW H) → Nat
  | [] => 0
  | d :: r => uptoBulk d + uptoBulkAll r
def uptoBulkEntries {H : Type} : List (Lit × DataW H) → Nat
  | [] => 0
  | x :: r => uptoBulkEntry x + uptoBulkEntries r
def uptoBulkEntry {H : Type} : Lit × DataW H → Nat
  | (.string bytes, d) => bytes.length + uptoBulk d + 1
  | (_, d) => uptoBulk d + 1
 end
def uptoSmall : (H : Type) → List (DataW H) → Bool := fun _ ds => decide (uptoBulkAll ds ≤ 1048576)
def OpenSpec.upto (s : _root_.Go.ChangeSpec) : _root_.Go.OpenSpec := { _root_.Go.OpenSpec.ofChange s with cond := some uptoSmall }

/-- 'sobriquetlaw05.RangesSmall', WHERE WHAT IT READS IS OF BULK AT MOST 1048576: true; the input reads as it did. -/
def rangesSmallUptoRow : OpenClaim := { program := "ytaniolefeieliaa", sum := "f67bc4c7ddba112f8afb0b94bf94656269d74d542723ae79611e2364906b7bbf", func := "sobriquet/sobriquetlaw05.RangesSmall", spec := "rangesSmall", unfollowed := true, recurses := true, plainKeys := false, apart := false, narrowed := true }
def RangesSmallUptoSaid : Prop := rangesSmallUptoRow.holds Try.pinned (OpenSpec.upto rangesSmallSpec)

/-- 'sobriquetlaw05.RangesExact', WHERE WHAT IT READS IS OF BULK AT MOST 1048576: true; the input reads as it did. -/
def rangesExactUptoRow : OpenClaim := { program := "ytaniolefeieliaa", sum := "f67bc4c7ddba112f8afb0b94bf94656269d74d542723ae79611e2364906b7bbf", func := "sobriquet/sobriquetlaw05.RangesExact", spec := "rangesExact", unfollowed := true, recurses := true, plainKeys := false, apart := false, narrowed := true }
def RangesExactUptoSaid : Prop := rangesExactUptoRow.holds Try.pinned (OpenSpec.upto rangesExactSpec)

/-- 'sobriquetlaw05.RangesLook', WHERE WHAT IT READS IS OF BULK AT MOST 1048576: true; the input reads as it did. -/
def rangesLookUptoRow : OpenClaim := { program := "ytaniolefeieliaa", sum := "f67bc4c7ddba112f8afb0b94bf94656269d74d542723ae79611e2364906b7bbf", func := "sobriquet/sobriquetlaw05.RangesLook", spec := "rangesLook", unfollowed := true, recurses := true, plainKeys := false, apart := false, narrowed := true }
def RangesLookUptoSaid : Prop := rangesLookUptoRow.holds Try.pinned (OpenSpec.upto rangesLookSpec)

/-- 'sobriquetlaw05.RangesBack', WHERE WHAT IT READS IS OF BULK AT MOST 1048576: true; the input reads as it did. -/
def rangesBackUptoRow : OpenClaim := { program := "ytaniolefeieliaa", sum := "f67bc4c7ddba112f8afb0b94bf94656269d74d542723ae79611e2364906b7bbf", func := "sobriquet/sobriquetlaw05.RangesBack", spec := "rangesBack", unfollowed := true, recurses := true, plainKeys := false, apart := false, narrowed := true }
def RangesBackUptoSaid : Prop := rangesBackUptoRow.holds Try.pinned (OpenSpec.upto rangesBackSpec)

end Rows
end Go.Proofs.Ytaniolefeieliaa
