/-
  No cell of these rows narrows 'for every input' (looked for: loops, veiled, ifaces, maps, wideKeys, modest, calm, conditions, laid).
  DERIVED. THE GIVEN ROWS OF THIS SEAT. 4 by the template 'for every input the law returns true; each argument reads behind the call as it read before'; 0 by the template 'total and deterministic' (their statements: YtmhkemgbienfiaaTotals.lean).
  GIVEN WITH THE SEED: the statements are not yours to turn. If you find one false, say at which input.
  Laid BY PROGRAM, IN A SANDBOX (cutbox-rows.mjs): the forced cells as the released guide's own fill.sh prints them over the translation 2d7cf2ab83f28320… (all of the seat's roots in one cut). By AI agents, Wed Nov 11 2026. No macro, syntax, notation, axiom, sorry.
-/
import Derived.Test.YtmhkemgbienfiaaChecked
import GoSem.Claim
import GoSem.ClaimJoined
import GoSem.ClaimMapViews
import Derived.JoinedTies
import Derived.KernelRfl
namespace Go.Proofs.Ytmhkemgbienfiaa
/- THE CELL 'sum', in the pinned program and in every row, IS THE sha256 OF THE DUMP (.gsa) THAT YtmhkemgbienfiaaProg.lean LOADS. Nothing in Lean hashes anything: it is a label: what it is worth is what the hold of that sum in a sandbox is worth. -/
noncomputable def Try.pinned : Pinned := { name := "ytmhkemgbienfiaa", sum := "2d7cf2ab83f283206263212ce4a17523234dd2b38f5aaa8418504bdfcdb0539c", checked := Try.checked }
namespace Rows
def none {H : Type} : Left H := { results := [], args := [] }

/-- 'sobriquetlaw04.SetsExact': WHATEVER THE INPUT: true; the input reads as it did. -/
def setsExactSpec : ChangeSpec := { name := "setsExact", fn := fun _ => fun
  | [d1, d2, d3] => { results := [.lit (.bool true)], args := [d1, d2, d3] }
  | _ => none }
def setsExactRow : OpenClaim := { program := "ytmhkemgbienfiaa", sum := "2d7cf2ab83f283206263212ce4a17523234dd2b38f5aaa8418504bdfcdb0539c", func := "sobriquet/sobriquetlaw04.SetsExact", spec := "setsExact", inPlace := ["internal/bytealg.Compare"], unfollowed := true, recurses := true, apart := false }
def SetsExactSaid : Prop := setsExactRow.holds Try.pinned (OpenSpec.ofChange setsExactSpec)

/-- ITS FALSE NEIGHBOUR: 'it returns false'. Refute it at one input. -/
def setsExactWrong : ChangeSpec := { name := "setsExact", fn := fun _ => fun
  | [d1, d2, d3] => { results := [.lit (.bool false)], args := [d1, d2, d3] }
  | _ => none }
def SetsExactWrongFalsely : Prop := setsExactRow.holds Try.pinned (OpenSpec.ofChange setsExactWrong)

/-- 'sobriquetlaw04.SetsOrder': WHATEVER THE INPUT: true; the input reads as it did. -/
def setsOrderSpec : ChangeSpec := { name := "setsOrder", fn := fun _ => fun
  | [d1, d2, d3] => { results := [.lit (.bool true)], args := [d1, d2, d3] }
  | _ => none }
def setsOrderRow : OpenClaim := { program := "ytmhkemgbienfiaa", sum := "2d7cf2ab83f283206263212ce4a17523234dd2b38f5aaa8418504bdfcdb0539c", func := "sobriquet/sobriquetlaw04.SetsOrder", spec := "setsOrder", inPlace := ["internal/bytealg.Compare"], unfollowed := true, recurses := true, apart := false }
def SetsOrderSaid : Prop := setsOrderRow.holds Try.pinned (OpenSpec.ofChange setsOrderSpec)

/-- ITS FALSE NEIGHBOUR: 'it returns false'. Refute it at one input. -/
def setsOrderWrong : ChangeSpec := { name := "setsOrder", fn := fun _ => fun
  | [d1, d2, d3] => { results := [.lit (.bool false)], args := [d1, d2, d3] }
  | _ => none }
def SetsOrderWrongFalsely : Prop := setsOrderRow.holds Try.pinned (OpenSpec.ofChange setsOrderWrong)

/-- 'sobriquetlaw04.SetsSort': WHATEVER THE INPUT: true; the input reads as it did. -/
def setsSortSpec : ChangeSpec := { name := "setsSort", fn := fun _ => fun
  | [d1, d2] => { results := [.lit (.bool true)], args := [d1, d2] }
  | _ => none }
def setsSortRow : OpenClaim := { program := "ytmhkemgbienfiaa", sum := "2d7cf2ab83f283206263212ce4a17523234dd2b38f5aaa8418504bdfcdb0539c", func := "sobriquet/sobriquetlaw04.SetsSort", spec := "setsSort", inPlace := ["internal/bytealg.Compare"], unfollowed := true, recurses := true, apart := false }
def SetsSortSaid : Prop := setsSortRow.holds Try.pinned (OpenSpec.ofChange setsSortSpec)

/-- ITS FALSE NEIGHBOUR: 'it returns false'. Refute it at one input. -/
def setsSortWrong : ChangeSpec := { name := "setsSort", fn := fun _ => fun
  | [d1, d2] => { results := [.lit (.bool false)], args := [d1, d2] }
  | _ => none }
def SetsSortWrongFalsely : Prop := setsSortRow.holds Try.pinned (OpenSpec.ofChange setsSortWrong)

/-- 'sobriquetlaw04.SetsBegin': WHATEVER THE INPUT: true; the input reads as it did. -/
def setsBeginSpec : ChangeSpec := { name := "setsBegin", fn := fun _ => fun
  | [d1, d2, d3, d4] => { results := [.lit (.bool true)], args := [d1, d2, d3, d4] }
  | _ => none }
def setsBeginRow : OpenClaim := { program := "ytmhkemgbienfiaa", sum := "2d7cf2ab83f283206263212ce4a17523234dd2b38f5aaa8418504bdfcdb0539c", func := "sobriquet/sobriquetlaw04.SetsBegin", spec := "setsBegin", inPlace := ["internal/bytealg.Compare"], unfollowed := true, recurses := true, apart := false }
def SetsBeginSaid : Prop := setsBeginRow.holds Try.pinned (OpenSpec.ofChange setsBeginSpec)

/-- ITS FALSE NEIGHBOUR: 'it returns false'. Refute it at one input. -/
def setsBeginWrong : ChangeSpec := { name := "setsBegin", fn := fun _ => fun
  | [d1, d2, d3, d4] => { results := [.lit (.bool false)], args := [d1, d2, d3, d4] }
  | _ => none }
def SetsBeginWrongFalsely : Prop := setsBeginRow.holds Try.pinned (OpenSpec.ofChange setsBeginWrong)

/- THE SECOND FORM. 'bulk': how many values and letters a reading holds, each counted each time it is reached (what is shared counts as often as it is met; a slice's spare places count too). A statement '..UptoSaid' is the law's where the arguments, and the package variables that the reading takes, are together of bulk at most 1048576: NARROWER than '..Said'. Prove '..Said' where nothing that the law and all that it calls make is longer than what came in: it says more and counts as full. Else prove '..UptoSaid'. A law counts once. -/
mutual
def uptoBulk {H : Type} : DataW H → Nat
  | .lit (.string bytes) => bytes.length + 1
  | .lit _ => 1
  | .nil => 1
  | .ptr d => uptoBulk d + 1
  | .slice elems spare => uptoBulkAll elems + uptoBulkAll spare + 1
  | .agg parts => uptoBulkAll parts + 1
  | .iface _ d => uptoBulk d + 1
  | .map entries => uptoBulkEntries entries + 1
  | .held _ => 1
def uptoBulkAll {H : Type} : List (DataW H) → Nat
  | [] => 0
  | d :: r => uptoBulk d + uptoBulkAll r
def uptoBulkEntries {H : Type} : List (Lit × DataW H) → Nat
  | [] => 0
  | x :: r => uptoBulkEntry x + uptoBulkEntries r
def uptoBulkEntry {H : Type} : Lit × DataW H → Nat
  | (.string bytes, d) => bytes.length + uptoBulk d + 1
  | (_, d) => uptoBulk d + 1
 end
def uptoSmall : (H : Type) → List (DataW H) → Bool := fun _ ds => decide (uptoBulkAll ds ≤ 1048576)
def OpenSpec.upto (s : _root_.Go.ChangeSpec) : _root_.Go.OpenSpec := { _root_.Go.OpenSpec.ofChange s with cond := some uptoSmall }

/-- 'sobriquetlaw04.SetsExact', WHERE WHAT IT READS IS OF BULK AT MOST 1048576: true; the input reads as it did. -/
def setsExactUptoRow : OpenClaim := { program := "ytmhkemgbienfiaa", sum := "2d7cf2ab83f283206263212ce4a17523234dd2b38f5aaa8418504bdfcdb0539c", func := "sobriquet/sobriquetlaw04.SetsExact", spec := "setsExact", inPlace := ["internal/bytealg.Compare"], unfollowed := true, recurses := true, apart := false, narrowed := true }
def SetsExactUptoSaid : Prop := setsExactUptoRow.holds Try.pinned (OpenSpec.upto setsExactSpec)

/-- 'sobriquetlaw04.SetsOrder', WHERE WHAT IT READS IS OF BULK AT MOST 1048576: true; the input reads as it did. -/
def setsOrderUptoRow : OpenClaim := { program := "ytmhkemgbienfiaa", sum := "2d7cf2ab83f283206263212ce4a17523234dd2b38f5aaa8418504bdfcdb0539c", func := "sobriquet/sobriquetlaw04.SetsOrder", spec := "setsOrder", inPlace := ["internal/bytealg.Compare"], unfollowed := true, recurses := true, apart := false, narrowed := true }
def SetsOrderUptoSaid : Prop := setsOrderUptoRow.holds Try.pinned (OpenSpec.upto setsOrderSpec)

/-- 'sobriquetlaw04.SetsSort', WHERE WHAT IT READS IS OF BULK AT MOST 1048576: true; the input reads as it did. -/
def setsSortUptoRow : OpenClaim := { program := "ytmhkemgbienfiaa", sum := "2d7cf2ab83f283206263212ce4a17523234dd2b38f5aaa8418504bdfcdb0539c", func := "sobriquet/sobriquetlaw04.SetsSort", spec := "setsSort", inPlace := ["internal/bytealg.Compare"], unfollowed := true, recurses := true, apart := false, narrowed := true }
def SetsSortUptoSaid : Prop := setsSortUptoRow.holds Try.pinned (OpenSpec.upto setsSortSpec)

/-- 'sobriquetlaw04.SetsBegin', WHERE WHAT IT READS IS OF BULK AT MOST 1048576: true; the input reads as it did. -/
def setsBeginUptoRow : OpenClaim := { program := "ytmhkemgbienfiaa", sum := "2d7cf2ab83f283206263212ce4a17523234dd2b38f5aaa8418504bdfcdb0539c", func := "sobriquet/sobriquetlaw04.SetsBegin", spec := "setsBegin", inPlace := ["internal/bytealg.Compare"], unfollowed := true, recurses := true, apart := false, narrowed := true }
def SetsBeginUptoSaid : Prop := setsBeginUptoRow.holds Try.pinned (OpenSpec.upto setsBeginSpec)

end Rows
end Go.Proofs.Ytmhkemgbienfiaa
