/-
  No cell of these rows narrows 'for every input' (looked for: loops, veiled, ifaces, maps, wideKeys, modest, calm, conditions, laid).
  DERIVED. THE GIVEN ROWS OF THIS SEAT. 5 by the template 'for every input the law returns true; each argument reads behind the call as it read before'; 0 by the template 'total and deterministic' (their statements: YtojffdcefplipaaTotals.lean).
  GIVEN WITH THE SEED: the statements are not yours to turn. If you find one false, say at which input.
  Laid BY PROGRAM, IN A SANDBOX (cutbox-rows.mjs): the forced cells as the released guide's own fill.sh prints them over the translation e8d166154e2ac391… (all of the seat's roots in one cut). By AI agents, Wed Nov 11 2026. No macro, syntax, notation, axiom, sorry.
-/
import Derived.Test.YtojffdcefplipaaChecked
import GoSem.Claim
import GoSem.ClaimJoined
import GoSem.ClaimMapViews
import Derived.JoinedTies
import Derived.KernelRfl
namespace Go.Proofs.Ytojffdcefplipaa
/- THE CELL 'sum', in the pinned program and in every row, IS THE sha256 OF THE DUMP (.gsa) THAT YtojffdcefplipaaProg.lean LOADS. Nothing in Lean hashes anything: it is a label: what it is worth is what the hold of that sum in a sandbox is worth. -/
noncomputable def Try.pinned : Pinned := { name := "ytojffdcefplipaa", sum := "e8d166154e2ac391d4e8b47ad40263f26058600d59ceca7268b8c59aabbfe10a", checked := Try.checked }
namespace Rows
def none {H : Type} : Left H := { results := [], args := [] }

/-- 'sobriquetlaw13.Utf8Exact': WHATEVER THE INPUT: true; the input reads as it did. -/
def utf8ExactSpec : ChangeSpec := { name := "utf8Exact", fn := fun _ => fun
  | [d1, d2] => { results := [.lit (.bool true)], args := [d1, d2] }
  | _ => none }
def utf8ExactRow : OpenClaim := { program := "ytojffdcefplipaa", sum := "e8d166154e2ac391d4e8b47ad40263f26058600d59ceca7268b8c59aabbfe10a", func := "sobriquet/sobriquetlaw13.Utf8Exact", spec := "utf8Exact", apart := false }
def Utf8ExactSaid : Prop := utf8ExactRow.holds Try.pinned (OpenSpec.ofChange utf8ExactSpec)

/-- ITS FALSE NEIGHBOUR: 'it returns false'. Refute it at one input. -/
def utf8ExactWrong : ChangeSpec := { name := "utf8Exact", fn := fun _ => fun
  | [d1, d2] => { results := [.lit (.bool false)], args := [d1, d2] }
  | _ => none }
def Utf8ExactWrongFalsely : Prop := utf8ExactRow.holds Try.pinned (OpenSpec.ofChange utf8ExactWrong)

/-- 'sobriquetlaw13.Utf8Back': WHATEVER THE INPUT: true; the input reads as it did. -/
def utf8BackSpec : ChangeSpec := { name := "utf8Back", fn := fun _ => fun
  | [d1, d2] => { results := [.lit (.bool true)], args := [d1, d2] }
  | _ => none }
def utf8BackRow : OpenClaim := { program := "ytojffdcefplipaa", sum := "e8d166154e2ac391d4e8b47ad40263f26058600d59ceca7268b8c59aabbfe10a", func := "sobriquet/sobriquetlaw13.Utf8Back", spec := "utf8Back", apart := false }
def Utf8BackSaid : Prop := utf8BackRow.holds Try.pinned (OpenSpec.ofChange utf8BackSpec)

/-- ITS FALSE NEIGHBOUR: 'it returns false'. Refute it at one input. -/
def utf8BackWrong : ChangeSpec := { name := "utf8Back", fn := fun _ => fun
  | [d1, d2] => { results := [.lit (.bool false)], args := [d1, d2] }
  | _ => none }
def Utf8BackWrongFalsely : Prop := utf8BackRow.holds Try.pinned (OpenSpec.ofChange utf8BackWrong)

/-- 'sobriquetlaw13.Utf8Parts': WHATEVER THE INPUT: true; the input reads as it did. -/
def utf8PartsSpec : ChangeSpec := { name := "utf8Parts", fn := fun _ => fun
  | [d1, d2, d3] => { results := [.lit (.bool true)], args := [d1, d2, d3] }
  | _ => none }
def utf8PartsRow : OpenClaim := { program := "ytojffdcefplipaa", sum := "e8d166154e2ac391d4e8b47ad40263f26058600d59ceca7268b8c59aabbfe10a", func := "sobriquet/sobriquetlaw13.Utf8Parts", spec := "utf8Parts", apart := false }
def Utf8PartsSaid : Prop := utf8PartsRow.holds Try.pinned (OpenSpec.ofChange utf8PartsSpec)

/-- ITS FALSE NEIGHBOUR: 'it returns false'. Refute it at one input. -/
def utf8PartsWrong : ChangeSpec := { name := "utf8Parts", fn := fun _ => fun
  | [d1, d2, d3] => { results := [.lit (.bool false)], args := [d1, d2, d3] }
  | _ => none }
def Utf8PartsWrongFalsely : Prop := utf8PartsRow.holds Try.pinned (OpenSpec.ofChange utf8PartsWrong)

/-- 'sobriquetlaw13.Utf8Lengths': WHATEVER THE INPUT: true; the input reads as it did. -/
def utf8LengthsSpec : ChangeSpec := { name := "utf8Lengths", fn := fun _ => fun
  | [d] => { results := [.lit (.bool true)], args := [d] }
  | _ => none }
def utf8LengthsRow : OpenClaim := { program := "ytojffdcefplipaa", sum := "e8d166154e2ac391d4e8b47ad40263f26058600d59ceca7268b8c59aabbfe10a", func := "sobriquet/sobriquetlaw13.Utf8Lengths", spec := "utf8Lengths", apart := false }
def Utf8LengthsSaid : Prop := utf8LengthsRow.holds Try.pinned (OpenSpec.ofChange utf8LengthsSpec)

/-- ITS FALSE NEIGHBOUR: 'it returns false'. Refute it at one input. -/
def utf8LengthsWrong : ChangeSpec := { name := "utf8Lengths", fn := fun _ => fun
  | [d] => { results := [.lit (.bool false)], args := [d] }
  | _ => none }
def Utf8LengthsWrongFalsely : Prop := utf8LengthsRow.holds Try.pinned (OpenSpec.ofChange utf8LengthsWrong)

/-- 'sobriquetlaw13.Utf8Bad': WHATEVER THE INPUT: true; the input reads as it did. -/
def utf8BadSpec : ChangeSpec := { name := "utf8Bad", fn := fun _ => fun
  | [d1, d2] => { results := [.lit (.bool true)], args := [d1, d2] }
  | _ => none }
def utf8BadRow : OpenClaim := { program := "ytojffdcefplipaa", sum := "e8d166154e2ac391d4e8b47ad40263f26058600d59ceca7268b8c59aabbfe10a", func := "sobriquet/sobriquetlaw13.Utf8Bad", spec := "utf8Bad", apart := false }
def Utf8BadSaid : Prop := utf8BadRow.holds Try.pinned (OpenSpec.ofChange utf8BadSpec)

/-- ITS FALSE NEIGHBOUR: 'it returns false'. Refute it at one input. -/
def utf8BadWrong : ChangeSpec := { name := "utf8Bad", fn := fun _ => fun
  | [d1, d2] => { results := [.lit (.bool false)], args := [d1, d2] }
  | _ => none }
def Utf8BadWrongFalsely : Prop := utf8BadRow.holds Try.pinned (OpenSpec.ofChange utf8BadWrong)

/- THE SECOND FORM. 'bulk': how many values and letters a reading holds, each counted each time it is reached (what is shared counts as often as it is met; a slice's spare places count too). A statement '..UptoSaid' is the law's where the arguments, and the package variables that the reading takes, are together of bulk at most 1048576: NARROWER than '..Said'. Prove '..Said' where nothing that the law and all that it calls make is longer than what came in: it says more and counts as full. Else prove '..UptoSaid'. A law counts once. -/
mutual
def uptoBulk {H : Type} : DataW H → Nat
  | .lit (.string bytes) => bytes.length + 1
  | .lit _ => 1
  | .nil => 1
  | .ptr d => uptoBulk d + 1
  | .slice elems spare => uptoBulkAll elems + uptoBulkAll spare + 1
  | .agg parts => uptoBulkAll parts + 1
  | .iface _ d => uptoBulk d + 1
  | .map entries => uptoBulkEntries entries + 1
  | .held _ => 1
def uptoBulkAll {H : Type} : List (DataW H) → Nat
  | [] => 0
  | d :: r => uptoBulk d + uptoBulkAll r
def uptoBulkEntries {H : Type} : List (Lit × DataW H) → Nat
  | [] => 0
  | x :: r => uptoBulkEntry x + uptoBulkEntries r
def uptoBulkEntry {H : Type} : Lit × DataW H → Nat
  | (.string bytes, d) => bytes.length + uptoBulk d + 1
  | (_, d) => uptoBulk d + 1
 end
def uptoSmall : (H : Type) → List (DataW H) → Bool := fun _ ds => decide (uptoBulkAll ds ≤ 1048576)
def OpenSpec.upto (s : _root_.Go.ChangeSpec) : _root_.Go.OpenSpec := { _root_.Go.OpenSpec.ofChange s with cond := some uptoSmall }

/-- 'sobriquetlaw13.Utf8Exact', WHERE WHAT IT READS IS OF BULK AT MOST 1048576: true; the input reads as it did. -/
def utf8ExactUptoRow : OpenClaim := { program := "ytojffdcefplipaa", sum := "e8d166154e2ac391d4e8b47ad40263f26058600d59ceca7268b8c59aabbfe10a", func := "sobriquet/sobriquetlaw13.Utf8Exact", spec := "utf8Exact", apart := false, narrowed := true }
def Utf8ExactUptoSaid : Prop := utf8ExactUptoRow.holds Try.pinned (OpenSpec.upto utf8ExactSpec)

/-- 'sobriquetlaw13.Utf8Back', WHERE WHAT IT READS IS OF BULK AT MOST 1048576: true; the input reads as it did. -/
def utf8BackUptoRow : OpenClaim := { program := "ytojffdcefplipaa", sum := "e8d166154e2ac391d4e8b47ad40263f26058600d59ceca7268b8c59aabbfe10a", func := "sobriquet/sobriquetlaw13.Utf8Back", spec := "utf8Back", apart := false, narrowed := true }
def Utf8BackUptoSaid : Prop := utf8BackUptoRow.holds Try.pinned (OpenSpec.upto utf8BackSpec)

/-- 'sobriquetlaw13.Utf8Parts', WHERE WHAT IT READS IS OF BULK AT MOST 1048576: true; the input reads as it did. -/
def utf8PartsUptoRow : OpenClaim := { program := "ytojffdcefplipaa", sum := "e8d166154e2ac391d4e8b47ad40263f26058600d59ceca7268b8c59aabbfe10a", func := "sobriquet/sobriquetlaw13.Utf8Parts", spec := "utf8Parts", apart := false, narrowed := true }
def Utf8PartsUptoSaid : Prop := utf8PartsUptoRow.holds Try.pinned (OpenSpec.upto utf8PartsSpec)

/-- 'sobriquetlaw13.Utf8Lengths', WHERE WHAT IT READS IS OF BULK AT MOST 1048576: true; the input reads as it did. -/
def utf8LengthsUptoRow : OpenClaim := { program := "ytojffdcefplipaa", sum := "e8d166154e2ac391d4e8b47ad40263f26058600d59ceca7268b8c59aabbfe10a", func := "sobriquet/sobriquetlaw13.Utf8Lengths", spec := "utf8Lengths", apart := false, narrowed := true }
def Utf8LengthsUptoSaid : Prop := utf8LengthsUptoRow.holds Try.pinned (OpenSpec.upto utf8LengthsSpec)

/-- 'sobriquetlaw13.Utf8Bad', WHERE WHAT IT READS IS OF BULK AT MOST 1048576: true; the input reads as it did. -/
def utf8BadUptoRow : OpenClaim := { program := "ytojffdcefplipaa", sum := "e8d166154e2ac391d4e8b47ad40263f26058600d59ceca7268b8c59aabbfe10a", func := "sobriquet/sobriquetlaw13.Utf8Bad", spec := "utf8Bad", apart := false, narrowed := true }
def Utf8BadUptoSaid : Prop := utf8BadUptoRow.holds Try.pinned (OpenSpec.upto utf8BadSpec)

end Rows
end Go.Proofs.Ytojffdcefplipaa
