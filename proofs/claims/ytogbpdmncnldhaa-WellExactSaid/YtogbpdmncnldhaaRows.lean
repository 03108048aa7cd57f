/-
  No cell of these rows narrows 'for every input' (looked for: loops, veiled, ifaces, maps, wideKeys, modest, calm, conditions, laid).
  DERIVED. THE GIVEN ROWS OF THIS SEAT. 7 by the template 'for every input the law returns true; each argument reads behind the call as it read before'; 0 by the template 'total and deterministic' (their statements: YtogbpdmncnldhaaTotals.lean).
  GIVEN WITH THE SEED: the statements are not yours to turn. If you find one false, say at which input.
  Laid BY PROGRAM, IN A SANDBOX (cutbox-rows.mjs): the forced cells as the released guide's own fill.sh prints them over the translation 0b7c720398b22897… (all of the seat's roots in one cut). By AI agents, Wed Nov 11 2026. No macro, syntax, notation, axiom, sorry.
-/
import Derived.Test.YtogbpdmncnldhaaChecked
import GoSem.Claim
import GoSem.ClaimJoined
import GoSem.ClaimMapViews
import Derived.JoinedTies
import Derived.KernelRfl
namespace Go.Proofs.Ytogbpdmncnldhaa
/- THE CELL 'sum', in the pinned program and in every row, IS THE sha256 OF THE DUMP (.gsa) THAT YtogbpdmncnldhaaProg.lean LOADS. Nothing in Lean hashes anything: it is a label: what it is worth is what the hold of that sum in a sandbox is worth. -/
noncomputable def Try.pinned : Pinned := { name := "ytogbpdmncnldhaa", sum := "0b7c720398b2289719b4dc9d8d2a75f5212a2d6b9418d6b95d144cf4138ed64e", checked := Try.checked }
namespace Rows
def none {H : Type} : Left H := { results := [], args := [] }

/-- 'sobriquetlaw02.WellExact': WHATEVER THE INPUT: true; the input reads as it did. -/
def wellExactSpec : ChangeSpec := { name := "wellExact", fn := fun _ => fun
  | [d] => { results := [.lit (.bool true)], args := [d] }
  | _ => none }
def wellExactRow : OpenClaim := { program := "ytogbpdmncnldhaa", sum := "0b7c720398b2289719b4dc9d8d2a75f5212a2d6b9418d6b95d144cf4138ed64e", func := "sobriquet/sobriquetlaw02.WellExact", spec := "wellExact", apart := false }
def WellExactSaid : Prop := wellExactRow.holds Try.pinned (OpenSpec.ofChange wellExactSpec)

/-- ITS FALSE NEIGHBOUR: 'it returns false'. Refute it at one input. -/
def wellExactWrong : ChangeSpec := { name := "wellExact", fn := fun _ => fun
  | [d] => { results := [.lit (.bool false)], args := [d] }
  | _ => none }
def WellExactWrongFalsely : Prop := wellExactRow.holds Try.pinned (OpenSpec.ofChange wellExactWrong)

/-- 'sobriquetlaw02.WellParts': WHATEVER THE INPUT: true; the input reads as it did. -/
def wellPartsSpec : ChangeSpec := { name := "wellParts", fn := fun _ => fun
  | [d1, d2] => { results := [.lit (.bool true)], args := [d1, d2] }
  | _ => none }
def wellPartsRow : OpenClaim := { program := "ytogbpdmncnldhaa", sum := "0b7c720398b2289719b4dc9d8d2a75f5212a2d6b9418d6b95d144cf4138ed64e", func := "sobriquet/sobriquetlaw02.WellParts", spec := "wellParts", apart := false }
def WellPartsSaid : Prop := wellPartsRow.holds Try.pinned (OpenSpec.ofChange wellPartsSpec)

/-- ITS FALSE NEIGHBOUR: 'it returns false'. Refute it at one input. -/
def wellPartsWrong : ChangeSpec := { name := "wellParts", fn := fun _ => fun
  | [d1, d2] => { results := [.lit (.bool false)], args := [d1, d2] }
  | _ => none }
def WellPartsWrongFalsely : Prop := wellPartsRow.holds Try.pinned (OpenSpec.ofChange wellPartsWrong)

/-- 'sobriquetlaw02.WellDeep': WHATEVER THE INPUT: true; the input reads as it did. -/
def wellDeepSpec : ChangeSpec := { name := "wellDeep", fn := fun _ => fun
  | [d1, d2] => { results := [.lit (.bool true)], args := [d1, d2] }
  | _ => none }
def wellDeepRow : OpenClaim := { program := "ytogbpdmncnldhaa", sum := "0b7c720398b2289719b4dc9d8d2a75f5212a2d6b9418d6b95d144cf4138ed64e", func := "sobriquet/sobriquetlaw02.WellDeep", spec := "wellDeep", apart := false }
def WellDeepSaid : Prop := wellDeepRow.holds Try.pinned (OpenSpec.ofChange wellDeepSpec)

/-- ITS FALSE NEIGHBOUR: 'it returns false'. Refute it at one input. -/
def wellDeepWrong : ChangeSpec := { name := "wellDeep", fn := fun _ => fun
  | [d1, d2] => { results := [.lit (.bool false)], args := [d1, d2] }
  | _ => none }
def WellDeepWrongFalsely : Prop := wellDeepRow.holds Try.pinned (OpenSpec.ofChange wellDeepWrong)

/-- 'sobriquetlaw02.WellCut': WHATEVER THE INPUT: true; the input reads as it did. -/
def wellCutSpec : ChangeSpec := { name := "wellCut", fn := fun _ => fun
  | [d1, d2, d3] => { results := [.lit (.bool true)], args := [d1, d2, d3] }
  | _ => none }
def wellCutRow : OpenClaim := { program := "ytogbpdmncnldhaa", sum := "0b7c720398b2289719b4dc9d8d2a75f5212a2d6b9418d6b95d144cf4138ed64e", func := "sobriquet/sobriquetlaw02.WellCut", spec := "wellCut", apart := false }
def WellCutSaid : Prop := wellCutRow.holds Try.pinned (OpenSpec.ofChange wellCutSpec)

/-- ITS FALSE NEIGHBOUR: 'it returns false'. Refute it at one input. -/
def wellCutWrong : ChangeSpec := { name := "wellCut", fn := fun _ => fun
  | [d1, d2, d3] => { results := [.lit (.bool false)], args := [d1, d2, d3] }
  | _ => none }
def WellCutWrongFalsely : Prop := wellCutRow.holds Try.pinned (OpenSpec.ofChange wellCutWrong)

/-- 'sobriquetlaw02.WellForms': WHATEVER THE INPUT: true; the input reads as it did. -/
def wellFormsSpec : ChangeSpec := { name := "wellForms", fn := fun _ => fun
  | [d1, d2, d3] => { results := [.lit (.bool true)], args := [d1, d2, d3] }
  | _ => none }
def wellFormsRow : OpenClaim := { program := "ytogbpdmncnldhaa", sum := "0b7c720398b2289719b4dc9d8d2a75f5212a2d6b9418d6b95d144cf4138ed64e", func := "sobriquet/sobriquetlaw02.WellForms", spec := "wellForms", apart := false }
def WellFormsSaid : Prop := wellFormsRow.holds Try.pinned (OpenSpec.ofChange wellFormsSpec)

/-- ITS FALSE NEIGHBOUR: 'it returns false'. Refute it at one input. -/
def wellFormsWrong : ChangeSpec := { name := "wellForms", fn := fun _ => fun
  | [d1, d2, d3] => { results := [.lit (.bool false)], args := [d1, d2, d3] }
  | _ => none }
def WellFormsWrongFalsely : Prop := wellFormsRow.holds Try.pinned (OpenSpec.ofChange wellFormsWrong)

/-- 'sobriquetlaw02.WellLeaf': WHATEVER THE INPUT: true; the input reads as it did. -/
def wellLeafSpec : ChangeSpec := { name := "wellLeaf", fn := fun _ => fun
  | [d1, d2, d3] => { results := [.lit (.bool true)], args := [d1, d2, d3] }
  | _ => none }
def wellLeafRow : OpenClaim := { program := "ytogbpdmncnldhaa", sum := "0b7c720398b2289719b4dc9d8d2a75f5212a2d6b9418d6b95d144cf4138ed64e", func := "sobriquet/sobriquetlaw02.WellLeaf", spec := "wellLeaf", apart := false }
def WellLeafSaid : Prop := wellLeafRow.holds Try.pinned (OpenSpec.ofChange wellLeafSpec)

/-- ITS FALSE NEIGHBOUR: 'it returns false'. Refute it at one input. -/
def wellLeafWrong : ChangeSpec := { name := "wellLeaf", fn := fun _ => fun
  | [d1, d2, d3] => { results := [.lit (.bool false)], args := [d1, d2, d3] }
  | _ => none }
def WellLeafWrongFalsely : Prop := wellLeafRow.holds Try.pinned (OpenSpec.ofChange wellLeafWrong)

/-- 'sobriquetlaw02.WellInside': WHATEVER THE INPUT: true; the input reads as it did. -/
def wellInsideSpec : ChangeSpec := { name := "wellInside", fn := fun _ => fun
  | [d1, d2] => { results := [.lit (.bool true)], args := [d1, d2] }
  | _ => none }
def wellInsideRow : OpenClaim := { program := "ytogbpdmncnldhaa", sum := "0b7c720398b2289719b4dc9d8d2a75f5212a2d6b9418d6b95d144cf4138ed64e", func := "sobriquet/sobriquetlaw02.WellInside", spec := "wellInside", apart := false }
def WellInsideSaid : Prop := wellInsideRow.holds Try.pinned (OpenSpec.ofChange wellInsideSpec)

/-- ITS FALSE NEIGHBOUR: 'it returns false'. Refute it at one input. -/
def wellInsideWrong : ChangeSpec := { name := "wellInside", fn := fun _ => fun
  | [d1, d2] => { results := [.lit (.bool false)], args := [d1, d2] }
  | _ => none }
def WellInsideWrongFalsely : Prop := wellInsideRow.holds Try.pinned (OpenSpec.ofChange wellInsideWrong)

/- THE SECOND FORM. 'bulk': how many values and letters a reading holds, each counted each time it is reached (what is shared counts as often as it is met; a slice's spare places count too). A statement '..UptoSaid' is the law's where the arguments, and the package variables that the reading takes, are together of bulk at most 1048576: NARROWER than '..Said'. Prove '..Said' where nothing that the law and all that it calls make is longer than what came in: it says more and counts as full. Else prove '..UptoSaid'. A law counts once. -/
mutual
def uptoBulk {H : Type} : DataW H → Nat
  | .lit (.string bytes) => bytes.length + 1
  | .lit _ => 1
  | .nil => 1
  | .ptr d => uptoBulk d + 1
  | .slice elems spare => uptoBulkAll elems + uptoBulkAll spare + 1
  | .agg parts => uptoBulkAll parts + 1
  | .iface _ d => uptoBulk d + 1
  | .map entries => uptoBulkEntries entries + 1
  | .held _ => 1
def uptoBulkAll {H : Type} : List (DataW H) → Nat
  | [] => 0
  | d :: r => uptoBulk d + uptoBulkAll r
def uptoBulkEntries {H : Type} : List (Lit × DataW H) → Nat
  | [] => 0
  | x :: r => uptoBulkEntry x + uptoBulkEntries r
def uptoBulkEntry {H : Type} : Lit × DataW H → Nat
  | (.string bytes, d) => bytes.length + uptoBulk d + 1
  | (_, d) => uptoBulk d + 1
 end
def uptoSmall : (H : Type) → List (DataW H) → Bool := fun _ ds => decide (uptoBulkAll ds ≤ 1048576)
def OpenSpec.upto (s : _root_.Go.ChangeSpec) : _root_.Go.OpenSpec := { _root_.Go.OpenSpec.ofChange s with cond := some uptoSmall }

/-- 'sobriquetlaw02.WellExact', WHERE WHAT IT READS IS OF BULK AT MOST 1048576: true; the input reads as it did. -/
def wellExactUptoRow : OpenClaim := { program := "ytogbpdmncnldhaa", sum := "0b7c720398b2289719b4dc9d8d2a75f5212a2d6b9418d6b95d144cf4138ed64e", func := "sobriquet/sobriquetlaw02.WellExact", spec := "wellExact", apart := false, narrowed := true }
def WellExactUptoSaid : Prop := wellExactUptoRow.holds Try.pinned (OpenSpec.upto wellExactSpec)

/-- 'sobriquetlaw02.WellParts', WHERE WHAT IT READS IS OF BULK AT MOST 1048576: true; the input reads as it did. -/
def wellPartsUptoRow : OpenClaim := { program := "ytogbpdmncnldhaa", sum := "0b7c720398b2289719b4dc9d8d2a75f5212a2d6b9418d6b95d144cf4138ed64e", func := "sobriquet/sobriquetlaw02.WellParts", spec := "wellParts", apart := false, narrowed := true }
def WellPartsUptoSaid : Prop := wellPartsUptoRow.holds Try.pinned (OpenSpec.upto wellPartsSpec)

/-- 'sobriquetlaw02.WellDeep', WHERE WHAT IT READS IS OF BULK AT MOST 1048576: true; the input reads as it did. -/
def wellDeepUptoRow : OpenClaim := { program := "ytogbpdmncnldhaa", sum := "0b7c720398b2289719b4dc9d8d2a75f5212a2d6b9418d6b95d144cf4138ed64e", func := "sobriquet/sobriquetlaw02.WellDeep", spec := "wellDeep", apart := false, narrowed := true }
def WellDeepUptoSaid : Prop := wellDeepUptoRow.holds Try.pinned (OpenSpec.upto wellDeepSpec)

/-- 'sobriquetlaw02.WellCut', WHERE WHAT IT READS IS OF BULK AT MOST 1048576: true; the input reads as it did. -/
def wellCutUptoRow : OpenClaim := { program := "ytogbpdmncnldhaa", sum := "0b7c720398b2289719b4dc9d8d2a75f5212a2d6b9418d6b95d144cf4138ed64e", func := "sobriquet/sobriquetlaw02.WellCut", spec := "wellCut", apart := false, narrowed := true }
def WellCutUptoSaid : Prop := wellCutUptoRow.holds Try.pinned (OpenSpec.upto wellCutSpec)

/-- 'sobriquetlaw02.WellForms', WHERE WHAT IT READS IS OF BULK AT MOST 1048576: true; the input reads as it did. -/
def wellFormsUptoRow : OpenClaim := { program := "ytogbpdmncnldhaa", sum := "0b7c720398b2289719b4dc9d8d2a75f5212a2d6b9418d6b95d144cf4138ed64e", func := "sobriquet/sobriquetlaw02.WellForms", spec := "wellForms", apart := false, narrowed := true }
def WellFormsUptoSaid : Prop := wellFormsUptoRow.holds Try.pinned (OpenSpec.upto wellFormsSpec)

/-- 'sobriquetlaw02.WellLeaf', WHERE WHAT IT READS IS OF BULK AT MOST 1048576: true; the input reads as it did. -/
def wellLeafUptoRow : OpenClaim := { program := "ytogbpdmncnldhaa", sum := "0b7c720398b2289719b4dc9d8d2a75f5212a2d6b9418d6b95d144cf4138ed64e", func := "sobriquet/sobriquetlaw02.WellLeaf", spec := "wellLeaf", apart := false, narrowed := true }
def WellLeafUptoSaid : Prop := wellLeafUptoRow.holds Try.pinned (OpenSpec.upto wellLeafSpec)

/-- 'sobriquetlaw02.WellInside', WHERE WHAT IT READS IS OF BULK AT MOST 1048576: true; the input reads as it did. -/
def wellInsideUptoRow : OpenClaim := { program := "ytogbpdmncnldhaa", sum := "0b7c720398b2289719b4dc9d8d2a75f5212a2d6b9418d6b95d144cf4138ed64e", func := "sobriquet/sobriquetlaw02.WellInside", spec := "wellInside", apart := false, narrowed := true }
def WellInsideUptoSaid : Prop := wellInsideUptoRow.holds Try.pinned (OpenSpec.upto wellInsideSpec)

end Rows
end Go.Proofs.Ytogbpdmncnldhaa
