/-
  No cell of these rows narrows 'for every input' (looked for: loops, veiled, ifaces, maps, wideKeys, modest, calm, conditions, laid).
  DERIVED. THE GIVEN ROWS OF THIS SEAT. 4 by the template 'for every input the law returns true; each argument reads behind the call as it read before'; 0 by the template 'total and deterministic' (their statements: YteclbjjdhckgoaaTotals.lean).
  GIVEN WITH THE SEED: the statements are not yours to turn. If you find one false, say at which input.
  Laid BY PROGRAM, IN A SANDBOX (cutbox-rows.mjs): the forced cells as the released guide's own fill.sh prints them over the translation 43a4312d9270e439… (all of the seat's roots in one cut). By AI agents, Wed Nov 11 2026. No macro, syntax, notation, axiom, sorry.
-/
import Derived.Test.YteclbjjdhckgoaaChecked
import GoSem.Claim
import GoSem.ClaimJoined
import GoSem.ClaimMapViews
import Derived.JoinedTies
import Derived.KernelRfl
namespace Go.Proofs.Yteclbjjdhckgoaa
/- THE CELL 'sum', in the pinned program and in every row, IS THE sha256 OF THE DUMP (.gsa) THAT YteclbjjdhckgoaaProg.lean LOADS. Nothing in Lean hashes anything: it is a label: what it is worth is what the hold of that sum in a sandbox is worth. -/
noncomputable def Try.pinned : Pinned := { name := "yteclbjjdhckgoaa", sum := "43a4312d9270e43964279461402883d6f91659a72ba06d145c33be15e622cc99", checked := Try.checked }
namespace Rows
def none {H : Type} : Left H := { results := [], args := [] }

/-- 'sobriquetlaw22.AttrNames': WHATEVER THE INPUT: true; the input reads as it did. -/
def attrNamesSpec : ChangeSpec := { name := "attrNames", fn := fun _ => fun
  | [d1, d2] => { results := [.lit (.bool true)], args := [d1, d2] }
  | _ => none }
def attrNamesRow : OpenClaim := { program := "yteclbjjdhckgoaa", sum := "43a4312d9270e43964279461402883d6f91659a72ba06d145c33be15e622cc99", func := "sobriquet/sobriquetlaw22.AttrNames", spec := "attrNames", apart := false }
def AttrNamesSaid : Prop := attrNamesRow.holds Try.pinned (OpenSpec.ofChange attrNamesSpec)

/-- ITS FALSE NEIGHBOUR: 'it returns false'. Refute it at one input. -/
def attrNamesWrong : ChangeSpec := { name := "attrNames", fn := fun _ => fun
  | [d1, d2] => { results := [.lit (.bool false)], args := [d1, d2] }
  | _ => none }
def AttrNamesWrongFalsely : Prop := attrNamesRow.holds Try.pinned (OpenSpec.ofChange attrNamesWrong)

/-- 'sobriquetlaw22.AttrUnknown': WHATEVER THE INPUT: true; the input reads as it did. -/
def attrUnknownSpec : ChangeSpec := { name := "attrUnknown", fn := fun _ => fun
  | [d1, d2] => { results := [.lit (.bool true)], args := [d1, d2] }
  | _ => none }
def attrUnknownRow : OpenClaim := { program := "yteclbjjdhckgoaa", sum := "43a4312d9270e43964279461402883d6f91659a72ba06d145c33be15e622cc99", func := "sobriquet/sobriquetlaw22.AttrUnknown", spec := "attrUnknown", apart := false }
def AttrUnknownSaid : Prop := attrUnknownRow.holds Try.pinned (OpenSpec.ofChange attrUnknownSpec)

/-- ITS FALSE NEIGHBOUR: 'it returns false'. Refute it at one input. -/
def attrUnknownWrong : ChangeSpec := { name := "attrUnknown", fn := fun _ => fun
  | [d1, d2] => { results := [.lit (.bool false)], args := [d1, d2] }
  | _ => none }
def AttrUnknownWrongFalsely : Prop := attrUnknownRow.holds Try.pinned (OpenSpec.ofChange attrUnknownWrong)

/-- 'sobriquetlaw22.AttrKinds': WHATEVER THE INPUT: true; the input reads as it did. -/
def attrKindsSpec : ChangeSpec := { name := "attrKinds", fn := fun _ => fun
  | [d] => { results := [.lit (.bool true)], args := [d] }
  | _ => none }
def attrKindsRow : OpenClaim := { program := "yteclbjjdhckgoaa", sum := "43a4312d9270e43964279461402883d6f91659a72ba06d145c33be15e622cc99", func := "sobriquet/sobriquetlaw22.AttrKinds", spec := "attrKinds", apart := false }
def AttrKindsSaid : Prop := attrKindsRow.holds Try.pinned (OpenSpec.ofChange attrKindsSpec)

/-- ITS FALSE NEIGHBOUR: 'it returns false'. Refute it at one input. -/
def attrKindsWrong : ChangeSpec := { name := "attrKinds", fn := fun _ => fun
  | [d] => { results := [.lit (.bool false)], args := [d] }
  | _ => none }
def AttrKindsWrongFalsely : Prop := attrKindsRow.holds Try.pinned (OpenSpec.ofChange attrKindsWrong)

/-- 'sobriquetlaw22.AttrExact': WHATEVER THE INPUT: true; the input reads as it did. -/
def attrExactSpec : ChangeSpec := { name := "attrExact", fn := fun _ => fun
  | [d1, d2] => { results := [.lit (.bool true)], args := [d1, d2] }
  | _ => none }
def attrExactRow : OpenClaim := { program := "yteclbjjdhckgoaa", sum := "43a4312d9270e43964279461402883d6f91659a72ba06d145c33be15e622cc99", func := "sobriquet/sobriquetlaw22.AttrExact", spec := "attrExact", unfollowed := true, recurses := true, apart := false }
def AttrExactSaid : Prop := attrExactRow.holds Try.pinned (OpenSpec.ofChange attrExactSpec)

/-- ITS FALSE NEIGHBOUR: 'it returns false'. Refute it at one input. -/
def attrExactWrong : ChangeSpec := { name := "attrExact", fn := fun _ => fun
  | [d1, d2] => { results := [.lit (.bool false)], args := [d1, d2] }
  | _ => none }
def AttrExactWrongFalsely : Prop := attrExactRow.holds Try.pinned (OpenSpec.ofChange attrExactWrong)

/- THE SECOND FORM. 'bulk': how many values and letters a reading holds, each counted each time it is reached (what is shared counts as often as it is met; a slice's spare places count too). A statement '..UptoSaid' is the law's where the arguments, and the package variables that the reading takes, are together of bulk at most 1048576: NARROWER than '..Said'. Prove '..Said' where nothing that the law and all that it calls make is longer than what came in: it says more and counts as full. Else prove '..UptoSaid'. A law counts once. -/
mutual
def uptoBulk {H : Type} : DataW H → Nat
  | .lit (.string bytes) => bytes.length + 1
  | .lit _ => 1
  | .nil => 1
  | .ptr d => uptoBulk d + 1
  | .slice elems spare => uptoBulkAll elems + uptoBulkAll spare + 1
  | .agg parts => uptoBulkAll parts + 1
  | .iface _ d => uptoBulk d + 1
  | .map entries => uptoBulkEntries entries + 1
  | .held _ => 1
def uptoBulkAll {H : Type} : List (DataW H) → Nat
  | [] => 0
  | d :: r => uptoBulk d + uptoBulkAll r
def uptoBulkEntries {H : Type} : List (Lit × DataW H) → Nat
  | [] => 0
  | x :: r => uptoBulkEntry x + uptoBulkEntries r
def uptoBulkEntry {H : Type} : Lit × DataW H → Nat
  | (.string bytes, d) => bytes.length + uptoBulk d + 1
  | (_, d) => uptoBulk d + 1
 end
def uptoSmall : (H : Type) → List (DataW H) → Bool := fun _ ds => decide (uptoBulkAll ds ≤ 1048576)
def OpenSpec.upto (s : _root_.Go.ChangeSpec) : _root_.Go.OpenSpec := { _root_.Go.OpenSpec.ofChange s with cond := some uptoSmall }

/-- 'sobriquetlaw22.AttrNames', WHERE WHAT IT READS IS OF BULK AT MOST 1048576: true; the input reads as it did. -/
def attrNamesUptoRow : OpenClaim := { program := "yteclbjjdhckgoaa", sum := "43a4312d9270e43964279461402883d6f91659a72ba06d145c33be15e622cc99", func := "sobriquet/sobriquetlaw22.AttrNames", spec := "attrNames", apart := false, narrowed := true }
def AttrNamesUptoSaid : Prop := attrNamesUptoRow.holds Try.pinned (OpenSpec.upto attrNamesSpec)

/-- 'sobriquetlaw22.AttrUnknown', WHERE WHAT IT READS IS OF BULK AT MOST 1048576: true; the input reads as it did. -/
def attrUnknownUptoRow : OpenClaim := { program := "yteclbjjdhckgoaa", sum := "43a4312d9270e43964279461402883d6f91659a72ba06d145c33be15e622cc99", func := "sobriquet/sobriquetlaw22.AttrUnknown", spec := "attrUnknown", apart := false, narrowed := true }
def AttrUnknownUptoSaid : Prop := attrUnknownUptoRow.holds Try.pinned (OpenSpec.upto attrUnknownSpec)

/-- 'sobriquetlaw22.AttrKinds', WHERE WHAT IT READS IS OF BULK AT MOST 1048576: true; the input reads as it did. -/
def attrKindsUptoRow : OpenClaim := { program := "yteclbjjdhckgoaa", sum := "43a4312d9270e43964279461402883d6f91659a72ba06d145c33be15e622cc99", func := "sobriquet/sobriquetlaw22.AttrKinds", spec := "attrKinds", apart := false, narrowed := true }
def AttrKindsUptoSaid : Prop := attrKindsUptoRow.holds Try.pinned (OpenSpec.upto attrKindsSpec)

/-- 'sobriquetlaw22.AttrExact', WHERE WHAT IT READS IS OF BULK AT MOST 1048576: true; the input reads as it did. -/
def attrExactUptoRow : OpenClaim := { program := "yteclbjjdhckgoaa", sum := "43a4312d9270e43964279461402883d6f91659a72ba06d145c33be15e622cc99", func := "sobriquet/sobriquetlaw22.AttrExact", spec := "attrExact", unfollowed := true, recurses := true, apart := false, narrowed := true }
def AttrExactUptoSaid : Prop := attrExactUptoRow.holds Try.pinned (OpenSpec.upto attrExactSpec)

end Rows
end Go.Proofs.Yteclbjjdhckgoaa
