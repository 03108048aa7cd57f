/-
  No cell of these rows narrows 'for every input' (looked for: loops, veiled, ifaces, maps, wideKeys, modest, calm, conditions, laid).
  DERIVED. THE GIVEN ROWS OF THIS SEAT. 4 by the template 'for every input the law returns true; each argument reads behind the call as it read before'; 0 by the template 'total and deterministic' (their statements: YtklgifnkoeadpaaTotals.lean).
  GIVEN WITH THE SEED: the statements are not yours to turn. If you find one false, say at which input.
  Laid BY PROGRAM, IN A SANDBOX (cutbox-rows.mjs): the forced cells as the released guide's own fill.sh prints them over the translation f827dae0114d5f65… (all of the seat's roots in one cut). By AI agents, Wed Nov 11 2026. No macro, syntax, notation, axiom, sorry.
-/
import Derived.Test.YtklgifnkoeadpaaChecked
import GoSem.Claim
import GoSem.ClaimJoined
import GoSem.ClaimMapViews
import Derived.JoinedTies
import Derived.KernelRfl
namespace Go.Proofs.Ytklgifnkoeadpaa
/- THE CELL 'sum', in the pinned program and in every row, IS THE sha256 OF THE DUMP (.gsa) THAT YtklgifnkoeadpaaProg.lean LOADS. Nothing in Lean hashes anything: it is a label: what it is worth is what the hold of that sum in a sandbox is worth. -/
noncomputable def Try.pinned : Pinned := { name := "ytklgifnkoeadpaa", sum := "f827dae0114d5f65567af775fb4b30a9b4f09811bb5eb9a7e36380ccca325d12", checked := Try.checked }
namespace Rows
def none {H : Type} : Left H := { results := [], args := [] }

/-- 'sobriquetlaw15.NarrowExact': WHATEVER THE INPUT: true; the input reads as it did. -/
def narrowExactSpec : ChangeSpec := { name := "narrowExact", fn := fun _ => fun
  | [d1, d2, d3, d4] => { results := [.lit (.bool true)], args := [d1, d2, d3, d4] }
  | _ => none }
def narrowExactRow : OpenClaim := { program := "ytklgifnkoeadpaa", sum := "f827dae0114d5f65567af775fb4b30a9b4f09811bb5eb9a7e36380ccca325d12", func := "sobriquet/sobriquetlaw15.NarrowExact", spec := "narrowExact", inPlace := ["internal/bytealg.IndexByteString"], apart := false }
def NarrowExactSaid : Prop := narrowExactRow.holds Try.pinned (OpenSpec.ofChange narrowExactSpec)

/-- ITS FALSE NEIGHBOUR: 'it returns false'. Refute it at one input. -/
def narrowExactWrong : ChangeSpec := { name := "narrowExact", fn := fun _ => fun
  | [d1, d2, d3, d4] => { results := [.lit (.bool false)], args := [d1, d2, d3, d4] }
  | _ => none }
def NarrowExactWrongFalsely : Prop := narrowExactRow.holds Try.pinned (OpenSpec.ofChange narrowExactWrong)

/-- 'sobriquetlaw15.NarrowBack': WHATEVER THE INPUT: true; the input reads as it did. -/
def narrowBackSpec : ChangeSpec := { name := "narrowBack", fn := fun _ => fun
  | [d1, d2, d3] => { results := [.lit (.bool true)], args := [d1, d2, d3] }
  | _ => none }
def narrowBackRow : OpenClaim := { program := "ytklgifnkoeadpaa", sum := "f827dae0114d5f65567af775fb4b30a9b4f09811bb5eb9a7e36380ccca325d12", func := "sobriquet/sobriquetlaw15.NarrowBack", spec := "narrowBack", inPlace := ["internal/bytealg.IndexByteString"], apart := false }
def NarrowBackSaid : Prop := narrowBackRow.holds Try.pinned (OpenSpec.ofChange narrowBackSpec)

/-- ITS FALSE NEIGHBOUR: 'it returns false'. Refute it at one input. -/
def narrowBackWrong : ChangeSpec := { name := "narrowBack", fn := fun _ => fun
  | [d1, d2, d3] => { results := [.lit (.bool false)], args := [d1, d2, d3] }
  | _ => none }
def NarrowBackWrongFalsely : Prop := narrowBackRow.holds Try.pinned (OpenSpec.ofChange narrowBackWrong)

/-- 'sobriquetlaw15.NarrowFirst': WHATEVER THE INPUT: true; the input reads as it did. -/
def narrowFirstSpec : ChangeSpec := { name := "narrowFirst", fn := fun _ => fun
  | [d1, d2] => { results := [.lit (.bool true)], args := [d1, d2] }
  | _ => none }
def narrowFirstRow : OpenClaim := { program := "ytklgifnkoeadpaa", sum := "f827dae0114d5f65567af775fb4b30a9b4f09811bb5eb9a7e36380ccca325d12", func := "sobriquet/sobriquetlaw15.NarrowFirst", spec := "narrowFirst", inPlace := ["internal/bytealg.IndexByteString"], apart := false }
def NarrowFirstSaid : Prop := narrowFirstRow.holds Try.pinned (OpenSpec.ofChange narrowFirstSpec)

/-- ITS FALSE NEIGHBOUR: 'it returns false'. Refute it at one input. -/
def narrowFirstWrong : ChangeSpec := { name := "narrowFirst", fn := fun _ => fun
  | [d1, d2] => { results := [.lit (.bool false)], args := [d1, d2] }
  | _ => none }
def NarrowFirstWrongFalsely : Prop := narrowFirstRow.holds Try.pinned (OpenSpec.ofChange narrowFirstWrong)

/-- 'sobriquetlaw15.NarrowIn': WHATEVER THE INPUT: true; the input reads as it did. -/
def narrowInSpec : ChangeSpec := { name := "narrowIn", fn := fun _ => fun
  | [d] => { results := [.lit (.bool true)], args := [d] }
  | _ => none }
def narrowInRow : OpenClaim := { program := "ytklgifnkoeadpaa", sum := "f827dae0114d5f65567af775fb4b30a9b4f09811bb5eb9a7e36380ccca325d12", func := "sobriquet/sobriquetlaw15.NarrowIn", spec := "narrowIn", inPlace := ["internal/bytealg.IndexByteString"], apart := false }
def NarrowInSaid : Prop := narrowInRow.holds Try.pinned (OpenSpec.ofChange narrowInSpec)

/-- ITS FALSE NEIGHBOUR: 'it returns false'. Refute it at one input. -/
def narrowInWrong : ChangeSpec := { name := "narrowIn", fn := fun _ => fun
  | [d] => { results := [.lit (.bool false)], args := [d] }
  | _ => none }
def NarrowInWrongFalsely : Prop := narrowInRow.holds Try.pinned (OpenSpec.ofChange narrowInWrong)

/- THE SECOND FORM. 'bulk': how many values and letters a reading holds, each counted each time it is reached (what is shared counts as often as it is met; a slice's spare places count too). A statement '..UptoSaid' is the law's where the arguments, and the package variables that the reading takes, are together of bulk at most 1048576: NARROWER than '..Said'. Prove '..Said' where nothing that the law and all that it calls make is longer than what came in: it says more and counts as full. Else prove '..UptoSaid'. A law counts once. -/
mutual
def uptoBulk {H : Type} : DataW H → Nat
  | .lit (.string bytes) => bytes.length + 1
  | .lit _ => 1
  | .nil => 1
  | .ptr d => uptoBulk d + 1
  | .slice elems spare => uptoBulkAll elems + uptoBulkAll spare + 1
  | .agg parts => uptoBulkAll parts + 1
  | .iface _ d => uptoBulk d + 1
  | .map entries => uptoBulkEntries entries + 1
  | .held _ => 1
def uptoBulkAll {H : Type} : List (DataW H) → Nat
  | [] => 0
  | d :: r => uptoBulk d + uptoBulkAll r
def uptoBulkEntries {H : Type} : List (Lit × DataW H) → Nat
  | [] => 0
  | x :: r => uptoBulkEntry x + uptoBulkEntries r
def uptoBulkEntry {H : Type} : Lit × DataW H → Nat
  | (.string bytes, d) => bytes.length + uptoBulk d + 1
  | (_, d) => uptoBulk d + 1
 end
def uptoSmall : (H : Type) → List (DataW H) → Bool := fun _ ds => decide (uptoBulkAll ds ≤ 1048576)
def OpenSpec.upto (s : _root_.Go.ChangeSpec) : _root_.Go.OpenSpec := { _root_.Go.OpenSpec.ofChange s with cond := some uptoSmall }

/-- 'sobriquetlaw15.NarrowExact', WHERE WHAT IT READS IS OF BULK AT MOST 1048576: true; the input reads as it did. -/
def narrowExactUptoRow : OpenClaim := { program := "ytklgifnkoeadpaa", sum := "f827dae0114d5f65567af775fb4b30a9b4f09811bb5eb9a7e36380ccca325d12", func := "sobriquet/sobriquetlaw15.NarrowExact", spec := "narrowExact", inPlace := ["internal/bytealg.IndexByteString"], apart := false, narrowed := true }
def NarrowExactUptoSaid : Prop := narrowExactUptoRow.holds Try.pinned (OpenSpec.upto narrowExactSpec)

/-- 'sobriquetlaw15.NarrowBack', WHERE WHAT IT READS IS OF BULK AT MOST 1048576: true; the input reads as it did. -/
def narrowBackUptoRow : OpenClaim := { program := "ytklgifnkoeadpaa", sum := "f827dae0114d5f65567af775fb4b30a9b4f09811bb5eb9a7e36380ccca325d12", func := "sobriquet/sobriquetlaw15.NarrowBack", spec := "narrowBack", inPlace := ["internal/bytealg.IndexByteString"], apart := false, narrowed := true }
def NarrowBackUptoSaid : Prop := narrowBackUptoRow.holds Try.pinned (OpenSpec.upto narrowBackSpec)

/-- 'sobriquetlaw15.NarrowFirst', WHERE WHAT IT READS IS OF BULK AT MOST 1048576: true; the input reads as it did. -/
def narrowFirstUptoRow : OpenClaim := { program := "ytklgifnkoeadpaa", sum := "f827dae0114d5f65567af775fb4b30a9b4f09811bb5eb9a7e36380ccca325d12", func := "sobriquet/sobriquetlaw15.NarrowFirst", spec := "narrowFirst", inPlace := ["internal/bytealg.IndexByteString"], apart := false, narrowed := true }
def NarrowFirstUptoSaid : Prop := narrowFirstUptoRow.holds Try.pinned (OpenSpec.upto narrowFirstSpec)

/-- 'sobriquetlaw15.NarrowIn', WHERE WHAT IT READS IS OF BULK AT MOST 1048576: true; the input reads as it did. -/
def narrowInUptoRow : OpenClaim := { program := "ytklgifnkoeadpaa", sum := "f827dae0114d5f65567af775fb4b30a9b4f09811bb5eb9a7e36380ccca325d12", func := "sobriquet/sobriquetlaw15.NarrowIn", spec := "narrowIn", inPlace := ["internal/bytealg.IndexByteString"], apart := false, narrowed := true }
def NarrowInUptoSaid : Prop := narrowInUptoRow.holds Try.pinned (OpenSpec.upto narrowInSpec)

end Rows
end Go.Proofs.Ytklgifnkoeadpaa
