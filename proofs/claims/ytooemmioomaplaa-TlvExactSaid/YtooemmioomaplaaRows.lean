/-
  No cell of these rows narrows 'for every input' (looked for: loops, veiled, ifaces, maps, wideKeys, modest, calm, conditions, laid).
  DERIVED. THE GIVEN ROWS OF THIS SEAT. 5 by the template 'for every input the law returns true; each argument reads behind the call as it read before'; 0 by the template 'total and deterministic' (their statements: YtooemmioomaplaaTotals.lean).
  GIVEN WITH THE SEED: the statements are not yours to turn. If you find one false, say at which input.
  Laid BY PROGRAM, IN A SANDBOX (cutbox-rows.mjs): the forced cells as the released guide's own fill.sh prints them over the translation 05baedf41e99ccf9… (all of the seat's roots in one cut). By AI agents, Wed Nov 11 2026. No macro, syntax, notation, axiom, sorry.
-/
import Derived.Test.YtooemmioomaplaaChecked
import GoSem.Claim
import GoSem.ClaimJoined
import GoSem.ClaimMapViews
import Derived.JoinedTies
import Derived.KernelRfl
namespace Go.Proofs.Ytooemmioomaplaa
/- THE CELL 'sum', in the pinned program and in every row, IS THE sha256 OF THE DUMP (.gsa) THAT YtooemmioomaplaaProg.lean LOADS. Nothing in Lean hashes anything: it is a label: what it is worth is what the hold of that sum in a sandbox is worth. -/
noncomputable def Try.pinned : Pinned := { name := "ytooemmioomaplaa", sum := "05baedf41e99ccf98fa8cd11dbcdfa6f129d8b9683fc42e0571ce20a8e746898", checked := Try.checked }
namespace Rows
def none {H : Type} : Left H := { results := [], args := [] }

/-- 'sobriquetlaw01.TlvBack': WHATEVER THE INPUT: true; the input reads as it did. -/
def tlvBackSpec : ChangeSpec := { name := "tlvBack", fn := fun _ => fun
  | [d1, d2, d3] => { results := [.lit (.bool true)], args := [d1, d2, d3] }
  | _ => none }
def tlvBackRow : OpenClaim := { program := "ytooemmioomaplaa", sum := "05baedf41e99ccf98fa8cd11dbcdfa6f129d8b9683fc42e0571ce20a8e746898", func := "sobriquet/sobriquetlaw01.TlvBack", spec := "tlvBack", apart := false }
def TlvBackSaid : Prop := tlvBackRow.holds Try.pinned (OpenSpec.ofChange tlvBackSpec)

/-- ITS FALSE NEIGHBOUR: 'it returns false'. Refute it at one input. -/
def tlvBackWrong : ChangeSpec := { name := "tlvBack", fn := fun _ => fun
  | [d1, d2, d3] => { results := [.lit (.bool false)], args := [d1, d2, d3] }
  | _ => none }
def TlvBackWrongFalsely : Prop := tlvBackRow.holds Try.pinned (OpenSpec.ofChange tlvBackWrong)

/-- 'sobriquetlaw01.TlvOnly': WHATEVER THE INPUT: true; the input reads as it did. -/
def tlvOnlySpec : ChangeSpec := { name := "tlvOnly", fn := fun _ => fun
  | [d] => { results := [.lit (.bool true)], args := [d] }
  | _ => none }
def tlvOnlyRow : OpenClaim := { program := "ytooemmioomaplaa", sum := "05baedf41e99ccf98fa8cd11dbcdfa6f129d8b9683fc42e0571ce20a8e746898", func := "sobriquet/sobriquetlaw01.TlvOnly", spec := "tlvOnly", apart := false }
def TlvOnlySaid : Prop := tlvOnlyRow.holds Try.pinned (OpenSpec.ofChange tlvOnlySpec)

/-- ITS FALSE NEIGHBOUR: 'it returns false'. Refute it at one input. -/
def tlvOnlyWrong : ChangeSpec := { name := "tlvOnly", fn := fun _ => fun
  | [d] => { results := [.lit (.bool false)], args := [d] }
  | _ => none }
def TlvOnlyWrongFalsely : Prop := tlvOnlyRow.holds Try.pinned (OpenSpec.ofChange tlvOnlyWrong)

/-- 'sobriquetlaw01.TlvLong': WHATEVER THE INPUT: true; the input reads as it did. -/
def tlvLongSpec : ChangeSpec := { name := "tlvLong", fn := fun _ => fun
  | [d1, d2, d3] => { results := [.lit (.bool true)], args := [d1, d2, d3] }
  | _ => none }
def tlvLongRow : OpenClaim := { program := "ytooemmioomaplaa", sum := "05baedf41e99ccf98fa8cd11dbcdfa6f129d8b9683fc42e0571ce20a8e746898", func := "sobriquet/sobriquetlaw01.TlvLong", spec := "tlvLong", apart := false }
def TlvLongSaid : Prop := tlvLongRow.holds Try.pinned (OpenSpec.ofChange tlvLongSpec)

/-- ITS FALSE NEIGHBOUR: 'it returns false'. Refute it at one input. -/
def tlvLongWrong : ChangeSpec := { name := "tlvLong", fn := fun _ => fun
  | [d1, d2, d3] => { results := [.lit (.bool false)], args := [d1, d2, d3] }
  | _ => none }
def TlvLongWrongFalsely : Prop := tlvLongRow.holds Try.pinned (OpenSpec.ofChange tlvLongWrong)

/-- 'sobriquetlaw01.TlvExact': WHATEVER THE INPUT: true; the input reads as it did. -/
def tlvExactSpec : ChangeSpec := { name := "tlvExact", fn := fun _ => fun
  | [d1, d2] => { results := [.lit (.bool true)], args := [d1, d2] }
  | _ => none }
def tlvExactRow : OpenClaim := { program := "ytooemmioomaplaa", sum := "05baedf41e99ccf98fa8cd11dbcdfa6f129d8b9683fc42e0571ce20a8e746898", func := "sobriquet/sobriquetlaw01.TlvExact", spec := "tlvExact", apart := false }
def TlvExactSaid : Prop := tlvExactRow.holds Try.pinned (OpenSpec.ofChange tlvExactSpec)

/-- ITS FALSE NEIGHBOUR: 'it returns false'. Refute it at one input. -/
def tlvExactWrong : ChangeSpec := { name := "tlvExact", fn := fun _ => fun
  | [d1, d2] => { results := [.lit (.bool false)], args := [d1, d2] }
  | _ => none }
def TlvExactWrongFalsely : Prop := tlvExactRow.holds Try.pinned (OpenSpec.ofChange tlvExactWrong)

/-- 'sobriquetlaw01.TlvWraps': WHATEVER THE INPUT: true; the input reads as it did. -/
def tlvWrapsSpec : ChangeSpec := { name := "tlvWraps", fn := fun _ => fun
  | [d1, d2, d3] => { results := [.lit (.bool true)], args := [d1, d2, d3] }
  | _ => none }
def tlvWrapsRow : OpenClaim := { program := "ytooemmioomaplaa", sum := "05baedf41e99ccf98fa8cd11dbcdfa6f129d8b9683fc42e0571ce20a8e746898", func := "sobriquet/sobriquetlaw01.TlvWraps", spec := "tlvWraps", apart := false }
def TlvWrapsSaid : Prop := tlvWrapsRow.holds Try.pinned (OpenSpec.ofChange tlvWrapsSpec)

/-- ITS FALSE NEIGHBOUR: 'it returns false'. Refute it at one input. -/
def tlvWrapsWrong : ChangeSpec := { name := "tlvWraps", fn := fun _ => fun
  | [d1, d2, d3] => { results := [.lit (.bool false)], args := [d1, d2, d3] }
  | _ => none }
def TlvWrapsWrongFalsely : Prop := tlvWrapsRow.holds Try.pinned (OpenSpec.ofChange tlvWrapsWrong)

/- THE SECOND FORM. 'bulk': how many values and letters a reading holds, each counted each time it is reached (what is shared counts as often as it is met; a slice's spare places count too). A statement '..UptoSaid' is the law's where the arguments, and the package variables that the reading takes, are together of bulk at most 1048576: NARROWER than '..Said'. Prove '..Said' where nothing that the law and all that it calls make is longer than what came in: it says more and counts as full. Else prove '..UptoSaid'. A law counts once. -/
mutual
def uptoBulk {H : Type} : DataW H → Nat
  | .lit (.string bytes) => bytes.length + 1
  | .lit _ => 1
  | .nil => 1
  | .ptr d => uptoBulk d + 1
  | .slice elems spare => uptoBulkAll elems + uptoBulkAll spare + 1
  | .agg parts => uptoBulkAll parts + 1
  | .iface _ d => uptoBulk d + 1
  | .map entries => uptoBulkEntries entries + 1
  | .held _ => 1
def uptoBulkAll {H : Type} : List (DataW H) → Nat
  | [] => 0
  | d :: r => uptoBulk d + uptoBulkAll r
def uptoBulkEntries {H : Type} : List (Lit × DataW H) → Nat
  | [] => 0
  | x :: r => uptoBulkEntry x + uptoBulkEntries r
def uptoBulkEntry {H : Type} : Lit × DataW H → Nat
  | (.string bytes, d) => bytes.length + uptoBulk d + 1
  | (_, d) => uptoBulk d + 1
 end
def uptoSmall : (H : Type) → List (DataW H) → Bool := fun _ ds => decide (uptoBulkAll ds ≤ 1048576)
def OpenSpec.upto (s : _root_.Go.ChangeSpec) : _root_.Go.OpenSpec := { _root_.Go.OpenSpec.ofChange s with cond := some uptoSmall }

/-- 'sobriquetlaw01.TlvBack', WHERE WHAT IT READS IS OF BULK AT MOST 1048576: true; the input reads as it did. -/
def tlvBackUptoRow : OpenClaim := { program := "ytooemmioomaplaa", sum := "05baedf41e99ccf98fa8cd11dbcdfa6f129d8b9683fc42e0571ce20a8e746898", func := "sobriquet/sobriquetlaw01.TlvBack", spec := "tlvBack", apart := false, narrowed := true }
def TlvBackUptoSaid : Prop := tlvBackUptoRow.holds Try.pinned (OpenSpec.upto tlvBackSpec)

/-- 'sobriquetlaw01.TlvOnly', WHERE WHAT IT READS IS OF BULK AT MOST 1048576: true; the input reads as it did. -/
def tlvOnlyUptoRow : OpenClaim := { program := "ytooemmioomaplaa", sum := "05baedf41e99ccf98fa8cd11dbcdfa6f129d8b9683fc42e0571ce20a8e746898", func := "sobriquet/sobriquetlaw01.TlvOnly", spec := "tlvOnly", apart := false, narrowed := true }
def TlvOnlyUptoSaid : Prop := tlvOnlyUptoRow.holds Try.pinned (OpenSpec.upto tlvOnlySpec)

/-- 'sobriquetlaw01.TlvLong', WHERE WHAT IT READS IS OF BULK AT MOST 1048576: true; the input reads as it did. -/
def tlvLongUptoRow : OpenClaim := { program := "ytooemmioomaplaa", sum := "05baedf41e99ccf98fa8cd11dbcdfa6f129d8b9683fc42e0571ce20a8e746898", func := "sobriquet/sobriquetlaw01.TlvLong", spec := "tlvLong", apart := false, narrowed := true }
def TlvLongUptoSaid : Prop := tlvLongUptoRow.holds Try.pinned (OpenSpec.upto tlvLongSpec)

/-- 'sobriquetlaw01.TlvExact', WHERE WHAT IT READS IS OF BULK AT MOST 1048576: true; the input reads as it did. -/
def tlvExactUptoRow : OpenClaim := { program := "ytooemmioomaplaa", sum := "05baedf41e99ccf98fa8cd11dbcdfa6f129d8b9683fc42e0571ce20a8e746898", func := "sobriquet/sobriquetlaw01.TlvExact", spec := "tlvExact", apart := false, narrowed := true }
def TlvExactUptoSaid : Prop := tlvExactUptoRow.holds Try.pinned (OpenSpec.upto tlvExactSpec)

/-- 'sobriquetlaw01.TlvWraps', WHERE WHAT IT READS IS OF BULK AT MOST 1048576: true; the input reads as it did. -/
def tlvWrapsUptoRow : OpenClaim := { program := "ytooemmioomaplaa", sum := "05baedf41e99ccf98fa8cd11dbcdfa6f129d8b9683fc42e0571ce20a8e746898", func := "sobriquet/sobriquetlaw01.TlvWraps", spec := "tlvWraps", apart := false, narrowed := true }
def TlvWrapsUptoSaid : Prop := tlvWrapsUptoRow.holds Try.pinned (OpenSpec.upto tlvWrapsSpec)

end Rows
end Go.Proofs.Ytooemmioomaplaa
