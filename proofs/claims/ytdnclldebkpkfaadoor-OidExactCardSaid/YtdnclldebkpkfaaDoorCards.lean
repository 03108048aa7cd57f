/-
  DERIVED. GIVEN WITH THE SEED: THE CARDS: each row of YtdnclldebkpkfaaDoorRows.lean that lists a variable, with what it lists TIED to the program's text (the seventh form; the later family's looks); each row that meets fmt, with fmt's text TOLD by the authors' own Lean function (tested against real Go, not proved from fmt's source: count such statements apart). THE CARD IS WHAT COUNTS. Prove the row's statement (the work); the ties are given (YtdnclldebkpkfaaDoorTie.lean); close each card by the builder's one call (the guide's Derived/Test/ToyasCard.lean, 'card_holds'). Laid BY PROGRAM, IN A SANDBOX (cutbox-door.mjs). By AI agents, Wed Nov 11 2026. No macro, syntax, notation, axiom, sorry.
-/
import Derived.Test.YtdnclldebkpkfaaDoorRows
import GoSem.ClaimSeven
namespace Go.Proofs.YtdnclldebkpkfaaDoor
namespace Rows

/-- THE TIED CARD OF 'sobriquetlaw03.OidFirsts'. -/
def oidFirstsCard : Claim7 := { stood := { row := oidFirstsRow, standIns := [], harness := (true, "1c8b28e505f730176d0b7ddc2c47a6c9a74f5a792dc65fcfab00063212275bbb"), looks := true }, kinds := [], alts := [], laidByText := true, laidKinds := [.data, .data, .data, .data, .sentinel, .sentinel, .pinned], laidTests := true, laidLooks := .later }
def OidFirstsCardSaid : Prop := Claim7.holds Tryd.pinned (.plain (OpenSpec.ofChange oidFirstsSpec)) oidFirstsCard

/-- THE TIED CARD OF 'sobriquetlaw03.OidEdges'. -/
def oidEdgesCard : Claim7 := { stood := { row := oidEdgesRow, standIns := [], harness := (true, "1c8b28e505f730176d0b7ddc2c47a6c9a74f5a792dc65fcfab00063212275bbb"), looks := true }, kinds := [], alts := [], laidByText := true, laidKinds := [.data, .data, .data, .data, .sentinel, .sentinel, .pinned], laidTests := true, laidLooks := .later }
def OidEdgesCardSaid : Prop := Claim7.holds Tryd.pinned (.plain (OpenSpec.ofChange oidEdgesSpec)) oidEdgesCard

/-- THE TIED CARD OF 'sobriquetlaw03.OidExact'. -/
def oidExactCard : Claim7 := { stood := { row := oidExactRow, standIns := [], harness := (true, "1c8b28e505f730176d0b7ddc2c47a6c9a74f5a792dc65fcfab00063212275bbb"), looks := true }, kinds := [], alts := [], laidByText := true, laidKinds := [.data, .data, .data, .data, .sentinel, .sentinel, .pinned], laidTests := true, laidLooks := .later }
def OidExactCardSaid : Prop := Claim7.holds Tryd.pinned (.plain (OpenSpec.ofChange oidExactSpec)) oidExactCard

/-- THE TIED CARD OF 'sobriquetlaw03.OidBack'. -/
def oidBackCard : Claim7 := { stood := { row := oidBackRow, standIns := [], harness := (true, "1c8b28e505f730176d0b7ddc2c47a6c9a74f5a792dc65fcfab00063212275bbb"), looks := true }, kinds := [], alts := [], laidByText := true, laidKinds := [.data, .data, .data, .data, .sentinel, .sentinel, .pinned], laidTests := true, laidLooks := .later }
def OidBackCardSaid : Prop := Claim7.holds Tryd.pinned (.plain (OpenSpec.ofChange oidBackSpec)) oidBackCard

/-- THE SECOND FORM's CARD OF 'sobriquetlaw03.OidFirsts'. -/
def oidFirstsUptoCard : Claim7 := { stood := { row := oidFirstsUptoRow, standIns := [], harness := (true, "1c8b28e505f730176d0b7ddc2c47a6c9a74f5a792dc65fcfab00063212275bbb"), looks := true }, kinds := [], alts := [], laidByText := true, laidKinds := [.data, .data, .data, .data, .sentinel, .sentinel, .pinned], laidTests := true, laidLooks := .later }
def OidFirstsUptoCardSaid : Prop := Claim7.holds Tryd.pinned (.plain (OpenSpec.upto oidFirstsSpec)) oidFirstsUptoCard

/-- THE SECOND FORM's CARD OF 'sobriquetlaw03.OidEdges'. -/
def oidEdgesUptoCard : Claim7 := { stood := { row := oidEdgesUptoRow, standIns := [], harness := (true, "1c8b28e505f730176d0b7ddc2c47a6c9a74f5a792dc65fcfab00063212275bbb"), looks := true }, kinds := [], alts := [], laidByText := true, laidKinds := [.data, .data, .data, .data, .sentinel, .sentinel, .pinned], laidTests := true, laidLooks := .later }
def OidEdgesUptoCardSaid : Prop := Claim7.holds Tryd.pinned (.plain (OpenSpec.upto oidEdgesSpec)) oidEdgesUptoCard

/-- THE SECOND FORM's CARD OF 'sobriquetlaw03.OidExact'. -/
def oidExactUptoCard : Claim7 := { stood := { row := oidExactUptoRow, standIns := [], harness := (true, "1c8b28e505f730176d0b7ddc2c47a6c9a74f5a792dc65fcfab00063212275bbb"), looks := true }, kinds := [], alts := [], laidByText := true, laidKinds := [.data, .data, .data, .data, .sentinel, .sentinel, .pinned], laidTests := true, laidLooks := .later }
def OidExactUptoCardSaid : Prop := Claim7.holds Tryd.pinned (.plain (OpenSpec.upto oidExactSpec)) oidExactUptoCard

/-- THE SECOND FORM's CARD OF 'sobriquetlaw03.OidBack'. -/
def oidBackUptoCard : Claim7 := { stood := { row := oidBackUptoRow, standIns := [], harness := (true, "1c8b28e505f730176d0b7ddc2c47a6c9a74f5a792dc65fcfab00063212275bbb"), looks := true }, kinds := [], alts := [], laidByText := true, laidKinds := [.data, .data, .data, .data, .sentinel, .sentinel, .pinned], laidTests := true, laidLooks := .later }
def OidBackUptoCardSaid : Prop := Claim7.holds Tryd.pinned (.plain (OpenSpec.upto oidBackSpec)) oidBackUptoCard
end Rows
end Go.Proofs.YtdnclldebkpkfaaDoor
