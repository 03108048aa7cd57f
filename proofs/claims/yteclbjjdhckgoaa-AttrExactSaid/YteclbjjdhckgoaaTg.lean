/- What the table of attributes answers, in plain Lean. -/
import Derived.Test.YteclbjjdhckgoaaLAttrExactx1
import Derived.Test.YteclbjjdhckgoaaTa
namespace Go.Proofs.Yteclbjjdhckgoaa.Tb
open Go.Proofs.Yteclbjjdhckgoaa.LAttrExact
set_option linter.unusedVariables false
def attrsL : List S27 := ([(⟨(([2, 5, 4, 3] : List Int)), (⟨#[67, 78]⟩ : ByteArray), 1, ([19, 12, 20, 30, 28] : List Int)⟩ : S27), (⟨(([2, 5, 4, 4] : List Int)), (⟨#[83, 78]⟩ : ByteArray), 1, ([19, 12, 20, 30, 28] : List Int)⟩ : S27), (⟨(([2, 5, 4, 5] : List Int)), (⟨#[83, 69, 82, 73, 65, 76, 78, 85, 77, 66, 69, 82]⟩ : ByteArray), 1, (([19] : List Int))⟩ : S27), (⟨(([2, 5, 4, 6] : List Int)), (⟨#[67]⟩ : ByteArray), 1, (([19] : List Int))⟩ : S27), (⟨(([2, 5, 4, 7] : List Int)), (⟨#[76]⟩ : ByteArray), 1, ([19, 12, 20, 30, 28] : List Int)⟩ : S27), (⟨(([2, 5, 4, 8] : List Int)), (⟨#[83, 84]⟩ : ByteArray), 1, ([19, 12, 20, 30, 28] : List Int)⟩ : S27), (⟨(([2, 5, 4, 9] : List Int)), (⟨#[83, 84, 82, 69, 69, 84]⟩ : ByteArray), 1, ([19, 12, 20, 30, 28] : List Int)⟩ : S27), (⟨(([2, 5, 4, 10] : List Int)), (⟨#[79]⟩ : ByteArray), 1, ([19, 12, 20, 30, 28] : List Int)⟩ : S27), (⟨(([2, 5, 4, 11] : List Int)), (⟨#[79, 85]⟩ : ByteArray), 1, ([19, 12, 20, 30, 28] : List Int)⟩ : S27), (⟨(([2, 5, 4, 24] : List Int)), (⟨#[88, 49, 50, 49]⟩ : ByteArray), 3, (([18] : List Int))⟩ : S27), (⟨(([0, 9, 2342, 19200300, 100, 1, 1] : List Int)), (⟨#[85, 73, 68]⟩ : ByteArray), 1, ([19, 12, 20, 30, 28] : List Int)⟩ : S27), (⟨(([0, 9, 2342, 19200300, 100, 1, 25] : List Int)), (⟨#[68, 67]⟩ : ByteArray), 2, (([22] : List Int))⟩ : S27), (⟨(([1, 2, 840, 113549, 1, 9, 1] : List Int)), (⟨#[69]⟩ : ByteArray), 2, (([22] : List Int))⟩ : S27)] : List (S27))
theorem attrs_f : api_Attrs.f = some attrsL := rfl
def eFindO (l : List Int) : Option S27 := attrsL.find? (fun x => decide (x.f0 = l))
def eFind (l : List Int) : Bool := (eFindO l).isSome
def eRule (l : List Int) : Int := match eFindO l with | some x => x.f2 | none => 1
def eKinds (l : List Int) : List Int := match eFindO l with | some x => x.f3 | none => [12]
def largeE (c : UInt8) : Int := if 97 ≤ c.toNat ∧ c.toNat ≤ 122 then (c.toNat : Int) - 32 else (c.toNat : Int)
def alikeE (a b : ByteArray) : Bool := decide (a.data.toList.map largeE = b.data.toList.map largeE)
def eNameO (s : ByteArray) : Option S27 := attrsL.find? (fun x => alikeE x.f1 s)
def eName (s : ByteArray) : Bool := (eNameO s).isSome
end Go.Proofs.Yteclbjjdhckgoaa.Tb
