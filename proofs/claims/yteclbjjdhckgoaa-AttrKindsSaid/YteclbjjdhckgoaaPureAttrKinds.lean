/- The pure side of AttrKinds: each attribute type has one of the three rules, at least one kind, no kind twice, and a name of capital letters and digits. No condition. -/
import Derived.Test.YteclbjjdhckgoaaMAttrKindsx3
namespace Go.Proofs.Yteclbjjdhckgoaa.Pure
open Go.RowKit Go.Proofs.Yteclbjjdhckgoaa.MAttrKinds Go.Proofs.YteclbjjdhckgoaaW.PrintWords Go.Proofs.YteclbjjdhckgoaaW.PrintLast
set_option linter.unusedVariables false
set_option linter.unusedSimpArgs false
set_option maxHeartbeats 1000000

theorem w64 {x : Int} (h0 : -9223372036854775808 ≤ x) (h1 : x ≤ 9223372036854775807) : wrap64 x = x := by unfold wrap64; omega
theorem w64_nat {i n : Nat} (h : i < n) (hn : n ≤ 4611686018427387904) : wrap64 ((i : Int) + 1) = ((i + 1 : Nat) : Int) := by unfold wrap64; omega
theorem rd_nat (xs : List Int) (i : Nat) (h : i < xs.length) : rd xs (i : Int) = xs[i] := by simp [rd, List.getD_eq_getElem?_getD, List.getElem?_eq_getElem h]
theorem wf64 {a : Int} (h : (Lit.int .i64 a).wf = true) : -9223372036854775808 ≤ a ∧ a ≤ 9223372036854775807 := by
  simpa [Lit.wf, show IntKind.i64.min = -9223372036854775808 from rfl] using h
theorem tdiv_nn {a : Int} (h : 0 ≤ a) (b : Int) : Int.tdiv a b = a / b := Int.tdiv_eq_ediv_of_nonneg h
theorem tmod_nn {a : Int} (h : 0 ≤ a) (b : Int) : Int.tmod a b = a % b := Int.tmod_eq_emod_of_nonneg h
theorem dec_iff (p q : Prop) [Decidable p] [Decidable q] (h : p ↔ q) : decide p = decide q := by simp [h]
theorem dec_t (p : Prop) [Decidable p] (h : p) : decide p = true := by simp [h]
theorem dec_f (p : Prop) [Decidable p] (h : ¬ p) : decide p = false := by simp [h]
theorem tmod_bd (a c : Int) (hc : 0 < c) : -c < Int.tmod a c ∧ Int.tmod a c < c := by
  have h1 := Int.emod_nonneg a (b := c) (by omega)
  have h2 := Int.emod_lt_of_pos a hc
  have h3 : ((c.natAbs : Nat) : Int) = c := by omega
  have h4 := Int.tmod_lt_of_pos a hc
  refine ⟨?_, h4⟩
  rw [Int.tmod_eq_emod]
  split
  · omega
  · rename_i h
    have : a % c ≠ 0 := fun e => h (.inr (Int.dvd_of_emod_eq_zero e))
    omega
theorem w64l (x y : Int) (h : x = y ∧ -9223372036854775808 ≤ y ∧ y ≤ 9223372036854775807) : wrap64 x = y := by rw [h.1]; exact w64 h.2.1 h.2.2

theorem u64_nn (x : Int) : 0 ≤ IntKind.u64.wrap x ∧ IntKind.u64.wrap x < 18446744073709551616 := by
  have e : IntKind.u64.wrap x = x % 18446744073709551616 := by simp [IntKind.wrap, show IntKind.u64.signed = false from rfl, show IntKind.u64.bits = 64 from rfl]
  rw [e]; omega
theorem u64_in (x : Int) (h : 0 ≤ x ∧ x < 18446744073709551616) : IntKind.u64.wrap x = x := by
  have e : IntKind.u64.wrap x = x % 18446744073709551616 := by simp [IntKind.wrap, show IntKind.u64.signed = false from rfl, show IntKind.u64.bits = 64 from rfl]
  rw [e]; omega
theorem umod (x c : Int) (hc : 0 < c) (hc2 : c ≤ 100000000) : ∃ n, wrap64 (Int.tmod (IntKind.u64.wrap x) c) = n ∧ 0 ≤ n ∧ n < c := by
  have h := u64_nn x
  have h1 := Int.emod_nonneg (IntKind.u64.wrap x) (b := c) (by omega)
  have h2 := Int.emod_lt_of_pos (IntKind.u64.wrap x) hc
  refine ⟨_, rfl, ?_, ?_⟩ <;> rw [tmod_nn h.1, w64 (by omega) (by omega)]
  · exact h1
  · exact h2

def attrsL : List S27 := (api_Attrs.f).getD []
theorem attrs_f : api_Attrs.f = some attrsL := by unfold attrsL; rfl
theorem dep (k : Nat) (a a' : Int) (h : Int.tmod (IntKind.u64.wrap a) (IntKind.u64.wrap 13) = Int.tmod (IntKind.u64.wrap a') (IntKind.u64.wrap 13)) : sobriquetlaw22_AttrKinds.f k a = sobriquetlaw22_AttrKinds.f k a' := by
  unfold sobriquetlaw22_AttrKinds.f
  rw [attrs_f]
  simp only [Option.bind_some, show ((attrsL.length : Nat) : Int) = 13 from rfl]
  rw [h]
theorem all_ok : ∀ i : Fin 13, sobriquetlaw22_AttrKinds.f 100 ((i.val : Nat) : Int) = some true := by decide +kernel

theorem AttrKinds : sobriquetlaw22_AttrKinds.Pure := by
  intro a _
  refine ⟨100, ?_⟩
  have ha := u64_nn a
  have e13 : IntKind.u64.wrap 13 = 13 := u64_in 13 (by omega)
  have p1 := Int.emod_nonneg (IntKind.u64.wrap a) (b := 13) (by omega)
  have p2 := Int.emod_lt_of_pos (IntKind.u64.wrap a) (b := 13) (by omega)
  rw [dep 100 a (IntKind.u64.wrap a % 13)]
  · have := all_ok ⟨(IntKind.u64.wrap a % 13).toNat, by omega⟩
    simp only [Int.toNat_of_nonneg p1] at this
    exact this
  · rw [e13, tmod_nn ha.1, u64_in (IntKind.u64.wrap a % 13) (by omega), tmod_nn p1]; omega

end Go.Proofs.Yteclbjjdhckgoaa.Pure
