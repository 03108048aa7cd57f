/- The statement ShiftSets: characters of each set, designated as each of G0 to G3 and invoked on the left, on the right or by a single shift, are read as such. No conditions. -/
import Derived.Test.YtbgmblpgdaociaaMShiftSetsx3
namespace Go.Proofs.Ytbgmblpgdaociaa.Pure
open Go.RowKit Go.Proofs.Ytbgmblpgdaociaa.MShiftSets Go.Proofs.YtbgmblpgdaociaaW.PrintWords Go.Proofs.YtbgmblpgdaociaaW.PrintLast
set_option linter.unusedVariables false
set_option linter.unusedSimpArgs false
set_option maxHeartbeats 1000000

theorem w64 {x : Int} (h0 : -9223372036854775808 ≤ x) (h1 : x ≤ 9223372036854775807) : wrap64 x = x := by unfold wrap64; omega
theorem w64_nat {i n : Nat} (h : i < n) (hn : n ≤ 4611686018427387904) : wrap64 ((i : Int) + 1) = ((i + 1 : Nat) : Int) := by unfold wrap64; omega
theorem rd_nat (xs : List Int) (i : Nat) (h : i < xs.length) : rd xs (i : Int) = xs[i] := by simp [rd, List.getD_eq_getElem?_getD, List.getElem?_eq_getElem h]
theorem wf64 {a : Int} (h : (Lit.int .i64 a).wf = true) : -9223372036854775808 ≤ a ∧ a ≤ 9223372036854775807 := by
  simpa [Lit.wf, show IntKind.i64.min = -9223372036854775808 from rfl] using h
theorem tdiv_nn {a : Int} (h : 0 ≤ a) (b : Int) : Int.tdiv a b = a / b := Int.tdiv_eq_ediv_of_nonneg h
theorem tmod_nn {a : Int} (h : 0 ≤ a) (b : Int) : Int.tmod a b = a % b := Int.tmod_eq_emod_of_nonneg h
theorem dec_iff (p q : Prop) [Decidable p] [Decidable q] (h : p ↔ q) : decide p = decide q := by simp [h]
theorem dec_t (p : Prop) [Decidable p] (h : p) : decide p = true := by simp [h]
theorem dec_f (p : Prop) [Decidable p] (h : ¬ p) : decide p = false := by simp [h]
theorem tmod_bd (a c : Int) (hc : 0 < c) : -c < Int.tmod a c ∧ Int.tmod a c < c := by
  have h1 := Int.emod_nonneg a (b := c) (by omega)
  have h2 := Int.emod_lt_of_pos a hc
  have h3 : ((c.natAbs : Nat) : Int) = c := by omega
  have h4 := Int.tmod_lt_of_pos a hc
  refine ⟨?_, h4⟩
  rw [Int.tmod_eq_emod]
  split
  · omega
  · rename_i h
    have : a % c ≠ 0 := fun e => h (.inr (Int.dvd_of_emod_eq_zero e))
    omega
theorem w64l (x y : Int) (h : x = y ∧ -9223372036854775808 ≤ y ∧ y ≤ 9223372036854775807) : wrap64 x = y := by rw [h.1]; exact w64 h.2.1 h.2.2

def sets7 : List Int := [102, 6, 126, 144, 138, 87] ++ [103]
def setsBody (k : Nat) (x0 x1 x2 : Int) (a3 : Bool) : Option Bool :=
  (shift_Escape.f k x1 (rd sets7 x0)).bind fun bt147 => (if bt147.2 = 0 then ((some (([x2 % 256] : List Int) : List Int)).bind fun y151 => ((csets_Wide.f (rd sets7 x0)).bind fun t155 => (if t155 = true then (if y151.length < 140737488355328 then (sobriquetlaw17_ShiftSets.j0 k x1 a3 bt147.1 (y151 ++ [x2 % 256]) (rd sets7 x0) (wrap64 (257 * x2))) else (none)) else (sobriquetlaw17_ShiftSets.j0 k x1 a3 bt147.1 y151 (rd sets7 x0) x2)))) else (some false))
theorem sets_all : ∀ x0 ∈ List.range 7, ∀ x1 ∈ List.range 4, ∀ x2 ∈ List.range 94, ∀ a3 : Bool, setsBody 12 (x0 : Int) (x1 : Int) (((33 + x2 : Nat)) : Int) a3 = some true := by decide +kernel
theorem u64_mod (a m : Int) (hm : 0 < m) (hb : m ≤ 1000) : ∃ n : Nat, wrap64 (Int.tmod (IntKind.u64.wrap a) m) = (n : Int) ∧ (n : Int) < m := by
  have h0 : 0 ≤ IntKind.u64.wrap a := by rw [IntKind.wrap_u64]; omega
  rw [tmod_nn h0]
  have h1 := Int.emod_nonneg (IntKind.u64.wrap a) (b := m) (by omega)
  have h2 := Int.emod_lt_of_pos (IntKind.u64.wrap a) hm
  rw [w64 (by omega) (by omega)]
  exact ⟨(IntKind.u64.wrap a % m).toNat, by omega, by omega⟩
theorem ShiftSets : sobriquetlaw17_ShiftSets.Pure := by
  intro a0 a1 a2 a3 _ _ _
  refine ⟨12, ?_⟩
  obtain ⟨n0, h0, b0⟩ := u64_mod a0 7 (by omega) (by omega)
  obtain ⟨n1, h1, b1⟩ := u64_mod a1 4 (by omega) (by omega)
  obtain ⟨n2, h2, b2⟩ := u64_mod a2 94 (by omega) (by omega)
  have h7 : IntKind.u64.wrap ((([102, 6, 126, 144, 138, 87] ++ [103] : List Int).length : Int)) = 7 := by decide
  have hx2 : wrap64 (33 + (n2 : Int)) = ((33 + n2 : Nat) : Int) := by rw [w64 (by omega) (by omega)]; omega
  have key := sets_all n0 (by simp; omega) n1 (by simp; omega) n2 (by simp; omega) a3
  unfold sobriquetlaw17_ShiftSets.f api_Sets.f
  rw [Option.bind_some, if_pos (by decide), Option.bind_some]
  rw [h7, if_neg (by decide), h0, h1, h2, hx2, if_pos (by omega), if_pos (by show (n0 : Int) < 7; exact b0)]
  exact key

end Go.Proofs.Ytbgmblpgdaociaa.Pure
