/- The pure side of HangulExact: hangul's Split and Join answer as the reference's at any two int64 numbers. No condition. -/
import Derived.Test.YtdkkohiikndneaaPHangulExactx1
namespace Go.Proofs.Ytdkkohiikndneaa.Pure
open Go.RowKit Go.Proofs.Ytdkkohiikndneaa.PHangulExact Go.Proofs.YtdkkohiikndneaaW.PrintWords Go.Proofs.YtdkkohiikndneaaW.PrintLast
set_option linter.unusedVariables false
set_option linter.unusedSimpArgs false

theorem w64 {x : Int} (h0 : -9223372036854775808 ≤ x) (h1 : x ≤ 9223372036854775807) : wrap64 x = x := by unfold wrap64; omega
theorem w64_nat {i n : Nat} (h : i < n) (hn : n ≤ 4611686018427387904) : wrap64 ((i : Int) + 1) = ((i + 1 : Nat) : Int) := by unfold wrap64; omega
theorem rd_nat (xs : List Int) (i : Nat) (h : i < xs.length) : rd xs (i : Int) = xs[i] := by simp [rd, List.getD_eq_getElem?_getD, List.getElem?_eq_getElem h]
theorem wf64 {a : Int} (h : (Lit.int .i64 a).wf = true) : -9223372036854775808 ≤ a ∧ a ≤ 9223372036854775807 := by
  simpa [Lit.wf, show IntKind.i64.min = -9223372036854775808 from rfl] using h
theorem tdiv_nn {a : Int} (h : 0 ≤ a) (b : Int) : Int.tdiv a b = a / b := Int.tdiv_eq_ediv_of_nonneg h
theorem tmod_nn {a : Int} (h : 0 ≤ a) (b : Int) : Int.tmod a b = a % b := Int.tmod_eq_emod_of_nonneg h
theorem dec_iff (p q : Prop) [Decidable p] [Decidable q] (h : p ↔ q) : decide p = decide q := by simp [h]
theorem dec_t (p : Prop) [Decidable p] (h : p) : decide p = true := by simp [h]
theorem dec_f (p : Prop) [Decidable p] (h : ¬ p) : decide p = false := by simp [h]

theorem Ints_l0 (a b : List Int) (hl : a.length = b.length) (hm : a.length ≤ 4611686018427387904) : ∀ (d k i : Nat), i + d = a.length → d < k → sobriquetkeep_Ints.l0 k a b (i : Int) = some (decide (a.drop i = b.drop i)) := by
  intro d
  induction d with
  | zero =>
    intro k i hi hk
    obtain ⟨k, rfl⟩ : ∃ m, k = m + 1 := ⟨k - 1, by omega⟩
    simp only [sobriquetkeep_Ints.l0]
    rw [if_neg (by omega), List.drop_eq_nil_of_le (by omega), List.drop_eq_nil_of_le (by omega)]
    simp
  | succ d ih =>
    intro k i hi hk
    obtain ⟨k, rfl⟩ : ∃ m, k = m + 1 := ⟨k - 1, by omega⟩
    have ha : i < a.length := by omega
    have hb : i < b.length := by omega
    simp only [sobriquetkeep_Ints.l0]
    rw [if_pos (by omega), if_pos (by omega), if_pos (by omega), rd_nat a i ha, rd_nat b i hb, w64_nat ha hm, ih k (i + 1) (by omega) (by omega), List.drop_eq_getElem_cons ha, List.drop_eq_getElem_cons hb]
    by_cases h : a[i] = b[i]
    · simp only [h, if_true, List.cons.injEq, true_and]
    · simp only [h, if_false, List.cons.injEq, false_and, decide_false]
theorem Ints_f (a b : List Int) (k : Nat) (hm : a.length ≤ 4611686018427387904) (hk : a.length < k) : sobriquetkeep_Ints.f k a b = some (decide (a = b)) := by
  unfold sobriquetkeep_Ints.f
  by_cases hl : a.length = b.length
  · rw [if_pos (by omega)]
    have := Ints_l0 a b hl hm a.length k 0 (by omega) hk
    simpa using this
  · rw [if_neg (by omega)]
    have : a ≠ b := fun h => hl (by rw [h])
    simp [this]

theorem in1 (a b c : Int) (h0 : -4611686018427387904 ≤ b + c) (h1 : b + c ≤ 4611686018427387904) : hangul_in.f a b c = some (decide (b ≤ a ∧ a < b + c)) := by
  unfold hangul_in.f
  rw [w64 (by omega) (by omega)]
  by_cases h : a ≥ b
  · rw [if_pos h]; simp [show b ≤ a from h]
  · rw [if_neg h]; simp; omega
theorem in2 (a b c : Int) : sobriquetref05_in.f a b c = some (decide (b ≤ a ∧ a ≤ c)) := by
  unfold sobriquetref05_in.f
  by_cases h : a ≥ b
  · rw [if_pos h]; simp [show b ≤ a from h]
  · rw [if_neg h]; simp; omega
theorem join_same (k : Nat) (hk : 1 ≤ k) (a b : Int) : ∃ r, hangul_Join.f k a b = some r ∧ sobriquetref05_Join.f k a b = some r := by
  obtain ⟨k, rfl⟩ : ∃ m, k = m + 1 := ⟨k - 1, by omega⟩
  unfold hangul_Join.f sobriquetref05_Join.f
  simp only [hangul_Join.j0, sobriquetref05_Join.j0]
  rw [in1 _ _ _ (by omega) (by omega), in1 _ _ _ (by omega) (by omega), in1 _ _ _ (by omega) (by omega), in1 _ _ _ (by omega) (by omega), in2, in2, in2, in2]
  rw [dec_iff (4352 ≤ a ∧ a < 4352 + 19) (4352 ≤ a ∧ a ≤ 4370) (by omega), dec_iff (4449 ≤ b ∧ b < 4449 + 21) (4449 ≤ b ∧ b ≤ 4469) (by omega), dec_iff (44032 ≤ a ∧ a < 44032 + 11172) (44032 ≤ a ∧ a ≤ 55203) (by omega), dec_iff (4520 ≤ b ∧ b < 4520 + 27) (4520 ≤ b ∧ b ≤ 4546) (by omega)]
  simp only [Option.bind_some]
  repeat' split
  all_goals exact ⟨_, rfl, rfl⟩
theorem split_same (a : Int) (hw : -9223372036854775808 ≤ a ∧ a ≤ 9223372036854775807) : ∃ r, hangul_Split.f a = some r ∧ sobriquetref05_Split.f a = some r ∧ r.length ≤ 3 := by
  unfold hangul_Split.f sobriquetref05_Split.f
  rw [in1 _ _ _ (by omega) (by omega), in2]
  by_cases h : 44032 ≤ a ∧ a < 44032 + 11172
  · have e : wrap64 (a - 44032) = a - 44032 := w64 (by omega) (by omega)
    rw [e, dec_t _ h, dec_t (0 ≤ a - 44032 ∧ a - 44032 ≤ 11171) (by omega)]
    generalize hn : a - 44032 = n
    have h0 : 0 ≤ n := by omega
    have h1 : n < 11172 := by omega
    simp only [Option.bind_some, if_true]
    rw [tdiv_nn h0, tdiv_nn h0, tmod_nn h0, tmod_nn h0, w64 (x := n / 28) (by omega) (by omega), tdiv_nn (a := n / 28) (by omega), tmod_nn (a := n / 28) (by omega), tdiv_nn (a := n % 588) (by omega),
      show n / 588 = n / 28 / 21 by omega, show n % 588 / 28 = n / 28 % 21 by omega, w64 (x := n / 28 % 21) (by omega) (by omega)]
    by_cases h5 : n % 28 > 0
    · rw [if_pos h5]
      exact ⟨_, rfl, rfl, by simp⟩
    · rw [if_neg h5]
      exact ⟨_, rfl, rfl, by simp⟩
  · rw [dec_f _ h, dec_f (0 ≤ wrap64 (a - 44032) ∧ wrap64 (a - 44032) ≤ 11171) (by unfold wrap64; omega)]
    exact ⟨[], rfl, rfl, by simp⟩
theorem wakes_ok (k : Nat) (hk : 9 ≤ k) : sobriquetlaw07_wakes.f k = some true := at_rounds sobriquetlaw07_wakes.mono hk (by decide +kernel)
theorem HangulExact : sobriquetlaw07_HangulExact.Pure := by
  intro a b ha hb
  obtain ⟨k, hk⟩ : ∃ k, 100 ≤ k := ⟨100, Nat.le_refl _⟩
  refine ⟨k, ?_⟩
  obtain ⟨r, h1, h2⟩ := join_same k (by omega) a b
  obtain ⟨s, h3, h4, h5⟩ := split_same a (wf64 ha)
  unfold sobriquetlaw07_HangulExact.f
  rw [h1, h2, h3, h4]
  simp only [Option.bind_some]
  rw [Ints_f s s k (by omega) (by omega), wakes_ok k (by omega)]
  simp

end Go.Proofs.Ytdkkohiikndneaa.Pure
