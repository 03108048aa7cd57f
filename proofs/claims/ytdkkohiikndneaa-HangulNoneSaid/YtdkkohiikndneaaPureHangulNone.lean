/- The pure side of HangulNone: numbers outside of the syllables split to nothing; other first numbers, a vowel ahead of a leading consonant, U+11A7 behind a syllable are joined to none. No condition. -/
import Derived.Test.YtdkkohiikndneaaPHangulNonex2
namespace Go.Proofs.Ytdkkohiikndneaa.Pure
open Go.RowKit Go.Proofs.Ytdkkohiikndneaa.PHangulNone Go.Proofs.YtdkkohiikndneaaW.PrintWords Go.Proofs.YtdkkohiikndneaaW.PrintLast
set_option linter.unusedVariables false
set_option linter.unusedSimpArgs false

theorem w64 {x : Int} (h0 : -9223372036854775808 ≤ x) (h1 : x ≤ 9223372036854775807) : wrap64 x = x := by unfold wrap64; omega
theorem w64_nat {i n : Nat} (h : i < n) (hn : n ≤ 4611686018427387904) : wrap64 ((i : Int) + 1) = ((i + 1 : Nat) : Int) := by unfold wrap64; omega
theorem rd_nat (xs : List Int) (i : Nat) (h : i < xs.length) : rd xs (i : Int) = xs[i] := by simp [rd, List.getD_eq_getElem?_getD, List.getElem?_eq_getElem h]
theorem wf64 {a : Int} (h : (Lit.int .i64 a).wf = true) : -9223372036854775808 ≤ a ∧ a ≤ 9223372036854775807 := by
  simpa [Lit.wf, show IntKind.i64.min = -9223372036854775808 from rfl] using h
theorem tdiv_nn {a : Int} (h : 0 ≤ a) (b : Int) : Int.tdiv a b = a / b := Int.tdiv_eq_ediv_of_nonneg h
theorem tmod_nn {a : Int} (h : 0 ≤ a) (b : Int) : Int.tmod a b = a % b := Int.tmod_eq_emod_of_nonneg h
theorem dec_iff (p q : Prop) [Decidable p] [Decidable q] (h : p ↔ q) : decide p = decide q := by simp [h]
theorem dec_t (p : Prop) [Decidable p] (h : p) : decide p = true := by simp [h]
theorem dec_f (p : Prop) [Decidable p] (h : ¬ p) : decide p = false := by simp [h]
theorem tmod_bd (a c : Int) (hc : 0 < c) : -c < Int.tmod a c ∧ Int.tmod a c < c := by
  have h1 := Int.emod_nonneg a (b := c) (by omega)
  have h2 := Int.emod_lt_of_pos a hc
  have h3 : ((c.natAbs : Nat) : Int) = c := by omega
  have h4 := Int.tmod_lt_of_pos a hc
  refine ⟨?_, h4⟩
  rw [Int.tmod_eq_emod]
  split
  · omega
  · rename_i h
    have : a % c ≠ 0 := fun e => h (.inr (Int.dvd_of_emod_eq_zero e))
    omega

theorem Ints_l0 (a b : List Int) (hl : a.length = b.length) (hm : a.length ≤ 4611686018427387904) : ∀ (d k i : Nat), i + d = a.length → d < k → sobriquetkeep_Ints.l0 k a b (i : Int) = some (decide (a.drop i = b.drop i)) := by
  intro d
  induction d with
  | zero =>
    intro k i hi hk
    obtain ⟨k, rfl⟩ : ∃ m, k = m + 1 := ⟨k - 1, by omega⟩
    simp only [sobriquetkeep_Ints.l0]
    rw [if_neg (by omega), List.drop_eq_nil_of_le (by omega), List.drop_eq_nil_of_le (by omega)]
    simp
  | succ d ih =>
    intro k i hi hk
    obtain ⟨k, rfl⟩ : ∃ m, k = m + 1 := ⟨k - 1, by omega⟩
    have ha : i < a.length := by omega
    have hb : i < b.length := by omega
    simp only [sobriquetkeep_Ints.l0]
    rw [if_pos (by omega), if_pos (by omega), if_pos (by omega), rd_nat a i ha, rd_nat b i hb, w64_nat ha hm, ih k (i + 1) (by omega) (by omega), List.drop_eq_getElem_cons ha, List.drop_eq_getElem_cons hb]
    by_cases h : a[i] = b[i]
    · simp only [h, if_true, List.cons.injEq, true_and]
    · simp only [h, if_false, List.cons.injEq, false_and, decide_false]
theorem Ints_f (a b : List Int) (k : Nat) (hm : a.length ≤ 4611686018427387904) (hk : a.length < k) : sobriquetkeep_Ints.f k a b = some (decide (a = b)) := by
  unfold sobriquetkeep_Ints.f
  by_cases hl : a.length = b.length
  · rw [if_pos (by omega)]
    have := Ints_l0 a b hl hm a.length k 0 (by omega) hk
    simpa using this
  · rw [if_neg (by omega)]
    have : a ≠ b := fun h => hl (by rw [h])
    simp [this]

theorem in1 (a b c : Int) (h0 : -4611686018427387904 ≤ b + c) (h1 : b + c ≤ 4611686018427387904) : hangul_in.f a b c = some (decide (b ≤ a ∧ a < b + c)) := by
  unfold hangul_in.f
  rw [w64 (by omega) (by omega)]
  by_cases h : a ≥ b
  · rw [if_pos h]; simp [show b ≤ a from h]
  · rw [if_neg h]; simp; omega
theorem join_lv (k : Nat) (hk : 1 ≤ k) (a b : Int) (ha : 4352 ≤ a ∧ a < 4352 + 19) (hb : 4449 ≤ b ∧ b < 4449 + 21) : hangul_Join.f k a b = some (44032 + ((a - 4352) * 21 + b - 4449) * 28, true) := by
  obtain ⟨k, rfl⟩ : ∃ m, k = m + 1 := ⟨k - 1, by omega⟩
  unfold hangul_Join.f
  rw [in1 _ _ _ (by omega) (by omega), in1 _ _ _ (by omega) (by omega), dec_t _ ha, dec_t _ hb]
  simp only [Option.bind_some, if_true, hangul_Join.j0]
  rw [w64 (x := a - 4352) (by omega) (by omega), w64 (x := (a - 4352) * 21) (by omega) (by omega), w64 (x := (a - 4352) * 21 + b) (by omega) (by omega), w64 (x := (a - 4352) * 21 + b - 4449) (by omega) (by omega), w64 (x := ((a - 4352) * 21 + b - 4449) * 28) (by omega) (by omega), w64 (by omega) (by omega)]
theorem join_syl (k : Nat) (hk : 1 ≤ k) (a b : Int) (ha : 44032 ≤ a ∧ a < 44032 + 11172) (h28 : (a - 44032) % 28 = 0) (hb : 4520 ≤ b ∧ b < 4520 + 27) : hangul_Join.f k a b = some (a + b - 4519, true) := by
  obtain ⟨k, rfl⟩ : ∃ m, k = m + 1 := ⟨k - 1, by omega⟩
  unfold hangul_Join.f
  rw [in1 _ _ _ (by omega) (by omega), dec_f _ (show ¬ (4352 ≤ a ∧ a < 4352 + 19) by omega)]
  simp only [Option.bind_some, if_false, hangul_Join.j0, Bool.false_eq_true]
  rw [in1 _ _ _ (by omega) (by omega), dec_t _ ha, in1 _ _ _ (by omega) (by omega), dec_t _ hb, w64 (x := a - 44032) (by omega) (by omega), tmod_nn (by omega), h28]
  simp only [Option.bind_some, if_true]
  rw [w64 (x := a + b) (by omega) (by omega), w64 (by omega) (by omega)]
theorem join_no (k : Nat) (hk : 1 ≤ k) (a b : Int) (ha : ¬ (4352 ≤ a ∧ a < 4352 + 19 ∧ 4449 ≤ b ∧ b < 4449 + 21)) (h28 : ¬ (44032 ≤ a ∧ a < 44032 + 11172 ∧ (a - 44032) % 28 = 0 ∧ 4520 ≤ b ∧ b < 4520 + 27)) : hangul_Join.f k a b = some (0, false) := by
  obtain ⟨k, rfl⟩ : ∃ m, k = m + 1 := ⟨k - 1, by omega⟩
  unfold hangul_Join.f
  rw [in1 _ _ _ (by omega) (by omega), in1 _ _ _ (by omega) (by omega)]
  have J : hangul_Join.j0 (k + 1) a b false = some (0, false) := by
    simp only [Option.bind_some, if_false, hangul_Join.j0, Bool.false_eq_true]
    rw [in1 _ _ _ (by omega) (by omega), in1 _ _ _ (by omega) (by omega)]
    by_cases h1 : 44032 ≤ a ∧ a < 44032 + 11172
    · rw [dec_t _ h1, w64 (x := a - 44032) (by omega) (by omega), tmod_nn (by omega)]
      simp only [Option.bind_some, if_true]
      by_cases h2 : (a - 44032) % 28 = 0
      · rw [if_pos h2, dec_f _ (show ¬ (4520 ≤ b ∧ b < 4520 + 27) by omega)]; simp
      · rw [if_neg h2]
    · rw [dec_f _ h1]; simp
  by_cases h1 : 4352 ≤ a ∧ a < 4352 + 19
  · rw [dec_t _ h1, dec_f _ (show ¬ (4449 ≤ b ∧ b < 4449 + 21) by omega)]
    simpa using J
  · rw [dec_f _ h1]
    simpa using J
theorem split_in (a : Int) (h : 44032 ≤ a ∧ a < 44032 + 11172) : hangul_Split.f a = some ([4352 + (a - 44032) / 588, 4449 + (a - 44032) / 28 % 21] ++ if (a - 44032) % 28 > 0 then [4519 + (a - 44032) % 28] else []) := by
  unfold hangul_Split.f
  rw [in1 _ _ _ (by omega) (by omega)]
  have e : wrap64 (a - 44032) = a - 44032 := w64 (by omega) (by omega)
  rw [e, dec_t _ h]
  generalize hn : a - 44032 = n
  have h0 : 0 ≤ n := by omega
  have h1 : n < 11172 := by omega
  simp only [Option.bind_some, if_true]
  rw [tdiv_nn h0, tmod_nn h0, w64 (x := n / 28) (by omega) (by omega), tdiv_nn (a := n / 28) (by omega), tmod_nn (a := n / 28) (by omega), show n / 28 / 21 = n / 588 by omega,
    w64 (x := n / 588) (by omega) (by omega), w64 (x := 4352 + n / 588) (by omega) (by omega), w64 (x := 4449 + n / 28 % 21) (by omega) (by omega), w64 (x := 4519 + n % 28) (by omega) (by omega)]
  by_cases h5 : n % 28 > 0
  · rw [if_pos h5, if_pos h5]; rfl
  · rw [if_neg h5, if_neg h5]; rfl
theorem split_out (a : Int) (h : ¬ (44032 ≤ a ∧ a < 44032 + 11172)) : hangul_Split.f a = some [] := by
  unfold hangul_Split.f
  rw [in1 _ _ _ (by omega) (by omega), dec_f _ h]
  rfl
theorem u64_nn (x : Int) : 0 ≤ IntKind.u64.wrap x ∧ IntKind.u64.wrap x < 18446744073709551616 := by
  have e : IntKind.u64.wrap x = x % 18446744073709551616 := by simp [IntKind.wrap, show IntKind.u64.signed = false from rfl, show IntKind.u64.bits = 64 from rfl]
  rw [e]; omega
theorem umod (x c : Int) (hc : 0 < c) (hc2 : c ≤ 1000000) : ∃ n, Int.tmod (IntKind.u64.wrap x) c = n ∧ wrap64 n = n ∧ 0 ≤ n ∧ n < c := by
  have h := u64_nn x
  have h1 := Int.emod_nonneg (IntKind.u64.wrap x) (b := c) (by omega)
  have h2 := Int.emod_lt_of_pos (IntKind.u64.wrap x) hc
  refine ⟨_, rfl, ?_, ?_, ?_⟩ <;> rw [tmod_nn h.1]
  · exact w64 (by omega) (by omega)
  · exact h1
  · exact h2
theorem wakes_ok (k : Nat) (hk : 9 ≤ k) : sobriquetlaw07_wakes.f k = some true := at_rounds sobriquetlaw07_wakes.mono hk (by decide +kernel)

theorem j3_ok (k : Nat) (hk : 20 ≤ k) (a b : Int) (h1 : ¬ (4352 ≤ a ∧ a < 4352 + 19)) (h2 : ¬ (44032 ≤ a ∧ a < 44032 + 11172)) : sobriquetlaw07_HangulNone.j3 k a b = some true := by
  obtain ⟨k, rfl⟩ : ∃ m, k = m + 1 := ⟨k - 1, by omega⟩
  simp only [sobriquetlaw07_HangulNone.j3]
  rw [join_no k (by omega) _ _ (by omega) (by omega), join_no k (by omega) _ _ (by omega) (by omega), join_no k (by omega) _ _ (by omega) (by omega), split_out _ h2, wakes_ok _ (by omega)]
  rfl
theorem j1_ok (k : Nat) (hk : 30 ≤ k) (a b : Int) (h0 : -196608 ≤ a ∧ a ≤ 196608) (h2 : ¬ (44032 ≤ a ∧ a < 44032 + 11172)) : sobriquetlaw07_HangulNone.j1 k a b = some true := by
  obtain ⟨k, rfl⟩ : ∃ m, k = m + 1 := ⟨k - 1, by omega⟩
  simp only [sobriquetlaw07_HangulNone.j1]
  obtain ⟨k, rfl⟩ : ∃ m, k = m + 1 := ⟨k - 1, by omega⟩
  simp only [sobriquetlaw07_HangulNone.j2]
  by_cases h : a ≥ 4352
  · rw [if_pos h]
    by_cases h3 : a ≤ 4370
    · rw [dec_t _ h3, if_pos rfl, w64 (by omega) (by omega)]
      exact j3_ok k (by omega) _ _ (by omega) (by omega)
    · rw [dec_f _ h3, if_neg (by decide)]
      exact j3_ok k (by omega) _ _ (by omega) (by omega)
  · rw [if_neg h, if_neg (by decide)]
    exact j3_ok k (by omega) _ _ (by omega) (by omega)

theorem HangulNone : sobriquetlaw07_HangulNone.Pure := by
  intro n b _ _
  obtain ⟨k, hk⟩ : ∃ k, 100 ≤ k := ⟨100, Nat.le_refl _⟩
  refine ⟨k, ?_⟩
  unfold sobriquetlaw07_HangulNone.f
  have hr : -196608 ≤ Int.tmod n 196608 ∧ Int.tmod n 196608 ≤ 196608 := by have := tmod_bd n 196608 (by omega); omega
  generalize Int.tmod n 196608 = a at hr
  generalize Int.tmod b 196608 = b
  obtain ⟨k, rfl⟩ : ∃ m, k = m + 1 := ⟨k - 1, by omega⟩
  simp only [sobriquetlaw07_HangulNone.j0]
  by_cases h : a ≥ 44032
  · rw [if_pos h]
    by_cases h3 : a < 55204
    · rw [dec_t _ h3, if_pos rfl, w64 (by omega) (by omega)]
      exact j1_ok k (by omega) _ _ (by omega) (by omega)
    · rw [dec_f _ h3, if_neg (by decide)]
      exact j1_ok k (by omega) _ _ (by omega) (by omega)
  · rw [if_neg h, if_neg (by decide)]
    exact j1_ok k (by omega) _ _ (by omega) (by omega)

end Go.Proofs.Ytdkkohiikndneaa.Pure
