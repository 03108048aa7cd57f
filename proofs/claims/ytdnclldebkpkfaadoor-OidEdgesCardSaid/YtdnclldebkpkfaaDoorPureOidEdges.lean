/- The statement OidEdges: identifiers with the greatest numbers are read; what is too great, has a leading zero, is incomplete or too long is refused. No conditions. -/
import Derived.Test.YtdnclldebkpkfaaDoorMOidEdgesx3
import Derived.Test.YtdnclldebkpkfaaDoorOq
namespace Go.Proofs.YtdnclldebkpkfaaDoor.Pure
open Go.RowKit Go.Proofs.YtdnclldebkpkfaaDoor.MOidEdges Go.Proofs.YtdnclldebkpkfaaDoorW.PrintWords Go.Proofs.YtdnclldebkpkfaaDoorW.PrintLast
set_option linter.unusedVariables false
set_option linter.unusedSimpArgs false
set_option maxHeartbeats 1000000

theorem w64 {x : Int} (h0 : -9223372036854775808 ≤ x) (h1 : x ≤ 9223372036854775807) : wrap64 x = x := by unfold wrap64; omega
theorem w64_nat {i n : Nat} (h : i < n) (hn : n ≤ 4611686018427387904) : wrap64 ((i : Int) + 1) = ((i + 1 : Nat) : Int) := by unfold wrap64; omega
theorem rd_nat (xs : List Int) (i : Nat) (h : i < xs.length) : rd xs (i : Int) = xs[i] := by simp [rd, List.getD_eq_getElem?_getD, List.getElem?_eq_getElem h]
theorem wf64 {a : Int} (h : (Lit.int .i64 a).wf = true) : -9223372036854775808 ≤ a ∧ a ≤ 9223372036854775807 := by
  simpa [Lit.wf, show IntKind.i64.min = -9223372036854775808 from rfl] using h
theorem tdiv_nn {a : Int} (h : 0 ≤ a) (b : Int) : Int.tdiv a b = a / b := Int.tdiv_eq_ediv_of_nonneg h
theorem tmod_nn {a : Int} (h : 0 ≤ a) (b : Int) : Int.tmod a b = a % b := Int.tmod_eq_emod_of_nonneg h
theorem dec_iff (p q : Prop) [Decidable p] [Decidable q] (h : p ↔ q) : decide p = decide q := by simp [h]
theorem dec_t (p : Prop) [Decidable p] (h : p) : decide p = true := by simp [h]
theorem dec_f (p : Prop) [Decidable p] (h : ¬ p) : decide p = false := by simp [h]
theorem tmod_bd (a c : Int) (hc : 0 < c) : -c < Int.tmod a c ∧ Int.tmod a c < c := by
  have h1 := Int.emod_nonneg a (b := c) (by omega)
  have h2 := Int.emod_lt_of_pos a hc
  have h3 : ((c.natAbs : Nat) : Int) = c := by omega
  have h4 := Int.tmod_lt_of_pos a hc
  refine ⟨?_, h4⟩
  rw [Int.tmod_eq_emod]
  split
  · omega
  · rename_i h
    have : a % c ≠ 0 := fun e => h (.inr (Int.dvd_of_emod_eq_zero e))
    omega
theorem w64l (x y : Int) (h : x = y ∧ -9223372036854775808 ≤ y ∧ y ≤ 9223372036854775807) : wrap64 x = y := by rw [h.1]; exact w64 h.2.1 h.2.2

theorem Ints_l0 (a b : List Int) (hl : a.length = b.length) (hm : a.length ≤ 4611686018427387904) : ∀ (d k i : Nat), i + d = a.length → d < k → sobriquetkeep_Ints.l0 k a b (i : Int) = some (decide (a.drop i = b.drop i)) := by
  intro d
  induction d with
  | zero =>
    intro k i hi hk
    obtain ⟨k, rfl⟩ : ∃ m, k = m + 1 := ⟨k - 1, by omega⟩
    simp only [sobriquetkeep_Ints.l0]
    rw [if_neg (by omega), List.drop_eq_nil_of_le (by omega), List.drop_eq_nil_of_le (by omega)]
    simp
  | succ d ih =>
    intro k i hi hk
    obtain ⟨k, rfl⟩ : ∃ m, k = m + 1 := ⟨k - 1, by omega⟩
    have ha : i < a.length := by omega
    have hb : i < b.length := by omega
    simp only [sobriquetkeep_Ints.l0]
    rw [if_pos (by omega), if_pos (by omega), if_pos (by omega), rd_nat a i ha, rd_nat b i hb, w64_nat ha hm, ih k (i + 1) (by omega) (by omega), List.drop_eq_getElem_cons ha, List.drop_eq_getElem_cons hb]
    by_cases h : a[i] = b[i]
    · simp only [h, if_true, List.cons.injEq, true_and]
    · simp only [h, if_false, List.cons.injEq, false_and, decide_false]
theorem Ints_f (a b : List Int) (k : Nat) (hm : a.length ≤ 4611686018427387904) (hk : a.length < k) : sobriquetkeep_Ints.f k a b = some (decide (a = b)) := by
  unfold sobriquetkeep_Ints.f
  by_cases hl : a.length = b.length
  · rw [if_pos (by omega)]
    have := Ints_l0 a b hl hm a.length k 0 (by omega) hk
    simpa using this
  · rw [if_neg (by omega)]
    have : a ≠ b := fun h => hl (by rw [h])
    simp [this]

theorem Rev_l0 (n : Nat) (hn : n ≤ 1099511627776) : ∀ (d k i : Nat) (xs : List Int), xs.length = n → n ≤ 2 * i + d → i ≤ n → d < k →
    ∃ ys, slices_Reverse_byte_byte.l0 k xs i ((n : Int) - 1 - i) = some ys ∧ ys.length = n ∧ ∀ p, p < n → ys[p]? = if i ≤ p ∧ p + i < n then xs[n - 1 - p]? else xs[p]? := by
  intro d
  induction d with
  | zero =>
    intro k i xs hx hd hi hk
    obtain ⟨k, rfl⟩ : ∃ m, k = m + 1 := ⟨k - 1, by omega⟩
    refine ⟨xs, by rw [slices_Reverse_byte_byte.l0, if_neg (by omega)], hx, fun p hp => ?_⟩
    rw [if_neg (by omega)]
  | succ d ih =>
    intro k i xs hx hd hi hk
    obtain ⟨k, rfl⟩ : ∃ m, k = m + 1 := ⟨k - 1, by omega⟩
    rw [slices_Reverse_byte_byte.l0]
    by_cases hc : 2 * i + 1 < n
    · have h1 : i < xs.length := by omega
      have h2 : n - 1 - i < xs.length := by omega
      have ej : ((n : Int) - 1 - i) = ((n - 1 - i : Nat) : Int) := by omega
      rw [ej, if_pos (by omega), if_pos (by omega), if_pos (by omega), if_pos (by omega), if_pos (by omega), rd_nat xs _ h2, rd_nat xs i h1, Int.toNat_natCast, Int.toNat_natCast, w64 (x := (i : Int) + 1) (by omega) (by omega), w64 (by omega) (by omega),
        show (i : Int) + 1 = ((i + 1 : Nat) : Int) from rfl, show (((n - 1 - i : Nat) : Int) - 1) = (n : Int) - 1 - ((i + 1 : Nat) : Int) by omega]
      obtain ⟨ys, y1, y2, y3⟩ := ih k (i + 1) ((xs.set i xs[n - 1 - i]).set (n - 1 - i) xs[i]) (by simp [hx]) (by omega) (by omega) (by omega)
      refine ⟨ys, y1, y2, fun p hp => ?_⟩
      rw [y3 p hp]
      by_cases c1 : i + 1 ≤ p ∧ p + (i + 1) < n
      · rw [if_pos c1, if_pos (by omega), List.getElem?_set_ne (by omega), List.getElem?_set_ne (by omega)]
      · rw [if_neg c1]
        by_cases c2 : p = i
        · subst c2
          rw [if_pos (by omega), List.getElem?_set_ne (by omega), List.getElem?_set_self h1, List.getElem?_eq_getElem h2]
        · by_cases c3 : p = n - 1 - i
          · subst c3
            rw [if_pos (by omega), List.getElem?_set_self (by simp; omega), show n - 1 - (n - 1 - i) = i by omega, List.getElem?_eq_getElem h1]
          · rw [if_neg (by omega), List.getElem?_set_ne (by omega), List.getElem?_set_ne (by omega)]
    · refine ⟨xs, by rw [if_neg (by omega)], hx, fun p hp => ?_⟩
      by_cases c : i ≤ p ∧ p + i < n
      · rw [if_pos c, show n - 1 - p = p by omega]
      · rw [if_neg c]
theorem Rev_f (xs : List Int) (k : Nat) (hn : xs.length ≤ 1099511627776) (hk : xs.length < k) : slices_Reverse_byte_byte.f k xs = some xs.reverse := by
  unfold slices_Reverse_byte_byte.f
  obtain ⟨ys, y1, y2, y3⟩ := Rev_l0 xs.length hn xs.length k 0 xs rfl (by omega) (by omega) hk
  rw [w64 (by omega) (by omega)]
  rw [show (xs.length : Int) - 1 = (xs.length : Int) - 1 - ((0 : Nat) : Int) by omega, show (0 : Int) = ((0 : Nat) : Int) from rfl, y1]
  congr 1
  apply List.ext_getElem?
  intro p
  by_cases hp : p < xs.length
  · rw [y3 p hp, if_pos (by omega), List.getElem?_reverse hp]
  · rw [List.getElem?_eq_none (by omega), List.getElem?_eq_none (by simp; omega)]

/-! ### The printed functions compute the plain law's -/
open Go.Proofs.YtdnclldebkpkfaaDoor.Oid (OkL check_spec contLE contBE enc7 contLE_pos contLE_nil contBE_nil contLE_len enc7_len enc7_byte enc7_ne numP numP_enc numP_enc7 two fin contentL readP fin_ok fin_no two_ne read_enc read_shape read_back drop_bytes content_bytes content_len parseS parseF_S parse_text text_parse parse_shape textC text_len itoa_nn)
open Go.Proofs Go
theorem check_f (l : List Int) : oid_Check.f l = some (if OkL l then 0 else 8) := check_spec l
theorem wraps63 (n : Int) (h₀ : 0 ≤ n) (h₁ : n < 2 ^ 63) : IntKind.i64.wrap n = n := by rw [IntKind.wrap_i64]; omega
theorem wraps8 (n : Int) (h₀ : 0 ≤ n) (h₁ : n < 2 ^ 8) : IntKind.u8.wrap n = n := by rw [IntKind.wrap_u8]; omega
theorem and127 (x : Int) (h0 : 0 ≤ x) (h1 : x ≤ 9223372036854775807) : Go.bits .and .i64 x 127 = x % 128 :=
  bits_mask .i64 63 (by decide) wraps63 7 (by decide) x h0 (by omega)
theorem and127b (x : Int) (h0 : 0 ≤ x) (h1 : x < 256) : Go.bits .and .u8 x 127 = x % 128 :=
  bits_mask .u8 8 (by decide) wraps8 7 (by decide) x h0 (by omega)
theorem or7 (x y : Int) (h0 : 0 ≤ x) (h1 : x ≤ 72057594037927935) (h2 : 0 ≤ y) (h3 : y < 128) : Go.bits .or .i64 (x * 128) y = x * 128 + y :=
  bits_join .i64 63 (by decide) wraps63 7 (x * 128) y (by omega) (by omega) (by omega) h2 (by omega) (by omega)
theorem or128 (y : Int) (h0 : 0 ≤ y) (h1 : y < 128) : Go.bits .or .i64 y 128 = y + 128 := by
  obtain ⟨a, rfl⟩ := Int.eq_ofNat_of_zero_le h0
  have e : Go.bits .or .i64 (a : Int) 128 = Go.bits .or .i64 128 (a : Int) := by
    rw [show (128 : Int) = ((128 : Nat) : Int) from rfl, (bits_nat .i64 63 (by decide) wraps63 a 128 (by omega) (by decide)).2, (bits_nat .i64 63 (by decide) wraps63 128 a (by decide) (by omega)).2, Nat.or_comm]
  rw [e, bits_join .i64 63 (by decide) wraps63 7 128 (a : Int) (by decide) (by decide) (by decide) h0 (by omega) (by omega)]
  omega
theorem sev_l0 : ∀ (d k : Nat) (m : Int) (acc : List Int), m < 128 ^ d → d ≤ 9 → 0 ≤ m → m ≤ 9223372036854775807 → acc.length + d ≤ 20 → 2 * d + acc.length + 2 < k → oid_sevens.l0 k m acc = some (acc ++ contLE m).reverse := by
  intro d
  induction d with
  | zero =>
    intro k m acc hm h9 h0 h1 hl hk
    obtain ⟨k, rfl⟩ : ∃ j, k = j + 1 := ⟨k - 1, by omega⟩
    have e : (128 : Int) ^ 0 = 1 := rfl
    rw [e] at hm
    rw [oid_sevens.l0, if_neg (by omega), Rev_f acc k (by omega) (by omega), contLE_nil m (by omega), List.append_nil]; rfl
  | succ d ih =>
    intro k m acc hm h9 h0 h1 hl hk
    obtain ⟨k, rfl⟩ : ∃ j, k = j + 1 := ⟨k - 1, by omega⟩
    have e : (128 : Int) ^ (d + 1) = 128 ^ d * 128 := Int.pow_succ ..
    rw [e] at hm
    rw [oid_sevens.l0]
    by_cases hp : m > 0
    · rw [if_pos hp, if_pos (by omega), and127 m h0 h1, or128 _ (by omega) (by omega), show (m % 128 + 128) % 256 = m % 128 + 128 by omega, ih k (m / 128) _ (by omega) (by omega) (by omega) (by omega) (by rw [List.length_append, List.length_singleton]; omega) (by rw [List.length_append, List.length_singleton]; omega), contLE_pos m hp, List.append_assoc]; rfl
    · rw [if_neg hp, Rev_f acc k (by omega) (by omega), contLE_nil m (by omega), List.append_nil]; rfl
theorem sevens_f (k : Nat) (hk : 40 ≤ k) (n : Int) (h0 : 0 ≤ n) (h1 : n ≤ 9223372036854775807) : oid_sevens.f k n = some (enc7 n) := by
  unfold oid_sevens.f
  rw [and127 n h0 h1, show n % 128 % 256 = n % 128 by omega, sev_l0 9 k (n / 128) _ (by omega) (Nat.le_refl _) (by omega) (by omega) (by simp) (by simp; omega)]
  simp [enc7, contBE]
theorem num_l0 (b : List Int) (hb : ∀ x ∈ b, 0 ≤ x ∧ x < 256) (hl : b.length ≤ 1000000) : ∀ (d k i : Nat) (a : Int), i + d = b.length → d < k → 0 ≤ a → a ≤ 9223372036854775807 → oid_number.l0 k a b (b.length : Int) (i : Int) = some (match numP a (decide (i = 0)) (b.drop i) with | none => (0, 0) | some p => (p.1, ((i + p.2 : Nat) : Int))) := by
  intro d
  induction d with
  | zero =>
    intro k i a hi hk h0 h1
    obtain ⟨k, rfl⟩ : ∃ m, k = m + 1 := ⟨k - 1, by omega⟩
    rw [oid_number.l0, if_neg (by omega), List.drop_eq_nil_of_le (by omega), numP]
  | succ d ih =>
    intro k i a hi hk h0 h1
    obtain ⟨k, rfl⟩ : ∃ m, k = m + 1 := ⟨k - 1, by omega⟩
    have hil : i < b.length := by omega
    have hc := hb _ (List.getElem_mem hil)
    rw [oid_number.l0, if_pos (by omega), if_pos (by omega), if_pos (by omega), rd_nat b i hil, and127b _ hc.1 hc.2, w64 (x := b[i] % 128) (by omega) (by omega), List.drop_eq_getElem_cons hil, numP, w64_nat hil (by omega)]
    have key : ∀ (P : Prop) [Decidable P], (P ↔ ((decide (i = 0) = true ∧ b[i] = 128) ∨ a > 72057594037927935)) → (if P then some ((0 : Int), (0 : Int)) else if b[i] < 128 then some (Go.bits .or .i64 (wrap64 (a * 128)) (b[i] % 128), ((i + 1 : Nat) : Int)) else oid_number.l0 k (Go.bits .or .i64 (wrap64 (a * 128)) (b[i] % 128)) b (b.length : Int) ((i + 1 : Nat) : Int)) = some (match (if (decide (i = 0) = true ∧ b[i] = 128) ∨ a > 72057594037927935 then none else if b[i] < 128 then some (a * 128 + b[i] % 128, 1) else (numP (a * 128 + b[i] % 128) false (b.drop (i + 1))).map (fun p => (p.1, p.2 + 1))) with | none => (0, 0) | some p => (p.1, ((i + p.2 : Nat) : Int))) := by
      intro P _ hP
      by_cases q : P
      · rw [if_pos q, if_pos (hP.1 q)]
      · rw [if_neg q, if_neg (fun h => q (hP.2 h))]
        have ha : a ≤ 72057594037927935 := by
          rcases Int.lt_or_le 72057594037927935 a with q2 | q2
          · exact absurd (hP.2 (.inr q2)) q
          · exact q2
        rw [w64 (x := a * 128) (by omega) (by omega), or7 a _ h0 ha (by omega) (by omega)]
        by_cases q2 : b[i] < 128
        · rw [if_pos q2, if_pos q2]
        · rw [if_neg q2, if_neg q2, ih k (i + 1) _ (by omega) (by omega) (by omega) (by omega), decide_eq_false (show ¬ i + 1 = 0 by omega)]
          cases numP (a * 128 + b[i] % 128) false (b.drop (i + 1)) with
          | none => rfl
          | some p =>
            simp only [Option.map_some, Option.some.injEq, Prod.mk.injEq, true_and]
            omega
    by_cases hi0 : (i : Int) = 0
    · rw [if_pos hi0]
      have hi1 : i = 0 := by omega
      by_cases q : b[i] = 128
      · rw [if_pos q]
        exact (key (b[i] = 128) ⟨fun h => .inl ⟨decide_eq_true hi1, h⟩, fun _ => q⟩ ▸ (by rw [if_pos q]))
      · rw [if_neg q]
        exact key (a > 72057594037927935) ⟨fun h => .inr h, fun h => h.elim (fun h => absurd h.2 q) id⟩
    · rw [if_neg hi0]
      exact key (a > 72057594037927935) ⟨fun h => .inr h, fun h => h.elim (fun h => absurd (of_decide_eq_true h.1) (by omega)) id⟩
theorem number_f (b : List Int) (hb : ∀ x ∈ b, 0 ≤ x ∧ x < 256) (hl : b.length ≤ 1000000) (k : Nat) (hk : b.length < k) : oid_number.f k b = some (match numP 0 true b with | none => (0, 0) | some p => (p.1, (p.2 : Int))) := by
  unfold oid_number.f
  have := num_l0 b hb hl b.length k 0 0 (by omega) hk (by omega) (by omega)
  rw [List.drop_zero, decide_eq_true rfl] at this
  simpa using this
theorem read_l0 : ∀ (d k : Nat) (b l : List Int), (∀ x ∈ b, 0 ≤ x ∧ x < 256) → b.length < d → b.length ≤ 1000000 → l.length ≤ 100 → 1000000 + d < k → oid_Read.l0 k b l = some (readP d b l) := by
  intro d
  induction d with
  | zero => intro k b l hb hd; omega
  | succ d ih =>
    intro k b l hb hd hl hl2 hk
    obtain ⟨k, rfl⟩ : ∃ m, k = m + 1 := ⟨k - 1, by omega⟩
    rw [oid_Read.l0, readP]
    have hend : ((oid_Check.f l).bind fun t => if t = 0 then some (l, (0 : Int)) else some (([] : List Int), t)) = some (fin l) := by
      rw [check_f, Option.bind_some]
      by_cases h : OkL l
      · rw [if_pos h, if_pos rfl, fin_ok h]
      · rw [if_neg h, if_neg (by decide), fin_no h]
    by_cases h1 : (b.length : Int) > 0
    · have hne : b ≠ [] := fun e => by rw [e] at h1; simp at h1
      rw [if_pos h1]
      by_cases h2 : (l.length : Int) ≤ 40
      · rw [if_pos h2, if_neg (by rintro (q | q); exact hne q; omega), number_f b hb hl k (by omega), Option.bind_some]
        cases hp : numP 0 true b with
        | none =>
          dsimp only
          rw [if_pos rfl]
        | some p =>
          obtain ⟨n, u⟩ := p
          obtain ⟨n0, n1, u0, u1, _⟩ := numP_enc7 b hb n u hp
          have hdl : (b.drop u).length < d := by rw [List.length_drop]; omega
          have hdl2 : (b.drop u).length ≤ 1000000 := by rw [List.length_drop]; omega
          dsimp only
          rw [if_neg (by omega), Int.toNat_natCast]
          by_cases h3 : (l.length : Int) = 0
          · have hnil : l = [] := List.eq_nil_of_length_eq_zero (by omega)
            have e1 : wrap64 (Int.tdiv n 40) = n / 40 := by rw [tdiv_nn n0, w64 (by omega) (by omega)]
            have e2 : mn (n / 40) 2 ≤ 2 ∧ 0 ≤ mn (n / 40) 2 ∧ 40 * mn (n / 40) 2 ≤ n := by unfold mn; split <;> omega
            have e3 : wrap64 (n - wrap64 (40 * mn (wrap64 (Int.tdiv n 40)) 2)) = n - 40 * mn (n / 40) 2 := by
              rw [e1, w64 (x := 40 * mn (n / 40) 2) (by omega) (by omega), w64 (by omega) (by omega)]
            rw [if_pos h3, if_pos hnil, Option.bind_some, e3, e1, if_pos (by rw [hnil]; simp), if_pos (by omega), if_pos (by omega), hnil, List.nil_append]
            exact ih k _ _ (drop_bytes hb u) hdl hdl2 (by simp) (by omega)
          · have hnil : l ≠ [] := fun e => h3 (by rw [e]; rfl)
            rw [if_neg h3, if_neg hnil, if_pos (by omega), if_pos (by omega), if_pos (by omega)]
            exact ih k _ _ (drop_bytes hb u) hdl hdl2 (by rw [List.length_append, List.length_singleton]; omega) (by omega)
      · rw [if_neg h2, if_pos (.inr (by omega)), hend]
    · have hnil : b = [] := List.eq_nil_of_length_eq_zero (by omega)
      rw [if_neg h1, if_pos (.inl hnil), hend]
theorem Read_f (k : Nat) (b : List Int) (hb : ∀ x ∈ b, 0 ≤ x ∧ x < 256) (hl : b.length ≤ 900000) (hk : 3000000 ≤ k) : oid_Read.f k b = some (readP (b.length + 1) b []) := by
  unfold oid_Read.f
  exact read_l0 (b.length + 1) k b [] hb (by omega) (by omega) (by simp) (by omega)
theorem cont_l0 (r : List Int) (hr : ∀ x ∈ r, 0 ≤ x ∧ x ≤ 9223372036854775807) (hl : r.length ≤ 100) : ∀ (d k i : Nat) (acc : List Int), i + d = r.length → d + 100 < k → acc.length + 9 * d ≤ 2000 → oid_Content.l0 k acc r (r.length : Int) (i : Int) = some (acc ++ (r.drop i).flatMap enc7, 0) := by
  intro d
  induction d with
  | zero =>
    intro k i acc hi hk ha
    obtain ⟨k, rfl⟩ : ∃ m, k = m + 1 := ⟨k - 1, by omega⟩
    rw [oid_Content.l0, if_neg (by omega), List.drop_eq_nil_of_le (by omega)]
    simp
  | succ d ih =>
    intro k i acc hi hk ha
    obtain ⟨k, rfl⟩ : ∃ m, k = m + 1 := ⟨k - 1, by omega⟩
    have hil : i < r.length := by omega
    have hc := hr _ (List.getElem_mem hil)
    have he := enc7_len _ hc.1 hc.2
    rw [oid_Content.l0, if_pos (by omega), if_pos (by omega), if_pos (by omega), rd_nat r i hil, sevens_f k (by omega) _ hc.1 hc.2, Option.bind_some, if_pos (by omega), w64_nat hil (by omega), ih k (i + 1) _ (by omega) (by omega) (by rw [List.length_append]; omega), List.drop_eq_getElem_cons hil, List.flatMap_cons, List.append_assoc]
theorem Content_no (k : Nat) (l : List Int) (h : ¬ OkL l) : oid_Content.f k l = some ([], 8) := by
  unfold oid_Content.f
  rw [check_f, if_neg h, Option.bind_some, if_neg (by decide)]
theorem Content_f (k : Nat) (hk : 1000 ≤ k) (l : List Int) (h : OkL l) (hb : ∀ x ∈ l, x ≤ 9223372036854775807) : oid_Content.f k l = some (contentL l, 0) := by
  unfold oid_Content.f
  rw [check_f, if_pos h, Option.bind_some, if_pos rfl]
  match l, h with
  | [], h => exact absurd h.1 (by simp)
  | [a], h => exact absurd h.1 (by simp)
  | a :: b :: r, h =>
    obtain ⟨q1, q2, q3, q4, q5, q6⟩ := h
    replace q4 : a ≤ 2 := q4
    replace q6 : b ≤ 9223372036854775727 := q6
    have a0 := q3 a List.mem_cons_self
    have b0 := q3 b (by simp)
    have e0 : rd (a :: b :: r) 0 = a := rfl
    have e1 : rd (a :: b :: r) 1 = b := rfl
    have he := enc7_len (40 * a + b) (by omega) (by omega)
    have hr2 : r.length ≤ 38 := by simp at q2; omega
    have hd : (a :: b :: r).drop 2 = r := rfl
    have h0 := cont_l0 r (fun x hx => ⟨q3 x (by simp [hx]), hb x (by simp [hx])⟩) (by omega) r.length k 0 (enc7 (40 * a + b)) (by omega) (by omega) (by omega)
    have hz : ((0 : Nat) : Int) = 0 := rfl
    rw [hz] at h0
    rw [if_pos (by simp <;> omega), if_pos (by simp <;> omega), e0, e1, w64 (x := 40 * a) (by omega) (by omega), w64 (by omega) (by omega), sevens_f k (by omega) _ (by omega) (by omega), Option.bind_some, if_pos (by simp <;> omega), hd, h0, List.drop_zero]
    rfl
theorem text_l0 (l : List Int) (hr : ∀ x ∈ l, -9223372036854775808 ≤ x ∧ x ≤ 9223372036854775807) (hl : l.length ≤ 100) : ∀ (d k i : Nat) (acc : List ByteArray), i + d = l.length → d < k → acc.length = i → acc.map (·.data.toList) = (l.take i).map Lib.itoa → oid_Text.l0 k acc l (l.length : Int) (i : Int) = some (⟨(textC l).toArray⟩, 0) := by
  intro d
  induction d with
  | zero =>
    intro k i acc hi hk ha hm
    obtain ⟨k, rfl⟩ : ∃ m, k = m + 1 := ⟨k - 1, by omega⟩
    rw [List.take_of_length_le (by omega)] at hm
    have hj : strings_Join.f acc (⟨#[46]⟩ : ByteArray) = some ⟨(textC l).toArray⟩ := by
      show Go.Proofs.YtdnclldebkpkfaaDoor.Oid.joinF acc ⟨#[46]⟩ = _
      unfold Go.Proofs.YtdnclldebkpkfaaDoor.Oid.joinF
      rw [hm]
      have := text_len l hr
      unfold textC at this
      rw [if_pos ⟨by omega, show (Lib.join (l.map Lib.itoa) [46]).length ≤ 140737488355328 from by omega⟩]
      rfl
    rw [oid_Text.l0, if_neg (by omega), hj, Option.bind_some]
  | succ d ih =>
    intro k i acc hi hk ha hm
    obtain ⟨k, rfl⟩ : ∃ m, k = m + 1 := ⟨k - 1, by omega⟩
    have hil : i < l.length := by omega
    have hit : strconv_Itoa.f l[i] = some ⟨(Lib.itoa l[i]).toArray⟩ := by
      show Go.Proofs.YtdnclldebkpkfaaDoor.Oid.itoaF l[i] = _
      unfold Go.Proofs.YtdnclldebkpkfaaDoor.Oid.itoaF
      rw [if_pos (hr _ (List.getElem_mem hil))]
    rw [oid_Text.l0, if_pos (by omega), if_pos (by omega), if_pos (by omega), rd_nat l i hil, hit, Option.bind_some, if_pos (by omega), w64_nat hil (by omega)]
    exact ih k (i + 1) _ (by omega) (by omega) (by rw [List.length_append, List.length_singleton]; omega) (by
      rw [List.map_append, hm, ← List.take_append_getElem hil, List.map_append]
      rfl)
theorem Text_no (k : Nat) (l : List Int) (h : ¬ OkL l) : oid_Text.f k l = some (⟨#[]⟩, 8) := by
  unfold oid_Text.f
  rw [check_f, if_neg h, Option.bind_some, if_neg (by decide)]
theorem Text_f (k : Nat) (hk : 200 ≤ k) (l : List Int) (h : OkL l) (hb : ∀ x ∈ l, x ≤ 9223372036854775807) : oid_Text.f k l = some (⟨(textC l).toArray⟩, 0) := by
  unfold oid_Text.f
  rw [check_f, if_pos h, Option.bind_some, if_pos rfl]
  have := h.2.1
  exact text_l0 l (fun x hx => ⟨by have := h.2.2.1 x hx; omega, hb x hx⟩) (by omega) l.length k 0 [] (by omega) (by omega) rfl rfl
theorem Parse_f (s : ByteArray) (h : s.size < 4294967281) : oid_Parse.f s = some (parseS s.data.toList) := parseF_S s h
theorem dd (n : Nat) (h : n < 10) : Lib.decDigits n = [UInt8.ofNat (48 + n)] := Lib.decDigits_one h
theorem text_2543 : textC [2, 5, 4, 3] = [50, 46, 53, 46, 52, 46, 51] := by
  unfold textC
  simp only [List.map_cons, List.map_nil]
  rw [itoa_nn 2 (by decide), itoa_nn 5 (by decide), itoa_nn 4 (by decide), itoa_nn 3 (by decide), show (2 : Int).toNat = 2 from rfl, show (5 : Int).toNat = 5 from rfl, show (4 : Int).toNat = 4 from rfl, show (3 : Int).toNat = 3 from rfl, dd 2 (by decide), dd 5 (by decide), dd 4 (by decide), dd 3 (by decide)]
  decide
theorem text_12840 : textC [1, 2, 840] = [49, 46, 50, 46, 56, 52, 48] := by
  have e : Lib.decDigits 840 = [56, 52, 48] := by
    rw [Lib.decDigits, dif_neg (by decide), Lib.decDigits_two (by decide) (by decide)]
    decide
  unfold textC
  simp only [List.map_cons, List.map_nil]
  rw [itoa_nn 1 (by decide), itoa_nn 2 (by decide), itoa_nn 840 (by decide), show (1 : Int).toNat = 1 from rfl, show (2 : Int).toNat = 2 from rfl, show (840 : Int).toNat = 840 from rfl, dd 1 (by decide), dd 2 (by decide), e]
  decide
theorem wakes_true (k : Nat) (hk : 3000000 ≤ k) : sobriquetlaw03_wakes.f k = some true := by
  have ok1 : OkL [2, 5, 4, 3] := by decide
  have ok2 : OkL [1, 2, 840] := by decide
  have hc := Content_f k (by omega) [2, 5, 4, 3] ok1 (by decide)
  have hlen : (contentL [2, 5, 4, 3]).length = 3 := by
    unfold contentL enc7 contBE
    simp [contLE_nil]
  obtain ⟨cb, _⟩ := content_bytes [2, 5, 4, 3] ok1 (by decide)
  have hr := Read_f k (contentL [2, 5, 4, 3]) cb (by omega) hk
  rw [read_enc [2, 5, 4, 3] ok1 (by decide) _ (by rw [hlen]; decide)] at hr
  have ht := Text_f k (by omega) [2, 5, 4, 3] ok1 (by decide)
  have hp := Parse_f (⟨#[49, 46, 50, 46, 56, 52, 48]⟩ : ByteArray) (by decide)
  have ep : parseS (⟨#[49, 46, 50, 46, 56, 52, 48]⟩ : ByteArray).data.toList = ([1, 2, 840], 0) := by
    have := parse_text [1, 2, 840] ok2 (by decide)
    rw [text_12840] at this
    exact this
  rw [ep] at hp
  unfold sobriquetlaw03_wakes.f
  rw [hc, Option.bind_some]
  dsimp only
  rw [hr, Option.bind_some]
  dsimp only
  rw [ht, Option.bind_some]
  dsimp only
  rw [hp, Option.bind_some]
  dsimp only
  have hin : sobriquetkeep_Ints.f k [1, 2, 840] [1, 2, 840] = some true := by
    rw [Ints_f _ _ k (by decide) (by simp; omega), decide_eq_true rfl]
  have hbad : oid_Check.f [3, 1] = some 8 := by
    rw [check_f, if_neg (by decide)]
  rw [if_pos rfl, if_pos rfl, if_pos rfl, if_pos rfl, hlen, if_pos (by decide), text_2543, if_pos (by rw [Lib.toList_data]), hin, Option.bind_some, if_pos rfl, hbad, Option.bind_some]
  rfl

theorem two_max (m : Nat) (hm : m ≤ 38) : OkL (2 :: 9223372036854775727 :: List.replicate m 9223372036854775807) := by
  refine ⟨by simp, by simp; omega, fun x hx => ?_, Int.le_refl _, fun h => absurd h (Int.lt_irrefl _), Int.le_refl _⟩
  simp only [List.mem_cons, List.mem_replicate] at hx
  omega
theorem lead_no (b : List Int) (d : Nat) : readP (d + 1) (128 :: b) [] = ([], 8) := by
  rw [readP, if_neg (by rintro (q | q); cases q; simp at q), numP, if_pos (.inl ⟨rfl, rfl⟩)]
theorem read_then : ∀ (ns l : List Int) (t : List Int) (d : Nat), l ≠ [] → l.length + ns.length ≤ 40 → (∀ n ∈ ns, 0 ≤ n ∧ n ≤ 9223372036854775807) → t ≠ [] → numP 0 true t = none → ns.length < d → readP d (ns.flatMap enc7 ++ t) l = ([], 8)
  | [], l, t, d, hl, h4, hn, ht, hp, hd => by
    obtain ⟨d, rfl⟩ : ∃ m, d = m + 1 := ⟨d - 1, by omega⟩
    rw [List.flatMap_nil, List.nil_append, readP, if_neg (by
      rintro (q | q)
      · exact ht q
      · simp at h4; omega), hp]
  | n :: r, l, t, d, hl, h4, hn, ht, hp, hd => by
    obtain ⟨d, rfl⟩ : ∃ m, d = m + 1 := ⟨d - 1, by omega⟩
    obtain ⟨n0, n1⟩ := hn n List.mem_cons_self
    rw [List.length_cons] at h4 hd
    rw [List.flatMap_cons, List.append_assoc, readP, if_neg (by
      rintro (q | q)
      · exact enc7_ne n (List.append_eq_nil_iff.1 q).1
      · omega), numP_enc n n0 n1]
    dsimp only
    rw [if_neg hl, List.drop_left]
    exact read_then r (l ++ [n]) t d (by simp) (by rw [List.length_append, List.length_singleton]; omega) (fun m hm => hn m (List.mem_cons_of_mem _ hm)) ht hp (by omega)
theorem content_then (l : List Int) (h : OkL l) (hb : ∀ x ∈ l, x ≤ 9223372036854775807) (t : List Int) (ht : t ≠ []) (hp : numP 0 true t = none) (d : Nat) (hd : l.length ≤ d) : readP d (contentL l ++ t) [] = ([], 8) := by
  obtain ⟨d, rfl⟩ : ∃ m, d = m + 1 := ⟨d - 1, by have := h.1; omega⟩
  match l, h with
  | [], h => exact absurd h.1 (by simp)
  | [a], h => exact absurd h.1 (by simp)
  | a :: b :: r, h =>
    obtain ⟨q1, q2, q3, q4, q5, q6⟩ := h
    replace q4 : a ≤ 2 := q4
    replace q6 : b ≤ 9223372036854775727 := q6
    have a0 := q3 a List.mem_cons_self
    have b0 := q3 b (by simp)
    have ec : contentL (a :: b :: r) ++ t = enc7 (40 * a + b) ++ (r.flatMap enc7 ++ t) := by
      show (enc7 (40 * a + b) ++ r.flatMap enc7) ++ t = _
      rw [List.append_assoc]
    rw [ec, readP, if_neg (by
      rintro (q | q)
      · exact enc7_ne _ (List.append_eq_nil_iff.1 q).1
      · simp at q), numP_enc _ (by omega) (by omega)]
    dsimp only
    rw [if_pos rfl, List.drop_left]
    exact read_then r (two (40 * a + b)) t d (two_ne _) (by show 2 + r.length ≤ 40; simp at q2; omega) (fun n hn => ⟨q3 n (by simp [hn]), hb n (by simp [hn])⟩) ht hp (by simp at hd; omega)
theorem num_81 : numP 0 true [129] = none := by decide
theorem num_big : numP 0 true [129, 128, 128, 128, 128, 128, 128, 128, 128, 0] = none := by decide
theorem edge_l1 : ∀ (d k : Nat) (l : List Int), l.length + d = 41 → 3000000 + d < k → sobriquetlaw03_OidEdges.l1 k l = some true := by
  intro d
  induction d with
  | zero =>
    intro k l hl hk
    obtain ⟨k, rfl⟩ : ∃ m, k = m + 1 := ⟨k - 1, by omega⟩
    rw [sobriquetlaw03_OidEdges.l1, if_neg (by omega), check_f, if_neg (fun q => by have := q.2.1; omega), Option.bind_some, if_pos rfl, wakes_true k (by omega), Option.bind_some]
  | succ d ih =>
    intro k l hl hk
    obtain ⟨k, rfl⟩ : ∃ m, k = m + 1 := ⟨k - 1, by omega⟩
    rw [sobriquetlaw03_OidEdges.l1, if_pos (by omega), if_pos (by omega)]
    exact ih k _ (by rw [List.length_append, List.length_singleton]; omega) (by omega)
theorem big_word : parseS ((⟨#[50, 46, 53, 46, 57, 50, 50, 51, 51, 55, 50, 48, 51, 54, 56, 53, 52, 55, 55, 53, 56, 48, 56]⟩ : ByteArray).data.toList) = ([], 8) := by decide +kernel
theorem zero_word : parseS ((⟨#[50, 46, 48, 53]⟩ : ByteArray).data.toList) = ([], 8) := by
  rcases parse_shape ((⟨#[50, 46, 48, 53]⟩ : ByteArray).data.toList) with ⟨x, hx, hok⟩ | hx
  · exfalso
    obtain ⟨h1, h2, h3⟩ := text_parse _ _ hx
    have hs : Go.Proofs.YtdnclldebkpkfaaDoor.Oid.splitC ((⟨#[50, 46, 48, 53]⟩ : ByteArray).data.toList) = [[50], [48, 53]] := by decide
    have hne : x.map Lib.itoa ≠ [] := by
      intro e
      have := congrArg List.length e
      rw [List.length_map, List.length_nil] at this
      have := h1.1
      omega
    have h4 := Go.Proofs.YtdnclldebkpkfaaDoor.Oid.split_join (x.map Lib.itoa) hne (fun y hy => by
      obtain ⟨v, _, rfl⟩ := List.mem_map.1 hy
      exact Go.Proofs.YtdnclldebkpkfaaDoor.Oid.itoa_dot v)
    have h5 : Lib.join (x.map Lib.itoa) [46] = (⟨#[50, 46, 48, 53]⟩ : ByteArray).data.toList := h3
    rw [h5, hs] at h4
    have h6 : [48, 53] ∈ x.map Lib.itoa := by rw [← h4]; simp
    obtain ⟨v, hv, e⟩ := List.mem_map.1 h6
    have h7 := Go.Proofs.YtdnclldebkpkfaaDoor.Oid.atoi_itoa v (h1.2.2.1 v hv) (h2 v hv)
    rw [e] at h7
    have h8 : Lib.atoiAll [48, 53] = .ok 5 := by decide
    rw [h8] at h7
    have h9 : (5 : Int) = v := by injection h7
    subst h9
    rw [itoa_nn 5 (by decide), show (5 : Int).toNat = 5 from rfl, dd 5 (by decide)] at e
    exact absurd e (by decide)
  · exact hx
theorem edge_end (n a1 : Int) (hn0 : 0 ≤ n) (hn : n < 40) : ∀ (k m : Nat), n ≤ 2 + (m : Int) → m ≤ 38 → 3000100 < k → sobriquetlaw03_OidEdges.l0 k n a1 (2 :: 9223372036854775727 :: List.replicate m 9223372036854775807) = some true := by
  intro k m h1 h2 hk
  obtain ⟨k, rfl⟩ : ∃ j, k = j + 1 := ⟨k - 1, by omega⟩
  have ok := two_max m h2
  obtain ⟨l, hl⟩ : ∃ l, l = (2 :: 9223372036854775727 :: List.replicate m 9223372036854775807 : List Int) := ⟨_, rfl⟩
  have hb : ∀ x ∈ l, x ≤ 9223372036854775807 := by
    rw [hl]
    intro x hx
    simp only [List.mem_cons, List.mem_replicate] at hx
    omega
  have hll : l.length = m + 2 := by rw [hl]; simp
  rw [← hl] at ok ⊢
  have hlen := content_len l ok hb
  obtain ⟨cb, cn⟩ := content_bytes l ok hb
  have hrd := Read_f k (contentL l) cb (by omega) (by omega)
  rw [read_enc l ok hb _ (by omega)] at hrd
  rw [sobriquetlaw03_OidEdges.l0, if_neg (by omega), Content_f k (by omega) l ok hb, Option.bind_some]
  dsimp only
  rw [hrd, Option.bind_some]
  dsimp only
  have hw := wakes_true k (by omega)
  have hcp : 0 < (contentL l).length := List.length_pos_iff.2 cn
  rw [if_pos rfl, if_pos rfl, Ints_f l l k (by omega) (by omega), decide_eq_true rfl, Option.bind_some, if_pos rfl, if_neg (by omega)]
  by_cases c0 : Int.tmod (IntKind.u64.wrap a1) 6 = 0
  · have hr0 := Read_f k (128 :: contentL l) (fun x hx => by
      rcases List.mem_cons.1 hx with rfl | hx
      · decide
      · exact cb x hx) (by rw [List.length_cons]; omega) (by omega)
    rw [lead_no] at hr0
    rw [if_pos c0, Option.bind_some, if_pos (by simp; omega), show [128] ++ contentL l = 128 :: contentL l from rfl, hr0, Option.bind_some]
    dsimp only
    rw [if_pos rfl, hw, Option.bind_some]
  rw [if_neg c0]
  by_cases c1 : Int.tmod (IntKind.u64.wrap a1) 6 = 1
  · rw [if_pos c1, Parse_f _ (by decide), big_word, Option.bind_some]
    dsimp only
    rw [if_pos rfl, hw, Option.bind_some]
  rw [if_neg c1]
  by_cases c2 : Int.tmod (IntKind.u64.wrap a1) 6 = 2
  · rw [if_pos c2, Parse_f _ (by decide), zero_word, Option.bind_some]
    dsimp only
    rw [if_pos rfl, hw, Option.bind_some]
  rw [if_neg c2]
  by_cases c3 : Int.tmod (IntKind.u64.wrap a1) 6 = 3
  · have hr0 := Read_f k (contentL l ++ [129]) (fun x hx => by
      rcases List.mem_append.1 hx with hx | hx
      · exact cb x hx
      · rw [List.mem_singleton.1 hx]; decide) (by rw [List.length_append, List.length_singleton]; omega) (by omega)
    rw [content_then l ok hb [129] (by simp) num_81 _ (by rw [List.length_append, List.length_singleton]; omega)] at hr0
    rw [if_pos c3, if_pos (by omega), hr0, Option.bind_some]
    dsimp only
    rw [if_pos rfl, hw, Option.bind_some]
  rw [if_neg c3]
  by_cases c4 : Int.tmod (IntKind.u64.wrap a1) 6 = 4
  · have hr0 := Read_f k (contentL l ++ [129, 128, 128, 128, 128, 128, 128, 128, 128, 0]) (fun x hx => by
      rcases List.mem_append.1 hx with hx | hx
      · exact cb x hx
      · simp only [List.mem_cons, List.not_mem_nil, or_false] at hx
        omega) (by rw [List.length_append]; simp; omega) (by omega)
    rw [content_then l ok hb _ (by simp) num_big _ (by rw [List.length_append]; omega)] at hr0
    rw [if_pos c4, Option.bind_some, if_pos (by simp; omega), hr0, Option.bind_some]
    dsimp only
    rw [if_pos rfl, hw, Option.bind_some]
  rw [if_neg c4]
  exact edge_l1 39 k [1, 2] (by decide) (by omega)
theorem edge_l0 (n a1 : Int) (hn0 : 0 ≤ n) (hn : n < 40) : ∀ (d k m : Nat), n ≤ 2 + (m : Int) + (d : Int) → m ≤ 38 → 3000100 + d < k → sobriquetlaw03_OidEdges.l0 k n a1 (2 :: 9223372036854775727 :: List.replicate m 9223372036854775807) = some true := by
  intro d
  induction d with
  | zero => intro k m h1 h2 hk; exact edge_end n a1 hn0 hn k m (by omega) h2 (by omega)
  | succ d ih =>
    intro k m h1 h2 hk
    have hll : (2 :: 9223372036854775727 :: List.replicate m 9223372036854775807 : List Int).length = m + 2 := by simp
    by_cases hlt : ((2 :: 9223372036854775727 :: List.replicate m 9223372036854775807 : List Int).length : Int) < n
    · obtain ⟨k, rfl⟩ : ∃ j, k = j + 1 := ⟨k - 1, by omega⟩
      rw [sobriquetlaw03_OidEdges.l0, if_pos hlt, if_pos (by omega), show (2 :: 9223372036854775727 :: List.replicate m 9223372036854775807 : List Int) ++ [9223372036854775807] = 2 :: 9223372036854775727 :: List.replicate (m + 1) 9223372036854775807 from by
        rw [List.replicate_succ']; rfl]
      exact ih k (m + 1) (by omega) (by omega) (by omega)
    · exact edge_end n a1 hn0 hn k m (by omega) h2 (by omega)
theorem OidEdges : sobriquetlaw03_OidEdges.Pure := by
  intro a0 a1 w0 w1
  obtain ⟨k, hk⟩ : ∃ k : Nat, k = 3001000 := ⟨_, rfl⟩
  refine ⟨k, ?_⟩
  unfold sobriquetlaw03_OidEdges.f
  obtain ⟨n, hn, hn0, hn1⟩ : ∃ n, wrap64 (Int.tmod (IntKind.u64.wrap a0) 40) = n ∧ 0 ≤ n ∧ n < 40 := by
    refine ⟨_, rfl, ?_⟩
    rw [IntKind.wrap_u64, tmod_nn (by omega), w64 (by omega) (by omega)]
    omega
  rw [hn]
  exact edge_l0 n a1 hn0 hn1 40 k 0 (by omega) (by omega) (by omega)

end Go.Proofs.YtdnclldebkpkfaaDoor.Pure
