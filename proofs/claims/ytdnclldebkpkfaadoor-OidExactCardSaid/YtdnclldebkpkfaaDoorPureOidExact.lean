/- The statement OidExact: Check, Content, Text, Read and Parse return what the document says for any list, bytes and string. No conditions. -/
import Derived.Test.YtdnclldebkpkfaaDoorMOidExactx7
import Derived.Test.YtdnclldebkpkfaaDoorOq
namespace Go.Proofs.YtdnclldebkpkfaaDoor.Pure
open Go.RowKit Go.Proofs.YtdnclldebkpkfaaDoor.MOidExact Go.Proofs.YtdnclldebkpkfaaDoorW.PrintWords Go.Proofs.YtdnclldebkpkfaaDoorW.PrintLast
set_option linter.unusedVariables false
set_option linter.unusedSimpArgs false
set_option maxHeartbeats 1000000

theorem w64 {x : Int} (h0 : -9223372036854775808 ≤ x) (h1 : x ≤ 9223372036854775807) : wrap64 x = x := by unfold wrap64; omega
theorem w64_nat {i n : Nat} (h : i < n) (hn : n ≤ 4611686018427387904) : wrap64 ((i : Int) + 1) = ((i + 1 : Nat) : Int) := by unfold wrap64; omega
theorem rd_nat (xs : List Int) (i : Nat) (h : i < xs.length) : rd xs (i : Int) = xs[i] := by simp [rd, List.getD_eq_getElem?_getD, List.getElem?_eq_getElem h]
theorem wf64 {a : Int} (h : (Lit.int .i64 a).wf = true) : -9223372036854775808 ≤ a ∧ a ≤ 9223372036854775807 := by
  simpa [Lit.wf, show IntKind.i64.min = -9223372036854775808 from rfl] using h
theorem tdiv_nn {a : Int} (h : 0 ≤ a) (b : Int) : Int.tdiv a b = a / b := Int.tdiv_eq_ediv_of_nonneg h
theorem tmod_nn {a : Int} (h : 0 ≤ a) (b : Int) : Int.tmod a b = a % b := Int.tmod_eq_emod_of_nonneg h
theorem dec_iff (p q : Prop) [Decidable p] [Decidable q] (h : p ↔ q) : decide p = decide q := by simp [h]
theorem dec_t (p : Prop) [Decidable p] (h : p) : decide p = true := by simp [h]
theorem dec_f (p : Prop) [Decidable p] (h : ¬ p) : decide p = false := by simp [h]
theorem tmod_bd (a c : Int) (hc : 0 < c) : -c < Int.tmod a c ∧ Int.tmod a c < c := by
  have h1 := Int.emod_nonneg a (b := c) (by omega)
  have h2 := Int.emod_lt_of_pos a hc
  have h3 : ((c.natAbs : Nat) : Int) = c := by omega
  have h4 := Int.tmod_lt_of_pos a hc
  refine ⟨?_, h4⟩
  rw [Int.tmod_eq_emod]
  split
  · omega
  · rename_i h
    have : a % c ≠ 0 := fun e => h (.inr (Int.dvd_of_emod_eq_zero e))
    omega
theorem w64l (x y : Int) (h : x = y ∧ -9223372036854775808 ≤ y ∧ y ≤ 9223372036854775807) : wrap64 x = y := by rw [h.1]; exact w64 h.2.1 h.2.2

theorem Ints_l0 (a b : List Int) (hl : a.length = b.length) (hm : a.length ≤ 4611686018427387904) : ∀ (d k i : Nat), i + d = a.length → d < k → sobriquetkeep_Ints.l0 k a b (i : Int) = some (decide (a.drop i = b.drop i)) := by
  intro d
  induction d with
  | zero =>
    intro k i hi hk
    obtain ⟨k, rfl⟩ : ∃ m, k = m + 1 := ⟨k - 1, by omega⟩
    simp only [sobriquetkeep_Ints.l0]
    rw [if_neg (by omega), List.drop_eq_nil_of_le (by omega), List.drop_eq_nil_of_le (by omega)]
    simp
  | succ d ih =>
    intro k i hi hk
    obtain ⟨k, rfl⟩ : ∃ m, k = m + 1 := ⟨k - 1, by omega⟩
    have ha : i < a.length := by omega
    have hb : i < b.length := by omega
    simp only [sobriquetkeep_Ints.l0]
    rw [if_pos (by omega), if_pos (by omega), if_pos (by omega), rd_nat a i ha, rd_nat b i hb, w64_nat ha hm, ih k (i + 1) (by omega) (by omega), List.drop_eq_getElem_cons ha, List.drop_eq_getElem_cons hb]
    by_cases h : a[i] = b[i]
    · simp only [h, if_true, List.cons.injEq, true_and]
    · simp only [h, if_false, List.cons.injEq, false_and, decide_false]
theorem Ints_f (a b : List Int) (k : Nat) (hm : a.length ≤ 4611686018427387904) (hk : a.length < k) : sobriquetkeep_Ints.f k a b = some (decide (a = b)) := by
  unfold sobriquetkeep_Ints.f
  by_cases hl : a.length = b.length
  · rw [if_pos (by omega)]
    have := Ints_l0 a b hl hm a.length k 0 (by omega) hk
    simpa using this
  · rw [if_neg (by omega)]
    have : a ≠ b := fun h => hl (by rw [h])
    simp [this]

theorem Rev_l0 (n : Nat) (hn : n ≤ 1099511627776) : ∀ (d k i : Nat) (xs : List Int), xs.length = n → n ≤ 2 * i + d → i ≤ n → d < k →
    ∃ ys, slices_Reverse_byte_byte.l0 k xs i ((n : Int) - 1 - i) = some ys ∧ ys.length = n ∧ ∀ p, p < n → ys[p]? = if i ≤ p ∧ p + i < n then xs[n - 1 - p]? else xs[p]? := by
  intro d
  induction d with
  | zero =>
    intro k i xs hx hd hi hk
    obtain ⟨k, rfl⟩ : ∃ m, k = m + 1 := ⟨k - 1, by omega⟩
    refine ⟨xs, by rw [slices_Reverse_byte_byte.l0, if_neg (by omega)], hx, fun p hp => ?_⟩
    rw [if_neg (by omega)]
  | succ d ih =>
    intro k i xs hx hd hi hk
    obtain ⟨k, rfl⟩ : ∃ m, k = m + 1 := ⟨k - 1, by omega⟩
    rw [slices_Reverse_byte_byte.l0]
    by_cases hc : 2 * i + 1 < n
    · have h1 : i < xs.length := by omega
      have h2 : n - 1 - i < xs.length := by omega
      have ej : ((n : Int) - 1 - i) = ((n - 1 - i : Nat) : Int) := by omega
      rw [ej, if_pos (by omega), if_pos (by omega), if_pos (by omega), if_pos (by omega), if_pos (by omega), rd_nat xs _ h2, rd_nat xs i h1, Int.toNat_natCast, Int.toNat_natCast, w64 (x := (i : Int) + 1) (by omega) (by omega), w64 (by omega) (by omega),
        show (i : Int) + 1 = ((i + 1 : Nat) : Int) from rfl, show (((n - 1 - i : Nat) : Int) - 1) = (n : Int) - 1 - ((i + 1 : Nat) : Int) by omega]
      obtain ⟨ys, y1, y2, y3⟩ := ih k (i + 1) ((xs.set i xs[n - 1 - i]).set (n - 1 - i) xs[i]) (by simp [hx]) (by omega) (by omega) (by omega)
      refine ⟨ys, y1, y2, fun p hp => ?_⟩
      rw [y3 p hp]
      by_cases c1 : i + 1 ≤ p ∧ p + (i + 1) < n
      · rw [if_pos c1, if_pos (by omega), List.getElem?_set_ne (by omega), List.getElem?_set_ne (by omega)]
      · rw [if_neg c1]
        by_cases c2 : p = i
        · subst c2
          rw [if_pos (by omega), List.getElem?_set_ne (by omega), List.getElem?_set_self h1, List.getElem?_eq_getElem h2]
        · by_cases c3 : p = n - 1 - i
          · subst c3
            rw [if_pos (by omega), List.getElem?_set_self (by simp; omega), show n - 1 - (n - 1 - i) = i by omega, List.getElem?_eq_getElem h1]
          · rw [if_neg (by omega), List.getElem?_set_ne (by omega), List.getElem?_set_ne (by omega)]
    · refine ⟨xs, by rw [if_neg (by omega)], hx, fun p hp => ?_⟩
      by_cases c : i ≤ p ∧ p + i < n
      · rw [if_pos c, show n - 1 - p = p by omega]
      · rw [if_neg c]
theorem Rev_f (xs : List Int) (k : Nat) (hn : xs.length ≤ 1099511627776) (hk : xs.length < k) : slices_Reverse_byte_byte.f k xs = some xs.reverse := by
  unfold slices_Reverse_byte_byte.f
  obtain ⟨ys, y1, y2, y3⟩ := Rev_l0 xs.length hn xs.length k 0 xs rfl (by omega) (by omega) hk
  rw [w64 (by omega) (by omega)]
  rw [show (xs.length : Int) - 1 = (xs.length : Int) - 1 - ((0 : Nat) : Int) by omega, show (0 : Int) = ((0 : Nat) : Int) from rfl, y1]
  congr 1
  apply List.ext_getElem?
  intro p
  by_cases hp : p < xs.length
  · rw [y3 p hp, if_pos (by omega), List.getElem?_reverse hp]
  · rw [List.getElem?_eq_none (by omega), List.getElem?_eq_none (by simp; omega)]

/-! ### The printed functions compute the plain law's -/
open Go.Proofs.YtdnclldebkpkfaaDoor.Oid (OkL check_spec contLE contBE enc7 contLE_pos contLE_nil contBE_nil contLE_len enc7_len enc7_byte enc7_ne numP numP_enc numP_enc7 two fin contentL readP fin_ok fin_no two_ne read_enc read_shape read_back drop_bytes content_bytes content_len parseS parseF_S parse_text text_parse parse_shape textC text_len itoa_nn)
open Go.Proofs Go
theorem check_f (l : List Int) : oid_Check.f l = some (if OkL l then 0 else 8) := check_spec l
theorem wraps63 (n : Int) (h₀ : 0 ≤ n) (h₁ : n < 2 ^ 63) : IntKind.i64.wrap n = n := by rw [IntKind.wrap_i64]; omega
theorem wraps8 (n : Int) (h₀ : 0 ≤ n) (h₁ : n < 2 ^ 8) : IntKind.u8.wrap n = n := by rw [IntKind.wrap_u8]; omega
theorem and127 (x : Int) (h0 : 0 ≤ x) (h1 : x ≤ 9223372036854775807) : Go.bits .and .i64 x 127 = x % 128 :=
  bits_mask .i64 63 (by decide) wraps63 7 (by decide) x h0 (by omega)
theorem and127b (x : Int) (h0 : 0 ≤ x) (h1 : x < 256) : Go.bits .and .u8 x 127 = x % 128 :=
  bits_mask .u8 8 (by decide) wraps8 7 (by decide) x h0 (by omega)
theorem or7 (x y : Int) (h0 : 0 ≤ x) (h1 : x ≤ 72057594037927935) (h2 : 0 ≤ y) (h3 : y < 128) : Go.bits .or .i64 (x * 128) y = x * 128 + y :=
  bits_join .i64 63 (by decide) wraps63 7 (x * 128) y (by omega) (by omega) (by omega) h2 (by omega) (by omega)
theorem or128 (y : Int) (h0 : 0 ≤ y) (h1 : y < 128) : Go.bits .or .i64 y 128 = y + 128 := by
  obtain ⟨a, rfl⟩ := Int.eq_ofNat_of_zero_le h0
  have e : Go.bits .or .i64 (a : Int) 128 = Go.bits .or .i64 128 (a : Int) := by
    rw [show (128 : Int) = ((128 : Nat) : Int) from rfl, (bits_nat .i64 63 (by decide) wraps63 a 128 (by omega) (by decide)).2, (bits_nat .i64 63 (by decide) wraps63 128 a (by decide) (by omega)).2, Nat.or_comm]
  rw [e, bits_join .i64 63 (by decide) wraps63 7 128 (a : Int) (by decide) (by decide) (by decide) h0 (by omega) (by omega)]
  omega
theorem sev_l0 : ∀ (d k : Nat) (m : Int) (acc : List Int), m < 128 ^ d → d ≤ 9 → 0 ≤ m → m ≤ 9223372036854775807 → acc.length + d ≤ 20 → 2 * d + acc.length + 2 < k → oid_sevens.l0 k m acc = some (acc ++ contLE m).reverse := by
  intro d
  induction d with
  | zero =>
    intro k m acc hm h9 h0 h1 hl hk
    obtain ⟨k, rfl⟩ : ∃ j, k = j + 1 := ⟨k - 1, by omega⟩
    have e : (128 : Int) ^ 0 = 1 := rfl
    rw [e] at hm
    rw [oid_sevens.l0, if_neg (by omega), Rev_f acc k (by omega) (by omega), contLE_nil m (by omega), List.append_nil]; rfl
  | succ d ih =>
    intro k m acc hm h9 h0 h1 hl hk
    obtain ⟨k, rfl⟩ : ∃ j, k = j + 1 := ⟨k - 1, by omega⟩
    have e : (128 : Int) ^ (d + 1) = 128 ^ d * 128 := Int.pow_succ ..
    rw [e] at hm
    rw [oid_sevens.l0]
    by_cases hp : m > 0
    · rw [if_pos hp, if_pos (by omega), and127 m h0 h1, or128 _ (by omega) (by omega), show (m % 128 + 128) % 256 = m % 128 + 128 by omega, ih k (m / 128) _ (by omega) (by omega) (by omega) (by omega) (by rw [List.length_append, List.length_singleton]; omega) (by rw [List.length_append, List.length_singleton]; omega), contLE_pos m hp, List.append_assoc]; rfl
    · rw [if_neg hp, Rev_f acc k (by omega) (by omega), contLE_nil m (by omega), List.append_nil]; rfl
theorem sevens_f (k : Nat) (hk : 40 ≤ k) (n : Int) (h0 : 0 ≤ n) (h1 : n ≤ 9223372036854775807) : oid_sevens.f k n = some (enc7 n) := by
  unfold oid_sevens.f
  rw [and127 n h0 h1, show n % 128 % 256 = n % 128 by omega, sev_l0 9 k (n / 128) _ (by omega) (Nat.le_refl _) (by omega) (by omega) (by simp) (by simp; omega)]
  simp [enc7, contBE]
theorem num_l0 (b : List Int) (hb : ∀ x ∈ b, 0 ≤ x ∧ x < 256) (hl : b.length ≤ 1000000) : ∀ (d k i : Nat) (a : Int), i + d = b.length → d < k → 0 ≤ a → a ≤ 9223372036854775807 → oid_number.l0 k a b (b.length : Int) (i : Int) = some (match numP a (decide (i = 0)) (b.drop i) with | none => (0, 0) | some p => (p.1, ((i + p.2 : Nat) : Int))) := by
  intro d
  induction d with
  | zero =>
    intro k i a hi hk h0 h1
    obtain ⟨k, rfl⟩ : ∃ m, k = m + 1 := ⟨k - 1, by omega⟩
    rw [oid_number.l0, if_neg (by omega), List.drop_eq_nil_of_le (by omega), numP]
  | succ d ih =>
    intro k i a hi hk h0 h1
    obtain ⟨k, rfl⟩ : ∃ m, k = m + 1 := ⟨k - 1, by omega⟩
    have hil : i < b.length := by omega
    have hc := hb _ (List.getElem_mem hil)
    rw [oid_number.l0, if_pos (by omega), if_pos (by omega), if_pos (by omega), rd_nat b i hil, and127b _ hc.1 hc.2, w64 (x := b[i] % 128) (by omega) (by omega), List.drop_eq_getElem_cons hil, numP, w64_nat hil (by omega)]
    have key : ∀ (P : Prop) [Decidable P], (P ↔ ((decide (i = 0) = true ∧ b[i] = 128) ∨ a > 72057594037927935)) → (if P then some ((0 : Int), (0 : Int)) else if b[i] < 128 then some (Go.bits .or .i64 (wrap64 (a * 128)) (b[i] % 128), ((i + 1 : Nat) : Int)) else oid_number.l0 k (Go.bits .or .i64 (wrap64 (a * 128)) (b[i] % 128)) b (b.length : Int) ((i + 1 : Nat) : Int)) = some (match (if (decide (i = 0) = true ∧ b[i] = 128) ∨ a > 72057594037927935 then none else if b[i] < 128 then some (a * 128 + b[i] % 128, 1) else (numP (a * 128 + b[i] % 128) false (b.drop (i + 1))).map (fun p => (p.1, p.2 + 1))) with | none => (0, 0) | some p => (p.1, ((i + p.2 : Nat) : Int))) := by
      intro P _ hP
      by_cases q : P
      · rw [if_pos q, if_pos (hP.1 q)]
      · rw [if_neg q, if_neg (fun h => q (hP.2 h))]
        have ha : a ≤ 72057594037927935 := by
          rcases Int.lt_or_le 72057594037927935 a with q2 | q2
          · exact absurd (hP.2 (.inr q2)) q
          · exact q2
        rw [w64 (x := a * 128) (by omega) (by omega), or7 a _ h0 ha (by omega) (by omega)]
        by_cases q2 : b[i] < 128
        · rw [if_pos q2, if_pos q2]
        · rw [if_neg q2, if_neg q2, ih k (i + 1) _ (by omega) (by omega) (by omega) (by omega), decide_eq_false (show ¬ i + 1 = 0 by omega)]
          cases numP (a * 128 + b[i] % 128) false (b.drop (i + 1)) with
          | none => rfl
          | some p =>
            simp only [Option.map_some, Option.some.injEq, Prod.mk.injEq, true_and]
            omega
    by_cases hi0 : (i : Int) = 0
    · rw [if_pos hi0]
      have hi1 : i = 0 := by omega
      by_cases q : b[i] = 128
      · rw [if_pos q]
        exact (key (b[i] = 128) ⟨fun h => .inl ⟨decide_eq_true hi1, h⟩, fun _ => q⟩ ▸ (by rw [if_pos q]))
      · rw [if_neg q]
        exact key (a > 72057594037927935) ⟨fun h => .inr h, fun h => h.elim (fun h => absurd h.2 q) id⟩
    · rw [if_neg hi0]
      exact key (a > 72057594037927935) ⟨fun h => .inr h, fun h => h.elim (fun h => absurd (of_decide_eq_true h.1) (by omega)) id⟩
theorem number_f (b : List Int) (hb : ∀ x ∈ b, 0 ≤ x ∧ x < 256) (hl : b.length ≤ 1000000) (k : Nat) (hk : b.length < k) : oid_number.f k b = some (match numP 0 true b with | none => (0, 0) | some p => (p.1, (p.2 : Int))) := by
  unfold oid_number.f
  have := num_l0 b hb hl b.length k 0 0 (by omega) hk (by omega) (by omega)
  rw [List.drop_zero, decide_eq_true rfl] at this
  simpa using this
theorem read_l0 : ∀ (d k : Nat) (b l : List Int), (∀ x ∈ b, 0 ≤ x ∧ x < 256) → b.length < d → b.length ≤ 1000000 → l.length ≤ 100 → 1000000 + d < k → oid_Read.l0 k b l = some (readP d b l) := by
  intro d
  induction d with
  | zero => intro k b l hb hd; omega
  | succ d ih =>
    intro k b l hb hd hl hl2 hk
    obtain ⟨k, rfl⟩ : ∃ m, k = m + 1 := ⟨k - 1, by omega⟩
    rw [oid_Read.l0, readP]
    have hend : ((oid_Check.f l).bind fun t => if t = 0 then some (l, (0 : Int)) else some (([] : List Int), t)) = some (fin l) := by
      rw [check_f, Option.bind_some]
      by_cases h : OkL l
      · rw [if_pos h, if_pos rfl, fin_ok h]
      · rw [if_neg h, if_neg (by decide), fin_no h]
    by_cases h1 : (b.length : Int) > 0
    · have hne : b ≠ [] := fun e => by rw [e] at h1; simp at h1
      rw [if_pos h1]
      by_cases h2 : (l.length : Int) ≤ 40
      · rw [if_pos h2, if_neg (by rintro (q | q); exact hne q; omega), number_f b hb hl k (by omega), Option.bind_some]
        cases hp : numP 0 true b with
        | none =>
          dsimp only
          rw [if_pos rfl]
        | some p =>
          obtain ⟨n, u⟩ := p
          obtain ⟨n0, n1, u0, u1, _⟩ := numP_enc7 b hb n u hp
          have hdl : (b.drop u).length < d := by rw [List.length_drop]; omega
          have hdl2 : (b.drop u).length ≤ 1000000 := by rw [List.length_drop]; omega
          dsimp only
          rw [if_neg (by omega), Int.toNat_natCast]
          by_cases h3 : (l.length : Int) = 0
          · have hnil : l = [] := List.eq_nil_of_length_eq_zero (by omega)
            have e1 : wrap64 (Int.tdiv n 40) = n / 40 := by rw [tdiv_nn n0, w64 (by omega) (by omega)]
            have e2 : mn (n / 40) 2 ≤ 2 ∧ 0 ≤ mn (n / 40) 2 ∧ 40 * mn (n / 40) 2 ≤ n := by unfold mn; split <;> omega
            have e3 : wrap64 (n - wrap64 (40 * mn (wrap64 (Int.tdiv n 40)) 2)) = n - 40 * mn (n / 40) 2 := by
              rw [e1, w64 (x := 40 * mn (n / 40) 2) (by omega) (by omega), w64 (by omega) (by omega)]
            rw [if_pos h3, if_pos hnil, Option.bind_some, e3, e1, if_pos (by rw [hnil]; simp), if_pos (by omega), if_pos (by omega), hnil, List.nil_append]
            exact ih k _ _ (drop_bytes hb u) hdl hdl2 (by simp) (by omega)
          · have hnil : l ≠ [] := fun e => h3 (by rw [e]; rfl)
            rw [if_neg h3, if_neg hnil, if_pos (by omega), if_pos (by omega), if_pos (by omega)]
            exact ih k _ _ (drop_bytes hb u) hdl hdl2 (by rw [List.length_append, List.length_singleton]; omega) (by omega)
      · rw [if_neg h2, if_pos (.inr (by omega)), hend]
    · have hnil : b = [] := List.eq_nil_of_length_eq_zero (by omega)
      rw [if_neg h1, if_pos (.inl hnil), hend]
theorem Read_f (k : Nat) (b : List Int) (hb : ∀ x ∈ b, 0 ≤ x ∧ x < 256) (hl : b.length ≤ 900000) (hk : 3000000 ≤ k) : oid_Read.f k b = some (readP (b.length + 1) b []) := by
  unfold oid_Read.f
  exact read_l0 (b.length + 1) k b [] hb (by omega) (by omega) (by simp) (by omega)
theorem cont_l0 (r : List Int) (hr : ∀ x ∈ r, 0 ≤ x ∧ x ≤ 9223372036854775807) (hl : r.length ≤ 100) : ∀ (d k i : Nat) (acc : List Int), i + d = r.length → d + 100 < k → acc.length + 9 * d ≤ 2000 → oid_Content.l0 k acc r (r.length : Int) (i : Int) = some (acc ++ (r.drop i).flatMap enc7, 0) := by
  intro d
  induction d with
  | zero =>
    intro k i acc hi hk ha
    obtain ⟨k, rfl⟩ : ∃ m, k = m + 1 := ⟨k - 1, by omega⟩
    rw [oid_Content.l0, if_neg (by omega), List.drop_eq_nil_of_le (by omega)]
    simp
  | succ d ih =>
    intro k i acc hi hk ha
    obtain ⟨k, rfl⟩ : ∃ m, k = m + 1 := ⟨k - 1, by omega⟩
    have hil : i < r.length := by omega
    have hc := hr _ (List.getElem_mem hil)
    have he := enc7_len _ hc.1 hc.2
    rw [oid_Content.l0, if_pos (by omega), if_pos (by omega), if_pos (by omega), rd_nat r i hil, sevens_f k (by omega) _ hc.1 hc.2, Option.bind_some, if_pos (by omega), w64_nat hil (by omega), ih k (i + 1) _ (by omega) (by omega) (by rw [List.length_append]; omega), List.drop_eq_getElem_cons hil, List.flatMap_cons, List.append_assoc]
theorem Content_no (k : Nat) (l : List Int) (h : ¬ OkL l) : oid_Content.f k l = some ([], 8) := by
  unfold oid_Content.f
  rw [check_f, if_neg h, Option.bind_some, if_neg (by decide)]
theorem Content_f (k : Nat) (hk : 1000 ≤ k) (l : List Int) (h : OkL l) (hb : ∀ x ∈ l, x ≤ 9223372036854775807) : oid_Content.f k l = some (contentL l, 0) := by
  unfold oid_Content.f
  rw [check_f, if_pos h, Option.bind_some, if_pos rfl]
  match l, h with
  | [], h => exact absurd h.1 (by simp)
  | [a], h => exact absurd h.1 (by simp)
  | a :: b :: r, h =>
    obtain ⟨q1, q2, q3, q4, q5, q6⟩ := h
    replace q4 : a ≤ 2 := q4
    replace q6 : b ≤ 9223372036854775727 := q6
    have a0 := q3 a List.mem_cons_self
    have b0 := q3 b (by simp)
    have e0 : rd (a :: b :: r) 0 = a := rfl
    have e1 : rd (a :: b :: r) 1 = b := rfl
    have he := enc7_len (40 * a + b) (by omega) (by omega)
    have hr2 : r.length ≤ 38 := by simp at q2; omega
    have hd : (a :: b :: r).drop 2 = r := rfl
    have h0 := cont_l0 r (fun x hx => ⟨q3 x (by simp [hx]), hb x (by simp [hx])⟩) (by omega) r.length k 0 (enc7 (40 * a + b)) (by omega) (by omega) (by omega)
    have hz : ((0 : Nat) : Int) = 0 := rfl
    rw [hz] at h0
    rw [if_pos (by simp <;> omega), if_pos (by simp <;> omega), e0, e1, w64 (x := 40 * a) (by omega) (by omega), w64 (by omega) (by omega), sevens_f k (by omega) _ (by omega) (by omega), Option.bind_some, if_pos (by simp <;> omega), hd, h0, List.drop_zero]
    rfl
theorem text_l0 (l : List Int) (hr : ∀ x ∈ l, -9223372036854775808 ≤ x ∧ x ≤ 9223372036854775807) (hl : l.length ≤ 100) : ∀ (d k i : Nat) (acc : List ByteArray), i + d = l.length → d < k → acc.length = i → acc.map (·.data.toList) = (l.take i).map Lib.itoa → oid_Text.l0 k acc l (l.length : Int) (i : Int) = some (⟨(textC l).toArray⟩, 0) := by
  intro d
  induction d with
  | zero =>
    intro k i acc hi hk ha hm
    obtain ⟨k, rfl⟩ : ∃ m, k = m + 1 := ⟨k - 1, by omega⟩
    rw [List.take_of_length_le (by omega)] at hm
    have hj : strings_Join.f acc (⟨#[46]⟩ : ByteArray) = some ⟨(textC l).toArray⟩ := by
      show Go.Proofs.YtdnclldebkpkfaaDoor.Oid.joinF acc ⟨#[46]⟩ = _
      unfold Go.Proofs.YtdnclldebkpkfaaDoor.Oid.joinF
      rw [hm]
      have := text_len l hr
      unfold textC at this
      rw [if_pos ⟨by omega, show (Lib.join (l.map Lib.itoa) [46]).length ≤ 140737488355328 from by omega⟩]
      rfl
    rw [oid_Text.l0, if_neg (by omega), hj, Option.bind_some]
  | succ d ih =>
    intro k i acc hi hk ha hm
    obtain ⟨k, rfl⟩ : ∃ m, k = m + 1 := ⟨k - 1, by omega⟩
    have hil : i < l.length := by omega
    have hit : strconv_Itoa.f l[i] = some ⟨(Lib.itoa l[i]).toArray⟩ := by
      show Go.Proofs.YtdnclldebkpkfaaDoor.Oid.itoaF l[i] = _
      unfold Go.Proofs.YtdnclldebkpkfaaDoor.Oid.itoaF
      rw [if_pos (hr _ (List.getElem_mem hil))]
    rw [oid_Text.l0, if_pos (by omega), if_pos (by omega), if_pos (by omega), rd_nat l i hil, hit, Option.bind_some, if_pos (by omega), w64_nat hil (by omega)]
    exact ih k (i + 1) _ (by omega) (by omega) (by rw [List.length_append, List.length_singleton]; omega) (by
      rw [List.map_append, hm, ← List.take_append_getElem hil, List.map_append]
      rfl)
theorem Text_no (k : Nat) (l : List Int) (h : ¬ OkL l) : oid_Text.f k l = some (⟨#[]⟩, 8) := by
  unfold oid_Text.f
  rw [check_f, if_neg h, Option.bind_some, if_neg (by decide)]
theorem Text_f (k : Nat) (hk : 200 ≤ k) (l : List Int) (h : OkL l) (hb : ∀ x ∈ l, x ≤ 9223372036854775807) : oid_Text.f k l = some (⟨(textC l).toArray⟩, 0) := by
  unfold oid_Text.f
  rw [check_f, if_pos h, Option.bind_some, if_pos rfl]
  have := h.2.1
  exact text_l0 l (fun x hx => ⟨by have := h.2.2.1 x hx; omega, hb x hx⟩) (by omega) l.length k 0 [] (by omega) (by omega) rfl rfl
theorem Parse_f (s : ByteArray) (h : s.size < 4294967281) : oid_Parse.f s = some (parseS s.data.toList) := parseF_S s h
theorem dd (n : Nat) (h : n < 10) : Lib.decDigits n = [UInt8.ofNat (48 + n)] := Lib.decDigits_one h
theorem text_2543 : textC [2, 5, 4, 3] = [50, 46, 53, 46, 52, 46, 51] := by
  unfold textC
  simp only [List.map_cons, List.map_nil]
  rw [itoa_nn 2 (by decide), itoa_nn 5 (by decide), itoa_nn 4 (by decide), itoa_nn 3 (by decide), show (2 : Int).toNat = 2 from rfl, show (5 : Int).toNat = 5 from rfl, show (4 : Int).toNat = 4 from rfl, show (3 : Int).toNat = 3 from rfl, dd 2 (by decide), dd 5 (by decide), dd 4 (by decide), dd 3 (by decide)]
  decide
theorem text_12840 : textC [1, 2, 840] = [49, 46, 50, 46, 56, 52, 48] := by
  have e : Lib.decDigits 840 = [56, 52, 48] := by
    rw [Lib.decDigits, dif_neg (by decide), Lib.decDigits_two (by decide) (by decide)]
    decide
  unfold textC
  simp only [List.map_cons, List.map_nil]
  rw [itoa_nn 1 (by decide), itoa_nn 2 (by decide), itoa_nn 840 (by decide), show (1 : Int).toNat = 1 from rfl, show (2 : Int).toNat = 2 from rfl, show (840 : Int).toNat = 840 from rfl, dd 1 (by decide), dd 2 (by decide), e]
  decide
theorem wakes_true (k : Nat) (hk : 3000000 ≤ k) : sobriquetlaw03_wakes.f k = some true := by
  have ok1 : OkL [2, 5, 4, 3] := by decide
  have ok2 : OkL [1, 2, 840] := by decide
  have hc := Content_f k (by omega) [2, 5, 4, 3] ok1 (by decide)
  have hlen : (contentL [2, 5, 4, 3]).length = 3 := by
    unfold contentL enc7 contBE
    simp [contLE_nil]
  obtain ⟨cb, _⟩ := content_bytes [2, 5, 4, 3] ok1 (by decide)
  have hr := Read_f k (contentL [2, 5, 4, 3]) cb (by omega) hk
  rw [read_enc [2, 5, 4, 3] ok1 (by decide) _ (by rw [hlen]; decide)] at hr
  have ht := Text_f k (by omega) [2, 5, 4, 3] ok1 (by decide)
  have hp := Parse_f (⟨#[49, 46, 50, 46, 56, 52, 48]⟩ : ByteArray) (by decide)
  have ep : parseS (⟨#[49, 46, 50, 46, 56, 52, 48]⟩ : ByteArray).data.toList = ([1, 2, 840], 0) := by
    have := parse_text [1, 2, 840] ok2 (by decide)
    rw [text_12840] at this
    exact this
  rw [ep] at hp
  unfold sobriquetlaw03_wakes.f
  rw [hc, Option.bind_some]
  dsimp only
  rw [hr, Option.bind_some]
  dsimp only
  rw [ht, Option.bind_some]
  dsimp only
  rw [hp, Option.bind_some]
  dsimp only
  have hin : sobriquetkeep_Ints.f k [1, 2, 840] [1, 2, 840] = some true := by
    rw [Ints_f _ _ k (by decide) (by simp; omega), decide_eq_true rfl]
  have hbad : oid_Check.f [3, 1] = some 8 := by
    rw [check_f, if_neg (by decide)]
  rw [if_pos rfl, if_pos rfl, if_pos rfl, if_pos rfl, hlen, if_pos (by decide), text_2543, if_pos (by rw [Lib.toList_data]), hin, Option.bind_some, if_pos rfl, hbad, Option.bind_some]
  rfl

/-! ### The page's: right or not; read -/
theorem in_f (a b c : Int) : sobriquetref01_in.f a b c = some (decide (b ≤ a ∧ a ≤ c)) := by
  unfold sobriquetref01_in.f
  by_cases h : a ≥ b
  · rw [if_pos h]
    congr 1
    exact dec_iff _ _ ⟨fun q => ⟨h, q⟩, fun q => q.2⟩
  · rw [if_neg h, dec_f _ (fun q => h q.1)]
theorem roid_l0 (l : List Int) (hm : l.length ≤ 1000) : ∀ (d k i : Nat), i + d = l.length → d < k → sobriquetref01_Oid.l0 k l (i : Int) = some (decide (∀ x ∈ l.drop i, 0 ≤ x)) := by
  intro d
  induction d with
  | zero =>
    intro k i hi hk
    obtain ⟨k, rfl⟩ : ∃ m, k = m + 1 := ⟨k - 1, by omega⟩
    rw [sobriquetref01_Oid.l0, if_neg (by omega), List.drop_eq_nil_of_le (by omega)]
    simp
  | succ d ih =>
    intro k i hi hk
    obtain ⟨k, rfl⟩ : ∃ m, k = m + 1 := ⟨k - 1, by omega⟩
    have hil : i < l.length := by omega
    rw [sobriquetref01_Oid.l0, if_pos (by omega), if_pos (by omega), rd_nat l i hil, List.drop_eq_getElem_cons hil]
    by_cases q : l[i] < 0
    · rw [if_pos q, dec_f _ (fun h => by have := h l[i] List.mem_cons_self; omega)]
    · rw [if_neg q, w64_nat hil (by omega), ih k (i + 1) (by omega) (by omega)]
      congr 1
      refine dec_iff _ _ ⟨fun h x hx => ?_, fun h x hx => h x (List.mem_cons_of_mem _ hx)⟩
      rcases List.mem_cons.1 hx with rfl | hx
      · omega
      · exact h x hx
theorem roid_long (k : Nat) (l : List Int) (h : ¬ ((2 : Int) ≤ (l.length : Int) ∧ (l.length : Int) ≤ 40)) : sobriquetref01_Oid.f (k + 1) l = some false := by
  unfold sobriquetref01_Oid.f
  rw [in_f, Option.bind_some, dec_f _ h, if_neg (by decide)]
  first
    | rw [sobriquetref01_Oid.j0, if_pos rfl]
    | rfl
theorem roid_f (k : Nat) (hk : 2000 ≤ k) (l : List Int) : sobriquetref01_Oid.f k l = some (decide (OkL l)) := by
  obtain ⟨k, rfl⟩ : ∃ m, k = m + 1 := ⟨k - 1, by omega⟩
  by_cases h0 : (2 : Int) ≤ (l.length : Int) ∧ (l.length : Int) ≤ 40
  case neg => rw [roid_long k l h0, dec_f _ (fun q => h0 ⟨by have := q.1; omega, by have := q.2.1; omega⟩)]
  match l, h0 with
  | [], h0 => exact absurd h0.1 (by decide)
  | [a], h0 => exact absurd h0.1 (by simp)
  | a :: b :: r, h0 =>
    have e0 : rd (a :: b :: r) 0 = a := rfl
    have e1 : rd (a :: b :: r) 1 = b := rfl
    have hl := roid_l0 (a :: b :: r) (by omega) (r.length) k 2 (by simp; omega) (by simp at h0; omega)
    have h2 : ((2 : Nat) : Int) = 2 := rfl
    have hdr : (a :: b :: r).drop 2 = r := rfl
    rw [h2, hdr] at hl
    have j1 : ∀ (P : Prop) [Decidable P], (P ↔ ¬ OkL (a :: b :: r) ∨ False) → True := fun _ _ _ => trivial
    have jt : sobriquetref01_Oid.j0 (k + 1) (a :: b :: r) true = some false := by rw [sobriquetref01_Oid.j0, if_pos rfl]
    have jf : sobriquetref01_Oid.j0 (k + 1) (a :: b :: r) false = some (decide (∀ x ∈ r, 0 ≤ x)) := by rw [sobriquetref01_Oid.j0, if_neg (by decide), hl]
    unfold sobriquetref01_Oid.f
    rw [in_f, Option.bind_some, dec_t _ h0, if_pos rfl, if_pos (by omega), e0, e1, in_f, Option.bind_some]
    have hok : OkL (a :: b :: r) ↔ (0 ≤ a ∧ a ≤ 2) ∧ (a < 2 → 0 ≤ b ∧ b ≤ 39) ∧ (0 ≤ b ∧ b ≤ 9223372036854775727) ∧ ∀ x ∈ r, 0 ≤ x := by
      constructor
      · rintro ⟨q1, q2, q3, q4, q5, q6⟩
        replace q4 : a ≤ 2 := q4
        replace q5 : a < 2 → b < 40 := q5
        replace q6 : b ≤ 9223372036854775727 := q6
        have a0 := q3 a List.mem_cons_self
        have b0 := q3 b (by simp)
        exact ⟨⟨a0, q4⟩, fun h => ⟨b0, by have := q5 h; omega⟩, ⟨b0, q6⟩, fun x hx => q3 x (by simp [hx])⟩
      · rintro ⟨⟨a0, a1⟩, h1, ⟨b0, b1⟩, hr⟩
        refine ⟨by omega, by omega, fun x hx => ?_, a1, fun h => ?_, b1⟩
        · rcases List.mem_cons.1 hx with rfl | hx
          · exact a0
          · rcases List.mem_cons.1 hx with rfl | hx
            · exact b0
            · exact hr x hx
        · show b < 40
          have := h1 h
          omega
    by_cases g1 : 0 ≤ a ∧ a ≤ 2
    case neg => rw [dec_f _ g1, if_neg (by decide), jt, dec_f _ (fun q => g1 (hok.1 q).1)]
    rw [dec_t _ g1, if_pos rfl]
    have fin2 : (0 ≤ b ∧ b ≤ 9223372036854775727 → (a < 2 → 0 ≤ b ∧ b ≤ 39) → sobriquetref01_Oid.j0 (k + 1) (a :: b :: r) (!(decide (0 ≤ b ∧ b ≤ 9223372036854775727))) = some (decide (OkL (a :: b :: r)))) ∧ (¬ (0 ≤ b ∧ b ≤ 9223372036854775727) → sobriquetref01_Oid.j0 (k + 1) (a :: b :: r) (!(decide (0 ≤ b ∧ b ≤ 9223372036854775727))) = some (decide (OkL (a :: b :: r)))) := by
      constructor
      · intro q1 q2
        rw [dec_t _ q1, Bool.not_true, jf]
        congr 1
        exact dec_iff _ _ ⟨fun h => hok.2 ⟨g1, q2, q1, h⟩, fun h => (hok.1 h).2.2.2⟩
      · intro q1
        rw [dec_f _ q1, Bool.not_false, jt, dec_f _ (fun h => q1 (hok.1 h).2.2.1)]
    by_cases g2 : a < 2
    · rw [if_pos g2, if_pos (by omega), in_f, Option.bind_some]
      by_cases g3 : 0 ≤ b ∧ b ≤ 39
      · rw [dec_t _ g3, if_pos rfl, in_f, Option.bind_some]
        exact fin2.1 (by omega) (fun _ => g3)
      · rw [dec_f _ g3, if_neg (by decide), jt, dec_f _ (fun q => g3 ((hok.1 q).2.1 g2))]
    · rw [if_neg g2, if_pos (by omega), in_f, Option.bind_some]
      by_cases g4 : 0 ≤ b ∧ b ≤ 9223372036854775727
      · exact fin2.1 g4 (fun h => absurd h g2)
      · exact fin2.2 g4
/-! ### The page's reader -/
def res (p : List Int × Int) : List Int × Bool := (p.1, p.2 == 0)
def upd (l : List Int) (n : Int) : List Int := if l = [] then two n else l ++ [n]
theorem numP_pos : ∀ (b : List Int) (a : Int) (f : Bool) (n : Int) (u : Nat), numP a f b = some (n, u) → 1 ≤ u ∧ u ≤ b.length
  | [], a, f, n, u, h => by cases h
  | c :: r, a, f, n, u, h => by
    rw [numP] at h
    split at h
    · cases h
    · split at h
      · obtain ⟨_, rfl⟩ := Prod.mk.inj (Option.some.inj h)
        exact ⟨Nat.le_refl _, by simp⟩
      · obtain ⟨⟨n', u'⟩, h3, h4⟩ := Option.map_eq_some_iff.1 h
        obtain ⟨_, rfl⟩ := Prod.mk.inj h4
        have := numP_pos r _ _ n' u' h3
        rw [List.length_cons]
        omega
theorem readP_fuel : ∀ (d d' : Nat) (b l : List Int), b.length < d → b.length < d' → readP d b l = readP d' b l := by
  intro d
  induction d with
  | zero => intro d' b l h; omega
  | succ d ih =>
    intro d' b l h h'
    obtain ⟨d', rfl⟩ : ∃ m, d' = m + 1 := ⟨d' - 1, by omega⟩
    rw [readP, readP]
    by_cases q : b = [] ∨ 40 < l.length
    · rw [if_pos q, if_pos q]
    · rw [if_neg q, if_neg q]
      cases hp : numP 0 true b with
      | none => rfl
      | some p =>
        obtain ⟨n, u⟩ := p
        have := numP_pos _ _ _ _ _ hp
        dsimp only
        exact ih d' _ _ (by rw [List.length_drop]; omega) (by rw [List.length_drop]; omega)
def readQ (b l : List Int) : List Int × Int := readP (b.length + 1) b l
theorem readQ_eq (b l : List Int) : readQ b l = if b = [] ∨ 40 < l.length then fin l else match numP 0 true b with | none => ([], 8) | some p => readQ (b.drop p.2) (upd l p.1) := by
  unfold readQ
  rw [readP]
  by_cases q : b = [] ∨ 40 < l.length
  · rw [if_pos q, if_pos q]
  · rw [if_neg q, if_neg q]
    cases hp : numP 0 true b with
    | none => rfl
    | some p =>
      obtain ⟨n, u⟩ := p
      have := numP_pos _ _ _ _ _ hp
      dsimp only
      exact readP_fuel _ _ _ _ (by rw [List.length_drop]; omega) (by omega)
/-- At a number's beginning (no), or within one (yes). -/
def midR (o : Bool) (n : Int) (t l : List Int) : List Int × Int :=
  if t = [] then (if o = true then ([], 8) else fin l) else match numP n (!o) t with | none => ([], 8) | some p => readQ (t.drop p.2) (upd l p.1)
theorem midR_start (t l : List Int) (h : l.length ≤ 40) : midR false 0 t l = readQ t l := by
  unfold midR
  rw [readQ_eq]
  by_cases q : t = []
  · rw [if_pos q, if_neg (show ¬ (false = true) by decide), if_pos (.inl q)]
  · rw [if_neg q, if_neg (by rintro (h2 | h2); exact q h2; omega)]
    rfl
theorem readQ_long (t l : List Int) (h : 40 < l.length) : readQ t l = ([], 8) := by
  rw [readQ_eq, if_pos (.inr h), fin_no (fun q => by have := q.2.1; omega)]
def tailR (k : Nat) (x0 x4 : List Int) (x5 x7 : Int) : Option (List Int × Bool) :=
  if (rd x0 x7) ≥ 128 then (sobriquetref01_ReadOid.l0 k x0 x4 (wrap64 ((wrap64 (x5 * 128)) + (Int.tmod (wrap64 (rd x0 x7)) 128))) (decide ((rd x0 x7) ≥ 128)) (wrap64 (x7 + 1))) else (if (x4.length : Int) = 0 then ((some (([mn (wrap64 (Int.tdiv (wrap64 ((wrap64 (x5 * 128)) + (Int.tmod (wrap64 (rd x0 x7)) 128))) 40)) 2, wrap64 ((wrap64 ((wrap64 (x5 * 128)) + (Int.tmod (wrap64 (rd x0 x7)) 128))) - (wrap64 (40 * (mn (wrap64 (Int.tdiv (wrap64 ((wrap64 (x5 * 128)) + (Int.tmod (wrap64 (rd x0 x7)) 128))) 40)) 2))))] : List Int) : List Int)).bind fun y207 => (if x4.length + y207.length < 17592186044416 then ((some (x4 ++ y207 : List Int)).bind fun y210 => (if (y210.length : Int) > 40 then (some (([] : List Int), false)) else (sobriquetref01_ReadOid.l0 k x0 y210 0 (decide ((rd x0 x7) ≥ 128)) (wrap64 (x7 + 1))))) else (none))) else (if x4.length < 17592186044416 then ((some (x4 ++ [wrap64 ((wrap64 (x5 * 128)) + (Int.tmod (wrap64 (rd x0 x7)) 128))] : List Int)).bind fun y213 => (if (y213.length : Int) > 40 then (some (([] : List Int), false)) else (sobriquetref01_ReadOid.l0 k x0 y213 0 (decide ((rd x0 x7) ≥ 128)) (wrap64 (x7 + 1))))) else (none)))
theorem rread_l0 (b : List Int) (hb : ∀ x ∈ b, 0 ≤ x ∧ x < 256) (hl : b.length ≤ 1000000) : ∀ (d k i : Nat) (o : Bool) (n : Int) (l : List Int), i + d = b.length → 3000 + d < k → 0 ≤ n → n ≤ 9223372036854775807 → l.length ≤ 40 → (o = false → n = 0) → sobriquetref01_ReadOid.l0 k b l n o (i : Int) = some (res (midR o n (b.drop i) l)) := by
  intro d
  induction d with
  | zero =>
    intro k i o n l hi hk n0 n1 hll ho
    obtain ⟨k, rfl⟩ : ∃ m, k = m + 1 := ⟨k - 1, by omega⟩
    rw [sobriquetref01_ReadOid.l0, if_neg (by omega), List.drop_eq_nil_of_le (by omega)]
    unfold midR
    rw [if_pos rfl]
    cases o with
    | true => rfl
    | false =>
      rw [if_neg (by decide), if_neg (by decide), roid_f k (by omega), Option.bind_some]
      by_cases h : OkL l
      · rw [dec_t _ h, if_pos rfl, fin_ok h]; rfl
      · rw [dec_f _ h, if_neg (by decide), fin_no h]; rfl
  | succ d ih =>
    intro k i o n l hi hk n0 n1 hll ho
    obtain ⟨k, rfl⟩ : ∃ m, k = m + 1 := ⟨k - 1, by omega⟩
    have hil : i < b.length := by omega
    obtain ⟨c0, c1⟩ := hb _ (List.getElem_mem hil)
    have hrd := rd_nat b i hil
    have hw : wrap64 (b[i]) = b[i] := w64 (by omega) (by omega)
    have htm : Int.tmod (wrap64 (rd b (i : Int))) 128 = b[i] % 128 := by rw [hrd, hw, tmod_nn c0]
    have hdr := List.drop_eq_getElem_cons hil
    have hne : ¬ b.drop i = [] := by rw [hdr]; exact List.cons_ne_nil _ _
    have hfail : (numP n (!o) (b.drop i) = none) → some (([] : List Int), false) = some (res (midR o n (b.drop i) l)) := by
      intro hp
      unfold midR
      rw [if_neg hne, hp]
      rfl
    have hgo : ¬ (((!o) = true ∧ b[i] = 128) ∨ n > 72057594037927935) → tailR k b l n (i : Int) = some (res (midR o n (b.drop i) l)) := by
      intro hq
      have hn : n ≤ 72057594037927935 := by
        rcases Int.lt_or_le 72057594037927935 n with q2 | q2
        · exact absurd (.inr q2) hq
        · exact q2
      have hnum : numP n (!o) (b.drop i) = if b[i] < 128 then some (n * 128 + b[i] % 128, 1) else (numP (n * 128 + b[i] % 128) false (b.drop (i + 1))).map (fun p => (p.1, p.2 + 1)) := by
        rw [hdr, numP, if_neg hq]
      obtain ⟨m, hm⟩ : ∃ m, m = n * 128 + b[i] % 128 := ⟨_, rfl⟩
      have em : wrap64 (wrap64 (n * 128) + Int.tmod (wrap64 (rd b (i : Int))) 128) = m := by
        rw [htm, w64 (x := n * 128) (by omega) (by omega), w64 (by omega) (by omega), hm]
      unfold tailR
      rw [em, hrd, w64_nat hil (by omega)]
      rw [← hm] at hnum
      by_cases h128 : b[i] ≥ 128
      · rw [if_pos h128, dec_t _ h128, ih k (i + 1) true m l (by omega) (by omega) (by omega) (by omega) hll (fun e => by cases e)]
        rw [if_neg (by omega)] at hnum
        unfold midR
        rw [if_neg hne, hnum]
        by_cases ht : b.drop (i + 1) = []
        · rw [if_pos ht, if_pos rfl, ht]
          rfl
        · rw [if_neg ht, Bool.not_true]
          cases numP m false (b.drop (i + 1)) with
          | none => rfl
          | some p =>
            rw [Option.map_some]
            dsimp only
            rw [List.drop_drop, List.drop_drop, show i + 1 + p.2 = i + (p.2 + 1) by omega]
      · rw [if_neg h128]
        rw [if_pos (by omega)] at hnum
        have hmid : midR o n (b.drop i) l = readQ (b.drop (i + 1)) (upd l m) := by
          unfold midR
          rw [if_neg hne, hnum]
          dsimp only
          rw [List.drop_drop]
        have hnext : ∀ l', l' = upd l m → (if (l'.length : Int) > 40 then some (([] : List Int), false) else sobriquetref01_ReadOid.l0 k b l' 0 (decide (b[i] ≥ 128)) ((i + 1 : Nat) : Int)) = some (res (midR o n (b.drop i) l)) := by
          intro l' e
          rw [hmid, ← e]
          by_cases h40 : (l'.length : Int) > 40
          · rw [if_pos h40, readQ_long _ _ (by omega)]
            rfl
          · rw [if_neg h40, dec_f _ h128, ih k (i + 1) false 0 l' (by omega) (by omega) (by omega) (by omega) (by omega) (fun _ => rfl), midR_start _ _ (by omega)]
        by_cases hz : (l.length : Int) = 0
        · have hnil : l = [] := List.eq_nil_of_length_eq_zero (by omega)
          have m0 : 0 ≤ m := by omega
          have m1 : m ≤ 9223372036854775807 := by omega
          have e1 : wrap64 (Int.tdiv m 40) = m / 40 := by rw [tdiv_nn m0, w64 (by omega) (by omega)]
          have e2 : mn (m / 40) 2 ≤ 2 ∧ 0 ≤ mn (m / 40) 2 ∧ 40 * mn (m / 40) 2 ≤ m := by unfold mn; split <;> omega
          have e3 : wrap64 (m - wrap64 (40 * mn (wrap64 (Int.tdiv m 40)) 2)) = m - 40 * mn (m / 40) 2 := by
            rw [e1, w64 (x := 40 * mn (m / 40) 2) (by omega) (by omega), w64 (by omega) (by omega)]
          rw [if_pos hz, Option.bind_some, e3, e1, if_pos (by rw [hnil]; simp), Option.bind_some]
          exact hnext _ (by unfold upd; rw [if_pos hnil, hnil]; rfl)
        · rw [if_neg hz, if_pos (by omega), Option.bind_some]
          exact hnext _ (by unfold upd; rw [if_neg (fun e => hz (by rw [e]; rfl))])
    rw [sobriquetref01_ReadOid.l0, if_pos (by omega)]
    have hg7 : ¬ (Int.tmod (wrap64 (rd b (i : Int))) 128 > 127) := by rw [htm]; omega
    cases o with
    | true =>
      rw [if_pos rfl]
      by_cases h1 : n > 72057594037927935
      · rw [if_pos h1]
        exact hfail (by rw [hdr, numP, if_pos (.inr h1)])
      · rw [if_neg h1]
        have hT := hgo (by rintro (⟨q, _⟩ | q); cases q; exact h1 q)
        by_cases h2 : n = 72057594037927935
        · rw [if_pos h2, if_pos (by omega), if_neg hg7]
          exact hT
        · rw [if_neg h2, if_pos (by omega)]
          exact hT
    | false =>
      rw [if_neg (by decide), if_pos (by omega)]
      by_cases h0 : rd b (i : Int) = 128
      · rw [if_pos h0]
        exact hfail (by rw [hdr, numP, if_pos (.inl ⟨rfl, by rw [← hrd]; exact h0⟩)])
      · rw [if_neg h0]
        have n00 := ho rfl
        have h1 : ¬ n > 72057594037927935 := by omega
        have hT := hgo (by
          rintro (⟨_, q⟩ | q)
          · exact h0 (by rw [hrd]; exact q)
          · exact h1 q)
        rw [if_neg h1]
        by_cases h2 : n = 72057594037927935
        · omega
        · rw [if_neg h2]
          exact hT
theorem RRead_f (k : Nat) (b : List Int) (hb : ∀ x ∈ b, 0 ≤ x ∧ x < 256) (hl : b.length ≤ 900000) (hk : 2000000 ≤ k) : sobriquetref01_ReadOid.f k b = some (res (readP (b.length + 1) b [])) := by
  unfold sobriquetref01_ReadOid.f
  have h := rread_l0 b hb (by omega) b.length k 0 false 0 [] (by omega) (by omega) (by omega) (by omega) (by simp) (fun _ => rfl)
  have e0 : ((0 : Nat) : Int) = 0 := rfl
  rw [e0, List.drop_zero, midR_start _ _ (by simp)] at h
  exact h

/-! ### The page's Parse -/
open Go.Proofs.YtdnclldebkpkfaaDoor.Oid (splitC splitC_ne split_join itoa_dot join_split digits_ne dig_nat)
abbrev St := Int × Int × Bool
def stepD (s : St) (c : UInt8) : Option St :=
  if (c.toNat : Int) - 48 < 0 ∨ (c.toNat : Int) - 48 > 9 ∨ s.2.2 = true ∨ s.1 > 922337203685477580 ∨ (s.1 = 922337203685477580 ∧ (c.toNat : Int) - 48 > 7) then none
  else some (10 * s.1 + ((c.toNat : Int) - 48), s.2.1 + 1, decide (s.2.1 = 0 ∧ (c.toNat : Int) - 48 = 0))
def scan : St → List UInt8 → Option St
  | s, [] => some s
  | s, c :: r => (stepD s c).bind fun s' => scan s' r
def refL : List (List UInt8) → List Int → List Int × Int
  | [], l => fin l
  | w :: r, l => match scan (0, 0, false) w with
    | none => ([], 8)
    | some s => if s.2.1 = 0 ∨ 40 ≤ l.length then ([], 8) else refL r (l ++ [s.1])
def refS (s : St) : List (List UInt8) → List Int → List Int × Int
  | [], l => ([], 8)
  | w :: r, l => match scan s w with
    | none => ([], 8)
    | some s' => if s'.2.1 = 0 ∨ 40 ≤ l.length then ([], 8) else refL r (l ++ [s'.1])
theorem refS_cons (s : St) (w : List UInt8) (r : List (List UInt8)) (l : List Int) : refS s (w :: r) l = match scan s w with | none => ([], 8) | some s' => if s'.2.1 = 0 ∨ 40 ≤ l.length then ([], 8) else refL r (l ++ [s'.1]) := rfl
theorem refL_S (ws : List (List UInt8)) (h : ws ≠ []) (l : List Int) : refL ws l = refS (0, 0, false) ws l := by
  cases ws with
  | nil => exact absurd rfl h
  | cons w r => rfl
theorem sizeL (s : ByteArray) : s.data.toList.length = s.size := Array.length_toList
theorem bt_nat (s : ByteArray) (i : Nat) (h : i < s.data.toList.length) : bt s (i : Int) = ((s.data.toList[i]).toNat : Int) := by
  have h2 : ((i : Int)).toNat < s.size := by rw [Int.toNat_natCast, ← sizeL]; exact h
  rw [← bt_at s (i : Int) h2]
  rfl
theorem rparse_l0 (s : ByteArray) (hs : s.size ≤ 100000) : ∀ (d k i : Nat) (n dg : Int) (z : Bool) (l : List Int), i + d = s.size → 4 * d + 3000 < k → 0 ≤ n → n ≤ 9223372036854775807 → 0 ≤ dg → dg ≤ (i : Int) → l.length ≤ 40 → sobriquetref01_ParseOid.l0 k s l n dg z (i : Int) = some (res (refS (n, dg, z) (splitC (s.data.toList.drop i)) l)) := by
  have hfinal : ∀ (k : Nat) (l : List Int), 2500 < k → sobriquetref01_ParseOid.l0 k s l 0 0 false ((s.size + 1 : Nat) : Int) = some (res (fin l)) := by
    intro k l hk
    obtain ⟨k, rfl⟩ : ∃ m, k = m + 1 := ⟨k - 1, by omega⟩
    rw [sobriquetref01_ParseOid.l0, if_neg (by omega), roid_f k (by omega), Option.bind_some]
    by_cases h : OkL l
    · rw [dec_t _ h, if_pos rfl, fin_ok h]; rfl
    · rw [dec_f _ h, if_neg (by decide), fin_no h]; rfl
  have hdot : ∀ (k i : Nat) (n dg : Int) (z : Bool) (l : List Int) (R : List Int → List Int × Int), i ≤ s.size → 2600 < k → l.length ≤ 40 → (∀ l', l'.length ≤ 40 → sobriquetref01_ParseOid.l0 (k - 2) s l' 0 0 false ((i + 1 : Nat) : Int) = some (res (R l'))) → sobriquetref01_ParseOid.j1 k s l n dg z (i : Int) true = some (res (if dg = 0 ∨ 40 ≤ l.length then ([], 8) else R (l ++ [n]))) := by
    intro k i n dg z l R hi hk hl hR
    obtain ⟨k, rfl⟩ : ∃ m, k = m + 2 := ⟨k - 2, by omega⟩
    rw [sobriquetref01_ParseOid.j1, if_pos rfl]
    by_cases h0 : dg = 0
    · rw [if_pos h0, sobriquetref01_ParseOid.j2, if_pos rfl, if_pos (.inl h0)]
      rfl
    · rw [if_neg h0, sobriquetref01_ParseOid.j2]
      by_cases h1 : (l.length : Int) ≥ 40
      · rw [dec_t _ h1, if_pos rfl, if_pos (.inr (by omega))]
        rfl
      · rw [dec_f _ h1, if_neg (by decide), if_pos (by omega), w64 (by omega) (by omega), if_neg (by rintro (q | q); exact h0 q; omega)]
        exact hR _ (by rw [List.length_append, List.length_singleton]; omega)
  intro d
  induction d with
  | zero =>
    intro k i n dg z l hi hk n0 n1 g0 g1 hl
    obtain ⟨k, rfl⟩ : ∃ m, k = m + 1 := ⟨k - 1, by omega⟩
    rw [sobriquetref01_ParseOid.l0, if_pos (by omega), if_pos (by omega), List.drop_eq_nil_of_le (by rw [sizeL]; omega), hdot k i n dg z l fin (by omega) (by omega) hl (fun l' _ => by
      rw [show i + 1 = s.size + 1 by omega]
      exact hfinal _ _ (by omega))]
    rfl
  | succ d ih =>
    intro k i n dg z l hi hk n0 n1 g0 g1 hl
    obtain ⟨k, rfl⟩ : ∃ m, k = m + 1 := ⟨k - 1, by omega⟩
    have hil : i < s.data.toList.length := by rw [sizeL]; omega
    have hb := bt_nat s i hil
    obtain ⟨c, hc⟩ : ∃ c, c = s.data.toList[i] := ⟨_, rfl⟩
    rw [← hc] at hb
    have hc255 : c.toNat < 256 := c.toNat_lt
    rw [sobriquetref01_ParseOid.l0, if_pos (by omega), if_neg (by omega), if_pos (by omega), if_pos (by omega), List.drop_eq_getElem_cons hil, ← hc, hb, splitC]
    by_cases h46 : c = 46
    · have e : (((c.toNat : Int)) == 46) = true := by rw [h46]; rfl
      rw [if_pos h46, e, hdot k i n dg z l (fun l' => refL (splitC (s.data.toList.drop (i + 1))) l') (by omega) (by omega) hl (fun l' hl' => by
        rw [ih (k - 2) (i + 1) 0 0 false l' (by omega) (by omega) (by omega) (by omega) (by omega) (by omega) hl', refL_S _ (splitC_ne _)])]
      rfl
    · have e : (((c.toNat : Int)) == 46) = false := by
        rw [beq_eq_false_iff_ne]
        intro q
        apply h46
        apply UInt8.toNat_inj.1
        show c.toNat = 46
        omega
      rw [if_neg h46, e]
      obtain ⟨k, rfl⟩ : ∃ m, k = m + 2 := ⟨k - 2, by omega⟩
      have ew : wrap64 (wrap64 (bt s (i : Int)) - 48) = (c.toNat : Int) - 48 := by
        rw [hb, w64 (x := (c.toNat : Int)) (by omega) (by omega), w64 (by omega) (by omega)]
      obtain ⟨dd, hdd⟩ : ∃ dd, dd = (c.toNat : Int) - 48 := ⟨_, rfl⟩
      have hsp : ∀ (r : Option (List Int × Bool)), (stepD (n, dg, z) c = none → r = some ([], false)) → (∀ st, stepD (n, dg, z) c = some st → r = some (res (refS st (splitC (s.data.toList.drop (i + 1))) l))) → r = some (res (refS (n, dg, z) (match splitC (s.data.toList.drop (i + 1)) with | [] => [[c]] | w :: ws => (c :: w) :: ws) l)) := by
        intro r h1 h2
        cases hw : splitC (s.data.toList.drop (i + 1)) with
        | nil => exact absurd hw (splitC_ne _)
        | cons w ws =>
          dsimp only
          cases hst : stepD (n, dg, z) c with
          | none =>
            have e : scan (n, dg, z) (c :: w) = (stepD (n, dg, z) c).bind fun s' => scan s' w := rfl
            rw [h1 hst, refS_cons, e, hst]
            rfl
          | some st =>
            have e : scan (n, dg, z) (c :: w) = (stepD (n, dg, z) c).bind fun s' => scan s' w := rfl
            rw [h2 st hst, hw, refS_cons, refS_cons, e, hst]
            rfl
      refine hsp _ (fun hn => ?_) (fun st hst => ?_)
      · -- it is none
        have hcond : dd < 0 ∨ dd > 9 ∨ z = true ∨ n > 922337203685477580 ∨ (n = 922337203685477580 ∧ dd > 7) := by
          unfold stepD at hn
          split at hn
          · rename_i q; rw [hdd]; exact q
          · cases hn
        rw [sobriquetref01_ParseOid.j1, if_neg (by decide), if_pos (by omega), if_pos (by omega), ew, ← hdd]
        have jt : sobriquetref01_ParseOid.j3 (k + 1) s l n dg (i : Int) dd true = some ([], false) := by rw [sobriquetref01_ParseOid.j3, if_pos rfl]
        by_cases a1 : dd < 0
        · rw [if_pos a1, jt]
        rw [if_neg a1]
        by_cases a2 : dd > 9
        · rw [if_pos a2, jt]
        rw [if_neg a2]
        by_cases a3 : z = true
        · rw [if_pos a3, jt]
        rw [if_neg a3]
        by_cases a4 : n > 922337203685477580
        · rw [if_pos a4, jt]
        rw [if_neg a4]
        have a5 : n = 922337203685477580 ∧ dd > 7 := by
          rcases hcond with q | q | q | q | q
          · exact absurd q a1
          · exact absurd q a2
          · exact absurd q a3
          · exact absurd q a4
          · exact q
        rw [if_pos a5.1, dec_t _ a5.2, jt]
      · have hcond : ¬ (dd < 0 ∨ dd > 9 ∨ z = true ∨ n > 922337203685477580 ∨ (n = 922337203685477580 ∧ dd > 7)) ∧ st = (10 * n + dd, dg + 1, decide (dg = 0 ∧ dd = 0)) := by
          unfold stepD at hst
          split at hst
          · cases hst
          · rename_i q
            rw [hdd]
            exact ⟨q, (Option.some.inj hst).symm⟩
        obtain ⟨q, rfl⟩ := hcond
        have b1 : 0 ≤ dd := by
          rcases Int.lt_or_le dd 0 with h | h
          · exact absurd (.inl h) q
          · exact h
        have b2 : dd ≤ 9 := by
          rcases Int.lt_or_le 9 dd with h | h
          · exact absurd (.inr (.inl h)) q
          · exact h
        have b3 : z = false := by
          cases z with
          | false => rfl
          | true => exact absurd (.inr (.inr (.inl rfl))) q
        have b4 : n ≤ 922337203685477580 := by
          rcases Int.lt_or_le 922337203685477580 n with h | h
          · exact absurd (.inr (.inr (.inr (.inl h)))) q
          · exact h
        have b5 : n = 922337203685477580 → dd ≤ 7 := fun e => by
          rcases Int.lt_or_le 7 dd with h | h
          · exact absurd (.inr (.inr (.inr (.inr ⟨e, h⟩)))) q
          · exact h
        have jf : sobriquetref01_ParseOid.j3 (k + 1) s l n dg (i : Int) dd false = some (res (refS (10 * n + dd, dg + 1, decide (dg = 0 ∧ dd = 0)) (splitC (s.data.toList.drop (i + 1))) l)) := by
          have hih := fun z' => ih k (i + 1) (10 * n + dd) (dg + 1) z' l (by omega) (by omega) (by omega) (by omega) (by omega) (by omega) hl
          have en : wrap64 (wrap64 (10 * n) + dd) = 10 * n + dd := by rw [w64 (x := 10 * n) (by omega) (by omega), w64 (by omega) (by omega)]
          have eg : wrap64 (dg + 1) = dg + 1 := w64 (by omega) (by omega)
          have ei : wrap64 ((i : Int) + 1) = ((i + 1 : Nat) : Int) := w64_nat (n := s.size) (by omega) (by omega)
          rw [sobriquetref01_ParseOid.j3, if_neg (by decide), en, eg, ei]
          by_cases g : dg = 0
          · rw [if_pos g, hih]
            by_cases g2 : dd = 0
            · rw [show (dd == 0) = true from by rw [g2]; rfl, dec_t _ ⟨g, g2⟩]
            · rw [show (dd == 0) = false from beq_eq_false_iff_ne.2 g2, dec_f _ (fun h => g2 h.2)]
          · rw [if_neg g, hih, dec_f _ (fun h => g h.1)]
        rw [sobriquetref01_ParseOid.j1, if_neg (by decide), if_pos (by omega), if_pos (by omega), ew, ← hdd, if_neg (by omega), if_neg (by omega), b3, if_neg (by decide), if_neg (by omega)]
        by_cases a5 : n = 922337203685477580
        · rw [if_pos a5, dec_f _ (by have := b5 a5; omega)]
          exact jf
        · rw [if_neg a5]
          exact jf
/-! ### It is the same -/
theorem scan_app : ∀ (xs ys : List UInt8) (s : St), scan s (xs ++ ys) = (scan s xs).bind fun s' => scan s' ys
  | [], ys, s => rfl
  | c :: r, ys, s => by
    rw [List.cons_append, scan, scan]
    cases stepD s c with
    | none => rfl
    | some s' => exact scan_app r ys s'
theorem step_dig (n dg : Int) (d : Nat) (hd : d < 10) (hn : n ≤ 922337203685477580) (h7 : n = 922337203685477580 → d ≤ 7) : stepD (n, dg, false) (UInt8.ofNat (48 + d)) = some (10 * n + (d : Int), dg + 1, decide (dg = 0 ∧ (d : Int) = 0)) := by
  unfold stepD
  rw [dig_nat d hd, show ((48 + d : Nat) : Int) - 48 = (d : Int) by omega]
  dsimp only
  rw [if_neg]
  rintro (q | q | q | q | ⟨q, q2⟩)
  · omega
  · omega
  · cases q
  · omega
  · have := h7 q; omega
theorem scan_dec : ∀ u : Nat, u ≤ 9223372036854775807 → ∃ dg : Int, scan (0, 0, false) (Lib.decDigits u) = some ((u : Int), dg, decide (u = 0)) ∧ 1 ≤ dg := by
  intro u
  induction u using Nat.strongRecOn with
  | ind u ih =>
    intro hu
    rw [Lib.decDigits]
    by_cases h : u < 10
    · rw [dif_pos h, scan, step_dig 0 0 u h (by omega) (fun e => by omega)]
      refine ⟨1, ?_, by omega⟩
      show some _ = _
      congr 1
      refine Prod.ext (by show (10 : Int) * 0 + (u : Int) = (u : Int); omega) (Prod.ext rfl ?_)
      exact dec_iff _ _ ⟨fun q => by omega, fun q => ⟨rfl, by omega⟩⟩
    · rw [dif_neg h, scan_app]
      obtain ⟨dg, h1, h2⟩ := ih (u / 10) (by omega) (by omega)
      rw [h1, Option.bind_some, dec_f _ (show ¬ u / 10 = 0 by omega), scan, step_dig _ dg (u % 10) (by omega) (by omega) (fun e => by omega)]
      refine ⟨dg + 1, ?_, by omega⟩
      show some _ = _
      congr 1
      refine Prod.ext (by show (10 : Int) * ((u / 10 : Nat) : Int) + ((u % 10 : Nat) : Int) = (u : Int); omega) (Prod.ext rfl ?_)
      exact dec_iff _ _ ⟨fun q => by omega, fun q => by omega⟩
def InvD (pre : List UInt8) (s : St) : Prop := (pre = [] ∧ s = (0, 0, false)) ∨ (pre = Lib.decDigits s.1.toNat ∧ 0 ≤ s.1 ∧ s.1 ≤ 9223372036854775807 ∧ 1 ≤ s.2.1 ∧ s.2.2 = decide (s.1 = 0))
theorem inv_step {pre : List UInt8} {s s' : St} {c : UInt8} (h : InvD pre s) (hs : stepD s c = some s') : InvD (pre ++ [c]) s' := by
  unfold stepD at hs
  split at hs
  · cases hs
  rename_i q
  obtain rfl := Option.some.inj hs
  obtain ⟨d, hd⟩ : ∃ d : Nat, (c.toNat : Int) - 48 = (d : Int) := by
    refine ⟨((c.toNat : Int) - 48).toNat, ?_⟩
    rcases Int.lt_or_le ((c.toNat : Int) - 48) 0 with h | h
    · exact absurd (.inl h) q
    · omega
  have hd9 : d < 10 := by
    rcases Int.lt_or_le 9 ((c.toNat : Int) - 48) with h | h
    · exact absurd (.inr (.inl h)) q
    · omega
  have hc : c = UInt8.ofNat (48 + d) := by
    apply UInt8.toNat_inj.1
    rw [dig_nat d hd9]
    omega
  right
  rcases h with ⟨rfl, rfl⟩ | ⟨h1, h2, h3, h4, h5⟩
  · dsimp only
    rw [hd]
    have e : ((10 : Int) * 0 + (d : Int)) = (d : Int) := by omega
    rw [e]
    refine ⟨?_, by omega, by omega, by omega, ?_⟩
    · rw [Int.toNat_natCast, Lib.decDigits_one hd9, hc]; rfl
    · exact dec_iff _ _ ⟨fun q => q.2, fun q => ⟨rfl, q⟩⟩
  · obtain ⟨n, dg, z⟩ := s
    dsimp only at h1 h2 h3 h4 h5 q ⊢
    have hz : z = false := by
      cases z with
      | false => rfl
      | true => exact absurd (.inr (.inr (.inl rfl))) q
    have hn : n ≠ 0 := by
      intro e
      rw [hz, dec_t _ e] at h5
      cases h5
    have b4 : n ≤ 922337203685477580 := by
      rcases Int.lt_or_le 922337203685477580 n with h | h
      · exact absurd (.inr (.inr (.inr (.inl h)))) q
      · exact h
    have b5 : n = 922337203685477580 → d ≤ 7 := fun e => by
      rcases Int.lt_or_le 7 ((c.toNat : Int) - 48) with h | h
      · exact absurd (.inr (.inr (.inr (.inr ⟨e, h⟩)))) q
      · omega
    rw [hd]
    obtain ⟨m, rfl⟩ := Int.eq_ofNat_of_zero_le h2
    rw [Int.toNat_natCast] at h1
    have e : ((10 : Int) * (m : Int) + (d : Int)) = ((10 * m + d : Nat) : Int) := by omega
    rw [e]
    refine ⟨?_, by omega, by omega, by omega, ?_⟩
    · rw [Int.toNat_natCast, h1, hc]
      conv => rhs; rw [Lib.decDigits]
      rw [dif_neg (by omega), show (10 * m + d) / 10 = m by omega, show (10 * m + d) % 10 = d by omega]
    · exact dec_iff _ _ ⟨fun q => by omega, fun q => by omega⟩
theorem scan_inv : ∀ (w pre : List UInt8) (s s' : St), InvD pre s → scan s w = some s' → InvD (pre ++ w) s'
  | [], pre, s, s', h, hs => by
    obtain rfl := Option.some.inj hs
    rw [List.append_nil]; exact h
  | c :: r, pre, s, s', h, hs => by
    rw [scan] at hs
    obtain ⟨t, h1, h2⟩ := Option.bind_eq_some_iff.1 hs
    have := scan_inv r (pre ++ [c]) t s' (inv_step h h1) h2
    rw [List.append_assoc, List.singleton_append] at this
    exact this
theorem scan_word {w : List UInt8} {s : St} (h : scan (0, 0, false) w = some s) (hd : s.2.1 ≠ 0) : 0 ≤ s.1 ∧ s.1 ≤ 9223372036854775807 ∧ w = Lib.itoa s.1 := by
  have := scan_inv w [] (0, 0, false) s (.inl ⟨rfl, rfl⟩) h
  rw [List.nil_append] at this
  rcases this with ⟨_, rfl⟩ | ⟨h1, h2, h3, h4, h5⟩
  · exact absurd rfl hd
  · exact ⟨h2, h3, by rw [itoa_nn _ h2]; exact h1⟩
theorem refL_items : ∀ (ns l : List Int), (∀ v ∈ ns, 0 ≤ v ∧ v ≤ 9223372036854775807) → l.length + ns.length ≤ 40 → refL (ns.map Lib.itoa) l = fin (l ++ ns)
  | [], l, h, hl => by rw [List.map_nil, refL, List.append_nil]
  | v :: r, l, h, hl => by
    obtain ⟨v0, v1⟩ := h v List.mem_cons_self
    rw [List.length_cons] at hl
    obtain ⟨dg, h1, h2⟩ := scan_dec v.toNat (by omega)
    rw [List.map_cons, itoa_nn v v0, refL, h1]
    dsimp only
    rw [if_neg (by rintro (q | q) <;> omega), show ((v.toNat : Nat) : Int) = v by omega, refL_items r (l ++ [v]) (fun x hx => h x (List.mem_cons_of_mem _ hx)) (by rw [List.length_append, List.length_singleton]; omega), List.append_assoc, List.singleton_append]
theorem refL_shape : ∀ (ws : List (List UInt8)) (l : List Int), (∃ x, refL ws l = (x, 0) ∧ OkL x) ∨ refL ws l = ([], 8)
  | [], l => by
    rw [refL]
    by_cases h : OkL l
    · exact .inl ⟨l, fin_ok h, h⟩
    · exact .inr (fin_no h)
  | w :: r, l => by
    rw [refL]
    cases scan (0, 0, false) w with
    | none => exact .inr rfl
    | some s =>
      dsimp only
      split
      · exact .inr rfl
      · exact refL_shape r _
theorem refL_inv : ∀ (ws : List (List UInt8)) (l x : List Int), refL ws l = (x, 0) → ∃ ns, x = l ++ ns ∧ ws = ns.map Lib.itoa ∧ ∀ v ∈ ns, 0 ≤ v ∧ v ≤ 9223372036854775807
  | [], l, x, h => by
    rw [refL] at h
    obtain ⟨_, rfl⟩ := Go.Proofs.YtdnclldebkpkfaaDoor.Oid.fin_zero h
    exact ⟨[], (List.append_nil _).symm, rfl, fun v hv => by cases hv⟩
  | w :: r, l, x, h => by
    rw [refL] at h
    cases hs : scan (0, 0, false) w with
    | none => rw [hs] at h; have := (Prod.mk.inj h).2; omega
    | some s =>
      rw [hs] at h
      dsimp only at h
      by_cases q : s.2.1 = 0 ∨ 40 ≤ l.length
      · rw [if_pos q] at h; have := (Prod.mk.inj h).2; omega
      · rw [if_neg q] at h
        obtain ⟨g0, g1, g2⟩ := scan_word hs (fun e => q (.inl e))
        obtain ⟨ns, e1, e2, e3⟩ := refL_inv r _ x h
        refine ⟨s.1 :: ns, by rw [e1, List.append_assoc]; rfl, by rw [List.map_cons, ← g2, e2], fun v hv => ?_⟩
        rcases List.mem_cons.1 hv with rfl | hv
        · exact ⟨g0, g1⟩
        · exact e3 v hv
theorem ok_ne {x : List Int} (h : OkL x) : x.map Lib.itoa ≠ [] := by
  intro e
  have := congrArg List.length e
  rw [List.length_map, List.length_nil] at this
  have := h.1
  omega
theorem ref_same (s : List UInt8) : refL (splitC s) [] = parseS s := by
  rcases parse_shape s with ⟨x, hx, hok⟩ | hx
  · obtain ⟨h1, h2, h3⟩ := text_parse _ _ hx
    have e : splitC s = x.map Lib.itoa := by
      rw [← h3]
      exact split_join _ (ok_ne h1) (fun y hy => by
        obtain ⟨v, _, rfl⟩ := List.mem_map.1 hy
        exact itoa_dot v)
    rw [hx, e, refL_items x [] (fun v hv => ⟨h1.2.2.1 v hv, h2 v hv⟩) (by have := h1.2.1; simpa using this)]
    exact fin_ok h1
  · rw [hx]
    rcases refL_shape (splitC s) [] with ⟨x, h1, h2⟩ | h1
    · exfalso
      obtain ⟨ns, e1, e2, e3⟩ := refL_inv _ _ _ h1
      rw [List.nil_append] at e1
      subst e1
      have e : textC x = s := by
        unfold textC
        rw [← e2]
        cases hs : splitC s with
        | nil => exact absurd hs (splitC_ne s)
        | cons w ws =>
          rw [Lib.join_cons]
          exact join_split s w ws hs
      have := parse_text x h2 (fun v hv => (e3 v hv).2)
      rw [e, hx] at this
      have := (Prod.mk.inj this).2
      omega
    · exact h1
theorem RParse_f (k : Nat) (s : ByteArray) (hs : s.size ≤ 100000) (hk : 1000000 ≤ k) : sobriquetref01_ParseOid.f k s = some (res (parseS s.data.toList)) := by
  unfold sobriquetref01_ParseOid.f
  have h := rparse_l0 s hs s.size k 0 0 0 false [] (by omega) (by omega) (by omega) (by omega) (by omega) (by omega) (by simp)
  have e0 : ((0 : Nat) : Int) = 0 := rfl
  rw [e0, List.drop_zero, ← refL_S _ (splitC_ne _), ref_same] at h
  exact h

/-! ### The page's writers -/
theorem wfu8 {xs : List Int} (h : ∀ x ∈ xs, (Lit.int .u8 x).wf = true) : ∀ x ∈ xs, 0 ≤ x ∧ x < 256 := by
  intro x hx
  have := h x hx
  simp [Lit.wf, show IntKind.u8.min = 0 from rfl, show IntKind.u8.max = 255 from rfl] at this
  omega
theorem Bytes_f (a b : List Int) (k : Nat) (hm : a.length ≤ 4611686018427387904) (hk : a.length < k) : sobriquetkeep_Bytes.f k a b = some (decide (a = b)) := by
  have l0 : ∀ (hl : a.length = b.length), ∀ (d k i : Nat), i + d = a.length → d < k → sobriquetkeep_Bytes.l0 k a b (i : Int) = some (decide (a.drop i = b.drop i)) := by
    intro hl d
    induction d with
    | zero =>
      intro k i hi hk
      obtain ⟨k, rfl⟩ : ∃ m, k = m + 1 := ⟨k - 1, by omega⟩
      rw [sobriquetkeep_Bytes.l0, if_neg (by omega), List.drop_eq_nil_of_le (by omega), List.drop_eq_nil_of_le (by omega)]
      simp
    | succ d ih =>
      intro k i hi hk
      obtain ⟨k, rfl⟩ : ∃ m, k = m + 1 := ⟨k - 1, by omega⟩
      have ha : i < a.length := by omega
      have hb : i < b.length := by omega
      rw [sobriquetkeep_Bytes.l0, if_pos (by omega), if_pos (by omega), if_pos (by omega), rd_nat a i ha, rd_nat b i hb, w64_nat ha hm, ih k (i + 1) (by omega) (by omega), List.drop_eq_getElem_cons ha, List.drop_eq_getElem_cons hb]
      by_cases h : a[i] = b[i]
      · simp only [h, if_true, List.cons.injEq, true_and]
      · simp only [h, if_false, List.cons.injEq, false_and, decide_false]
  unfold sobriquetkeep_Bytes.f
  by_cases hl : a.length = b.length
  · rw [if_pos (by omega)]
    have := l0 hl a.length k 0 (by omega) hk
    simpa using this
  · rw [if_neg (by omega)]
    have : a ≠ b := fun h => hl (by rw [h])
    simp [this]

theorem Twin_f (l : List Int) (h : l.length ≤ 1000) : sobriquetkeep_TwinInts.f l = some l := by
  unfold sobriquetkeep_TwinInts.f
  rw [if_pos (by simp only [List.length_nil]; omega), List.nil_append]
theorem contBE_step (m : Int) (h : 0 < m) : contBE m = contBE (m / 128) ++ [m % 128 + 128] := by
  unfold contBE
  rw [contLE_pos m h, List.reverse_cons]
theorem sept_l0 : ∀ (d k : Nat) (m : Int) (acc : List Int), m < 128 ^ d → d ≤ 9 → 0 ≤ m → m ≤ 9223372036854775807 → acc.length + d ≤ 100 → d < k → sobriquetref01_septets.l0 k m acc = some (contBE m ++ acc) := by
  intro d
  induction d with
  | zero =>
    intro k m acc hm h9 h0 h1 hl hk
    obtain ⟨k, rfl⟩ : ∃ j, k = j + 1 := ⟨k - 1, by omega⟩
    have e : (128 : Int) ^ 0 = 1 := rfl
    rw [e] at hm
    rw [sobriquetref01_septets.l0, if_neg (by omega), contBE_nil m (by omega), List.nil_append]
  | succ d ih =>
    intro k m acc hm h9 h0 h1 hl hk
    obtain ⟨k, rfl⟩ : ∃ j, k = j + 1 := ⟨k - 1, by omega⟩
    have e : (128 : Int) ^ (d + 1) = 128 ^ d * 128 := Int.pow_succ ..
    rw [e] at hm
    rw [sobriquetref01_septets.l0]
    by_cases hp : m > 0
    · rw [if_pos hp, Option.bind_some, if_pos (by rw [List.length_singleton]; omega), tmod_nn h0, tdiv_nn h0, w64 (x := m / 128) (by omega) (by omega), w64 (x := 128 + m % 128) (by omega) (by omega), show (128 + m % 128) % 256 = m % 128 + 128 by omega, ih k (m / 128) _ (by omega) (by omega) (by omega) (by omega) (by rw [List.length_append, List.length_singleton]; omega) (by omega), contBE_step m hp, List.append_assoc]
    · rw [if_neg hp, contBE_nil m (by omega), List.nil_append]
theorem septets_f (k : Nat) (hk : 40 ≤ k) (n : Int) (h0 : 0 ≤ n) (h1 : n ≤ 9223372036854775807) : sobriquetref01_septets.f k n = some (enc7 n) := by
  unfold sobriquetref01_septets.f
  rw [tmod_nn h0, tdiv_nn h0, w64 (x := n / 128) (by omega) (by omega), show n % 128 % 256 = n % 128 by omega, sept_l0 9 k (n / 128) _ (by omega) (by omega) (by omega) (by omega) (by simp) (by omega)]
  rfl
theorem rcont_l0 (r : List Int) (hr : ∀ x ∈ r, x ≤ 9223372036854775807) (hp : ∀ x ∈ r, 0 ≤ x) (hl : r.length ≤ 100) : ∀ (d k i : Nat) (acc : List Int), i + d = r.length → d + 100 < k → acc.length + 9 * d ≤ 2000 → sobriquetref01_Content.l0 k r acc (i : Int) = some (acc ++ (r.drop i).flatMap enc7) := by
  intro d
  induction d with
  | zero =>
    intro k i acc hi hk ha
    obtain ⟨k, rfl⟩ : ∃ m, k = m + 1 := ⟨k - 1, by omega⟩
    rw [sobriquetref01_Content.l0, if_neg (by omega), List.drop_eq_nil_of_le (by omega)]
    simp
  | succ d ih =>
    intro k i acc hi hk ha
    obtain ⟨k, rfl⟩ : ∃ m, k = m + 1 := ⟨k - 1, by omega⟩
    have hil : i < r.length := by omega
    have hc1 := hr _ (List.getElem_mem hil)
    have hc0 := hp _ (List.getElem_mem hil)
    have he := enc7_len _ hc0 hc1
    rw [sobriquetref01_Content.l0, if_pos (by omega), if_pos (by omega), rd_nat r i hil, septets_f k (by omega) _ hc0 hc1, Option.bind_some, if_pos (by omega), w64_nat hil (by omega), ih k (i + 1) _ (by omega) (by omega) (by rw [List.length_append]; omega), List.drop_eq_getElem_cons hil, List.flatMap_cons, List.append_assoc]
theorem RContent_f (k : Nat) (hk : 1000 ≤ k) (l : List Int) (h : OkL l) (hb : ∀ x ∈ l, x ≤ 9223372036854775807) : sobriquetref01_Content.f k l = some (contentL l) := by
  unfold sobriquetref01_Content.f
  match l, h with
  | [], h => exact absurd h.1 (by simp)
  | [a], h => exact absurd h.1 (by simp)
  | a :: b :: r, h =>
    obtain ⟨q1, q2, q3, q4, q5, q6⟩ := h
    replace q4 : a ≤ 2 := q4
    replace q6 : b ≤ 9223372036854775727 := q6
    have a0 := q3 a List.mem_cons_self
    have b0 := q3 b (by simp)
    have e0 : rd (a :: b :: r) 0 = a := rfl
    have e1 : rd (a :: b :: r) 1 = b := rfl
    have he := enc7_len (40 * a + b) (by omega) (by omega)
    have hr2 : r.length ≤ 38 := by simp at q2; omega
    have hd : (a :: b :: r).drop 2 = r := rfl
    have h0 := rcont_l0 (a :: b :: r) hb q3 (by simp; omega) r.length k 2 (enc7 (40 * a + b)) (by simp; omega) (by omega) (by omega)
    have hz : ((2 : Nat) : Int) = 2 := rfl
    rw [hz, hd] at h0
    rw [if_pos (by simp <;> omega), if_pos (by simp <;> omega), e0, e1, w64 (x := 40 * a) (by omega) (by omega), w64 (by omega) (by omega), septets_f k (by omega) _ (by omega) (by omega), Option.bind_some, h0]
    rfl
theorem bx (a : ByteArray) (l : List UInt8) (h : a.data.toList = l) : a = ⟨l.toArray⟩ := by
  subst h
  cases a with
  | mk d => cases d; rfl
theorem app_l (a b : ByteArray) : (a ++ b).data.toList = a.data.toList ++ b.data.toList := by rw [ByteArray.data_append, Array.toList_append]
def decO (m : Int) : List UInt8 := if m ≤ 0 then [] else Lib.decDigits m.toNat
theorem decO_dig (n : Int) (h : 0 ≤ n) : decO (n / 10) ++ [UInt8.ofNat (48 + n % 10).toNat] = Lib.decDigits n.toNat := by
  obtain ⟨m, rfl⟩ := Int.eq_ofNat_of_zero_le h
  rw [Int.toNat_natCast, Lib.decDigits]
  unfold decO
  by_cases q : m < 10
  · rw [dif_pos q, if_pos (by omega), List.nil_append, show (48 + (m : Int) % 10).toNat = 48 + m by omega]
  · rw [dif_neg q, if_neg (by omega), show ((m : Int) / 10).toNat = m / 10 by omega, show (48 + (m : Int) % 10).toNat = 48 + m % 10 by omega]
theorem sn1 (x : Int) : (strOfNums [x]).data.toList = [UInt8.ofNat x.toNat] := rfl
theorem sn1s (x : Int) : (strOfNums [x]).size = 1 := rfl
theorem sizeA (a b : ByteArray) : (a ++ b).size = a.size + b.size := ByteArray.size_append
theorem rdig_l0 : ∀ (d k : Nat) (m : Int) (acc : ByteArray), m < 10 ^ d → d ≤ 19 → 0 ≤ m → m ≤ 9223372036854775807 → acc.size + d ≤ 1000 → d < k → sobriquetref01_Digits.l0 k m acc = some ⟨(decO m ++ acc.data.toList).toArray⟩ := by
  intro d
  induction d with
  | zero =>
    intro k m acc hm h9 h0 h1 hl hk
    obtain ⟨k, rfl⟩ : ∃ j, k = j + 1 := ⟨k - 1, by omega⟩
    have e : (10 : Int) ^ 0 = 1 := rfl
    rw [e] at hm
    rw [sobriquetref01_Digits.l0, if_neg (by omega)]
    unfold decO
    rw [if_pos (by omega), List.nil_append]
  | succ d ih =>
    intro k m acc hm h9 h0 h1 hl hk
    obtain ⟨k, rfl⟩ : ∃ j, k = j + 1 := ⟨k - 1, by omega⟩
    have e : (10 : Int) ^ (d + 1) = 10 ^ d * 10 := Int.pow_succ ..
    rw [e] at hm
    rw [sobriquetref01_Digits.l0]
    by_cases hp : m > 0
    · rw [if_pos hp, Option.bind_some, sn1s, if_pos (by omega), tmod_nn h0, tdiv_nn h0, w64 (x := m / 10) (by omega) (by omega), w64 (x := 48 + m % 10) (by omega) (by omega), show (48 + m % 10) % 256 = 48 + m % 10 by omega, ih k (m / 10) _ (by omega) (by omega) (by omega) (by omega) (by rw [sizeA, sn1s]; omega) (by omega), app_l, sn1, ← List.append_assoc, decO_dig m h0]
      have e2 : decO m = Lib.decDigits m.toNat := by unfold decO; rw [if_neg (by omega)]
      rw [e2]
    · rw [if_neg hp]
      unfold decO
      rw [if_pos (by omega), List.nil_append]
theorem Digits_f (k : Nat) (hk : 40 ≤ k) (n : Int) (h0 : 0 ≤ n) (h1 : n ≤ 9223372036854775807) : sobriquetref01_Digits.f k n = some ⟨(Lib.itoa n).toArray⟩ := by
  unfold sobriquetref01_Digits.f
  rw [tmod_nn h0, tdiv_nn h0, w64 (x := n / 10) (by omega) (by omega), w64 (x := 48 + n % 10) (by omega) (by omega), show (48 + n % 10) % 256 = 48 + n % 10 by omega, rdig_l0 19 k (n / 10) _ (by omega) (by omega) (by omega) (by omega) (by rw [sn1s]; omega) (by omega), sn1, decO_dig n h0, itoa_nn n h0]
theorem rtext_l0 (l : List Int) (hr : ∀ x ∈ l, 0 ≤ x ∧ x ≤ 9223372036854775807) (hl : l.length ≤ 100) : ∀ (d k i : Nat) (acc : ByteArray), i + d = l.length → d + 50 < k → acc.size + 30 * d ≤ 10000 → sobriquetref01_OidText.l0 k l acc (i : Int) = some ⟨(acc.data.toList ++ Lib.joinTail [46] ((l.drop i).map Lib.itoa)).toArray⟩ := by
  intro d
  induction d with
  | zero =>
    intro k i acc hi hk ha
    obtain ⟨k, rfl⟩ : ∃ m, k = m + 1 := ⟨k - 1, by omega⟩
    rw [sobriquetref01_OidText.l0, if_neg (by omega), List.drop_eq_nil_of_le (by omega)]
    refine congrArg some (bx acc _ ?_)
    simp [Lib.joinTail]
  | succ d ih =>
    intro k i acc hi hk ha
    obtain ⟨k, rfl⟩ : ∃ m, k = m + 1 := ⟨k - 1, by omega⟩
    have hil : i < l.length := by omega
    have hc := hr _ (List.getElem_mem hil)
    have hlen := Lib.itoa_length_le l[i] (by omega) hc.2
    have e46 : (⟨#[46]⟩ : ByteArray).size = 1 := rfl
    have esz : (⟨(Lib.itoa l[i]).toArray⟩ : ByteArray).size = (Lib.itoa l[i]).length := by show (Lib.itoa l[i]).toArray.size = _; rw [List.size_toArray]
    rw [sobriquetref01_OidText.l0, if_pos (by omega), if_pos (by omega), if_pos (by omega), rd_nat l i hil, Digits_f k (by omega) _ hc.1 hc.2, Option.bind_some, if_pos (by rw [sizeA, e46, esz]; omega), w64_nat hil (by omega), ih k (i + 1) _ (by omega) (by omega) (by rw [sizeA, sizeA, e46, esz]; omega), List.drop_eq_getElem_cons hil, app_l, app_l]
    show some (⟨(acc.data.toList ++ [46] ++ Lib.itoa l[i] ++ _).toArray⟩ : ByteArray) = _
    rw [List.map_cons, show Lib.joinTail [46] (Lib.itoa l[i] :: (l.drop (i + 1)).map Lib.itoa) = ([46] ++ Lib.itoa l[i]) ++ Lib.joinTail [46] ((l.drop (i + 1)).map Lib.itoa) from rfl, List.append_assoc, List.append_assoc, List.append_assoc]
theorem RText_f (k : Nat) (hk : 1000 ≤ k) (l : List Int) (h : OkL l) (hb : ∀ x ∈ l, x ≤ 9223372036854775807) : sobriquetref01_OidText.f k l = some ⟨(textC l).toArray⟩ := by
  unfold sobriquetref01_OidText.f
  match l, h with
  | [], h => exact absurd h.1 (by simp)
  | a :: r, h =>
    have hr : ∀ x ∈ a :: r, 0 ≤ x ∧ x ≤ 9223372036854775807 := fun x hx => ⟨h.2.2.1 x hx, hb x hx⟩
    have q2 := h.2.1
    have ha := hr a List.mem_cons_self
    have e0 : rd (a :: r) 0 = a := rfl
    have hlen := Lib.itoa_length_le a (by omega) ha.2
    have esz : (⟨(Lib.itoa a).toArray⟩ : ByteArray).size = (Lib.itoa a).length := by show (Lib.itoa a).toArray.size = _; rw [List.size_toArray]
    rw [List.length_cons] at q2
    have h0 := rtext_l0 (a :: r) hr (by simp; omega) r.length k 1 ⟨(Lib.itoa a).toArray⟩ (by simp; omega) (by omega) (by rw [esz]; omega)
    have hz : ((1 : Nat) : Int) = 1 := rfl
    rw [hz] at h0
    rw [if_pos (by simp <;> omega), e0, Digits_f k (by omega) _ ha.1 ha.2, Option.bind_some, h0]
    unfold textC
    rw [List.map_cons, Lib.join_cons]
    rfl

theorem res_ok (x : List Int) : res (x, 0) = (x, true) := rfl
theorem res_no : res ([], 8) = ([], false) := rfl
theorem exact_j1 (k : Nat) (hk : 3000000 ≤ k) (l : List Int) (hm : l.length ≤ 1000) (hb : ∀ x ∈ l, x ≤ 9223372036854775807) (c : List Int) (ce : Int) (t : ByteArray) (te : Int) (hok : OkL l → c = contentL l ∧ ce = 0 ∧ t = ⟨(textC l).toArray⟩ ∧ te = 0) (hno : ¬ OkL l → c = [] ∧ ce = 8 ∧ t = ⟨#[]⟩ ∧ te = 8) : sobriquetlaw03_OidExact.j1 (k + 1) l l c ce t te false = some true := by
  rw [sobriquetlaw03_OidExact.j1, if_neg (by decide), roid_f k (by omega), Option.bind_some, check_f, Option.bind_some, Option.bind_some]
  by_cases h : OkL l
  · obtain ⟨rfl, rfl, rfl, rfl⟩ := hok h
    have hcl := content_len l h hb
    have h40 := h.2.1
    rw [dec_t _ h, if_pos rfl, if_pos h, if_pos rfl, if_pos rfl, if_pos rfl, RContent_f k (by omega) l h hb, Option.bind_some, Bytes_f _ _ k (by omega) (by omega), dec_t _ rfl, Option.bind_some, if_pos rfl, RText_f k (by omega) l h hb, Option.bind_some, if_pos rfl, wakes_true k hk, Option.bind_some]
  · obtain ⟨rfl, rfl, rfl, rfl⟩ := hno h
    rw [dec_f _ h, if_neg (by decide), if_neg h, if_pos rfl, if_pos rfl, if_pos rfl, if_pos (show wrap64 ((([] : List Int).length : Int) + ((⟨#[]⟩ : ByteArray).size : Int)) = 0 from w64l _ 0 ⟨rfl, by decide, by decide⟩), wakes_true k hk, Option.bind_some]
theorem exact_j0 (k : Nat) (hk : 3000001 ≤ k) (l b : List Int) (s : ByteArray) (hm : l.length ≤ 100) (hb : ∀ x ∈ l, x ≤ 9223372036854775807) (hbb : ∀ x ∈ b, 0 ≤ x ∧ x < 256) (hbl : b.length ≤ 500) (hs : s.size ≤ 900) : sobriquetlaw03_OidExact.j0 (k + 1) l b s false = some true := by
  obtain ⟨k, rfl⟩ : ∃ m, k = m + 1 := ⟨k - 1, by omega⟩
  obtain ⟨c, ce, hC, hC1, hC2⟩ : ∃ c ce, oid_Content.f (k + 1) l = some (c, ce) ∧ (OkL l → c = contentL l ∧ ce = 0) ∧ (¬ OkL l → c = [] ∧ ce = 8) := by
    by_cases h : OkL l
    · exact ⟨_, _, Content_f _ (by omega) l h hb, fun _ => ⟨rfl, rfl⟩, fun q => absurd h q⟩
    · exact ⟨_, _, Content_no _ l h, fun q => absurd q h, fun _ => ⟨rfl, rfl⟩⟩
  obtain ⟨t, te, hT, hT1, hT2⟩ : ∃ t te, oid_Text.f (k + 1) l = some (t, te) ∧ (OkL l → t = (⟨(textC l).toArray⟩ : ByteArray) ∧ te = 0) ∧ (¬ OkL l → t = (⟨#[]⟩ : ByteArray) ∧ te = 8) := by
    by_cases h : OkL l
    · exact ⟨_, _, Text_f _ (by omega) l h hb, fun _ => ⟨rfl, rfl⟩, fun q => absurd h q⟩
    · exact ⟨_, _, Text_no _ l h, fun q => absurd q h, fun _ => ⟨rfl, rfl⟩⟩
  have hj := exact_j1 k (by omega) l (by omega) hb c ce t te (fun h => ⟨(hC1 h).1, (hC1 h).2, (hT1 h).1, (hT1 h).2⟩) (fun h => ⟨(hC2 h).1, (hC2 h).2, (hT2 h).1, (hT2 h).2⟩)
  rw [sobriquetlaw03_OidExact.j0, if_neg (by decide), Twin_f l (by omega), Option.bind_some, hC, Option.bind_some, hT, Option.bind_some, Read_f _ b hbb (by omega) (by omega), Option.bind_some, Parse_f s (by omega), Option.bind_some, RRead_f _ b hbb (by omega) (by omega), Option.bind_some, RParse_f _ s (by omega) (by omega), Option.bind_some]
  have hll := Ints_f l l (k + 1) (by omega) (by omega)
  rw [dec_t _ rfl] at hll
  have hii : ∀ x : List Int, x.length ≤ 1000 → sobriquetkeep_Ints.f (k + 1) x x = some true := fun x hx => by
    rw [Ints_f x x (k + 1) (by omega) (by omega), dec_t _ rfl]
  have hni := hii [] (by simp)
  rcases read_shape (b.length + 1) b [] with ⟨x, hx, hxo⟩ | hx <;> rcases parse_shape s.data.toList with ⟨y, hy, hyo⟩ | hy
  · have h1 := hii x (by have := hxo.2.1; omega)
    have h2 := hii y (by have := hyo.2.1; omega)
    rw [hx, hy, res_ok, res_ok]
    dsimp only
    rw [if_neg (by decide), if_pos rfl, h1, Option.bind_some, if_pos rfl, if_neg (by decide), if_pos rfl, h2, Option.bind_some, if_pos rfl, hll, Option.bind_some]
    exact hj
  · have h1 := hii x (by have := hxo.2.1; omega)
    rw [hx, hy, res_ok, res_no]
    dsimp only
    rw [if_neg (by decide), if_pos rfl, h1, Option.bind_some, if_pos rfl, if_neg (by decide), if_neg (by decide), if_pos rfl, hni, Option.bind_some, if_pos rfl, hll, Option.bind_some]
    exact hj
  · have h2 := hii y (by have := hyo.2.1; omega)
    rw [hx, hy, res_ok, res_no]
    dsimp only
    rw [if_neg (by decide), if_neg (by decide), if_pos rfl, hni, Option.bind_some, if_pos rfl, if_neg (by decide), if_pos rfl, h2, Option.bind_some, if_pos rfl, hll, Option.bind_some]
    exact hj
  · rw [hx, hy, res_no]
    dsimp only
    rw [if_neg (by decide), if_neg (by decide), if_pos rfl, hni, Option.bind_some, if_pos rfl, if_neg (by decide), if_neg (by decide), if_pos rfl, Option.bind_some, if_pos rfl, hll, Option.bind_some]
    exact hj
theorem OidExact : sobriquetlaw03_OidExact.Pure := by
  intro l b s hm1 _ hw1 hm2 _ hw2 _
  obtain ⟨k, hk⟩ : ∃ k : Nat, k = 3000010 := ⟨_, rfl⟩
  refine ⟨k + 1, ?_⟩
  have hj : sobriquetlaw03_OidExact.j0 (k + 1) l b s true = some true := by rw [sobriquetlaw03_OidExact.j0, if_pos rfl]
  unfold sobriquetlaw03_OidExact.f
  by_cases g1 : (l.length : Int) > 100
  · rw [if_pos g1, hj]
  rw [if_neg g1]
  by_cases g2 : (b.length : Int) > 500
  · rw [if_pos g2, hj]
  rw [if_neg g2]
  by_cases g3 : (s.size : Int) > 900
  · rw [dec_t _ g3, hj]
  rw [dec_f _ g3]
  exact exact_j0 k (by omega) l b s (by omega) (fun x hx => (wf64 (hw1 x hx)).2) (wfu8 hw2) (by omega) (by omega)

end Go.Proofs.YtdnclldebkpkfaaDoor.Pure
