/- The pure side of Utf8Parts: the encoding of two lists in a row is theirs in a row; errors of the second part are told at the shifted place. For at most 400 numbers and bytes each. No condition. -/
import Derived.Test.YtojffdcefplipaaMUtf8Partsx3
namespace Go.Proofs.Ytojffdcefplipaa.Pure
open Go.RowKit Go.Proofs.Ytojffdcefplipaa.PUtf8Parts Go.Proofs.YtojffdcefplipaaW.PrintWords Go.Proofs.YtojffdcefplipaaW.PrintLast
set_option linter.unusedVariables false
set_option linter.unusedSimpArgs false
set_option maxHeartbeats 1000000

theorem w64 {x : Int} (h0 : -9223372036854775808 ≤ x) (h1 : x ≤ 9223372036854775807) : wrap64 x = x := by unfold wrap64; omega
theorem w64_nat {i n : Nat} (h : i < n) (hn : n ≤ 4611686018427387904) : wrap64 ((i : Int) + 1) = ((i + 1 : Nat) : Int) := by unfold wrap64; omega
theorem rd_nat (xs : List Int) (i : Nat) (h : i < xs.length) : rd xs (i : Int) = xs[i] := by simp [rd, List.getD_eq_getElem?_getD, List.getElem?_eq_getElem h]
theorem wf64 {a : Int} (h : (Lit.int .i64 a).wf = true) : -9223372036854775808 ≤ a ∧ a ≤ 9223372036854775807 := by
  simpa [Lit.wf, show IntKind.i64.min = -9223372036854775808 from rfl] using h
theorem tdiv_nn {a : Int} (h : 0 ≤ a) (b : Int) : Int.tdiv a b = a / b := Int.tdiv_eq_ediv_of_nonneg h
theorem tmod_nn {a : Int} (h : 0 ≤ a) (b : Int) : Int.tmod a b = a % b := Int.tmod_eq_emod_of_nonneg h
theorem dec_iff (p q : Prop) [Decidable p] [Decidable q] (h : p ↔ q) : decide p = decide q := by simp [h]
theorem dec_t (p : Prop) [Decidable p] (h : p) : decide p = true := by simp [h]
theorem dec_f (p : Prop) [Decidable p] (h : ¬ p) : decide p = false := by simp [h]
theorem tmod_bd (a c : Int) (hc : 0 < c) : -c < Int.tmod a c ∧ Int.tmod a c < c := by
  have h1 := Int.emod_nonneg a (b := c) (by omega)
  have h2 := Int.emod_lt_of_pos a hc
  have h3 : ((c.natAbs : Nat) : Int) = c := by omega
  have h4 := Int.tmod_lt_of_pos a hc
  refine ⟨?_, h4⟩
  rw [Int.tmod_eq_emod]
  split
  · omega
  · rename_i h
    have : a % c ≠ 0 := fun e => h (.inr (Int.dvd_of_emod_eq_zero e))
    omega
theorem w64l (x y : Int) (h : x = y ∧ -9223372036854775808 ≤ y ∧ y ≤ 9223372036854775807) : wrap64 x = y := by rw [h.1]; exact w64 h.2.1 h.2.2

theorem Ints_l0 (a b : List Int) (hl : a.length = b.length) (hm : a.length ≤ 4611686018427387904) : ∀ (d k i : Nat), i + d = a.length → d < k → sobriquetkeep_Ints.l0 k a b (i : Int) = some (decide (a.drop i = b.drop i)) := by
  intro d
  induction d with
  | zero =>
    intro k i hi hk
    obtain ⟨k, rfl⟩ : ∃ m, k = m + 1 := ⟨k - 1, by omega⟩
    simp only [sobriquetkeep_Ints.l0]
    rw [if_neg (by omega), List.drop_eq_nil_of_le (by omega), List.drop_eq_nil_of_le (by omega)]
    simp
  | succ d ih =>
    intro k i hi hk
    obtain ⟨k, rfl⟩ : ∃ m, k = m + 1 := ⟨k - 1, by omega⟩
    have ha : i < a.length := by omega
    have hb : i < b.length := by omega
    simp only [sobriquetkeep_Ints.l0]
    rw [if_pos (by omega), if_pos (by omega), if_pos (by omega), rd_nat a i ha, rd_nat b i hb, w64_nat ha hm, ih k (i + 1) (by omega) (by omega), List.drop_eq_getElem_cons ha, List.drop_eq_getElem_cons hb]
    by_cases h : a[i] = b[i]
    · simp only [h, if_true, List.cons.injEq, true_and]
    · simp only [h, if_false, List.cons.injEq, false_and, decide_false]
theorem Ints_f (a b : List Int) (k : Nat) (hm : a.length ≤ 4611686018427387904) (hk : a.length < k) : sobriquetkeep_Ints.f k a b = some (decide (a = b)) := by
  unfold sobriquetkeep_Ints.f
  by_cases hl : a.length = b.length
  · rw [if_pos (by omega)]
    have := Ints_l0 a b hl hm a.length k 0 (by omega) hk
    simpa using this
  · rw [if_neg (by omega)]
    have : a ≠ b := fun h => hl (by rw [h])
    simp [this]

theorem Bytes_l0 (a b : List Int) (hl : a.length = b.length) (hm : a.length ≤ 4611686018427387904) : ∀ (d k i : Nat), i + d = a.length → d < k → sobriquetkeep_Bytes.l0 k a b (i : Int) = some (decide (a.drop i = b.drop i)) := by
  intro d
  induction d with
  | zero =>
    intro k i hi hk
    obtain ⟨k, rfl⟩ : ∃ m, k = m + 1 := ⟨k - 1, by omega⟩
    simp only [sobriquetkeep_Bytes.l0]
    rw [if_neg (by omega), List.drop_eq_nil_of_le (by omega), List.drop_eq_nil_of_le (by omega)]
    simp
  | succ d ih =>
    intro k i hi hk
    obtain ⟨k, rfl⟩ : ∃ m, k = m + 1 := ⟨k - 1, by omega⟩
    have ha : i < a.length := by omega
    have hb : i < b.length := by omega
    simp only [sobriquetkeep_Bytes.l0]
    rw [if_pos (by omega), if_pos (by omega), if_pos (by omega), rd_nat a i ha, rd_nat b i hb, w64_nat ha hm, ih k (i + 1) (by omega) (by omega), List.drop_eq_getElem_cons ha, List.drop_eq_getElem_cons hb]
    by_cases h : a[i] = b[i]
    · simp only [h, if_true, List.cons.injEq, true_and]
    · simp only [h, if_false, List.cons.injEq, false_and, decide_false]
theorem Bytes_f (a b : List Int) (k : Nat) (hm : a.length ≤ 4611686018427387904) (hk : a.length < k) : sobriquetkeep_Bytes.f k a b = some (decide (a = b)) := by
  unfold sobriquetkeep_Bytes.f
  by_cases hl : a.length = b.length
  · rw [if_pos (by omega)]
    have := Bytes_l0 a b hl hm a.length k 0 (by omega) hk
    simpa using this
  · rw [if_neg (by omega)]
    have : a ≠ b := fun h => hl (by rw [h])
    simp [this]

theorem Twin_f (l : List Int) (h : l.length < 140737488355328) : sobriquetkeep_Twin.f l = some l := by
  unfold sobriquetkeep_Twin.f
  rw [if_pos (by simpa using h)]; simp

def sc (c : Int) : Bool := decide (0 ≤ c ∧ c ≤ 1114111 ∧ ¬ (55296 ≤ c ∧ c ≤ 57343))
theorem Scalar_f (c : Int) : ucd_Scalar.f c = some (sc c) := by
  unfold ucd_Scalar.f sc
  by_cases h1 : c ≥ 0
  · rw [if_pos h1]
    by_cases h2 : c ≤ 1114111
    · rw [if_pos h2]
      by_cases h3 : c < 55296
      · rw [if_pos h3, dec_t _ (by omega)]
      · rw [if_neg h3]; congr 1; exact dec_iff _ _ (by omega)
    · rw [if_neg h2, dec_f _ (by omega)]
  · rw [if_neg h1, dec_f _ (by omega)]

theorem rin_f (a b c : Int) : sobriquetref05_in.f a b c = some (decide (b ≤ a ∧ a ≤ c)) := by
  unfold sobriquetref05_in.f
  by_cases h : a ≥ b
  · rw [if_pos h]; simp [show b ≤ a from h]
  · rw [if_neg h]; simp; omega
theorem RefScalar_f (c : Int) : sobriquetref05_Scalar.f c = some (sc c) := by
  unfold sobriquetref05_Scalar.f sc
  rw [rin_f, rin_f]
  simp only [Option.bind_some]
  by_cases h : 0 ≤ c ∧ c ≤ 1114111
  · rw [dec_t _ h, if_pos rfl]
    by_cases h2 : 55296 ≤ c ∧ c ≤ 57343
    · rw [dec_t _ h2, dec_f _ (by omega)]; rfl
    · rw [dec_f _ h2, dec_t _ (by omega)]; rfl
  · rw [dec_f _ h, if_neg (by decide), dec_f _ (by omega)]

theorem wraps_i64 (n : Int) (h₀ : 0 ≤ n) (h₁ : n < 2 ^ 62) : IntKind.i64.wrap n = n := by rw [IntKind.wrap_i64]; omega
theorem or6 (x y : Int) (h0 : 0 ≤ x) (h1 : x < 1099511627776) (h2 : 0 ≤ y) (h3 : y < 64) : Go.bits .or .i64 (x * 64) y = x * 64 + y :=
  bits_join .i64 62 (by decide) wraps_i64 6 (x * 64) y (by omega) (by omega) (by omega) h2 (by omega) (by omega)

theorem sc_bd {c : Int} (h : sc c = true) : 0 ≤ c ∧ c ≤ 1114111 := by
  have := of_decide_eq_true h
  omega
def enc (c : Int) : List Int :=
  if c < 128 then [c] else if c < 2048 then [192 + c / 64, 128 + c % 64] else if c < 65536 then [224 + c / 4096, 128 + c / 64 % 64, 128 + c % 64] else [240 + c / 262144, 128 + c / 4096 % 64, 128 + c / 64 % 64, 128 + c % 64]
theorem enc_len (c : Int) : 1 ≤ (enc c).length ∧ (enc c).length ≤ 4 := by
  unfold enc; split
  · simp
  · split
    · simp
    · split <;> simp
theorem enc_bd (c : Int) (h0 : 0 ≤ c) (h1 : c ≤ 1114111) : ∀ x ∈ enc c, 0 ≤ x ∧ x < 256 := by
  intro x hx
  unfold enc at hx
  split at hx
  · simp at hx; omega
  · split at hx
    · simp at hx; omega
    · split at hx <;> simp at hx <;> omega
theorem shr_0 (c : Int) : shr .i64 c 0 = c := by show c / 1 = c; omega
theorem shr_6 (c : Int) : shr .i64 c 6 = c / 64 := rfl
theorem shr_12 (c : Int) : shr .i64 c 12 = c / 4096 := rfl
theorem shr_18 (c : Int) : shr .i64 c 18 = c / 262144 := rfl
theorem and63 (x : Int) (h0 : 0 ≤ x) (h1 : x < 4611686018427387904) : Go.bits .and .i64 x 63 = x % 64 :=
  bits_mask .i64 62 (by decide) wraps_i64 6 (by decide) x h0 (by omega)
theorem or128 (y : Int) (h0 : 0 ≤ y) (h1 : y < 64) : Go.bits .or .i64 128 y = 128 + y :=
  bits_join .i64 62 (by decide) wraps_i64 6 128 y (by decide) (by decide) (by decide) h0 (by omega) (by omega)
theorem or192 (y : Int) (h0 : 0 ≤ y) (h1 : y < 32) : Go.bits .or .i64 192 y = 192 + y :=
  bits_join .i64 62 (by decide) wraps_i64 5 192 y (by decide) (by decide) (by decide) h0 (by omega) (by omega)
theorem or224 (y : Int) (h0 : 0 ≤ y) (h1 : y < 16) : Go.bits .or .i64 224 y = 224 + y :=
  bits_join .i64 62 (by decide) wraps_i64 4 224 y (by decide) (by decide) (by decide) h0 (by omega) (by omega)
theorem or240 (y : Int) (h0 : 0 ≤ y) (h1 : y < 8) : Go.bits .or .i64 240 y = 240 + y :=
  bits_join .i64 62 (by decide) wraps_i64 3 240 y (by decide) (by decide) (by decide) h0 (by omega) (by omega)
theorem or0 (y : Int) (h0 : 0 ≤ y) (h1 : y < 128) : Go.bits .or .i64 0 y = y := by
  have := bits_join .i64 62 (by decide) wraps_i64 7 0 y (by decide) (by decide) (by decide) h0 (by omega) (by omega)
  rw [this]; omega
theorem put_end (k : Nat) (c : Int) (acc : List Int) : utf8_put.l1 (k + 1) c acc (-1) = some acc := by
  simp only [utf8_put.l1]; rw [if_neg (by decide)]
theorem put_0 (k : Nat) (c : Int) (acc : List Int) (h : acc.length < 100) (h0 : 0 ≤ c) (h1 : c ≤ 1114111) : utf8_put.l1 (k + 2) c acc 0 = some (acc ++ [128 + c % 64]) := by
  rw [show k + 2 = (k + 1) + 1 from rfl]; simp only [utf8_put.l1]
  rw [w64l (6 * 0) 0 (by decide), w64l (0 - 1) (-1) (by decide), if_pos (by decide), if_pos (by decide), if_pos (by omega), if_neg (by decide), shr_0, and63 _ (by omega) (by omega), or128 _ (by omega) (by omega), show (128 + c % 64) % 256 = 128 + c % 64 by omega]
theorem put_1 (k : Nat) (c : Int) (acc : List Int) (h : acc.length < 99) (h0 : 0 ≤ c) (h1 : c ≤ 1114111) : utf8_put.l1 (k + 3) c acc 1 = some (acc ++ [128 + c / 64 % 64, 128 + c % 64]) := by
  rw [utf8_put.l1, w64l (6 * 1) 6 (by decide), w64l (1 - 1) 0 (by decide), if_pos (by decide), if_pos (by decide), if_pos (by omega), put_0 k c _ (by simp; omega) h0 h1, shr_6, and63 _ (by omega) (by omega), or128 _ (by omega) (by omega), show (128 + c / 64 % 64) % 256 = 128 + c / 64 % 64 by omega, List.append_assoc]; rfl
theorem put_2 (k : Nat) (c : Int) (acc : List Int) (h : acc.length < 98) (h0 : 0 ≤ c) (h1 : c ≤ 1114111) : utf8_put.l1 (k + 4) c acc 2 = some (acc ++ [128 + c / 4096 % 64, 128 + c / 64 % 64, 128 + c % 64]) := by
  rw [utf8_put.l1, w64l (6 * 2) 12 (by decide), w64l (2 - 1) 1 (by decide), if_pos (by decide), if_pos (by decide), if_pos (by omega), put_1 k c _ (by simp; omega) h0 h1, shr_12, and63 _ (by omega) (by omega), or128 _ (by omega) (by omega), show (128 + c / 4096 % 64) % 256 = 128 + c / 4096 % 64 by omega, List.append_assoc]; rfl
theorem enc_f (k : Nat) (hk : 20 ≤ k) (c : Int) (h0 : 0 ≤ c) (h1 : c ≤ 1114111) : utf8_put.f k c = some (enc c) := by
  obtain ⟨k, rfl⟩ : ∃ m, k = m + 12 := ⟨k - 12, by omega⟩
  unfold utf8_put.f utf8_forms.f enc
  simp only [Option.bind_some, List.length_cons, List.length_nil]
  generalize hF : ([⟨128, 0⟩, ⟨2048, 192⟩, ⟨65536, 224⟩, ⟨2097152, 240⟩] : List S45) = F
  have hl : (F.length : Int) = 4 := by rw [← hF]; rfl
  have f0 : rd_T45 F 0 = ⟨128, 0⟩ := by rw [← hF]; rfl
  have f1 : rd_T45 F 1 = ⟨2048, 192⟩ := by rw [← hF]; rfl
  have f2 : rd_T45 F 2 = ⟨65536, 224⟩ := by rw [← hF]; rfl
  have f3 : rd_T45 F 3 = ⟨2097152, 240⟩ := by rw [← hF]; rfl
  rw [show (((0 + 1 + 1 + 1 + 1 : Nat) : Nat) : Int) = 4 from rfl]
  rw [utf8_put.l0, hl, f0, if_pos (by decide), if_pos (by decide), if_pos (by decide), w64l (0 + 1) 1 (by decide)]
  by_cases c0 : c < 128
  · rw [if_neg (by show ¬ (c ≥ 128); omega), if_pos c0, w64l (6 * 0) 0 (by decide), w64l (0 - 1) (-1) (by decide), if_pos (by decide), if_pos (by decide), put_end, shr_0]
    show some ([] ++ [Go.bits .or .i64 0 c % 256]) = _
    rw [or0 _ (by omega) (by omega), show c % 256 = c by omega]; rfl
  rw [if_pos (by show (c ≥ 128); omega), if_neg c0, utf8_put.l0, hl, f1, if_pos (by decide), if_pos (by decide), if_pos (by decide), w64l (1 + 1) 2 (by decide)]
  by_cases c1 : c < 2048
  · rw [if_neg (by show ¬ (c ≥ 2048); omega), if_pos c1, w64l (6 * 1) 6 (by decide), w64l (1 - 1) 0 (by decide), if_pos (by decide), if_pos (by decide), put_0 _ _ _ (by simp) h0 h1, shr_6]
    show some ([] ++ [Go.bits .or .i64 192 (c / 64) % 256] ++ _) = _
    rw [or192 _ (by omega) (by omega), show (192 + c / 64) % 256 = 192 + c / 64 by omega]; rfl
  rw [if_pos (by show (c ≥ 2048); omega), if_neg c1, utf8_put.l0, hl, f2, if_pos (by decide), if_pos (by decide), if_pos (by decide), w64l (2 + 1) 3 (by decide)]
  by_cases c2 : c < 65536
  · rw [if_neg (by show ¬ (c ≥ 65536); omega), if_pos c2, w64l (6 * 2) 12 (by decide), w64l (2 - 1) 1 (by decide), if_pos (by decide), if_pos (by decide), put_1 _ _ _ (by simp) h0 h1, shr_12]
    show some ([] ++ [Go.bits .or .i64 224 (c / 4096) % 256] ++ _) = _
    rw [or224 _ (by omega) (by omega), show (224 + c / 4096) % 256 = 224 + c / 4096 by omega]; rfl
  rw [if_pos (by show (c ≥ 65536); omega), if_neg c2, utf8_put.l0, hl, f3, if_pos (by decide), if_pos (by decide), if_pos (by decide), if_neg (by show ¬ (c ≥ 2097152); omega), w64l (6 * 3) 18 (by decide), w64l (3 - 1) 2 (by decide), if_pos (by decide), if_pos (by decide), put_2 _ _ _ (by simp) h0 h1, shr_18]
  show some ([] ++ [Go.bits .or .i64 240 (c / 262144) % 256] ++ _) = _
  rw [or240 _ (by omega) (by omega), show (240 + c / 262144) % 256 = 240 + c / 262144 by omega]; rfl

def putU : List Int → Int → List Int → List Int × Int × Int
  | [], _, acc => (acc, 0, 0)
  | c :: t, i, acc => if sc c = true then putU t (i + 1) (acc ++ enc c) else ([], i, 14)
theorem put_l0 (xs : List Int) (hx : xs.length ≤ 4000) : ∀ (d k i : Nat) (acc : List Int), i + d = xs.length → d + 20 < k → acc.length ≤ 4 * i → utf8_Put.l0 k acc xs xs.length i = some (putU (xs.drop i) i acc) := by
  intro d
  induction d with
  | zero =>
    intro k i acc hi hk ha
    obtain ⟨k, rfl⟩ : ∃ m, k = m + 1 := ⟨k - 1, by omega⟩
    simp only [utf8_Put.l0]
    rw [if_neg (by omega), List.drop_eq_nil_of_le (by omega)]; rfl
  | succ d ih =>
    intro k i acc hi hk ha
    obtain ⟨k, rfl⟩ : ∃ m, k = m + 1 := ⟨k - 1, by omega⟩
    have hlt : i < xs.length := by omega
    rw [List.drop_eq_getElem_cons hlt]
    simp only [utf8_Put.l0, putU]
    rw [if_pos (by omega), if_pos (by omega), if_pos (by omega), rd_nat xs i hlt, Scalar_f]
    simp only [Option.bind_some]
    by_cases h1 : sc xs[i] = true
    · have hb := sc_bd h1
      have hl := enc_len xs[i]
      rw [if_pos h1, if_pos h1, enc_f k (by omega) _ hb.1 hb.2]
      simp only [Option.bind_some]
      rw [if_pos (by omega), w64_nat hlt (by omega), ih k (i + 1) _ (by omega) (by omega) (by rw [List.length_append]; omega)]
      rfl
    · rw [if_neg h1, if_neg h1]
theorem put_f (xs : List Int) (k : Nat) (hx : xs.length ≤ 4000) (hk : 4020 < k) : utf8_Put.f k xs = some (putU xs 0 []) := by
  unfold utf8_Put.f
  have := put_l0 xs hx xs.length k 0 [] (by omega) (by omega) (by simp)
  simpa using this

def cont (x : Int) : Bool := decide (128 ≤ x ∧ x < 192)
def fold6 (c : Int) : List Int → Option Int
  | [] => some c
  | x :: t => if cont x = true then fold6 (c * 64 + (x - 128)) t else none
def low (n c : Int) : Bool := if n = 2 then decide (128 ≤ c) else if n = 3 then decide (2048 ≤ c) else if n = 4 then decide (65536 ≤ c) else true
def fin (n c : Int) : Int × Int := if (sc c && low n c) = true then (c, n) else (0, 0)
def lead (x : Int) : Int × Int := if x < 128 then (1, x) else if 192 ≤ x ∧ x < 224 then (2, x - 192) else if 224 ≤ x ∧ x < 240 then (3, x - 224) else if 240 ≤ x ∧ x < 248 then (4, x - 240) else (0, 0)
def decL (n c : Int) (t : List Int) : Int × Int :=
  if n = 0 ∨ ((t.length : Int) + 1 < n) then (0, 0) else match fold6 c (t.take (n.toNat - 1)) with
    | none => (0, 0)
    | some c => fin n c
def dec1 : List Int → Int × Int
  | [] => (0, 0)
  | x :: t => decL (lead x).1 (lead x).2 t
theorem lead_bd (x : Int) (h0 : 0 ≤ x) (h1 : x < 256) : 0 ≤ (lead x).1 ∧ (lead x).1 ≤ 4 ∧ 0 ≤ (lead x).2 ∧ (lead x).2 < 128 := by
  unfold lead
  split
  · simp; omega
  · split
    · simp; omega
    · split
      · simp; omega
      · split
        · simp; omega
        · simp
theorem many_f (k : Nat) (hk : 3 ≤ k) (x : Int) (h0 : 0 ≤ x) (h1 : x < 256) : utf8_many.f k x = some (lead x) := by
  obtain ⟨k, rfl⟩ : ∃ m, k = m + 2 := ⟨k - 2, by omega⟩
  unfold utf8_many.f lead
  by_cases c0 : x < 128
  · rw [if_pos c0, if_pos c0, w64 (by omega) (by omega)]
  rw [if_neg c0, if_neg c0]
  simp only [utf8_many.j0, utf8_many.j1]
  rw [u8_and31 x h0 h1, u8_and15 x h0 h1, u8_and7 x h0 h1, w64 (x := x % 32) (by omega) (by omega), w64 (x := x % 16) (by omega) (by omega), w64 (x := x % 8) (by omega) (by omega)]
  by_cases c1 : x ≥ 192
  · rw [if_pos c1]
    by_cases c2 : x < 224
    · rw [dec_t _ c2, if_pos rfl, if_pos (by omega), show x % 32 = x - 192 by omega]
    · rw [dec_f _ c2, if_neg (by decide), if_pos (show x ≥ 224 by omega), if_neg (show ¬ (192 ≤ x ∧ x < 224) by omega)]
      by_cases c3 : x < 240
      · rw [dec_t _ c3, if_pos rfl, if_pos (show 224 ≤ x ∧ x < 240 by omega), show x % 16 = x - 224 by omega]
      · rw [dec_f _ c3, if_neg (by decide), if_pos (show x ≥ 240 by omega), if_neg (show ¬ (224 ≤ x ∧ x < 240) by omega)]
        by_cases c4 : x < 248
        · rw [if_pos c4, if_pos (show 240 ≤ x ∧ x < 248 by omega), show x % 8 = x - 240 by omega]
        · rw [if_neg c4, if_neg (show ¬ (240 ≤ x ∧ x < 248) by omega)]
  · rw [if_neg c1, if_neg (by decide), if_neg (by omega), if_neg (by decide), if_neg (by omega), if_neg (by omega), if_neg (by omega), if_neg (by omega)]
theorem andNot63_fin : ∀ x : Fin 256, (decide (Go.bits .andNot .u8 ((x.val : Nat) : Int) 63 = 128) = cont ((x.val : Nat) : Int)) := by decide +kernel
theorem andNot63 (x : Int) (h0 : 0 ≤ x) (h1 : x < 256) : (Go.bits .andNot .u8 x 63 = 128) ↔ cont x = true := by
  have := andNot63_fin ⟨x.toNat, by omega⟩
  simp only [Int.toNat_of_nonneg h0] at this
  rw [← this, decide_eq_true_iff]
theorem one_l0 (n : Int) (hn : n = 1 ∨ n = 2 ∨ n = 3 ∨ n = 4) (ch : List Int) (hl : ch.length ≤ 3) (hb : ∀ x ∈ ch, 0 ≤ x ∧ x < 256) : ∀ (d k j : Nat) (c : Int), j + d = ch.length → d < k → 0 ≤ c → c < 128 * 64 ^ j →
    utf8_One.l0 k c n ch ch.length j = some (match fold6 c (ch.drop j) with | none => (0, 0) | some v => fin n v) := by
  intro d
  induction d with
  | zero =>
    intro k j c hj hk h0 h1
    obtain ⟨k, rfl⟩ : ∃ m, k = m + 1 := ⟨k - 1, by omega⟩
    simp only [utf8_One.l0]
    rw [if_neg (by omega), Scalar_f, List.drop_eq_nil_of_le (by omega)]
    simp only [Option.bind_some, fold6, fin]
    cases hs : sc c with
    | false => rfl
    | true =>
      rw [if_pos rfl]
      unfold utf8_forms.f
      simp only [Option.bind_some, List.length_cons, List.length_nil]
      rcases hn with rfl | rfl | rfl | rfl
      · rw [if_neg (by decide)]; rfl
      · rw [if_pos (by decide), w64l (2 - 2) 0 (by decide), if_pos (by decide), if_pos (by decide)]
        show (if c < 128 then _ else _) = _
        by_cases h : c < 128
        · rw [if_pos h]; simp [low]; omega
        · rw [if_neg h]; simp [low]; omega
      · rw [if_pos (by decide), w64l (3 - 2) 1 (by decide), if_pos (by decide), if_pos (by decide)]
        show (if c < 2048 then _ else _) = _
        by_cases h : c < 2048
        · rw [if_pos h]; simp [low]; omega
        · rw [if_neg h]; simp [low]; omega
      · rw [if_pos (by decide), w64l (4 - 2) 2 (by decide), if_pos (by decide), if_pos (by decide)]
        show (if c < 65536 then _ else _) = _
        by_cases h : c < 65536
        · rw [if_pos h]; simp [low]; omega
        · rw [if_neg h]; simp [low]; omega
  | succ d ih =>
    intro k j c hj hk h0 h1
    obtain ⟨k, rfl⟩ : ∃ m, k = m + 1 := ⟨k - 1, by omega⟩
    have hlt : j < ch.length := by omega
    obtain ⟨b0, b1⟩ := hb ch[j] (List.getElem_mem hlt)
    have hc : c < 33554432 := by
      rcases (show j = 0 ∨ j = 1 ∨ j = 2 by omega) with rfl | rfl | rfl <;> omega
    simp only [utf8_One.l0]
    rw [if_pos (Int.ofNat_lt.2 hlt), if_pos (Int.natCast_nonneg _), if_pos (Int.ofNat_lt.2 hlt), rd_nat ch j hlt, List.drop_eq_getElem_cons hlt]
    simp only [fold6]
    by_cases hco : cont ch[j] = true
    · have hr := of_decide_eq_true hco
      rw [if_pos ((andNot63 _ b0 b1).2 hco), if_pos hco, u8_and63 _ b0 b1, w64 (x := ch[j] % 64) (by omega) (by omega), w64 (x := c * 64) (by omega) (by omega), or6 c (ch[j] % 64) h0 (by omega) (by omega) (by omega), w64_nat hlt (by omega), show ch[j] % 64 = ch[j] - 128 by omega,
        ih k (j + 1) (c * 64 + (ch[j] - 128)) (by omega) (by omega) (by omega) (by rw [Int.pow_succ]; omega)]
    · rw [if_neg (fun h => hco ((andNot63 _ b0 b1).1 h)), if_neg hco]
theorem one_f (k : Nat) (hk : 20 ≤ k) (b : List Int) (hl : b.length ≤ 100000) (hb : ∀ x ∈ b, 0 ≤ x ∧ x < 256) : utf8_One.f k b = some (dec1 b) := by
  obtain ⟨k, rfl⟩ : ∃ m, k = m + 1 := ⟨k - 1, by omega⟩
  unfold utf8_One.f
  match b, hl, hb with
  | [], _, _ => rfl
  | x :: t, hl, hb =>
    obtain ⟨x0, x1⟩ := hb x (by simp)
    rw [List.length_cons] at hl
    rw [if_neg (by rw [List.length_cons]; omega), if_pos (by rw [List.length_cons]; omega), show rd (x :: t) 0 = x from rfl, many_f _ (by omega) x x0 x1]
    simp only [Option.bind_some, dec1, decL]
    rw [utf8_One.j0, utf8_One.j0]
    have hlb := lead_bd x x0 x1
    by_cases h1 : (lead x).1 = 0
    · rw [if_pos h1, if_pos rfl, if_pos (.inl h1)]
    · rw [if_neg h1]
      by_cases h2 : ((t.length : Int) + 1 < (lead x).1)
      · rw [dec_t _ (show (((x :: t).length : Nat) : Int) < (lead x).1 by rw [List.length_cons]; omega), if_pos rfl, if_pos (.inr h2)]
      · rw [dec_f _ (show ¬ ((((x :: t).length : Nat) : Int) < (lead x).1) by rw [List.length_cons]; omega), if_neg (by decide), if_pos (show 1 ≤ (lead x).1 by omega), if_pos (show (lead x).1 ≤ (((x :: t).length : Nat) : Int) by rw [List.length_cons]; omega), if_neg (by rintro (h | h); exact h1 h; exact h2 h)]
        have e : ((x :: t).take (lead x).1.toNat).drop 1 = t.take ((lead x).1.toNat - 1) := by
          obtain ⟨m, hm⟩ : ∃ m, (lead x).1.toNat = m + 1 := ⟨(lead x).1.toNat - 1, by omega⟩
          rw [hm, List.take_succ_cons]; rfl
        rw [e]
        have hlen : (t.take ((lead x).1.toNat - 1)).length = (lead x).1.toNat - 1 := by rw [List.length_take]; omega
        have := one_l0 (lead x).1 (by omega) (t.take ((lead x).1.toNat - 1)) (by omega) (fun y hy => hb y (by simp [List.mem_of_mem_take hy])) (t.take ((lead x).1.toNat - 1)).length k 0 (lead x).2 (by omega) (by omega) hlb.2.2.1 (by omega)
        rw [show utf8_One.l0 k (lead x).2 (lead x).1 (t.take ((lead x).1.toNat - 1)) (t.take ((lead x).1.toNat - 1)).length 0 = _ from this, List.drop_zero]
theorem fin_n (n c : Int) (h : (fin n c).2 ≠ 0) : fin n c = (c, n) ∧ sc c = true ∧ low n c = true := by
  unfold fin at h ⊢
  by_cases hc : (sc c && low n c) = true
  · rw [if_pos hc]; rw [Bool.and_eq_true] at hc; exact ⟨rfl, hc.1, hc.2⟩
  · rw [if_neg hc] at h; exact absurd rfl h
theorem dec1_n (b : List Int) (hb : ∀ x ∈ b, 0 ≤ x ∧ x < 256) (h : (dec1 b).2 ≠ 0) : 1 ≤ (dec1 b).2 ∧ (dec1 b).2 ≤ b.length ∧ (dec1 b).2 ≤ 4 := by
  match b, hb, h with
  | [], _, h => exact absurd rfl h
  | x :: t, hb, h =>
    obtain ⟨x0, x1⟩ := hb x (by simp)
    have hlb := lead_bd x x0 x1
    simp only [dec1, decL] at h ⊢
    by_cases h1 : (lead x).1 = 0 ∨ ((t.length : Int) + 1 < (lead x).1)
    · rw [if_pos h1] at h; exact absurd rfl h
    · rw [if_neg h1] at h ⊢
      cases hf : fold6 (lead x).2 (t.take ((lead x).1.toNat - 1)) with
      | none => rw [hf] at h; exact absurd rfl h
      | some c =>
        rw [hf] at h
        simp only at h ⊢
        rw [(fin_n _ _ h).1]
        simp only [List.length_cons]
        omega
def getU : Nat → List Int → Int → List Int → List Int × Int × Int
  | 0, _, _, acc => (acc, 0, 0)
  | f + 1, b, i, acc => if b.length = 0 then (acc, 0, 0) else if (dec1 b).2 = 0 then ([], i, 11) else getU f (b.drop (dec1 b).2.toNat) (i + (dec1 b).2) (acc ++ [(dec1 b).1])
theorem get_l0 (xs : List Int) (hx : xs.length ≤ 4000) (hb : ∀ x ∈ xs, 0 ≤ x ∧ x < 256) : ∀ (d k i : Nat) (acc : List Int), xs.length ≤ i + d → i ≤ xs.length → d + 20 < k → acc.length ≤ i → utf8_Get.l0 k xs acc i = some (getU d (xs.drop i) i acc) := by
  intro d
  induction d with
  | zero =>
    intro k i acc hi hi2 hk ha
    obtain ⟨k, rfl⟩ : ∃ m, k = m + 1 := ⟨k - 1, by omega⟩
    simp only [utf8_Get.l0]
    rw [if_neg (by omega)]; rfl
  | succ d ih =>
    intro k i acc hi hi2 hk ha
    obtain ⟨k, rfl⟩ : ∃ m, k = m + 1 := ⟨k - 1, by omega⟩
    simp only [utf8_Get.l0, getU]
    by_cases hlt : i < xs.length
    · have hbd : ∀ x ∈ xs.drop i, 0 ≤ x ∧ x < 256 := fun x hx' => hb x (List.mem_of_mem_drop hx')
      have hld : (xs.drop i).length = xs.length - i := List.length_drop ..
      rw [if_pos (by omega), if_pos (by omega), if_pos (by omega), if_neg (by omega), Int.toNat_natCast, one_f k (by omega) _ (by omega) hbd]
      simp only [Option.bind_some]
      by_cases h0 : (dec1 (xs.drop i)).2 = 0
      · rw [if_pos h0, if_pos h0]
      · obtain ⟨n1, n2, n3⟩ := dec1_n _ hbd h0
        rw [if_neg h0, if_neg h0, if_pos (by omega), show wrap64 ((i : Int) + (dec1 (xs.drop i)).2) = ((i + (dec1 (xs.drop i)).2.toNat : Nat) : Int) by rw [w64 (by omega) (by omega)]; omega,
          ih k _ _ (by omega) (by omega) (by omega) (by rw [List.length_append]; simp; omega), List.drop_drop, show ((i + (dec1 (xs.drop i)).2.toNat : Nat) : Int) = (i : Int) + (dec1 (xs.drop i)).2 by omega]
    · rw [if_neg (by omega), if_pos (by rw [List.length_drop]; omega)]
theorem get_f (xs : List Int) (k : Nat) (hx : xs.length ≤ 4000) (hb : ∀ x ∈ xs, 0 ≤ x ∧ x < 256) (hk : 4020 < k) : utf8_Get.f k xs = some (getU xs.length xs 0 []) := by
  unfold utf8_Get.f
  have := get_l0 xs hx hb xs.length k 0 [] (by omega) (by omega) (by omega) (by simp)
  simpa using this
theorem wfu8 {xs : List Int} (h : ∀ x ∈ xs, (Lit.int .u8 x).wf = true) : ∀ x ∈ xs, 0 ≤ x ∧ x < 256 := by
  intro x hx
  have := h x hx
  simp [Lit.wf, show IntKind.u8.min = 0 from rfl, show IntKind.u8.max = 255 from rfl] at this
  omega
theorem wakes_ok (k : Nat) (hk : 40 ≤ k) : sobriquetlaw13_wakes.f k = some true := at_rounds sobriquetlaw13_wakes.mono hk (by decide +kernel)

theorem dec_enc (c : Int) (h : sc c = true) (t : List Int) : dec1 (enc c ++ t) = (c, ((enc c).length : Int)) := by
  have hb := sc_bd h
  have fi : ∀ n, low n c = true → fin n c = (c, n) := fun n hn => by unfold fin; rw [h, hn]; rfl
  have ct : ∀ y, 128 ≤ y ∧ y < 192 → cont y = true := fun y hy => decide_eq_true hy
  unfold enc
  by_cases c0 : c < 128
  · rw [if_pos c0]
    show decL (lead c).1 (lead c).2 t = _
    rw [show lead c = (1, c) by unfold lead; rw [if_pos c0]]
    unfold decL
    rw [if_neg (by omega), show (1 : Int).toNat - 1 = 0 from rfl, List.take_zero]
    simp only [fold6]
    rw [fi 1 rfl]; rfl
  rw [if_neg c0]
  by_cases c1 : c < 2048
  · rw [if_pos c1]
    show decL (lead (192 + c / 64)).1 (lead (192 + c / 64)).2 ((128 + c % 64) :: t) = _
    rw [show lead (192 + c / 64) = (2, c / 64) by unfold lead; rw [if_neg (by omega), if_pos (by omega)]; congr 1; omega]
    unfold decL
    rw [if_neg (by rw [List.length_cons]; omega), show (2 : Int).toNat - 1 = 1 from rfl, List.take_succ_cons, List.take_zero]
    simp only [fold6]
    rw [if_pos (ct _ (by omega)), show c / 64 * 64 + (128 + c % 64 - 128) = c by omega]
    simp only
    rw [fi 2 (by unfold low; rw [if_pos rfl, dec_t _ (by omega)])]; rfl
  rw [if_neg c1]
  by_cases c2 : c < 65536
  · rw [if_pos c2]
    show decL (lead (224 + c / 4096)).1 (lead (224 + c / 4096)).2 ((128 + c / 64 % 64) :: (128 + c % 64) :: t) = _
    rw [show lead (224 + c / 4096) = (3, c / 4096) by unfold lead; rw [if_neg (by omega), if_neg (by omega), if_pos (by omega)]; congr 1; omega]
    unfold decL
    rw [if_neg (by simp only [List.length_cons]; omega), show (3 : Int).toNat - 1 = 2 from rfl, List.take_succ_cons, List.take_succ_cons, List.take_zero]
    simp only [fold6]
    rw [if_pos (ct _ (by omega)), if_pos (ct _ (by omega)), show (c / 4096 * 64 + (128 + c / 64 % 64 - 128)) * 64 + (128 + c % 64 - 128) = c by omega]
    simp only
    rw [fi 3 (by unfold low; rw [if_neg (by decide), if_pos rfl, dec_t _ (by omega)])]; rfl
  rw [if_neg c2]
  show decL (lead (240 + c / 262144)).1 (lead (240 + c / 262144)).2 ((128 + c / 4096 % 64) :: (128 + c / 64 % 64) :: (128 + c % 64) :: t) = _
  rw [show lead (240 + c / 262144) = (4, c / 262144) by unfold lead; rw [if_neg (by omega), if_neg (by omega), if_neg (by omega), if_pos (by omega)]; congr 1; omega]
  unfold decL
  rw [if_neg (by simp only [List.length_cons]; omega), show (4 : Int).toNat - 1 = 3 from rfl, List.take_succ_cons, List.take_succ_cons, List.take_succ_cons, List.take_zero]
  simp only [fold6]
  rw [if_pos (ct _ (by omega)), if_pos (ct _ (by omega)), if_pos (ct _ (by omega)), show ((c / 262144 * 64 + (128 + c / 4096 % 64 - 128)) * 64 + (128 + c / 64 % 64 - 128)) * 64 + (128 + c % 64 - 128) = c by omega]
  simp only
  rw [fi 4 (by unfold low; rw [if_neg (by decide), if_neg (by decide), if_pos rfl, dec_t _ (by omega)])]; rfl
theorem enc_dec (b : List Int) (hb : ∀ x ∈ b, 0 ≤ x ∧ x < 256) (h : (dec1 b).2 ≠ 0) : sc (dec1 b).1 = true ∧ b = enc (dec1 b).1 ++ b.drop (dec1 b).2.toNat ∧ (dec1 b).2 = ((enc (dec1 b).1).length : Int) := by
  match b, hb, h with
  | [], _, h => exact absurd rfl h
  | x :: t, hb, h =>
    obtain ⟨x0, x1⟩ := hb x (by simp)
    rw [dec1] at h ⊢
    have zero : ∀ y, decL 0 y t = (0, 0) := fun y => by unfold decL; rw [if_pos (.inl rfl)]
    have co : ∀ y, cont y = true → 128 ≤ y ∧ y < 192 := fun y hy => of_decide_eq_true hy
    by_cases c0 : x < 128
    · have e : decL (lead x).1 (lead x).2 t = (x, 1) := by
        have := dec_enc x (by unfold sc; rw [dec_t _ (by omega)]) t
        unfold enc at this
        rw [if_pos c0] at this
        exact this
      rw [e]
      have e2 : enc x = [x] := by unfold enc; rw [if_pos c0]
      refine ⟨by unfold sc; rw [dec_t _ (by omega)], ?_, ?_⟩
      · show x :: t = enc x ++ _
        rw [e2]; rfl
      · show (1 : Int) = ((enc x).length : Int)
        rw [e2]; rfl
    by_cases c1 : 192 ≤ x ∧ x < 224
    · rw [show lead x = (2, x - 192) by unfold lead; rw [if_neg c0, if_pos c1]] at h ⊢
      unfold decL at h ⊢
      by_cases q : (2 : Int) = 0 ∨ (t.length : Int) + 1 < 2
      · rw [if_pos q] at h; exact absurd rfl h
      · rw [if_neg q] at h ⊢
        match t, hb, q with
        | [], _, q => simp at q
        | y :: t, hb, q =>
          have ty : ∀ a (u : List Int), (2 : Int).toNat - 1 = 1 ∧ (a :: u).take 1 = [a] := fun a u => ⟨rfl, by simp⟩
          rw [(ty y t).1, (ty y t).2] at h ⊢
          simp only [fold6] at h ⊢
          by_cases cy : cont y = true
          · rw [if_pos cy] at h ⊢
            obtain ⟨f1, f2, f3⟩ := fin_n _ _ h
            simp only at f1 h ⊢
            rw [f1]
            have := co y cy
            have hlow : 128 ≤ (x - 192) * 64 + (y - 128) := by unfold low at f3; rw [if_pos rfl] at f3; exact of_decide_eq_true f3
            have e2 : enc ((x - 192) * 64 + (y - 128)) = [x, y] := by
              unfold enc; rw [if_neg (by omega), if_pos (by omega)]; simp only [List.cons.injEq, and_true]; omega
            refine ⟨f2, ?_, ?_⟩
            · simp only; rw [e2]; rfl
            · simp only; rw [e2]; rfl
          · rw [if_neg cy] at h; exact absurd rfl h
    by_cases c2 : 224 ≤ x ∧ x < 240
    · rw [show lead x = (3, x - 224) by unfold lead; rw [if_neg c0, if_neg c1, if_pos c2]] at h ⊢
      unfold decL at h ⊢
      by_cases q : (3 : Int) = 0 ∨ (t.length : Int) + 1 < 3
      · rw [if_pos q] at h; exact absurd rfl h
      · rw [if_neg q] at h ⊢
        match t, hb, q with
        | [], _, q => simp at q
        | [y], _, q => simp at q
        | y :: z :: t, hb, q =>
          have ty : (3 : Int).toNat - 1 = 2 ∧ (y :: z :: t).take 2 = [y, z] := ⟨rfl, by simp⟩
          rw [ty.1, ty.2] at h ⊢
          simp only [fold6] at h ⊢
          by_cases cy : cont y = true
          · by_cases cz : cont z = true
            · rw [if_pos cy, if_pos cz] at h ⊢
              obtain ⟨f1, f2, f3⟩ := fin_n _ _ h
              simp only at f1 h ⊢
              rw [f1]
              have := co y cy
              have := co z cz
              have hlow : 2048 ≤ ((x - 224) * 64 + (y - 128)) * 64 + (z - 128) := by unfold low at f3; rw [if_neg (by decide), if_pos rfl] at f3; exact of_decide_eq_true f3
              have e2 : enc (((x - 224) * 64 + (y - 128)) * 64 + (z - 128)) = [x, y, z] := by
                unfold enc; rw [if_neg (by omega), if_neg (by omega), if_pos (by omega)]; simp only [List.cons.injEq, and_true]; omega
              refine ⟨f2, ?_, ?_⟩
              · simp only; rw [e2]; rfl
              · simp only; rw [e2]; rfl
            · rw [if_pos cy, if_neg cz] at h; exact absurd rfl h
          · rw [if_neg cy] at h; exact absurd rfl h
    by_cases c3 : 240 ≤ x ∧ x < 248
    · rw [show lead x = (4, x - 240) by unfold lead; rw [if_neg c0, if_neg c1, if_neg c2, if_pos c3]] at h ⊢
      unfold decL at h ⊢
      by_cases q : (4 : Int) = 0 ∨ (t.length : Int) + 1 < 4
      · rw [if_pos q] at h; exact absurd rfl h
      · rw [if_neg q] at h ⊢
        match t, hb, q with
        | [], _, q => simp at q
        | [y], _, q => simp at q
        | [y, z], _, q => simp at q
        | y :: z :: u :: t, hb, q =>
          have ty : (4 : Int).toNat - 1 = 3 ∧ (y :: z :: u :: t).take 3 = [y, z, u] := ⟨rfl, by simp⟩
          rw [ty.1, ty.2] at h ⊢
          simp only [fold6] at h ⊢
          by_cases cy : cont y = true
          · by_cases cz : cont z = true
            · by_cases cu : cont u = true
              · rw [if_pos cy, if_pos cz, if_pos cu] at h ⊢
                obtain ⟨f1, f2, f3⟩ := fin_n _ _ h
                simp only at f1 h ⊢
                rw [f1]
                have := co y cy
                have := co z cz
                have := co u cu
                have hlow : 65536 ≤ (((x - 240) * 64 + (y - 128)) * 64 + (z - 128)) * 64 + (u - 128) := by unfold low at f3; rw [if_neg (by decide), if_neg (by decide), if_pos rfl] at f3; exact of_decide_eq_true f3
                have hsc := sc_bd f2
                have e2 : enc ((((x - 240) * 64 + (y - 128)) * 64 + (z - 128)) * 64 + (u - 128)) = [x, y, z, u] := by
                  unfold enc; rw [if_neg (by omega), if_neg (by omega), if_neg (by omega)]; simp only [List.cons.injEq, and_true]; omega
                refine ⟨f2, ?_, ?_⟩
                · simp only; rw [e2]; rfl
                · simp only; rw [e2]; rfl
              · rw [if_pos cy, if_pos cz, if_neg cu] at h; exact absurd rfl h
            · rw [if_pos cy, if_neg cz] at h; exact absurd rfl h
          · rw [if_neg cy] at h; exact absurd rfl h
    · rw [show lead x = (0, 0) by unfold lead; rw [if_neg c0, if_neg c1, if_neg c2, if_neg c3], zero] at h
      exact absurd rfl h
theorem putU_ok : ∀ (xs : List Int) (i : Int) (acc : List Int), (putU xs i acc).2.2 = 0 → (∀ c ∈ xs, sc c = true) ∧ putU xs i acc = (acc ++ xs.flatMap enc, 0, 0) := by
  intro xs
  induction xs with
  | nil => intro i acc _; simp [putU]
  | cons c t ih =>
    intro i acc h
    simp only [putU] at h ⊢
    by_cases hc : sc c = true
    · rw [if_pos hc] at h ⊢
      obtain ⟨h1, h2⟩ := ih _ _ h
      refine ⟨fun x hx => ?_, by rw [h2, List.flatMap_cons, List.append_assoc]⟩
      rcases List.mem_cons.1 hx with rfl | hx
      · exact hc
      · exact h1 x hx
    · rw [if_neg hc] at h
      cases h
theorem putU_all : ∀ (xs : List Int) (i : Int) (acc : List Int), (∀ c ∈ xs, sc c = true) → putU xs i acc = (acc ++ xs.flatMap enc, 0, 0) := by
  intro xs
  induction xs with
  | nil => intro i acc _; simp [putU]
  | cons c t ih =>
    intro i acc h
    simp only [putU, h c (by simp), if_true]
    rw [ih _ _ (fun x hx => h x (by simp [hx])), List.flatMap_cons, List.append_assoc]
theorem flat_len (xs : List Int) : (xs.flatMap enc).length ≤ 4 * xs.length := by
  induction xs with
  | nil => simp
  | cons c t ih =>
    have := enc_len c
    rw [List.flatMap_cons, List.length_append, List.length_cons]; omega
theorem flat_bd (xs : List Int) (h : ∀ c ∈ xs, sc c = true) : ∀ x ∈ xs.flatMap enc, 0 ≤ x ∧ x < 256 := by
  intro x hx
  obtain ⟨c, hc, h2⟩ := List.mem_flatMap.1 hx
  have := sc_bd (h c hc)
  exact enc_bd c this.1 this.2 x h2
theorem getU_fuel : ∀ (f g : Nat) (b : List Int) (i : Int) (acc : List Int), (∀ x ∈ b, 0 ≤ x ∧ x < 256) → b.length ≤ f → b.length ≤ g → getU f b i acc = getU g b i acc := by
  intro f
  induction f with
  | zero =>
    intro g b i acc hb hf hg
    cases g with
    | zero => rfl
    | succ g => simp only [getU]; rw [if_pos (by omega)]
  | succ f ih =>
    intro g b i acc hb hf hg
    cases g with
    | zero => simp only [getU]; rw [if_pos (by omega)]
    | succ g =>
      simp only [getU]
      by_cases h0 : b.length = 0
      · rw [if_pos h0, if_pos h0]
      · rw [if_neg h0, if_neg h0]
        by_cases h1 : (dec1 b).2 = 0
        · rw [if_pos h1, if_pos h1]
        · obtain ⟨n1, n2, n3⟩ := dec1_n b hb h1
          rw [if_neg h1, if_neg h1]
          exact ih g _ _ _ (fun x hx => hb x (List.mem_of_mem_drop hx)) (by rw [List.length_drop]; omega) (by rw [List.length_drop]; omega)
theorem getU_flat (r : List Int) (f : Nat) : ∀ (xs : List Int) (i : Int) (acc : List Int), (∀ c ∈ xs, sc c = true) → getU (xs.length + f) (xs.flatMap enc ++ r) i acc = getU f r (i + (xs.flatMap enc).length) (acc ++ xs) := by
  intro xs
  induction xs with
  | nil => intro i acc _; simp
  | cons c t ih =>
    intro i acc h
    have hl := enc_len c
    rw [List.flatMap_cons, List.append_assoc, List.length_cons, show t.length + 1 + f = (t.length + f) + 1 by omega]
    simp only [getU]
    rw [dec_enc c (h c (by simp))]
    rw [if_neg (by rw [List.length_append]; omega)]
    simp only
    rw [if_neg (by omega), Int.toNat_natCast, List.drop_left, ih _ _ (fun x hx => h x (by simp [hx])), List.append_assoc, List.length_append]
    congr 1
    omega
theorem getU_ok : ∀ (f : Nat) (b : List Int) (i : Int) (acc : List Int), (∀ x ∈ b, 0 ≤ x ∧ x < 256) → b.length ≤ f → (getU f b i acc).2.2 = 0 → ∃ ys : List Int, (getU f b i acc).1 = acc ++ ys ∧ (∀ c ∈ ys, sc c = true) ∧ ys.flatMap enc = b := by
  intro f
  induction f with
  | zero =>
    intro b i acc hb hf h
    exact ⟨[], by simp [getU], by simp, by simp [List.eq_nil_of_length_eq_zero (show b.length = 0 by omega)]⟩
  | succ f ih =>
    intro b i acc hb hf h
    simp only [getU] at h ⊢
    by_cases h0 : b.length = 0
    · rw [if_pos h0]
      exact ⟨[], by simp, by simp, by simp [List.eq_nil_of_length_eq_zero h0]⟩
    · rw [if_neg h0] at h ⊢
      by_cases h1 : (dec1 b).2 = 0
      · rw [if_pos h1] at h; cases h
      · obtain ⟨n1, n2, n3⟩ := dec1_n b hb h1
        obtain ⟨g1, g2, g3⟩ := enc_dec b hb h1
        rw [if_neg h1] at h ⊢
        obtain ⟨ys, y1, y2, y3⟩ := ih _ _ _ (fun x hx => hb x (List.mem_of_mem_drop hx)) (by rw [List.length_drop]; omega) h
        refine ⟨(dec1 b).1 :: ys, by rw [y1, List.append_assoc]; rfl, ?_, by rw [List.flatMap_cons, y3]; exact g2.symm⟩
        intro x hx
        rcases List.mem_cons.1 hx with rfl | hx
        · exact g1
        · exact y2 x hx

theorem TwinInts_f (l : List Int) (h : l.length < 17592186044416) : sobriquetkeep_TwinInts.f l = some l := by
  unfold sobriquetkeep_TwinInts.f
  rw [if_pos (by simpa using h)]; simp
def bad : List Int → Nat
  | [] => 0
  | c :: t => if sc c = true then bad t + 1 else 0
theorem putU_bad : ∀ (xs : List Int) (i : Int) (acc : List Int), (putU xs i acc).2.2 ≠ 0 → ∃ h : bad xs < xs.length, sc xs[bad xs] = false ∧ ∀ (j : Int) (acc' : List Int), putU xs j acc' = ([], j + (bad xs : Int), 14) ∧ ∀ ys, putU (xs ++ ys) j acc' = ([], j + (bad xs : Int), 14) := by
  intro xs
  induction xs with
  | nil => intro i acc h; exact absurd rfl h
  | cons c t ih =>
    intro i acc h
    simp only [putU] at h
    by_cases hc : sc c = true
    · rw [if_pos hc] at h
      obtain ⟨hp, h1, h2⟩ := ih _ _ h
      have e : bad (c :: t) = bad t + 1 := by simp only [bad]; rw [if_pos hc]
      refine ⟨by rw [e, List.length_cons]; omega, by simp only [e]; exact h1, fun j acc' => ?_⟩
      obtain ⟨h3, h4⟩ := h2 (j + 1) (acc' ++ enc c)
      rw [e]
      refine ⟨?_, fun ys => ?_⟩
      · simp only [putU]; rw [if_pos hc, h3]; congr 2; omega
      · rw [List.cons_append]; simp only [putU]; rw [if_pos hc, h4]; congr 2; omega
    · have e : bad (c :: t) = 0 := by simp only [bad]; rw [if_neg hc]
      refine ⟨by rw [e, List.length_cons]; omega, by simp only [e]; simpa using hc, fun j acc' => ?_⟩
      rw [e]
      refine ⟨?_, fun ys => ?_⟩
      · simp only [putU]; rw [if_neg hc]; simp
      · rw [List.cons_append]; simp only [putU]; rw [if_neg hc]; simp
theorem putU_app : ∀ (xs ys : List Int) (i : Int) (acc : List Int), (∀ c ∈ xs, sc c = true) → putU (xs ++ ys) i acc = putU ys (i + xs.length) (acc ++ xs.flatMap enc) := by
  intro xs
  induction xs with
  | nil => intro ys i acc _; simp
  | cons c t ih =>
    intro ys i acc h
    rw [List.cons_append]
    simp only [putU]
    rw [if_pos (h c (by simp)), ih _ _ _ (fun x hx => h x (by simp [hx])), List.flatMap_cons, List.append_assoc, List.length_cons]
    congr 1; omega
theorem getU_shift : ∀ (f : Nat) (b : List Int) (i j : Int) (acc acc' : List Int), (getU f b i acc).2.2 = (getU f b j acc').2.2 ∧ ((getU f b i acc).2.2 ≠ 0 → (getU f b i acc).2.1 - i = (getU f b j acc').2.1 - j) := by
  intro f
  induction f with
  | zero => intro b i j acc acc'; exact ⟨rfl, fun h => absurd rfl h⟩
  | succ f ih =>
    intro b i j acc acc'
    simp only [getU]
    by_cases h0 : b.length = 0
    · rw [if_pos h0, if_pos h0]; exact ⟨rfl, fun h => absurd rfl h⟩
    · rw [if_neg h0, if_neg h0]
      by_cases h1 : (dec1 b).2 = 0
      · rw [if_pos h1, if_pos h1]; refine ⟨rfl, fun _ => ?_⟩
        show i - i = j - j
        omega
      · rw [if_neg h1, if_neg h1]
        obtain ⟨h2, h3⟩ := ih (b.drop (dec1 b).2.toNat) (i + (dec1 b).2) (j + (dec1 b).2) (acc ++ [(dec1 b).1]) (acc' ++ [(dec1 b).1])
        exact ⟨h2, fun h => by have := h3 h; omega⟩
theorem getU_at : ∀ (f : Nat) (b : List Int) (i : Int) (acc : List Int), (∀ x ∈ b, 0 ≤ x ∧ x < 256) → 0 ≤ i → (getU f b i acc).2.1 ≤ i + b.length ∧ 0 ≤ (getU f b i acc).2.1 := by
  intro f
  induction f with
  | zero => intro b i acc hb hi; simp only [getU]; omega
  | succ f ih =>
    intro b i acc hb hi
    simp only [getU]
    by_cases h0 : b.length = 0
    · rw [if_pos h0]; simp only; omega
    · rw [if_neg h0]
      by_cases h1 : (dec1 b).2 = 0
      · rw [if_pos h1]; simp only; omega
      · rw [if_neg h1]
        obtain ⟨n1, n2, n3⟩ := dec1_n b hb h1
        have := ih (b.drop (dec1 b).2.toNat) (i + (dec1 b).2) (acc ++ [(dec1 b).1]) (fun x hx => hb x (List.mem_of_mem_drop hx)) (by omega)
        rw [List.length_drop] at this
        omega
theorem parts_j1 (a c : List Int) (ha : a.length ≤ 400) (hc : c.length ≤ 400) (hs : ∀ x ∈ a, sc x = true) (hb : ∀ x ∈ c, 0 ≤ x ∧ x < 256) (k : Nat) (hk : 50000 ≤ k) : sobriquetlaw13_Utf8Parts.j1 k c (a.flatMap enc) false = some true := by
  obtain ⟨k, rfl⟩ : ∃ m, k = m + 1 := ⟨k - 1, by omega⟩
  have hl := flat_len a
  have hfb := flat_bd a hs
  have hab : ∀ x ∈ a.flatMap enc ++ c, 0 ≤ x ∧ x < 256 := by
    intro x hx
    rcases List.mem_append.1 hx with h | h
    · exact hfb x h
    · exact hb x h
  rw [sobriquetlaw13_Utf8Parts.j1, if_neg (by decide), Twin_f _ (by omega)]
  simp only [Option.bind_some]
  rw [if_pos (by omega), get_f _ k (by rw [List.length_append]; omega) hab (by omega), get_f c k (by omega) hb (by omega), wakes_ok k (by omega)]
  simp only [Option.bind_some]
  have e := getU_flat c ((a.flatMap enc).length + c.length) a 0 [] hs
  rw [getU_fuel _ (a.length + ((a.flatMap enc).length + c.length)) _ _ _ hab (Nat.le_refl _) (by rw [List.length_append]; omega), e, getU_fuel _ c.length c _ _ hb (by omega) (Nat.le_refl _)]
  obtain ⟨h1, h2⟩ := getU_shift c.length c (0 + ((a.flatMap enc).length : Int)) 0 ([] ++ a) []
  have h3 := getU_at c.length c 0 [] hb (by omega)
  rw [if_pos h1]
  by_cases h0 : (getU c.length c (0 + ((a.flatMap enc).length : Int)) ([] ++ a)).2.2 = 0
  · rw [if_pos h0]
  · rw [if_neg h0, w64 (by omega) (by omega), if_pos (by have := h2 h0; omega)]

theorem Utf8Parts : sobriquetlaw13_Utf8Parts.Pure := by
  intro a b c _ _ _ _ _ _ _ _ hc8
  obtain ⟨k, hk⟩ : ∃ k, 100000 ≤ k := ⟨100000, Nat.le_refl _⟩
  refine ⟨k, ?_⟩
  have hcb := wfu8 hc8
  unfold sobriquetlaw13_Utf8Parts.f
  obtain ⟨k, rfl⟩ : ∃ m, k = m + 1 := ⟨k - 1, by omega⟩
  have T : sobriquetlaw13_Utf8Parts.j0 (k + 1) a b c true = some true := by rw [sobriquetlaw13_Utf8Parts.j0, if_pos rfl]
  rw [T]
  by_cases h1' : 400 < a.length
  · rw [if_pos (show ((a.length : Int) > 400) by omega)]
  by_cases h2' : 400 < b.length
  · rw [if_neg (show ¬ ((a.length : Int) > 400) by omega), if_pos (show ((b.length : Int) > 400) by omega)]
  by_cases h3' : 400 < c.length
  · rw [if_neg (show ¬ ((a.length : Int) > 400) by omega), if_neg (show ¬ ((b.length : Int) > 400) by omega), dec_t _ (show ((c.length : Int) > 400) by omega), T]
  have h1 : a.length ≤ 400 := by omega
  have h2 : b.length ≤ 400 := by omega
  have h3 : c.length ≤ 400 := by omega
  rw [if_neg (show ¬ ((a.length : Int) > 400) by omega), if_neg (show ¬ ((b.length : Int) > 400) by omega), dec_f _ (show ¬ ((c.length : Int) > 400) by omega), sobriquetlaw13_Utf8Parts.j0, if_neg (by decide),
    put_f a k (by omega) (by omega), put_f b k (by omega) (by omega), TwinInts_f a (by omega)]
  simp only [Option.bind_some]
  rw [if_pos (by omega), put_f (a ++ b) k (by rw [List.length_append]; omega) (by omega), wakes_ok k (by omega)]
  simp only [Option.bind_some]
  by_cases ea : (putU a 0 []).2.2 = 0
  · obtain ⟨sa, ea2⟩ := putU_ok a 0 [] ea
    have hla := flat_len a
    have hlb := flat_len b
    rw [if_pos ea]
    by_cases eb : (putU b 0 []).2.2 = 0
    · obtain ⟨sb, eb2⟩ := putU_ok b 0 [] eb
      rw [if_pos eb, putU_app a b 0 [] sa, putU_all b _ _ sb, ea2, eb2]
      simp only [List.nil_append, if_true]
      rw [Twin_f _ (by omega)]
      simp only [Option.bind_some]
      rw [if_pos (by omega), Bytes_f _ _ k (by rw [List.length_append]; omega) (by rw [List.length_append]; omega)]
      simp only [decide_true, Option.bind_some, Bool.not_true]
      exact parts_j1 a c h1 h3 sa hcb k (by omega)
    · obtain ⟨hp, q1, q2⟩ := putU_bad b 0 [] eb
      rw [if_neg eb, putU_app a b 0 [] sa, (q2 _ _).1, (q2 _ _).1]
      simp only [if_true, List.length_nil]
      rw [w64 (by omega) (by omega), if_pos (by omega)]
      rfl
  · obtain ⟨hp, q1, q2⟩ := putU_bad a 0 [] ea
    rw [if_neg ea, (q2 _ _).2, (q2 _ _).1]
    simp only [if_true, List.length_nil]
    rw [if_pos (by omega), if_pos (by omega), if_pos (by omega), show (0 : Int) + (bad a : Int) = ((bad a : Nat) : Int) by omega, rd_nat a _ hp, RefScalar_f, q1]
    rfl

end Go.Proofs.Ytojffdcefplipaa.Pure
