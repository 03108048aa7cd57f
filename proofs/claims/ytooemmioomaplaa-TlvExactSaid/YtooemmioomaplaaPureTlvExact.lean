/- The pure side of TlvExact: head, first value, head's bytes, wrapped content are the reference's. No condition. -/
import Derived.Test.YtooemmioomaplaaMTlvExactx9
namespace Go.Proofs.Ytooemmioomaplaa.Pure
open Go.RowKit Go.Proofs.Ytooemmioomaplaa.MTlvExact Go.Proofs.YtooemmioomaplaaW.PrintWords Go.Proofs.YtooemmioomaplaaW.PrintLast
set_option linter.unusedVariables false
set_option linter.unusedSimpArgs false
set_option maxHeartbeats 1000000

theorem w64 {x : Int} (h0 : -9223372036854775808 ≤ x) (h1 : x ≤ 9223372036854775807) : wrap64 x = x := by unfold wrap64; omega
theorem w64_nat {i n : Nat} (h : i < n) (hn : n ≤ 4611686018427387904) : wrap64 ((i : Int) + 1) = ((i + 1 : Nat) : Int) := by unfold wrap64; omega
theorem rd_nat (xs : List Int) (i : Nat) (h : i < xs.length) : rd xs (i : Int) = xs[i] := by simp [rd, List.getD_eq_getElem?_getD, List.getElem?_eq_getElem h]
theorem wf64 {a : Int} (h : (Lit.int .i64 a).wf = true) : -9223372036854775808 ≤ a ∧ a ≤ 9223372036854775807 := by
  simpa [Lit.wf, show IntKind.i64.min = -9223372036854775808 from rfl] using h
theorem tdiv_nn {a : Int} (h : 0 ≤ a) (b : Int) : Int.tdiv a b = a / b := Int.tdiv_eq_ediv_of_nonneg h
theorem tmod_nn {a : Int} (h : 0 ≤ a) (b : Int) : Int.tmod a b = a % b := Int.tmod_eq_emod_of_nonneg h
theorem dec_iff (p q : Prop) [Decidable p] [Decidable q] (h : p ↔ q) : decide p = decide q := by simp [h]
theorem dec_t (p : Prop) [Decidable p] (h : p) : decide p = true := by simp [h]
theorem dec_f (p : Prop) [Decidable p] (h : ¬ p) : decide p = false := by simp [h]
theorem tmod_bd (a c : Int) (hc : 0 < c) : -c < Int.tmod a c ∧ Int.tmod a c < c := by
  have h1 := Int.emod_nonneg a (b := c) (by omega)
  have h2 := Int.emod_lt_of_pos a hc
  have h3 : ((c.natAbs : Nat) : Int) = c := by omega
  have h4 := Int.tmod_lt_of_pos a hc
  refine ⟨?_, h4⟩
  rw [Int.tmod_eq_emod]
  split
  · omega
  · rename_i h
    have : a % c ≠ 0 := fun e => h (.inr (Int.dvd_of_emod_eq_zero e))
    omega
theorem w64l (x y : Int) (h : x = y ∧ -9223372036854775808 ≤ y ∧ y ≤ 9223372036854775807) : wrap64 x = y := by rw [h.1]; exact w64 h.2.1 h.2.2

theorem Rev_l0 (n : Nat) (hn : n ≤ 1099511627776) : ∀ (d k i : Nat) (xs : List Int), xs.length = n → n ≤ 2 * i + d → i ≤ n → d < k →
    ∃ ys, slices_Reverse_byte_byte.l0 k xs i ((n : Int) - 1 - i) = some ys ∧ ys.length = n ∧ ∀ p, p < n → ys[p]? = if i ≤ p ∧ p + i < n then xs[n - 1 - p]? else xs[p]? := by
  intro d
  induction d with
  | zero =>
    intro k i xs hx hd hi hk
    obtain ⟨k, rfl⟩ : ∃ m, k = m + 1 := ⟨k - 1, by omega⟩
    refine ⟨xs, by rw [slices_Reverse_byte_byte.l0, if_neg (by omega)], hx, fun p hp => ?_⟩
    rw [if_neg (by omega)]
  | succ d ih =>
    intro k i xs hx hd hi hk
    obtain ⟨k, rfl⟩ : ∃ m, k = m + 1 := ⟨k - 1, by omega⟩
    rw [slices_Reverse_byte_byte.l0]
    by_cases hc : 2 * i + 1 < n
    · have h1 : i < xs.length := by omega
      have h2 : n - 1 - i < xs.length := by omega
      have ej : ((n : Int) - 1 - i) = ((n - 1 - i : Nat) : Int) := by omega
      rw [ej, if_pos (by omega), if_pos (by omega), if_pos (by omega), if_pos (by omega), if_pos (by omega), rd_nat xs _ h2, rd_nat xs i h1, Int.toNat_natCast, Int.toNat_natCast, w64 (x := (i : Int) + 1) (by omega) (by omega), w64 (by omega) (by omega),
        show (i : Int) + 1 = ((i + 1 : Nat) : Int) from rfl, show (((n - 1 - i : Nat) : Int) - 1) = (n : Int) - 1 - ((i + 1 : Nat) : Int) by omega]
      obtain ⟨ys, y1, y2, y3⟩ := ih k (i + 1) ((xs.set i xs[n - 1 - i]).set (n - 1 - i) xs[i]) (by simp [hx]) (by omega) (by omega) (by omega)
      refine ⟨ys, y1, y2, fun p hp => ?_⟩
      rw [y3 p hp]
      by_cases c1 : i + 1 ≤ p ∧ p + (i + 1) < n
      · rw [if_pos c1, if_pos (by omega), List.getElem?_set_ne (by omega), List.getElem?_set_ne (by omega)]
      · rw [if_neg c1]
        by_cases c2 : p = i
        · subst c2
          rw [if_pos (by omega), List.getElem?_set_ne (by omega), List.getElem?_set_self h1, List.getElem?_eq_getElem h2]
        · by_cases c3 : p = n - 1 - i
          · subst c3
            rw [if_pos (by omega), List.getElem?_set_self (by simp; omega), show n - 1 - (n - 1 - i) = i by omega, List.getElem?_eq_getElem h1]
          · rw [if_neg (by omega), List.getElem?_set_ne (by omega), List.getElem?_set_ne (by omega)]
    · refine ⟨xs, by rw [if_neg (by omega)], hx, fun p hp => ?_⟩
      by_cases c : i ≤ p ∧ p + i < n
      · rw [if_pos c, show n - 1 - p = p by omega]
      · rw [if_neg c]
theorem Rev_f (xs : List Int) (k : Nat) (hn : xs.length ≤ 1099511627776) (hk : xs.length < k) : slices_Reverse_byte_byte.f k xs = some xs.reverse := by
  unfold slices_Reverse_byte_byte.f
  obtain ⟨ys, y1, y2, y3⟩ := Rev_l0 xs.length hn xs.length k 0 xs rfl (by omega) (by omega) hk
  rw [w64 (by omega) (by omega)]
  rw [show (xs.length : Int) - 1 = (xs.length : Int) - 1 - ((0 : Nat) : Int) by omega, show (0 : Int) = ((0 : Nat) : Int) from rfl, y1]
  congr 1
  apply List.ext_getElem?
  intro p
  by_cases hp : p < xs.length
  · rw [y3 p hp, if_pos (by omega), List.getElem?_reverse hp]
  · rw [List.getElem?_eq_none (by omega), List.getElem?_eq_none (by simp; omega)]

theorem Bytes_l0 (a b : List Int) (hl : a.length = b.length) (hm : a.length ≤ 4611686018427387904) : ∀ (d k i : Nat), i + d = a.length → d < k → sobriquetkeep_Bytes.l0 k a b (i : Int) = some (decide (a.drop i = b.drop i)) := by
  intro d
  induction d with
  | zero =>
    intro k i hi hk
    obtain ⟨k, rfl⟩ : ∃ m, k = m + 1 := ⟨k - 1, by omega⟩
    simp only [sobriquetkeep_Bytes.l0]
    rw [if_neg (by omega), List.drop_eq_nil_of_le (by omega), List.drop_eq_nil_of_le (by omega)]
    simp
  | succ d ih =>
    intro k i hi hk
    obtain ⟨k, rfl⟩ : ∃ m, k = m + 1 := ⟨k - 1, by omega⟩
    have ha : i < a.length := by omega
    have hb : i < b.length := by omega
    simp only [sobriquetkeep_Bytes.l0]
    rw [if_pos (by omega), if_pos (by omega), if_pos (by omega), rd_nat a i ha, rd_nat b i hb, w64_nat ha hm, ih k (i + 1) (by omega) (by omega), List.drop_eq_getElem_cons ha, List.drop_eq_getElem_cons hb]
    by_cases h : a[i] = b[i]
    · simp only [h, if_true, List.cons.injEq, true_and]
    · simp only [h, if_false, List.cons.injEq, false_and, decide_false]
theorem Bytes_f (a b : List Int) (k : Nat) (hm : a.length ≤ 4611686018427387904) (hk : a.length < k) : sobriquetkeep_Bytes.f k a b = some (decide (a = b)) := by
  unfold sobriquetkeep_Bytes.f
  by_cases hl : a.length = b.length
  · rw [if_pos (by omega)]
    have := Bytes_l0 a b hl hm a.length k 0 (by omega) hk
    simpa using this
  · rw [if_neg (by omega)]
    have : a ≠ b := fun h => hl (by rw [h])
    simp [this]

theorem Twin_f (l : List Int) (h : l.length < 140737488355328) : sobriquetkeep_Twin.f l = some l := by
  unfold sobriquetkeep_Twin.f
  rw [if_pos (by simpa using h)]; simp

theorem wraps_i64 (n : Int) (h₀ : 0 ≤ n) (h₁ : n < 2 ^ 62) : IntKind.i64.wrap n = n := by rw [IntKind.wrap_i64]; omega
theorem and127 (x : Int) (h0 : 0 ≤ x) (h1 : x < 4611686018427387904) : Go.bits .and .i64 x 127 = x % 128 :=
  bits_mask .i64 62 (by decide) wraps_i64 7 (by decide) x h0 (by omega)
theorem and31 (x : Int) (h0 : 0 ≤ x) (h1 : x < 4611686018427387904) : Go.bits .and .i64 x 31 = x % 32 :=
  bits_mask .i64 62 (by decide) wraps_i64 5 (by decide) x h0 (by omega)
theorem orp (i : Nat) (hi : i ≤ 62) (x y : Int) (hx0 : 0 ≤ x) (hx : x % 2 ^ i = 0) (hx1 : x < 2 ^ 62) (hy0 : 0 ≤ y) (hy : y < 2 ^ i) (hy1 : y < 2 ^ 62) : Go.bits .or .i64 x y = x + y :=
  bits_join .i64 62 (by decide) wraps_i64 i x y hx0 hx hx1 hy0 hy hy1
theorem or_comm (x y : Int) (hx0 : 0 ≤ x) (hx1 : x < 2 ^ 62) (hy0 : 0 ≤ y) (hy1 : y < 2 ^ 62) : Go.bits .or .i64 x y = Go.bits .or .i64 y x := by
  obtain ⟨a, rfl⟩ := Int.eq_ofNat_of_zero_le hx0
  obtain ⟨b, rfl⟩ := Int.eq_ofNat_of_zero_le hy0
  rw [(bits_nat .i64 62 (by decide) wraps_i64 a b (by exact_mod_cast hx1) (by exact_mod_cast hy1)).2, (bits_nat .i64 62 (by decide) wraps_i64 b a (by exact_mod_cast hy1) (by exact_mod_cast hx1)).2, Nat.or_comm]
theorem or128 (y : Int) (h0 : 0 ≤ y) (h1 : y < 128) : Go.bits .or .i64 y 128 = y + 128 := by
  rw [or_comm y 128 h0 (by omega) (by decide) (by decide), orp 7 (by decide) 128 y (by decide) (by decide) (by decide) h0 (by omega) (by omega)]; omega
theorem or7 (x y : Int) (h0 : 0 ≤ x) (h1 : x < 1099511627776) (h2 : 0 ≤ y) (h3 : y < 128) : Go.bits .or .i64 (x * 128) y = x * 128 + y :=
  orp 7 (by decide) (x * 128) y (by omega) (by omega) (by omega) h2 (by omega) (by omega)
theorem or8 (x y : Int) (h0 : 0 ≤ x) (h1 : x < 1099511627776) (h2 : 0 ≤ y) (h3 : y < 256) : Go.bits .or .i64 (x * 256) y = x * 256 + y :=
  orp 8 (by decide) (x * 256) y (by omega) (by omega) (by omega) h2 (by omega) (by omega)

def contLE (m : Int) : List Int := if m ≤ 0 then [] else (m % 128 + 128) :: contLE (m / 128)
termination_by m.toNat
decreasing_by omega
def byLE (m : Int) : List Int := if m ≤ 0 then [] else (m % 256) :: byLE (m / 256)
termination_by m.toNat
decreasing_by omega
def contBE (m : Int) : List Int := (contLE m).reverse
def lenB (n : Int) : List Int := if n < 128 then [n] else (128 + ((byLE n).length : Int)) :: (byLE n).reverse
def encH (cls tag : Int) (cons : Bool) (len : Int) : List Int :=
  (if tag < 31 then [cls * 64 + (if cons = true then 32 else 0) + tag] else (cls * 64 + (if cons = true then 32 else 0) + 31) :: (contBE (tag / 128) ++ [tag % 128])) ++ lenB len
theorem contLE_pos (m : Int) (h : 0 < m) : contLE m = (m % 128 + 128) :: contLE (m / 128) := by rw [contLE, if_neg (by omega)]
theorem contLE_nil (m : Int) (h : m ≤ 0) : contLE m = [] := by rw [contLE, if_pos h]
theorem byLE_pos (m : Int) (h : 0 < m) : byLE m = (m % 256) :: byLE (m / 256) := by rw [byLE, if_neg (by omega)]
theorem byLE_nil (m : Int) (h : m ≤ 0) : byLE m = [] := by rw [byLE, if_pos h]
theorem contBE_pos (m : Int) (h : 0 < m) : contBE m = contBE (m / 128) ++ [m % 128 + 128] := by unfold contBE; rw [contLE_pos m h, List.reverse_cons]
theorem contBE_nil (m : Int) (h : m ≤ 0) : contBE m = [] := by unfold contBE; rw [contLE_nil m h]; rfl
theorem byLE_len4 (n : Int) (h0 : 128 ≤ n) (h1 : n ≤ 2147483647) : 1 ≤ (byLE n).length ∧ (byLE n).length ≤ 4 := by
  rw [byLE_pos n (by omega)]
  by_cases a : 0 < n / 256
  · rw [byLE_pos _ a]
    by_cases b : 0 < n / 256 / 256
    · rw [byLE_pos _ b]
      by_cases c : 0 < n / 256 / 256 / 256
      · rw [byLE_pos _ c, byLE_nil _ (by omega)]; simp
      · rw [byLE_nil _ (by omega)]; simp
    · rw [byLE_nil _ (by omega)]; simp
  · rw [byLE_nil _ (by omega)]; simp
theorem contLE_len (m : Int) (h0 : 0 ≤ m) (h1 : m ≤ 268435455) : (contLE m).length ≤ 4 := by
  by_cases a : 0 < m
  · rw [contLE_pos _ a]
    by_cases b : 0 < m / 128
    · rw [contLE_pos _ b]
      by_cases c : 0 < m / 128 / 128
      · rw [contLE_pos _ c]
        by_cases d : 0 < m / 128 / 128 / 128
        · rw [contLE_pos _ d, contLE_nil _ (by omega)]; simp
        · rw [contLE_nil _ (by omega)]; simp
      · rw [contLE_nil _ (by omega)]; simp
    · rw [contLE_nil _ (by omega)]; simp
  · rw [contLE_nil _ (by omega)]; simp
theorem sev_l0 : ∀ (N k : Nat) (m : Int) (acc : List Int), m.toNat ≤ N → 0 ≤ m → m ≤ 268435455 → acc.length + N ≤ 1000000000 → acc.length + 2 * N + 1 < k → tlv_sevens.l0 k m acc = some (acc ++ contLE m).reverse := by
  intro N
  induction N with
  | zero =>
    intro k m acc hm h0 h1 hl hk
    obtain ⟨k, rfl⟩ : ∃ j, k = j + 1 := ⟨k - 1, by omega⟩
    rw [tlv_sevens.l0, if_neg (by omega), Rev_f acc k (by omega) (by omega), contLE_nil m (by omega), List.append_nil]; rfl
  | succ N ih =>
    intro k m acc hm h0 h1 hl hk
    obtain ⟨k, rfl⟩ : ∃ j, k = j + 1 := ⟨k - 1, by omega⟩
    rw [tlv_sevens.l0]
    by_cases hp : m > 0
    · rw [if_pos hp, if_pos (by omega), and127 m h0 (by omega), or128 _ (by omega) (by omega), show (m % 128 + 128) % 256 = m % 128 + 128 by omega, ih k (m / 128) _ (by omega) (by omega) (by omega) (by simp; omega) (by simp; omega), contLE_pos m hp, List.append_assoc]; rfl
    · rw [if_neg hp, Rev_f acc k (by omega) (by omega), contLE_nil m (by omega), List.append_nil]; rfl
theorem sevens_f (k : Nat) (hk : 1000000000 ≤ k) (n : Int) (h0 : 0 ≤ n) (h1 : n ≤ 268435455) : tlv_sevens.f k n = some (contBE (n / 128) ++ [n % 128]) := by
  unfold tlv_sevens.f
  rw [and127 n h0 (by omega), show n % 128 % 256 = n % 128 by omega, sev_l0 (n / 128).toNat k (n / 128) _ (Nat.le_refl _) (by omega) (by omega) (by simp; omega) (by simp; omega)]
  simp [contBE]
theorem len_l0 : ∀ (N k : Nat) (m : Int) (acc : List Int), m.toNat ≤ N → 0 ≤ m → m ≤ 2147483647 → acc.length + N ≤ 3000000000 → acc.length + 2 * N + 3 < k → (acc ++ byLE m).length < 100 → tlv_length.l0 k m acc = some ((acc ++ byLE m) ++ [128 + ((acc ++ byLE m).length : Int)]).reverse := by
  intro N
  induction N with
  | zero =>
    intro k m acc hm h0 h1 hl hk h100
    obtain ⟨k, rfl⟩ : ∃ j, k = j + 1 := ⟨k - 1, by omega⟩
    rw [byLE_nil m (by omega), List.append_nil] at h100 ⊢
    rw [tlv_length.l0, if_neg (by omega), if_pos (by omega), w64 (by omega) (by omega), show (128 + (acc.length : Int)) % 256 = 128 + (acc.length : Int) by omega, Rev_f _ k (by simp; omega) (by simp; omega)]; rfl
  | succ N ih =>
    intro k m acc hm h0 h1 hl hk h100
    obtain ⟨k, rfl⟩ : ∃ j, k = j + 1 := ⟨k - 1, by omega⟩
    rw [tlv_length.l0]
    by_cases hp : m > 0
    · have e : acc ++ byLE m = (acc ++ [m % 256]) ++ byLE (m / 256) := by rw [byLE_pos m hp, List.append_assoc]; rfl
      rw [e] at h100 ⊢
      rw [if_pos hp, if_pos (by omega), ih k (m / 256) _ (by omega) (by omega) (by omega) (by simp; omega) (by simp; omega) h100]
    · rw [byLE_nil m (by omega), List.append_nil] at h100 ⊢
      rw [if_neg hp, if_pos (by omega), w64 (by omega) (by omega), show (128 + (acc.length : Int)) % 256 = 128 + (acc.length : Int) by omega, Rev_f _ k (by simp; omega) (by simp; omega)]; rfl
theorem length_f (k : Nat) (hk : 5000000000 ≤ k) (n : Int) (h0 : 0 ≤ n) (h1 : n ≤ 2147483647) : tlv_length.f k n = some (lenB n) := by
  unfold tlv_length.f lenB
  by_cases h : n < 128
  · rw [if_pos h, if_pos h, show n % 256 = n by omega]
  · have h4 := byLE_len4 n (by omega) h1
    rw [if_neg h, if_neg h, len_l0 n.toNat k n [] (Nat.le_refl _) h0 h1 (by simp; omega) (by simp; omega) (by simp; omega)]
    simp
theorem concat3 (k : Nat) (hk : 20 ≤ k) (a b c : List Int) (ha : a.length ≤ 1000) (hb : b.length ≤ 1000) (hc : c.length ≤ 1000) : slices_Concat_byte_byte.f k [a, b, c] = some (a ++ (b ++ c)) := by
  obtain ⟨k, rfl⟩ : ∃ j, k = j + 8 := ⟨k - 8, by omega⟩
  unfold slices_Concat_byte_byte.f
  have L : ((([a, b, c] : List (List Int)).length : Nat) : Int) = 3 := rfl
  have r0 : rd_L1 [a, b, c] 0 = a := rfl
  have r1 : rd_L1 [a, b, c] 1 = b := rfl
  have r2 : rd_L1 [a, b, c] 2 = c := rfl
  have M : ∀ k, slices_Concat_byte_byte.l1 (k + 4) [] [a, b, c] 3 0 = some (a ++ (b ++ c)) := by
    intro k
    rw [slices_Concat_byte_byte.l1, L, r0, if_pos (by decide), if_pos (by decide), if_pos (by decide), if_pos (by simp; omega), w64l (0 + 1) 1 (by decide),
      slices_Concat_byte_byte.l1, L, r1, if_pos (by decide), if_pos (by decide), if_pos (by decide), if_pos (by simp; omega), w64l (1 + 1) 2 (by decide),
      slices_Concat_byte_byte.l1, L, r2, if_pos (by decide), if_pos (by decide), if_pos (by decide), if_pos (by simp; omega), w64l (2 + 1) 3 (by decide),
      slices_Concat_byte_byte.l1, if_neg (by decide)]
    simp
  rw [L, slices_Concat_byte_byte.l0, L, r0, if_pos (by decide), if_pos (by decide), if_pos (by decide), w64 (x := 0 + (a.length : Int)) (by omega) (by omega), if_neg (by omega), w64l (0 + 1) 1 (by decide),
    slices_Concat_byte_byte.l0, L, r1, if_pos (by decide), if_pos (by decide), if_pos (by decide), w64 (x := 0 + (a.length : Int) + (b.length : Int)) (by omega) (by omega), if_neg (by omega), w64l (1 + 1) 2 (by decide),
    slices_Concat_byte_byte.l0, L, r2, if_pos (by decide), if_pos (by decide), if_pos (by decide), w64 (x := 0 + (a.length : Int) + (b.length : Int) + (c.length : Int)) (by omega) (by omega), if_neg (by omega), w64l (2 + 1) 3 (by decide),
    slices_Concat_byte_byte.l0, if_neg (by decide)]
  unfold slices_Grow_byte_byte.f
  rw [if_pos ⟨rfl, by omega, by omega⟩]
  simp only [Option.bind_some, L]
  exact M k
def okH (cls tag len : Int) : Prop := 0 ≤ cls ∧ cls ≤ 3 ∧ 0 ≤ tag ∧ tag ≤ 268435455 ∧ 0 ≤ len ∧ len ≤ 2147483647
instance (a b c : Int) : Decidable (okH a b c) := by unfold okH; infer_instance
theorem lenB_len (n : Int) (h0 : 0 ≤ n) (h1 : n ≤ 2147483647) : 1 ≤ (lenB n).length ∧ (lenB n).length ≤ 5 := by
  unfold lenB
  by_cases h : n < 128
  · rw [if_pos h]; simp
  · have := byLE_len4 n (by omega) h1
    rw [if_neg h]; simp; omega
theorem bytes_f (k : Nat) (hk : 6000000000 ≤ k) (cls tag : Int) (cons : Bool) (len size : Int) : tlv_Bytes.f k cls tag cons len size = some (if okH cls tag len then (encH cls tag cons len, 0) else ([], 1)) := by
  obtain ⟨k, rfl⟩ : ∃ j, k = j + 2 := ⟨k - 2, by omega⟩
  have T : tlv_Bytes.j0 (k + 2) true cls tag cons len size = some ([], 1) := by rw [tlv_Bytes.j0, if_pos rfl]
  unfold tlv_Bytes.f
  rw [T]
  by_cases c1 : cls < 0
  · rw [if_pos c1, if_neg (by unfold okH; omega)]
  by_cases c2 : cls > 3
  · rw [if_neg c1, if_pos c2, if_neg (by unfold okH; omega)]
  by_cases c3 : tag < 0
  · rw [if_neg c1, if_neg c2, if_pos c3, if_neg (by unfold okH; omega)]
  by_cases c4 : tag > 268435455
  · rw [if_neg c1, if_neg c2, if_neg c3, if_pos c4, if_neg (by unfold okH; omega)]
  by_cases c5 : len < 0
  · rw [if_neg c1, if_neg c2, if_neg c3, if_neg c4, if_pos c5, if_neg (by unfold okH; omega)]
  by_cases c6 : len > 2147483647
  · rw [if_neg c1, if_neg c2, if_neg c3, if_neg c4, if_neg c5, dec_t _ c6, T, if_neg (by unfold okH; omega)]
  rw [if_neg c1, if_neg c2, if_neg c3, if_neg c4, if_neg c5, dec_f _ c6, tlv_Bytes.j0, if_neg (by decide), if_pos (show okH cls tag len by unfold okH; omega), w64 (x := cls * 64) (by omega) (by omega)]
  have main : ∀ x, 0 ≤ x → x ≤ 224 → x % 32 = 0 → tlv_Bytes.j1 (k + 1) x cls tag cons len size = some ((if tag < 31 then [x + tag] else (x + 31) :: (contBE (tag / 128) ++ [tag % 128])) ++ lenB len, 0) := by
    intro x hx0 hx1 hx2
    have hlb := lenB_len len (by omega) (by omega)
    have hcl := contLE_len (tag / 128) (by omega) (by omega)
    rw [tlv_Bytes.j1]
    by_cases t : tag < 31
    · rw [if_pos t, if_pos t, length_f k (by omega) len (by omega) (by omega), orp 5 (by decide) x tag hx0 (by omega) (by omega) (by omega) (by omega) (by omega), show (x + tag) % 256 = x + tag by omega]
      simp only [Option.bind_some]
      rw [if_pos (by simp; omega)]
    · rw [if_neg t, if_neg t, length_f k (by omega) len (by omega) (by omega), sevens_f k (by omega) tag (by omega) (by omega), orp 5 (by decide) x 31 hx0 (by omega) (by omega) (by omega) (by omega) (by omega), show (x + 31) % 256 = x + 31 by omega]
      simp only [Option.bind_some]
      rw [concat3 k (by omega) _ _ _ (by simp) (by simp [contBE]; omega) (by omega)]
      simp
  unfold encH
  cases cons with
  | true => rw [if_pos rfl, orp 6 (by decide) (cls * 64) 32 (by omega) (by omega) (by omega) (by omega) (by omega) (by omega), main _ (by omega) (by omega) (by omega), if_pos rfl]
  | false => rw [if_neg (show ¬ (false = true) by decide), main _ (by omega) (by omega) (by omega), if_neg (show ¬ (false = true) by decide), Int.add_zero]

def tagP : List Int → Int → Bool → Int → Int × Int × Int
  | [], _, _, pos => (0, 2, pos)
  | c :: t, n, first, pos => if (first = true ∧ c = 128) ∨ n * 128 + c % 128 > 268435455 then (0, 3, pos + 1) else if c ≥ 128 then tagP t (n * 128 + c % 128) false (pos + 1) else if n * 128 + c % 128 < 31 then (0, 3, pos + 1) else (n * 128 + c % 128, 0, pos + 1)
def lenL : Nat → List Int → Int → Bool → Int → Int × Int × Int
  | 0, _, n, _, pos => if n > 2147483647 then (0, 4, pos) else if n < 128 then (0, 4, pos) else (n, 0, pos)
  | _ + 1, [], _, _, pos => (0, 2, pos)
  | m + 1, x :: t, n, first, pos => if first = true ∧ x = 0 then (0, 4, pos + 1) else lenL m t (n * 256 + x) false (pos + 1)
def lenP : List Int → Int → Int × Int × Int
  | [], pos => (0, 2, pos)
  | c :: t, pos => if c < 128 then (c, 0, pos + 1) else if c = 128 then (0, 4, pos + 1) else if c - 128 > 4 then (0, 4, pos + 1) else lenL (c - 128).toNat t 0 true (pos + 1)
def tagQ (c : Int) (t : List Int) : Int × Int × Int := if c % 32 = 31 then tagP t 0 true 1 else (c % 32, 0, 1)
def readH : List Int → Int × Int × Bool × Int × Int × Int
  | [] => (0, 0, false, 0, 0, 2)
  | c :: t => if (tagQ c t).2.1 = 0 then (if (lenP ((c :: t).drop (tagQ c t).2.2.toNat) (tagQ c t).2.2).2.1 = 0 then (c / 64, (tagQ c t).1, decide (c / 32 % 2 = 1), (lenP ((c :: t).drop (tagQ c t).2.2.toNat) (tagQ c t).2.2).1, (lenP ((c :: t).drop (tagQ c t).2.2.toNat) (tagQ c t).2.2).2.2, 0) else (0, 0, false, 0, 0, (lenP ((c :: t).drop (tagQ c t).2.2.toNat) (tagQ c t).2.2).2.1)) else (0, 0, false, 0, 0, (tagQ c t).2.1)
theorem next_f (l : List Int) (hl : l.length ≤ 1000000) (hb : ∀ x ∈ l, 0 ≤ x ∧ x < 256) (p : Nat) : tlv_reader_next.f l p = some (if h : p < l.length then (l[p], true, ((p + 1 : Nat) : Int)) else (0, false, (p : Int))) := by
  unfold tlv_reader_next.f
  by_cases h : p < l.length
  · have := hb l[p] (List.getElem_mem h)
    rw [if_neg (by omega), dif_pos h, w64 (x := (p : Int) + 1) (by omega) (by omega), w64 (x := (p : Int) + 1 - 1) (by omega) (by omega), show (p : Int) + 1 - 1 = p by omega, if_pos (by omega), if_pos (by omega), rd_nat l p h, w64 (by omega) (by omega)]
    rfl
  · rw [if_pos (by omega), dif_neg h]
theorem tag_l0 (l : List Int) (hl : l.length ≤ 1000000) (hb : ∀ x ∈ l, 0 ≤ x ∧ x < 256) : ∀ (d k p : Nat) (n : Int) (first : Bool), l.length ≤ p + d → 2 * d + 2 < k → 0 ≤ n → n ≤ 268435455 → tlv_reader_tag.l0 k n first l p = some (tagP (l.drop p) n first p) := by
  intro d
  induction d with
  | zero =>
    intro k p n first hp hk h0 h1
    obtain ⟨k, rfl⟩ : ∃ m, k = m + 1 := ⟨k - 1, by omega⟩
    rw [tlv_reader_tag.l0, next_f l hl hb, dif_neg (by omega), List.drop_eq_nil_of_le (by omega)]
    rfl
  | succ d ih =>
    intro k p n first hp hk h0 h1
    obtain ⟨k, rfl⟩ : ∃ m, k = m + 2 := ⟨k - 2, by omega⟩
    rw [tlv_reader_tag.l0, next_f l hl hb]
    by_cases h : p < l.length
    · obtain ⟨b0, b1⟩ := hb l[p] (List.getElem_mem h)
      rw [dif_pos h, List.drop_eq_getElem_cons h]
      simp only [Option.bind_some, if_true]
      rw [and127 _ b0 (by omega), w64 (x := n * 128) (by omega) (by omega), or7 n _ h0 (by omega) (by omega) (by omega)]
      have J : ∀ b : Bool, b = decide ((first = true ∧ l[p] = 128) ∨ n * 128 + l[p] % 128 > 268435455) → tlv_reader_tag.j1 (k + 1) (n * 128 + l[p] % 128) l[p] b l ((p + 1 : Nat) : Int) = some (tagP (l[p] :: l.drop (p + 1)) n first p) := by
        intro b hb'
        rw [tlv_reader_tag.j1, hb', tagP]
        by_cases c : (first = true ∧ l[p] = 128) ∨ n * 128 + l[p] % 128 > 268435455
        · rw [dec_t _ c, if_pos rfl, if_pos c]; rfl
        · rw [dec_f _ c, if_neg (by decide), if_neg c]
          by_cases c2 : l[p] ≥ 128
          · rw [if_pos c2, if_pos c2, ih k (p + 1) _ false (by omega) (by omega) (by omega) (by omega)]; rfl
          · rw [if_neg c2, if_neg c2]
            by_cases c3 : n * 128 + l[p] % 128 < 31
            · rw [if_pos c3, if_pos c3]; rfl
            · rw [if_neg c3, if_neg c3]; rfl
      cases first with
      | true =>
        rw [if_pos rfl]
        by_cases c : l[p] = 128
        · rw [if_pos c]; exact J true (by rw [dec_t _ (.inl ⟨rfl, c⟩)])
        · rw [if_neg c]; exact J _ (dec_iff _ _ (by omega))
      | false =>
        rw [if_neg (by decide)]; exact J _ (dec_iff _ _ (by simp))
    · rw [dif_neg h, List.drop_eq_nil_of_le (by omega)]
      rfl
theorem len_l0' (l : List Int) (hl : l.length ≤ 1000000) (hb : ∀ x ∈ l, 0 ≤ x ∧ x < 256) (M : Nat) (hM : M ≤ 4) : ∀ (d k p j : Nat) (n : Int), j + d = M → d < k → 0 ≤ n → n < 256 ^ j → tlv_reader_length.l0 k n M j l p = some (lenL d (l.drop p) n (decide (j = 0)) p) := by
  intro d
  induction d with
  | zero =>
    intro k p j n hj hk h0 h1
    obtain ⟨k, rfl⟩ : ∃ m, k = m + 1 := ⟨k - 1, by omega⟩
    rw [tlv_reader_length.l0, if_neg (by omega), lenL]
    by_cases c : n > 2147483647
    · rw [if_pos c, if_pos c]
    · rw [if_neg c, if_neg c]
      by_cases c2 : n < 128
      · rw [if_pos c2, if_pos c2]
      · rw [if_neg c2, if_neg c2]
  | succ d ih =>
    intro k p j n hj hk h0 h1
    obtain ⟨k, rfl⟩ : ∃ m, k = m + 1 := ⟨k - 1, by omega⟩
    rw [tlv_reader_length.l0, if_pos (by omega), next_f l hl hb]
    by_cases h : p < l.length
    · obtain ⟨b0, b1⟩ := hb l[p] (List.getElem_mem h)
      have hn : n < 16777216 := by
        rcases (show j = 0 ∨ j = 1 ∨ j = 2 ∨ j = 3 by omega) with rfl | rfl | rfl | rfl <;> omega
      rw [dif_pos h, List.drop_eq_getElem_cons h]
      simp only [Option.bind_some, if_true]
      rw [w64 (x := n * 256) (by omega) (by omega), or8 n _ h0 (by omega) b0 b1, w64 (x := (j : Int) + 1) (by omega) (by omega), lenL]
      have R : tlv_reader_length.l0 k (n * 256 + l[p]) M ((j : Int) + 1) l ((p + 1 : Nat) : Int) = some (lenL d (l.drop (p + 1)) (n * 256 + l[p]) false ((p : Int) + 1)) := by
        have := ih k (p + 1) (j + 1) (n * 256 + l[p]) (by omega) (by omega) (by omega) (by rw [Int.pow_succ]; omega)
        rw [dec_f (j + 1 = 0) (by omega)] at this
        exact this
      by_cases c : j = 0
      · rw [if_pos (show (j : Int) = 0 by omega), dec_t _ c]
        by_cases c2 : l[p] = 0
        · rw [if_pos c2, if_pos ⟨rfl, c2⟩]; rfl
        · rw [if_neg c2, if_neg (fun q => c2 q.2)]; exact R
      · rw [if_neg (show ¬ (j : Int) = 0 by omega), dec_f _ c, if_neg (fun q => by cases q.1)]; exact R
    · rw [dif_neg h, List.drop_eq_nil_of_le (by omega)]
      rfl
theorem len_f' (l : List Int) (hl : l.length ≤ 1000000) (hb : ∀ x ∈ l, 0 ≤ x ∧ x < 256) (k p : Nat) (hk : 10 ≤ k) : tlv_reader_length.f k l p = some (lenP (l.drop p) p) := by
  unfold tlv_reader_length.f
  rw [next_f l hl hb]
  by_cases h : p < l.length
  · obtain ⟨b0, b1⟩ := hb l[p] (List.getElem_mem h)
    rw [dif_pos h, List.drop_eq_getElem_cons h]
    simp only [Option.bind_some, if_true]
    rw [lenP, w64 (x := l[p] - 128) (by omega) (by omega)]
    by_cases c1 : l[p] < 128
    · rw [if_pos c1, if_pos c1]; rfl
    · rw [if_neg c1, if_neg c1]
      by_cases c2 : l[p] = 128
      · rw [if_pos c2, if_pos c2]; rfl
      · rw [if_neg c2, if_neg c2]
        by_cases c3 : l[p] - 128 > 4
        · rw [if_pos c3, if_pos c3]; rfl
        · rw [if_neg c3, if_neg c3]
          have := len_l0' l hl hb (l[p] - 128).toNat (by omega) (l[p] - 128).toNat k (p + 1) 0 0 (by omega) (by omega) (by omega) (by simp)
          rw [Int.toNat_of_nonneg (by omega)] at this
          exact this
  · rw [dif_neg h, List.drop_eq_nil_of_le (by omega)]
    rfl
theorem tagP_pos : ∀ (l : List Int) (n : Int) (f : Bool) (p : Int), p ≤ (tagP l n f p).2.2 ∧ (tagP l n f p).2.2 ≤ p + l.length := by
  intro l
  induction l with
  | nil => intro n f p; simp [tagP]
  | cons c t ih =>
    intro n f p
    rw [tagP]
    split
    · simp; omega
    · split
      · have := ih (n * 128 + c % 128) false (p + 1); simp only [List.length_cons]; omega
      · split <;> simp <;> omega
theorem cons_bit : ∀ x : Fin 256, (Go.bits .and .i64 ((x.val : Nat) : Int) 32 != 0) = decide (((x.val : Nat) : Int) / 32 % 2 = 1) := by decide +kernel
theorem read_f (l : List Int) (hl : l.length ≤ 1000000) (hb : ∀ x ∈ l, 0 ≤ x ∧ x < 256) (k : Nat) (hk : 3000000 ≤ k) : tlv_Read.f k l = some (readH l) := by
  unfold tlv_Read.f
  rw [show tlv_reader_next.f l 0 = some (if h : 0 < l.length then (l[0], true, ((0 + 1 : Nat) : Int)) else (0, false, ((0 : Nat) : Int))) from next_f l hl hb 0]
  match l, hl, hb with
  | [], _, _ => rfl
  | c :: t, hl, hb =>
    obtain ⟨b0, b1⟩ := hb c (by simp)
    rw [dif_pos (by simp)]
    simp only [Option.bind_some, if_true, List.getElem_cons_zero]
    have hT : tlv_reader_tag.f k (c :: t) ((0 + 1 : Nat) : Int) (Go.bits .and .i64 c 31) = some (tagQ c t) := by
      unfold tlv_reader_tag.f tagQ
      rw [and31 c b0 (by omega)]
      by_cases h : c % 32 = 31
      · rw [if_pos h, if_pos h, tag_l0 (c :: t) hl hb (c :: t).length k 1 0 true (by omega) (by omega) (by omega) (by omega)]; rfl
      · rw [if_neg h, if_neg h]; rfl
    have hp : 1 ≤ (tagQ c t).2.2 := by
      unfold tagQ
      split
      · exact (tagP_pos t 0 true 1).1
      · simp
    rw [hT, readH]
    simp only [Option.bind_some]
    by_cases h : (tagQ c t).2.1 = 0
    · have hL := len_f' (c :: t) hl hb k (tagQ c t).2.2.toNat (by omega)
      rw [Int.toNat_of_nonneg (by omega)] at hL
      rw [if_pos h, if_pos h, hL]
      simp only [Option.bind_some]
      have hc := cons_bit ⟨c.toNat, by omega⟩
      simp only [Int.toNat_of_nonneg b0] at hc
      rw [hc]
      split <;> rfl
    · rw [if_neg h, if_neg h]
theorem wfu8 {xs : List Int} (h : ∀ x ∈ xs, (Lit.int .u8 x).wf = true) : ∀ x ∈ xs, 0 ≤ x ∧ x < 256 := by
  intro x hx
  have := h x hx
  simp [Lit.wf, show IntKind.u8.min = 0 from rfl, show IntKind.u8.max = 255 from rfl] at this
  omega

def byBE (m : Int) : List Int := (byLE m).reverse
theorem byBE_pos (m : Int) (h : 0 < m) : byBE m = byBE (m / 256) ++ [m % 256] := by unfold byBE; rw [byLE_pos m h, List.reverse_cons]
theorem byBE_nil (m : Int) (h : m ≤ 0) : byBE m = [] := by unfold byBE; rw [byLE_nil m h]; rfl
theorem lenB_big (n : Int) (h : ¬ n < 128) : lenB n = (128 + ((byBE n).length : Int)) :: byBE n := by unfold lenB byBE; rw [if_neg h, List.length_reverse]
theorem tagP_run : ∀ (N : Nat) (m : Int) (l : List Int) (p : Int), m.toNat ≤ N → 0 ≤ m → m ≤ 268435455 → tagP (contBE m ++ l) 0 true p = if m ≤ 0 then tagP l 0 true p else tagP l m false (p + ((contBE m).length : Int)) := by
  intro N
  induction N with
  | zero =>
    intro m l p hm h0 h1
    rw [if_pos (by omega), contBE_nil m (by omega)]; rfl
  | succ N ih =>
    intro m l p hm h0 h1
    by_cases hp : 0 < m
    · rw [if_neg (by omega), contBE_pos m hp, List.append_assoc, ih (m / 128) _ p (by omega) (by omega) (by omega)]
      by_cases h2 : m / 128 ≤ 0
      · rw [if_pos h2, contBE_nil _ h2]
        show tagP ((m % 128 + 128) :: l) 0 true p = _
        rw [tagP, if_neg (by omega), if_pos (by omega), show 0 * 128 + (m % 128 + 128) % 128 = m by omega]
        rfl
      · rw [if_neg h2]
        show tagP ((m % 128 + 128) :: l) (m / 128) false _ = _
        rw [tagP, if_neg (by simp; omega), if_pos (by omega), show m / 128 * 128 + (m % 128 + 128) % 128 = m by omega, List.length_append]
        congr 1; simp; omega
    · rw [if_pos (by omega), contBE_nil m (by omega)]; rfl
theorem tagP_enc (n : Int) (h0 : 31 ≤ n) (h1 : n ≤ 268435455) (t : List Int) (p : Int) : tagP (contBE (n / 128) ++ (n % 128) :: t) 0 true p = (n, 0, p + ((contBE (n / 128)).length : Int) + 1) := by
  rw [tagP_run (n / 128).toNat (n / 128) _ p (Nat.le_refl _) (by omega) (by omega)]
  by_cases h : n / 128 ≤ 0
  · rw [if_pos h, contBE_nil _ h, tagP, if_neg (by omega), if_neg (by omega), if_neg (by omega), show 0 * 128 + n % 128 % 128 = n by omega]
    simp
  · rw [if_neg h, tagP, if_neg (by simp; omega), if_neg (by omega), if_neg (by omega), show n / 128 * 128 + n % 128 % 128 = n by omega]
theorem tagP_dec : ∀ (l : List Int) (m : Int) (f : Bool) (p n p' : Int), (∀ x ∈ l, 0 ≤ x ∧ x < 256) → 0 ≤ m → (f = true ∧ m = 0 ∨ f = false ∧ 0 < m) → tagP l m f p = (n, 0, p') →
    31 ≤ n ∧ n ≤ 268435455 ∧ ∃ t, contBE m ++ l = contBE (n / 128) ++ (n % 128) :: t ∧ p' + t.length = p + l.length := by
  intro l
  induction l with
  | nil => intro m f p n p' _ _ _ h; simp [tagP] at h
  | cons c t ih =>
    intro m f p n p' hb h0 hf h
    obtain ⟨b0, b1⟩ := hb c (by simp)
    rw [tagP] at h
    by_cases h1 : (f = true ∧ c = 128) ∨ m * 128 + c % 128 > 268435455
    · rw [if_pos h1] at h; simp at h
    rw [if_neg h1] at h
    by_cases h2 : c ≥ 128
    · rw [if_pos h2] at h
      have hpos : 0 < m * 128 + c % 128 := by
        rcases hf with ⟨f1, f2⟩ | ⟨f1, f2⟩
        · have : ¬ c = 128 := fun q => h1 (.inl ⟨f1, q⟩)
          omega
        · omega
      obtain ⟨g1, g2, t', g3, g4⟩ := ih _ false (p + 1) n p' (fun x hx => hb x (by simp [hx])) (by omega) (.inr ⟨rfl, hpos⟩) h
      refine ⟨g1, g2, t', ?_, by rw [List.length_cons]; omega⟩
      rw [contBE_pos _ hpos, show (m * 128 + c % 128) / 128 = m by omega, show (m * 128 + c % 128) % 128 + 128 = c by omega, List.append_assoc] at g3
      exact g3
    · rw [if_neg h2] at h
      by_cases h3 : m * 128 + c % 128 < 31
      · rw [if_pos h3] at h; simp at h
      · rw [if_neg h3] at h
        simp only [Prod.mk.injEq] at h
        obtain ⟨rfl, _, rfl⟩ := h
        refine ⟨by omega, by omega, t, ?_, by rw [List.length_cons]; omega⟩
        rw [show (m * 128 + c % 128) / 128 = m by omega, show (m * 128 + c % 128) % 128 = c by omega]
theorem lenL_run : ∀ (N : Nat) (m : Int) (a : Nat) (l : List Int) (p : Int), m.toNat ≤ N → 0 ≤ m → lenL (a + (byBE m).length) (byBE m ++ l) 0 true p = if m ≤ 0 then lenL a l 0 true p else lenL a l m false (p + ((byBE m).length : Int)) := by
  intro N
  induction N with
  | zero =>
    intro m a l p hm h0
    rw [if_pos (by omega), byBE_nil m (by omega)]; rfl
  | succ N ih =>
    intro m a l p hm h0
    by_cases hp : 0 < m
    · rw [if_neg (by omega), byBE_pos m hp, List.append_assoc, List.length_append, show a + ((byBE (m / 256)).length + [m % 256].length) = (a + 1) + (byBE (m / 256)).length by simp; omega, ih (m / 256) (a + 1) _ p (by omega) (by omega)]
      by_cases h2 : m / 256 ≤ 0
      · rw [if_pos h2, byBE_nil _ h2]
        show lenL (a + 1) ((m % 256) :: l) 0 true p = _
        rw [lenL, if_neg (by omega), show 0 * 256 + m % 256 = m by omega]
        rfl
      · rw [if_neg h2]
        show lenL (a + 1) ((m % 256) :: l) (m / 256) false _ = _
        rw [lenL, if_neg (by simp), show m / 256 * 256 + m % 256 = m by omega]
        congr 1; simp; omega
    · rw [if_pos (by omega), byBE_nil m (by omega)]; rfl
theorem byBE_len4 (n : Int) (h0 : 128 ≤ n) (h1 : n ≤ 2147483647) : 1 ≤ (byBE n).length ∧ (byBE n).length ≤ 4 := by
  unfold byBE; rw [List.length_reverse]; exact byLE_len4 n h0 h1
theorem lenP_enc (n : Int) (h0 : 0 ≤ n) (h1 : n ≤ 2147483647) (t : List Int) (p : Int) : lenP (lenB n ++ t) p = (n, 0, p + ((lenB n).length : Int)) := by
  by_cases h : n < 128
  · have e : lenB n = [n] := by unfold lenB; rw [if_pos h]
    rw [e]
    show lenP (n :: t) p = _
    rw [lenP, if_pos h]; rfl
  · have h4 := byBE_len4 n (by omega) h1
    rw [lenB_big n h]
    show lenP ((128 + ((byBE n).length : Int)) :: (byBE n ++ t)) p = _
    have := lenL_run n.toNat n 0 t (p + 1) (Nat.le_refl _) h0
    rw [Nat.zero_add] at this
    rw [lenP, if_neg (by omega), if_neg (by omega), if_neg (by omega), show (128 + ((byBE n).length : Int) - 128).toNat = (byBE n).length by omega, this, if_neg (by omega), lenL, if_neg (by omega), if_neg h, List.length_cons]
    congr 2; omega
theorem lenL_dec : ∀ (M : Nat) (l : List Int) (m : Int) (f : Bool) (p n p' : Int), (∀ x ∈ l, 0 ≤ x ∧ x < 256) → 0 ≤ m → (f = true ∧ m = 0 ∨ f = false ∧ 0 < m) → lenL M l m f p = (n, 0, p') →
    128 ≤ n ∧ n ≤ 2147483647 ∧ ∃ t, byBE m ++ l = byBE n ++ t ∧ p' + t.length = p + l.length ∧ (byBE n).length = (byBE m).length + M := by
  intro M
  induction M with
  | zero =>
    intro l m f p n p' hb h0 hf h
    rw [lenL] at h
    by_cases h1 : m > 2147483647
    · rw [if_pos h1] at h; simp at h
    · rw [if_neg h1] at h
      by_cases h2 : m < 128
      · rw [if_pos h2] at h; simp at h
      · rw [if_neg h2] at h
        simp only [Prod.mk.injEq] at h
        obtain ⟨rfl, _, rfl⟩ := h
        exact ⟨by omega, by omega, l, rfl, rfl, rfl⟩
  | succ M ih =>
    intro l m f p n p' hb h0 hf h
    match l, hb, h with
    | [], _, h => simp [lenL] at h
    | x :: t, hb, h =>
      obtain ⟨b0, b1⟩ := hb x (by simp)
      rw [lenL] at h
      by_cases h1 : f = true ∧ x = 0
      · rw [if_pos h1] at h; simp at h
      · rw [if_neg h1] at h
        have hpos : 0 < m * 256 + x := by
          rcases hf with ⟨f1, f2⟩ | ⟨f1, f2⟩
          · have : ¬ x = 0 := fun q => h1 ⟨f1, q⟩
            omega
          · omega
        obtain ⟨g1, g2, t', g3, g4, g5⟩ := ih t _ false (p + 1) n p' (fun y hy => hb y (by simp [hy])) (by omega) (.inr ⟨rfl, hpos⟩) h
        rw [byBE_pos _ hpos, show (m * 256 + x) / 256 = m by omega, show (m * 256 + x) % 256 = x by omega] at g3 g5
        refine ⟨g1, g2, t', ?_, by rw [List.length_cons]; omega, by rw [g5, List.length_append]; simp; omega⟩
        rw [List.append_assoc] at g3
        exact g3
theorem lenP_dec (l : List Int) (p n p' : Int) (hb : ∀ x ∈ l, 0 ≤ x ∧ x < 256) (h : lenP l p = (n, 0, p')) : 0 ≤ n ∧ n ≤ 2147483647 ∧ ∃ t, l = lenB n ++ t ∧ p' + t.length = p + l.length := by
  match l, hb, h with
  | [], _, h => simp [lenP] at h
  | c :: t, hb, h =>
    obtain ⟨b0, b1⟩ := hb c (by simp)
    rw [lenP] at h
    by_cases h1 : c < 128
    · rw [if_pos h1] at h
      simp only [Prod.mk.injEq] at h
      obtain ⟨rfl, _, rfl⟩ := h
      have e : lenB c = [c] := by unfold lenB; rw [if_pos h1]
      exact ⟨b0, by omega, t, by rw [e]; rfl, by rw [List.length_cons]; omega⟩
    · rw [if_neg h1] at h
      by_cases h2 : c = 128
      · rw [if_pos h2] at h; simp at h
      · rw [if_neg h2] at h
        by_cases h3 : c - 128 > 4
        · rw [if_pos h3] at h; simp at h
        · rw [if_neg h3] at h
          obtain ⟨g1, g2, t', g3, g4, g5⟩ := lenL_dec _ t 0 true (p + 1) n p' (fun y hy => hb y (by simp [hy])) (by omega) (.inl ⟨rfl, rfl⟩) h
          rw [byBE_nil 0 (by omega)] at g3 g5
          simp only [List.nil_append, List.length_nil] at g3 g5
          refine ⟨by omega, g2, t', ?_, by rw [List.length_cons]; omega⟩
          rw [lenB_big n (by omega), g5, ← List.cons_append.symm, ← g3]
          congr 1; omega
theorem encH_len (cls tag : Int) (cons : Bool) (len : Int) (h : okH cls tag len) : 2 ≤ (encH cls tag cons len).length ∧ (encH cls tag cons len).length ≤ 20 := by
  obtain ⟨h1, h2, h3, h4, h5, h6⟩ := h
  have hl := lenB_len len h5 h6
  have hc := contLE_len (tag / 128) (by omega) (by omega)
  unfold encH contBE
  split <;> simp <;> omega
theorem readH_enc (cls tag : Int) (cons : Bool) (len : Int) (h : okH cls tag len) (t : List Int) : readH (encH cls tag cons len ++ t) = (cls, tag, cons, len, ((encH cls tag cons len).length : Int), 0) := by
  obtain ⟨h1, h2, h3, h4, h5, h6⟩ := h
  have hcb : ∀ y, 0 ≤ y → y < 32 → decide ((cls * 64 + (if cons = true then 32 else 0) + y) / 32 % 2 = 1) = cons := by
    intro y y0 y1
    cases cons with
    | true => rw [if_pos rfl, dec_t _ (by omega)]
    | false => rw [if_neg (by decide), dec_f _ (by omega)]
  have hb : (if cons = true then (32 : Int) else 0) = 0 ∨ (if cons = true then (32 : Int) else 0) = 32 := by cases cons <;> simp
  generalize hB : (if cons = true then (32 : Int) else 0) = B at hcb hb
  unfold encH
  rw [hB]
  by_cases ht : tag < 31
  · rw [if_pos ht]
    show readH ((cls * 64 + B + tag) :: (lenB len ++ t)) = _
    have eq1 : tagQ (cls * 64 + B + tag) (lenB len ++ t) = (tag, 0, 1) := by
      unfold tagQ
      rw [if_neg (by omega), show (cls * 64 + B + tag) % 32 = tag by omega]
    rw [readH, eq1]
    simp only [if_true]
    rw [show (1 : Int).toNat = 1 from rfl, List.drop_succ_cons, List.drop_zero, lenP_enc len h5 h6]
    simp only [if_true]
    rw [show (cls * 64 + B + tag) / 64 = cls by omega, hcb tag h3 (by omega)]
    congr 4
    simp; omega
  · rw [if_neg ht]
    show readH ((cls * 64 + B + 31) :: ((contBE (tag / 128) ++ [tag % 128]) ++ lenB len ++ t)) = _
    have eq1 : tagQ (cls * 64 + B + 31) ((contBE (tag / 128) ++ [tag % 128]) ++ lenB len ++ t) = (tag, 0, 1 + ((contBE (tag / 128)).length : Int) + 1) := by
      unfold tagQ
      rw [if_pos (by omega), List.append_assoc, List.append_assoc]
      exact tagP_enc tag (by omega) h4 _ 1
    rw [readH, eq1]
    simp only [if_true]
    have ed : ((cls * 64 + B + 31) :: ((contBE (tag / 128) ++ [tag % 128]) ++ lenB len ++ t)).drop (1 + ((contBE (tag / 128)).length : Int) + 1).toNat = lenB len ++ t := by
      rw [show (1 + ((contBE (tag / 128)).length : Int) + 1).toNat = (contBE (tag / 128) ++ [tag % 128]).length + 1 by simp; omega, List.drop_succ_cons, List.append_assoc, List.drop_left]
    rw [ed, lenP_enc len h5 h6]
    simp only [if_true]
    rw [show (cls * 64 + B + 31) / 64 = cls by omega, hcb 31 (by omega) (by omega)]
    congr 4
    simp; omega
theorem readH_dec (l : List Int) (hb : ∀ x ∈ l, 0 ≤ x ∧ x < 256) (h : (readH l).2.2.2.2.2 = 0) : okH (readH l).1 (readH l).2.1 (readH l).2.2.2.1 ∧ ∃ t, l = encH (readH l).1 (readH l).2.1 (readH l).2.2.1 (readH l).2.2.2.1 ++ t ∧ (readH l).2.2.2.2.1 = ((encH (readH l).1 (readH l).2.1 (readH l).2.2.1 (readH l).2.2.2.1).length : Int) := by
  match l, hb, h with
  | [], _, h => simp [readH] at h
  | c :: t, hb, h =>
    obtain ⟨b0, b1⟩ := hb c (by simp)
    rw [readH] at h ⊢
    by_cases e1 : (tagQ c t).2.1 = 0
    · rw [if_pos e1] at h ⊢
      by_cases e2 : (lenP ((c :: t).drop (tagQ c t).2.2.toNat) (tagQ c t).2.2).2.1 = 0
      · rw [if_pos e2] at h ⊢
        simp only at h ⊢
        have hbd : ∀ x ∈ (c :: t).drop (tagQ c t).2.2.toNat, 0 ≤ x ∧ x < 256 := fun x hx => hb x (List.mem_of_mem_drop hx)
        obtain ⟨l0, l1, u, lu, lp⟩ := lenP_dec _ _ (lenP ((c :: t).drop (tagQ c t).2.2.toNat) (tagQ c t).2.2).1 (lenP ((c :: t).drop (tagQ c t).2.2.toNat) (tagQ c t).2.2).2.2 hbd (by rw [← e2])
        generalize hL : lenP ((c :: t).drop (tagQ c t).2.2.toNat) (tagQ c t).2.2 = L at l0 l1 lu lp
        have hB : (if decide (c / 32 % 2 = 1) = true then (32 : Int) else 0) = c / 32 % 2 * 32 := by
          by_cases q : c / 32 % 2 = 1
          · rw [dec_t _ q, if_pos rfl]; omega
          · rw [dec_f _ q, if_neg (by decide)]; omega
        unfold encH
        rw [hB]
        by_cases hq : c % 32 = 31
        · have eT : tagQ c t = tagP t 0 true 1 := by unfold tagQ; rw [if_pos hq]
          obtain ⟨g1, g2, v, g3, g4⟩ := tagP_dec t 0 true 1 (tagQ c t).1 (tagQ c t).2.2 (fun x hx => hb x (by simp [hx])) (by omega) (.inl ⟨rfl, rfl⟩) (by rw [← eT, ← e1])
          rw [contBE_nil 0 (by omega), List.nil_append] at g3
          refine ⟨⟨by omega, by omega, by omega, g2, l0, l1⟩, u, ?_, ?_⟩
          · rw [if_neg (by omega), show c / 64 * 64 + c / 32 % 2 * 32 + 31 = c by omega]
            have ev : (c :: t).drop (tagQ c t).2.2.toNat = v := by
              have e3 : c :: t = (c :: (contBE ((tagQ c t).1 / 128) ++ [(tagQ c t).1 % 128])) ++ v := by
                rw [List.cons_append, List.append_assoc, List.singleton_append, ← g3]
              have e4 : (tagQ c t).2.2.toNat = (c :: (contBE ((tagQ c t).1 / 128) ++ [(tagQ c t).1 % 128])).length := by
                have := congrArg List.length g3
                simp only [List.length_append, List.length_cons, List.length_nil] at this ⊢
                omega
              rw [e4]
              conv => lhs; rw [e3]
              rw [List.drop_left]
            rw [ev] at lu
            rw [List.cons_append, List.cons_append, List.append_assoc, List.append_assoc, ← lu, List.singleton_append, ← g3]
          · have hlen := congrArg List.length lu
            have hlen2 := congrArg List.length g3
            simp only [List.length_append, List.length_cons, List.length_drop, List.length_nil] at hlen hlen2 ⊢
            rw [if_neg (by omega)]
            simp only [List.length_append, List.length_cons, List.length_drop, List.length_nil] at lp ⊢
            omega
        · have eT : tagQ c t = (c % 32, 0, 1) := by unfold tagQ; rw [if_neg hq]
          rw [eT] at lu lp ⊢
          simp only [show (1 : Int).toNat = 1 from rfl, List.drop_succ_cons, List.drop_zero] at lu lp
          refine ⟨⟨by omega, by omega, by simp only; omega, by simp only; omega, l0, l1⟩, u, ?_, ?_⟩
          · simp only
            rw [if_pos (by omega), show c / 64 * 64 + c / 32 % 2 * 32 + c % 32 = c by omega]
            show c :: t = c :: (lenB L.1 ++ u)
            rw [← lu]
          · simp only
            rw [if_pos (by omega)]
            have hlen := congrArg List.length lu
            simp only [List.length_append, List.length_cons, List.length_nil] at hlen ⊢
            omega
      · rw [if_neg e2] at h; exact absurd h e2
    · rw [if_neg e1] at h; exact absurd h e1
theorem readH_bad (l : List Int) (h : (readH l).2.2.2.2.2 ≠ 0) : readH l = (0, 0, false, 0, 0, (readH l).2.2.2.2.2) := by
  match l, h with
  | [], _ => rfl
  | c :: t, h =>
    rw [readH] at h ⊢
    by_cases e1 : (tagQ c t).2.1 = 0
    · rw [if_pos e1] at h ⊢
      by_cases e2 : (lenP ((c :: t).drop (tagQ c t).2.2.toNat) (tagQ c t).2.2).2.1 = 0
      · rw [if_pos e2] at h; exact absurd rfl h
      · rw [if_neg e2]
    · rw [if_neg e1]

theorem contLE_b : ∀ (N : Nat) (m : Int), m.toNat ≤ N → ∀ x ∈ contLE m, 0 ≤ x ∧ x < 256 := by
  intro N
  induction N with
  | zero => intro m hm x hx; rw [contLE_nil m (by omega)] at hx; cases hx
  | succ N ih =>
    intro m hm x hx
    by_cases hp : 0 < m
    · rw [contLE_pos m hp] at hx
      rcases List.mem_cons.mp hx with rfl | h
      · omega
      · exact ih (m / 128) (by omega) x h
    · rw [contLE_nil m (by omega)] at hx; cases hx
theorem byLE_b : ∀ (N : Nat) (m : Int), m.toNat ≤ N → ∀ x ∈ byLE m, 0 ≤ x ∧ x < 256 := by
  intro N
  induction N with
  | zero => intro m hm x hx; rw [byLE_nil m (by omega)] at hx; cases hx
  | succ N ih =>
    intro m hm x hx
    by_cases hp : 0 < m
    · rw [byLE_pos m hp] at hx
      rcases List.mem_cons.mp hx with rfl | h
      · omega
      · exact ih (m / 256) (by omega) x h
    · rw [byLE_nil m (by omega)] at hx; cases hx
theorem lenB_b (n : Int) (h0 : 0 ≤ n) (h1 : n ≤ 2147483647) : ∀ x ∈ lenB n, 0 ≤ x ∧ x < 256 := by
  intro x hx
  by_cases h : n < 128
  · have e : lenB n = [n] := by unfold lenB; rw [if_pos h]
    rw [e] at hx
    simp at hx; omega
  · have h4 := byBE_len4 n (by omega) h1
    rw [lenB_big n h] at hx
    rcases List.mem_cons.mp hx with rfl | q
    · omega
    · unfold byBE at q
      exact byLE_b n.toNat n (Nat.le_refl _) x (List.mem_reverse.mp q)
theorem encH_b (cls tag : Int) (cons : Bool) (len : Int) (h : okH cls tag len) : ∀ x ∈ encH cls tag cons len, 0 ≤ x ∧ x < 256 := by
  obtain ⟨h1, h2, h3, h4, h5, h6⟩ := h
  intro x hx
  have hb : (if cons = true then (32 : Int) else 0) = 0 ∨ (if cons = true then (32 : Int) else 0) = 32 := by cases cons <;> simp
  generalize hB : (if cons = true then (32 : Int) else 0) = B at hb
  unfold encH at hx
  rw [hB] at hx
  rcases List.mem_append.mp hx with hx | hx
  · by_cases ht : tag < 31
    · rw [if_pos ht] at hx; simp at hx; omega
    · rw [if_neg ht] at hx
      rcases List.mem_cons.mp hx with rfl | hx
      · omega
      · rcases List.mem_append.mp hx with hx | hx
        · unfold contBE at hx
          exact contLE_b _ (tag / 128) (Nat.le_refl _) x (List.mem_reverse.mp hx)
        · simp at hx; omega
  · exact lenB_b len h5 h6 x hx
theorem wrap_f (k : Nat) (hk : 6000000000 ≤ k) (cls tag : Int) (cons : Bool) (len size : Int) (l : List Int) (hl : l.length ≤ 1000000) : tlv_Wrap.f k cls tag cons len size l = some (if okH cls tag l.length then (encH cls tag cons l.length ++ l, 0) else ([], 1)) := by
  unfold tlv_Wrap.f
  rw [bytes_f k hk]
  simp only [Option.bind_some]
  by_cases h : okH cls tag l.length
  · have := encH_len cls tag cons _ h
    rw [if_pos h, if_pos h, if_pos rfl, if_pos (by show (encH cls tag cons l.length).length + l.length < _; omega)]
  · rw [if_neg h, if_neg h]; rfl

theorem drop_cons_ (l : List Int) (p : Nat) (h : p < l.length) : l.drop p = l[p] :: l.drop (p + 1) := List.drop_eq_getElem_cons h
theorem rt_eq (l : List Int) (hl : l.length ≤ 1000000) (hb : ∀ x ∈ l, 0 ≤ x ∧ x < 256) : ∀ (d k p : Nat) (n : Int), l.length ≤ p + d → 1 ≤ p → d < k → 0 ≤ n → n ≤ 268435455 →
    ∃ q, ref_tag k l p n = some ((tagP (l.drop p) n (decide (p = 1)) p).1, (tagP (l.drop p) n (decide (p = 1)) p).2.1, q) ∧ ((tagP (l.drop p) n (decide (p = 1)) p).2.1 = 0 → q = (tagP (l.drop p) n (decide (p = 1)) p).2.2) := by
  intro d
  induction d with
  | zero =>
    intro k p n hp h1 hk h0 hm
    obtain ⟨k, rfl⟩ : ∃ m, k = m + 1 := ⟨k - 1, by omega⟩
    rw [ref_tag, if_pos (by omega), List.drop_eq_nil_of_le (by omega), tagP]
    exact ⟨p, rfl, fun _ => rfl⟩
  | succ d ih =>
    intro k p n hp h1 hk h0 hm
    obtain ⟨k, rfl⟩ : ∃ m, k = m + 1 := ⟨k - 1, by omega⟩
    by_cases h : p < l.length
    · obtain ⟨b0, b1⟩ := hb l[p] (List.getElem_mem h)
      rw [ref_tag, if_neg (by omega), rd_nat l p h, if_pos ⟨by omega, by omega, b0, b1, h0, hm⟩, drop_cons_ l p h, tagP]
      by_cases c1 : p = 1 ∧ l[p] = 128
      · rw [if_pos (show (p : Int) = 1 ∧ l[p] = 128 from ⟨by omega, c1.2⟩), if_pos (.inl ⟨dec_t _ c1.1, c1.2⟩)]
        exact ⟨_, rfl, fun q => by cases q⟩
      have c1' : ¬ ((p : Int) = 1 ∧ l[p] = 128) := fun q => c1 ⟨by omega, q.2⟩
      rw [if_neg c1']
      by_cases c2 : n * 128 + l[p] % 128 > 268435455
      · rw [if_pos c2, if_pos (.inr c2)]
        exact ⟨_, rfl, fun q => by cases q⟩
      rw [if_neg c2, if_neg (show ¬ ((decide (p = 1) = true ∧ l[p] = 128) ∨ n * 128 + l[p] % 128 > 268435455) from fun q => q.elim (fun q => c1 ⟨of_decide_eq_true q.1, q.2⟩) c2)]
      by_cases c3 : l[p] ≥ 128
      · rw [if_pos c3, if_pos c3]
        have := ih k (p + 1) (n * 128 + l[p] % 128) (by omega) (by omega) (by omega) (by omega) (by omega)
        rw [dec_f _ (show ¬ (p + 1 = 1) by omega)] at this
        exact this
      rw [if_neg c3, if_neg c3]
      by_cases c4 : n * 128 + l[p] % 128 < 31
      · rw [if_pos c4, if_pos c4]
        exact ⟨_, rfl, fun q => by cases q⟩
      · rw [if_neg c4, if_neg c4]
        exact ⟨_, rfl, fun _ => rfl⟩
    · rw [ref_tag, if_pos (by omega), List.drop_eq_nil_of_le (by omega), tagP]
      exact ⟨p, rfl, fun _ => rfl⟩
def B256 : Nat → Int
  | 0 => 1
  | 1 => 256
  | 2 => 65536
  | 3 => 16777216
  | _ => 4294967296
theorem rl_eq (l : List Int) (hl : l.length ≤ 1000000) (hb : ∀ x ∈ l, 0 ≤ x ∧ x < 256) (M : Nat) (hM : M ≤ 4) : ∀ (d k i p : Nat) (n : Int), i + d = M → d < k → 0 ≤ n → n < B256 i →
    ∃ q, ref_lenL k l M i p n = some ((lenL d (l.drop p) n (decide (i = 0)) p).1, (lenL d (l.drop p) n (decide (i = 0)) p).2.1, q) ∧ ((lenL d (l.drop p) n (decide (i = 0)) p).2.1 = 0 → q = (lenL d (l.drop p) n (decide (i = 0)) p).2.2) := by
  intro d
  induction d with
  | zero =>
    intro k i p n hi hk h0 hn
    obtain ⟨k, rfl⟩ : ∃ m, k = m + 1 := ⟨k - 1, by omega⟩
    rw [ref_lenL, if_neg (by omega), lenL]
    by_cases c1 : n > 2147483647
    · rw [if_pos c1, if_pos c1]; exact ⟨_, rfl, fun q => by cases q⟩
    by_cases c2 : n < 128
    · rw [if_neg c1, if_pos c2, if_neg c1, if_pos c2]; exact ⟨_, rfl, fun q => by cases q⟩
    · rw [if_neg c1, if_neg c2, if_neg c1, if_neg c2]; exact ⟨_, rfl, fun _ => rfl⟩
  | succ d ih =>
    intro k i p n hi hk h0 hn
    obtain ⟨k, rfl⟩ : ∃ m, k = m + 1 := ⟨k - 1, by omega⟩
    by_cases h : p < l.length
    · obtain ⟨b0, b1⟩ := hb l[p] (List.getElem_mem h)
      have hB : n ≤ 16777215 ∧ (∀ x : Int, 0 ≤ x → x < 256 → n * 256 + x < B256 (i + 1)) := by
        have : i = 0 ∨ i = 1 ∨ i = 2 ∨ i = 3 := by omega
        rcases this with rfl | rfl | rfl | rfl <;> simp only [B256] at hn ⊢ <;> exact ⟨by omega, fun x _ _ => by omega⟩
      rw [ref_lenL, if_pos (by omega), if_neg (by omega), rd_nat l p h, if_pos ⟨by omega, by omega, b0, b1, h0, by omega, by omega, by omega⟩, drop_cons_ l p h, lenL]
      by_cases c1 : i = 0 ∧ l[p] = 0
      · rw [if_pos (show (i : Int) = 0 ∧ l[p] = 0 from ⟨by omega, c1.2⟩), if_pos (show decide (i = 0) = true ∧ l[p] = 0 from ⟨dec_t _ c1.1, c1.2⟩)]
        exact ⟨_, rfl, fun q => by cases q⟩
      rw [if_neg (show ¬ ((i : Int) = 0 ∧ l[p] = 0) from fun q => c1 ⟨by omega, q.2⟩), if_neg (show ¬ (decide (i = 0) = true ∧ l[p] = 0) from fun q => c1 ⟨of_decide_eq_true q.1, q.2⟩)]
      have := ih k (i + 1) (p + 1) (n * 256 + l[p]) (by omega) (by omega) (by omega) (hB.2 _ b0 b1)
      rw [dec_f _ (show ¬ (i + 1 = 0) by omega)] at this
      exact this
    · rw [ref_lenL, if_pos (by omega), if_pos (by omega), List.drop_eq_nil_of_le (by omega), lenL]
      exact ⟨p, rfl, fun q => by cases q⟩
theorem rn_eq (l : List Int) (hl : l.length ≤ 1000000) (hb : ∀ x ∈ l, 0 ≤ x ∧ x < 256) (k p : Nat) (hk : 10 ≤ k) :
    ∃ q, ref_len k l p = some ((lenP (l.drop p) p).1, (lenP (l.drop p) p).2.1, q) ∧ ((lenP (l.drop p) p).2.1 = 0 → q = (lenP (l.drop p) p).2.2) := by
  unfold ref_len
  by_cases h : p < l.length
  · obtain ⟨b0, b1⟩ := hb l[p] (List.getElem_mem h)
    rw [if_neg (by omega), rd_nat l p h, if_pos ⟨by omega, by omega, b0, b1⟩, drop_cons_ l p h, lenP]
    by_cases c1 : l[p] < 128
    · rw [if_pos c1, if_pos c1]; exact ⟨_, rfl, fun _ => rfl⟩
    by_cases c2 : l[p] = 128
    · rw [if_neg c1, if_pos c2, if_neg c1, if_pos c2]; exact ⟨_, rfl, fun q => by cases q⟩
    by_cases c3 : l[p] - 128 > 4
    · rw [if_neg c1, if_neg c2, if_pos c3, if_neg c1, if_neg c2, if_pos c3]; exact ⟨_, rfl, fun q => by cases q⟩
    rw [if_neg c1, if_neg c2, if_neg c3, if_neg c1, if_neg c2, if_neg c3]
    have := rl_eq l hl hb (l[p] - 128).toNat (by omega) (l[p] - 128).toNat k 0 (p + 1) 0 (by omega) (by omega) (Int.le_refl _) (by decide)
    rw [Int.toNat_of_nonneg (by omega)] at this
    exact this
  · rw [if_pos (by omega), List.drop_eq_nil_of_le (by omega), lenP]
    exact ⟨p, rfl, fun q => by cases q⟩
theorem ref_f (l : List Int) (hl : l.length ≤ 1000000) (hb : ∀ x ∈ l, 0 ≤ x ∧ x < 256) (k : Nat) (hk : 3000000 ≤ k) : sobriquetref01_Read.f k l = some (readH l) := by
  unfold sobriquetref01_Read.f
  match l, hl, hb with
  | [], _, _ => rfl
  | c :: t, hl, hb =>
    obtain ⟨b0, b1⟩ := hb c (by simp)
    have r0 : rd (c :: t) 0 = c := rfl
    rw [if_neg (by simp), r0, if_pos ⟨b0, b1, by omega⟩, readH]
    have hT : ∃ q, (if c % 32 = 31 then ref_tag k (c :: t) 1 0 else some (c % 32, 0, 1)) = some ((tagQ c t).1, (tagQ c t).2.1, q) ∧ ((tagQ c t).2.1 = 0 → q = (tagQ c t).2.2) := by
      unfold tagQ
      by_cases h : c % 32 = 31
      · rw [if_pos h, if_pos h]
        exact rt_eq (c :: t) hl hb (c :: t).length k 1 0 (by omega) (Nat.le_refl _) (by omega) (Int.le_refl _) (by decide)
      · rw [if_neg h, if_neg h]; exact ⟨1, rfl, fun _ => rfl⟩
    obtain ⟨q, e, hq⟩ := hT
    rw [e]
    simp only [Option.bind_some]
    by_cases h : (tagQ c t).2.1 = 0
    · have hp : 1 ≤ (tagQ c t).2.2 := by
        unfold tagQ
        split
        · exact (tagP_pos t 0 true 1).1
        · simp
      obtain ⟨q2, e2, hq2⟩ := rn_eq (c :: t) hl hb k (tagQ c t).2.2.toNat (by omega)
      rw [Int.toNat_of_nonneg (by omega)] at e2 hq2
      rw [if_pos h, if_pos h, hq h, e2]
      simp only [Option.bind_some]
      by_cases h2 : (lenP ((c :: t).drop (tagQ c t).2.2.toNat) (tagQ c t).2.2).2.1 = 0
      · rw [if_pos h2, if_pos h2, hq2 h2]
        have e3 : (c / 32 % 2 == 1) = decide (c / 32 % 2 = 1) := by
          by_cases z : c / 32 % 2 = 1
          · rw [z]; rfl
          · rw [dec_f _ z]; exact beq_eq_false_iff_ne.mpr z
        rw [e3]
      · rw [if_neg h2, if_neg h2]
    · rw [if_neg h, if_neg h]

theorem in_f (a b c : Int) : sobriquetref01_in.f a b c = some (decide (b ≤ a ∧ a ≤ c)) := by
  unfold sobriquetref01_in.f
  by_cases h : a ≥ b
  · rw [if_pos h, dec_iff (a ≤ c) (b ≤ a ∧ a ≤ c) ⟨fun q => ⟨h, q⟩, fun q => q.2⟩]
  · rw [if_neg h, dec_f _ (fun q => h q.1)]
theorem Head_f (cls tag : Int) (cons : Bool) (len size : Int) : sobriquetref01_Head.f cls tag cons len size = some (decide (okH cls tag len)) := by
  unfold sobriquetref01_Head.f
  rw [in_f, in_f, in_f]
  simp only [Option.bind_some]
  by_cases h1 : 0 ≤ cls ∧ cls ≤ 3
  · rw [dec_t _ h1, if_pos rfl]
    by_cases h2 : 0 ≤ tag ∧ tag ≤ 268435455
    · rw [dec_t _ h2, if_pos rfl, dec_iff (0 ≤ len ∧ len ≤ 2147483647) (okH cls tag len) ⟨fun q => ⟨h1.1, h1.2, h2.1, h2.2, q.1, q.2⟩, fun q => ⟨q.2.2.2.2.1, q.2.2.2.2.2⟩⟩]
    · rw [dec_f _ h2, if_neg (by decide), dec_f (okH cls tag len) (fun q => h2 ⟨q.2.2.1, q.2.2.2.1⟩)]
  · rw [dec_f _ h1, if_neg (by decide), dec_f (okH cls tag len) (fun q => h1 ⟨q.1, q.2.1⟩)]
theorem sept_l0 : ∀ (N k : Nat) (m : Int) (acc : List Int), m.toNat ≤ N → 0 ≤ m → m ≤ 268435455 → acc.length + N ≤ 3000000000 → N < k → sobriquetref01_septets.l0 k m acc = some (contBE m ++ acc) := by
  intro N
  induction N with
  | zero =>
    intro k m acc hm h0 h1 hl hk
    obtain ⟨k, rfl⟩ : ∃ j, k = j + 1 := ⟨k - 1, by omega⟩
    rw [sobriquetref01_septets.l0, if_neg (by omega), contBE_nil m (by omega)]; rfl
  | succ N ih =>
    intro k m acc hm h0 h1 hl hk
    obtain ⟨k, rfl⟩ : ∃ j, k = j + 1 := ⟨k - 1, by omega⟩
    rw [sobriquetref01_septets.l0]
    by_cases hp : m > 0
    · rw [if_pos hp, tmod_nn h0, tdiv_nn h0, w64 (x := 128 + m % 128) (by omega) (by omega), w64 (x := m / 128) (by omega) (by omega), show (128 + m % 128) % 256 = m % 128 + 128 by omega]
      simp only [Option.bind_some]
      rw [if_pos (by simp; omega), ih k (m / 128) _ (by omega) (by omega) (by omega) (by simp; omega) (by omega), contBE_pos m hp, List.append_assoc]
    · rw [if_neg hp, contBE_nil m (by omega)]; rfl
theorem sept_f (k : Nat) (hk : 1000000000 ≤ k) (n : Int) (h0 : 0 ≤ n) (h1 : n ≤ 268435455) : sobriquetref01_septets.f k n = some (contBE (n / 128) ++ [n % 128]) := by
  unfold sobriquetref01_septets.f
  rw [tdiv_nn h0, tmod_nn h0, w64 (by omega) (by omega), show n % 128 % 256 = n % 128 by omega, sept_l0 (n / 128).toNat k (n / 128) _ (Nat.le_refl _) (by omega) (by omega) (by simp; omega) (by omega)]
theorem hb_l0 (b : List Int) (hb : b.length ≤ 1000) : ∀ (N k : Nat) (m : Int) (acc : List Int), m.toNat ≤ N → 0 ≤ m → m ≤ 2147483647 → acc.length + N ≤ 3000000000 → N < k → (byBE m ++ acc).length ≤ 100 → sobriquetref01_HeadBytes.l0 k b acc m = some (b ++ (128 + ((byBE m ++ acc).length : Int)) :: (byBE m ++ acc)) := by
  intro N
  induction N with
  | zero =>
    intro k m acc hm h0 h1 hl hk h100
    obtain ⟨k, rfl⟩ : ∃ j, k = j + 1 := ⟨k - 1, by omega⟩
    rw [byBE_nil m (by omega), List.nil_append] at h100 ⊢
    rw [sobriquetref01_HeadBytes.l0, if_neg (by omega), if_pos (by omega), w64 (by omega) (by omega), show (128 + (acc.length : Int)) % 256 = 128 + (acc.length : Int) by omega]
    simp only [Option.bind_some]
    rw [if_pos (by simp; omega), List.append_assoc]; rfl
  | succ N ih =>
    intro k m acc hm h0 h1 hl hk h100
    obtain ⟨k, rfl⟩ : ∃ j, k = j + 1 := ⟨k - 1, by omega⟩
    by_cases hp : m > 0
    · have e : byBE m ++ acc = byBE (m / 256) ++ ([m % 256] ++ acc) := by rw [byBE_pos m hp, List.append_assoc]
      rw [e] at h100 ⊢
      rw [sobriquetref01_HeadBytes.l0, if_pos hp, tdiv_nn h0, w64 (x := m / 256) (by omega) (by omega)]
      simp only [Option.bind_some]
      rw [if_pos (by simp; omega), ih k (m / 256) _ (by omega) (by omega) (by omega) (by simp; omega) (by omega) h100]
    · rw [byBE_nil m (by omega), List.nil_append] at h100 ⊢
      rw [sobriquetref01_HeadBytes.l0, if_neg (by omega), if_pos (by omega), w64 (by omega) (by omega), show (128 + (acc.length : Int)) % 256 = 128 + (acc.length : Int) by omega]
      simp only [Option.bind_some]
      rw [if_pos (by simp; omega), List.append_assoc]; rfl
theorem HeadBytes_f (k : Nat) (hk : 5000000000 ≤ k) (cls tag : Int) (cons : Bool) (len size : Int) (ok : okH cls tag len) : sobriquetref01_HeadBytes.f k cls tag cons len size = some (encH cls tag cons len) := by
  obtain ⟨h1, h2, h3, h4, h5, h6⟩ := ok
  obtain ⟨k, rfl⟩ : ∃ j, k = j + 2 := ⟨k - 2, by omega⟩
  have hcl := contLE_len (tag / 128) (by omega) (by omega)
  have J1 : ∀ b : List Int, b.length ≤ 1000 → sobriquetref01_HeadBytes.j1 (k + 1) b cls tag cons len size = some (b ++ lenB len) := by
    intro b hb
    rw [sobriquetref01_HeadBytes.j1]
    by_cases c : len < 128
    · have e : lenB len = [len] := by unfold lenB; rw [if_pos c]
      rw [if_pos c, if_pos (by omega), e, show len % 256 = len by omega]
    · have h4' := byBE_len4 len (by omega) h6
      rw [if_neg c, hb_l0 b hb len.toNat k len [] (Nat.le_refl _) h5 h6 (by simp; omega) (by omega) (by simp; omega), lenB_big len c, List.append_nil]
  have J0 : ∀ x, 0 ≤ x → x ≤ 224 → sobriquetref01_HeadBytes.j0 (k + 2) x cls tag cons len size = some ((if tag < 31 then [x + tag] else (x + 31) :: (contBE (tag / 128) ++ [tag % 128])) ++ lenB len) := by
    intro x x0 x1
    rw [sobriquetref01_HeadBytes.j0]
    by_cases t : tag < 31
    · rw [if_pos t, if_pos t, w64 (by omega) (by omega), show (x + tag) % 256 = x + tag by omega, J1 _ (by simp)]
    · rw [if_neg t, if_neg t, sept_f (k + 1) (by omega) tag h3 h4, w64 (by omega) (by omega), show (x + 31) % 256 = x + 31 by omega]
      simp only [Option.bind_some]
      rw [if_pos (by simp [contBE]; omega), J1 _ (by simp [contBE]; omega)]; rfl
  unfold sobriquetref01_HeadBytes.f encH
  cases cons with
  | true => rw [if_pos rfl, if_pos rfl, w64 (x := cls * 64) (by omega) (by omega), w64 (x := cls * 64 + 32) (by omega) (by omega), J0 _ (by omega) (by omega)]
  | false => rw [if_neg (show ¬ (false = true) by decide), if_neg (show ¬ (false = true) by decide), w64 (x := cls * 64) (by omega) (by omega), J0 _ (by omega) (by omega), Int.add_zero]
theorem rWrap_f (k : Nat) (hk : 5000000000 ≤ k) (cls tag : Int) (cons : Bool) (l : List Int) (hl : l.length ≤ 1000000) (ok : okH cls tag l.length) : sobriquetref01_Wrap.f k cls tag cons l = some (encH cls tag cons l.length ++ l) := by
  have := encH_len cls tag cons _ ok
  unfold sobriquetref01_Wrap.f
  rw [HeadBytes_f k hk cls tag cons _ 0 ok]
  simp only [Option.bind_some]
  rw [if_pos (by omega)]

theorem wakes_ok (k : Nat) (hk : 100 ≤ k) : sobriquetlaw01_wakes.f k = some true := at_rounds sobriquetlaw01_wakes.mono hk (by decide +kernel)
theorem Clone_f (l : List Int) (h : l.length ≤ 140737488355328) : bytes_Clone.f l = some l := if_pos h
theorem e_j2 (k : Nat) (hk : 6000000000 ≤ k) (cls tag : Int) (cons : Bool) (len size : Int) (l : List Int) (hl : l.length ≤ 700) : sobriquetlaw01_TlvExact.j2 k l (if okH cls tag l.length then (encH cls tag cons l.length ++ l, (0 : Int)) else ([], 1)).1 (if okH cls tag l.length then (encH cls tag cons l.length ++ l, (0 : Int)) else ([], 1)).2 cls tag cons len size = some true := by
  obtain ⟨k, rfl⟩ : ∃ j, k = j + 1 := ⟨k - 1, by omega⟩
  rw [sobriquetlaw01_TlvExact.j2, Head_f, wakes_ok k (by omega)]
  simp only [Option.bind_some]
  by_cases ok : okH cls tag l.length
  · have hE := encH_len cls tag cons _ ok
    rw [if_pos ok, dec_t _ ok, if_pos rfl, if_pos rfl, rWrap_f k (by omega) cls tag cons l (by omega) ok]
    simp only [Option.bind_some]
    rw [Bytes_f _ _ k (by simp; omega) (by simp; omega), dec_t _ rfl]
    rfl
  · rw [if_neg ok, dec_f _ ok, if_neg (by decide), if_pos rfl]
    exact if_pos rfl
theorem e_j1 (k : Nat) (hk : 6000000001 ≤ k) (cls tag : Int) (cons : Bool) (len size : Int) (l : List Int) (hl : l.length ≤ 700) : sobriquetlaw01_TlvExact.j1 k l (if okH cls tag len then (encH cls tag cons len, (0 : Int)) else ([], 1)).1 (if okH cls tag len then (encH cls tag cons len, (0 : Int)) else ([], 1)).2 (if okH cls tag l.length then (encH cls tag cons l.length ++ l, (0 : Int)) else ([], 1)).1 (if okH cls tag l.length then (encH cls tag cons l.length ++ l, (0 : Int)) else ([], 1)).2 false cls tag cons len size = some true := by
  obtain ⟨k, rfl⟩ : ∃ j, k = j + 1 := ⟨k - 1, by omega⟩
  have J := e_j2 k (by omega) cls tag cons len size l hl
  rw [sobriquetlaw01_TlvExact.j1, if_neg (by decide), Head_f]
  simp only [Option.bind_some]
  by_cases ok : okH cls tag len
  · have hE := encH_len cls tag cons _ ok
    rw [if_pos ok, dec_t _ ok, if_pos rfl, if_pos rfl, HeadBytes_f k (by omega) cls tag cons len size ok]
    simp only [Option.bind_some]
    rw [Bytes_f _ _ k (by omega) (by omega), dec_t _ rfl]
    simp only [Option.bind_some, if_true]
    exact J
  · rw [if_neg ok, dec_f _ ok, if_neg (by decide), if_pos rfl, if_neg (by decide)]
    exact J
theorem TlvExact : sobriquetlaw01_TlvExact.Pure := by
  intro l cls tag cons len size _ _ hb8 _ _ _ _
  obtain ⟨k, hk⟩ : ∃ k, 10000000000 ≤ k := ⟨10000000000, Nat.le_refl _⟩
  refine ⟨k + 1, ?_⟩
  have hb := wfu8 hb8
  unfold sobriquetlaw01_TlvExact.f
  by_cases hl : (l.length : Int) > 700
  · rw [if_pos hl]
  rw [if_neg hl, Twin_f l (by omega)]
  simp only [Option.bind_some]
  unfold sobriquetref01_One.f tlv_One.f
  rw [read_f l (by omega) hb (k + 1) (by omega), ref_f l (by omega) hb (k + 1) (by omega), bytes_f (k + 1) (by omega), wrap_f (k + 1) (by omega) _ _ _ _ _ l (by omega)]
  simp only [Option.bind_some]
  have J := e_j1 k (by omega) cls tag cons len size l (by omega)
  have hB : sobriquetkeep_Bytes.f (k + 1) l l = some true := by rw [Bytes_f _ _ (k + 1) (by omega) (by omega), dec_t _ rfl]
  by_cases he : (readH l).2.2.2.2.2 = 0
  · obtain ⟨hok, t, h1, h2⟩ := readH_dec l hb he
    have hE := encH_len (readH l).1 (readH l).2.1 (readH l).2.2.1 (readH l).2.2.2.1 hok
    have hle : (readH l).2.2.2.2.1 ≤ l.length := by rw [h2, congrArg List.length h1, List.length_append]; omega
    obtain ⟨_, _, _, _, n0, n1⟩ := hok
    generalize readH l = R at *
    obtain ⟨r1, r2, r3, r4, r5, r6⟩ := R
    simp only at he h2 hle n0 n1 hE ⊢
    subst he
    rw [w64 (x := (l.length : Int) - r5) (by omega) (by omega), w64 (x := r5 + r4) (by omega) (by omega)]
    by_cases hs : (l.length : Int) - r5 < r4
    · simp only [if_true, if_pos hs, Option.bind_some, beq_self_eq_true, Bool.not_true, Bool.or_self, Bool.false_eq_true, if_false]
      rw [hB]
      simp only [Option.bind_some]
      rw [sobriquetlaw01_TlvExact.j0, if_neg (by decide), if_neg (by decide), dec_f (wrap64 ((([] : List Int).length : Int) + (([] : List Int).length : Int)) > 0) (by rw [w64 (by simp) (by simp)]; simp)]
      exact J
    · have ha : (0 : Int) ≤ r5 := by omega
      simp only [if_true, if_neg hs, if_pos ha, if_pos (show r5 ≤ r5 + r4 by omega), if_pos (show r5 + r4 ≤ (l.length : Int) by omega), if_pos (show 0 ≤ r5 + r4 by omega)]
      rw [Clone_f _ (by simp; omega), Clone_f _ (by simp; omega)]
      simp only [Option.bind_some, beq_self_eq_true, Bool.not_true, Bool.or_self, Bool.false_eq_true, if_false, if_true]
      rw [hB]
      simp only [Option.bind_some]
      rw [sobriquetlaw01_TlvExact.j0, if_neg (by decide), if_pos rfl, if_pos ha, if_pos (by omega), if_pos (by omega), Bytes_f _ _ k (by simp; omega) (by simp; omega), dec_t _ rfl]
      simp only [Option.bind_some, if_true]
      rw [if_pos (by omega), Bytes_f _ _ k (by simp; omega) (by simp; omega), dec_t _ rfl]
      simp only [Option.bind_some, if_true]
      exact J
  · have hbad := readH_bad l he
    generalize (readH l).2.2.2.2.2 = E at *
    rw [hbad]
    simp only [if_neg he, Option.bind_some, beq_self_eq_true, Bool.not_true, Bool.or_self, Bool.false_eq_true, if_false, if_true]
    rw [hB]
    simp only [Option.bind_some]
    rw [sobriquetlaw01_TlvExact.j0, if_neg (by decide), if_neg he, dec_f (wrap64 ((([] : List Int).length : Int) + (([] : List Int).length : Int)) > 0) (by rw [w64 (by simp) (by simp)]; simp)]
    exact J

end Go.Proofs.Ytooemmioomaplaa.Pure
