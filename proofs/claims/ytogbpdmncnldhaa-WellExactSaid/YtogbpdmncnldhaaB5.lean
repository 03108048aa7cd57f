/- The plain law of the package well's machine: what walk computes is what the recursive reading V says. -/
import Derived.Test.YtogbpdmncnldhaaB4
namespace Go.Proofs.Ytogbpdmncnldhaa.Base
open Go.RowKit Go.Proofs.YtogbpdmncnldhaaW.PrintWords Go.Proofs.YtogbpdmncnldhaaW.PrintLast
set_option linter.unusedVariables false
set_option linter.unusedSimpArgs false
set_option maxHeartbeats 1000000
theorem w64 {x : Int} (h0 : -9223372036854775808 ≤ x) (h1 : x ≤ 9223372036854775807) : wrap64 x = x := by unfold wrap64; omega
theorem w64_nat {i n : Nat} (h : i < n) (hn : n ≤ 4611686018427387904) : wrap64 ((i : Int) + 1) = ((i + 1 : Nat) : Int) := by unfold wrap64; omega
theorem rd_nat (xs : List Int) (i : Nat) (h : i < xs.length) : rd xs (i : Int) = xs[i] := by simp [rd, List.getD_eq_getElem?_getD, List.getElem?_eq_getElem h]
theorem wf64 {a : Int} (h : (Lit.int .i64 a).wf = true) : -9223372036854775808 ≤ a ∧ a ≤ 9223372036854775807 := by
  simpa [Lit.wf, show IntKind.i64.min = -9223372036854775808 from rfl] using h
theorem tdiv_nn {a : Int} (h : 0 ≤ a) (b : Int) : Int.tdiv a b = a / b := Int.tdiv_eq_ediv_of_nonneg h
theorem tmod_nn {a : Int} (h : 0 ≤ a) (b : Int) : Int.tmod a b = a % b := Int.tmod_eq_emod_of_nonneg h
theorem dec_iff (p q : Prop) [Decidable p] [Decidable q] (h : p ↔ q) : decide p = decide q := by simp [h]
theorem dec_t (p : Prop) [Decidable p] (h : p) : decide p = true := by simp [h]
theorem dec_f (p : Prop) [Decidable p] (h : ¬ p) : decide p = false := by simp [h]
theorem tmod_bd (a c : Int) (hc : 0 < c) : -c < Int.tmod a c ∧ Int.tmod a c < c := by
  have h1 := Int.emod_nonneg a (b := c) (by omega)
  have h2 := Int.emod_lt_of_pos a hc
  have h3 : ((c.natAbs : Nat) : Int) = c := by omega
  have h4 := Int.tmod_lt_of_pos a hc
  refine ⟨?_, h4⟩
  rw [Int.tmod_eq_emod]
  split
  · omega
  · rename_i h
    have : a % c ≠ 0 := fun e => h (.inr (Int.dvd_of_emod_eq_zero e))
    omega
theorem w64l (x y : Int) (h : x = y ∧ -9223372036854775808 ≤ y ∧ y ≤ 9223372036854775807) : wrap64 x = y := by rw [h.1]; exact w64 h.2.1 h.2.2

theorem wraps_i64 (n : Int) (h₀ : 0 ≤ n) (h₁ : n < 2 ^ 62) : IntKind.i64.wrap n = n := by rw [IntKind.wrap_i64]; omega
theorem and127 (x : Int) (h0 : 0 ≤ x) (h1 : x < 4611686018427387904) : Go.bits .and .i64 x 127 = x % 128 :=
  bits_mask .i64 62 (by decide) wraps_i64 7 (by decide) x h0 (by omega)
theorem and31 (x : Int) (h0 : 0 ≤ x) (h1 : x < 4611686018427387904) : Go.bits .and .i64 x 31 = x % 32 :=
  bits_mask .i64 62 (by decide) wraps_i64 5 (by decide) x h0 (by omega)
theorem orp (i : Nat) (hi : i ≤ 62) (x y : Int) (hx0 : 0 ≤ x) (hx : x % 2 ^ i = 0) (hx1 : x < 2 ^ 62) (hy0 : 0 ≤ y) (hy : y < 2 ^ i) (hy1 : y < 2 ^ 62) : Go.bits .or .i64 x y = x + y :=
  bits_join .i64 62 (by decide) wraps_i64 i x y hx0 hx hx1 hy0 hy hy1
theorem or_comm (x y : Int) (hx0 : 0 ≤ x) (hx1 : x < 2 ^ 62) (hy0 : 0 ≤ y) (hy1 : y < 2 ^ 62) : Go.bits .or .i64 x y = Go.bits .or .i64 y x := by
  obtain ⟨a, rfl⟩ := Int.eq_ofNat_of_zero_le hx0
  obtain ⟨b, rfl⟩ := Int.eq_ofNat_of_zero_le hy0
  rw [(bits_nat .i64 62 (by decide) wraps_i64 a b (by exact_mod_cast hx1) (by exact_mod_cast hy1)).2, (bits_nat .i64 62 (by decide) wraps_i64 b a (by exact_mod_cast hy1) (by exact_mod_cast hx1)).2, Nat.or_comm]
theorem or128 (y : Int) (h0 : 0 ≤ y) (h1 : y < 128) : Go.bits .or .i64 y 128 = y + 128 := by
  rw [or_comm y 128 h0 (by omega) (by decide) (by decide), orp 7 (by decide) 128 y (by decide) (by decide) (by decide) h0 (by omega) (by omega)]; omega
theorem or7 (x y : Int) (h0 : 0 ≤ x) (h1 : x < 1099511627776) (h2 : 0 ≤ y) (h3 : y < 128) : Go.bits .or .i64 (x * 128) y = x * 128 + y :=
  orp 7 (by decide) (x * 128) y (by omega) (by omega) (by omega) h2 (by omega) (by omega)
theorem or8 (x y : Int) (h0 : 0 ≤ x) (h1 : x < 1099511627776) (h2 : 0 ≤ y) (h3 : y < 256) : Go.bits .or .i64 (x * 256) y = x * 256 + y :=
  orp 8 (by decide) (x * 256) y (by omega) (by omega) (by omega) h2 (by omega) (by omega)

def contLE (m : Int) : List Int := if m ≤ 0 then [] else (m % 128 + 128) :: contLE (m / 128)
termination_by m.toNat
decreasing_by omega
def byLE (m : Int) : List Int := if m ≤ 0 then [] else (m % 256) :: byLE (m / 256)
termination_by m.toNat
decreasing_by omega
def contBE (m : Int) : List Int := (contLE m).reverse
def lenB (n : Int) : List Int := if n < 128 then [n] else (128 + ((byLE n).length : Int)) :: (byLE n).reverse
def encH (cls tag : Int) (cons : Bool) (len : Int) : List Int :=
  (if tag < 31 then [cls * 64 + (if cons = true then 32 else 0) + tag] else (cls * 64 + (if cons = true then 32 else 0) + 31) :: (contBE (tag / 128) ++ [tag % 128])) ++ lenB len
theorem contLE_pos (m : Int) (h : 0 < m) : contLE m = (m % 128 + 128) :: contLE (m / 128) := by rw [contLE, if_neg (by omega)]
theorem contLE_nil (m : Int) (h : m ≤ 0) : contLE m = [] := by rw [contLE, if_pos h]
theorem byLE_pos (m : Int) (h : 0 < m) : byLE m = (m % 256) :: byLE (m / 256) := by rw [byLE, if_neg (by omega)]
theorem byLE_nil (m : Int) (h : m ≤ 0) : byLE m = [] := by rw [byLE, if_pos h]
theorem contBE_pos (m : Int) (h : 0 < m) : contBE m = contBE (m / 128) ++ [m % 128 + 128] := by unfold contBE; rw [contLE_pos m h, List.reverse_cons]
theorem contBE_nil (m : Int) (h : m ≤ 0) : contBE m = [] := by unfold contBE; rw [contLE_nil m h]; rfl
theorem byLE_len4 (n : Int) (h0 : 128 ≤ n) (h1 : n ≤ 2147483647) : 1 ≤ (byLE n).length ∧ (byLE n).length ≤ 4 := by
  rw [byLE_pos n (by omega)]
  by_cases a : 0 < n / 256
  · rw [byLE_pos _ a]
    by_cases b : 0 < n / 256 / 256
    · rw [byLE_pos _ b]
      by_cases c : 0 < n / 256 / 256 / 256
      · rw [byLE_pos _ c, byLE_nil _ (by omega)]; simp
      · rw [byLE_nil _ (by omega)]; simp
    · rw [byLE_nil _ (by omega)]; simp
  · rw [byLE_nil _ (by omega)]; simp
theorem contLE_len (m : Int) (h0 : 0 ≤ m) (h1 : m ≤ 268435455) : (contLE m).length ≤ 4 := by
  by_cases a : 0 < m
  · rw [contLE_pos _ a]
    by_cases b : 0 < m / 128
    · rw [contLE_pos _ b]
      by_cases c : 0 < m / 128 / 128
      · rw [contLE_pos _ c]
        by_cases d : 0 < m / 128 / 128 / 128
        · rw [contLE_pos _ d, contLE_nil _ (by omega)]; simp
        · rw [contLE_nil _ (by omega)]; simp
      · rw [contLE_nil _ (by omega)]; simp
    · rw [contLE_nil _ (by omega)]; simp
  · rw [contLE_nil _ (by omega)]; simp
def okH (cls tag len : Int) : Prop := 0 ≤ cls ∧ cls ≤ 3 ∧ 0 ≤ tag ∧ tag ≤ 268435455 ∧ 0 ≤ len ∧ len ≤ 2147483647
instance (a b c : Int) : Decidable (okH a b c) := by unfold okH; infer_instance
theorem lenB_len (n : Int) (h0 : 0 ≤ n) (h1 : n ≤ 2147483647) : 1 ≤ (lenB n).length ∧ (lenB n).length ≤ 5 := by
  unfold lenB
  by_cases h : n < 128
  · rw [if_pos h]; simp
  · have := byLE_len4 n (by omega) h1
    rw [if_neg h]; simp; omega
def tagP : List Int → Int → Bool → Int → Int × Int × Int
  | [], _, _, pos => (0, 2, pos)
  | c :: t, n, first, pos => if (first = true ∧ c = 128) ∨ n * 128 + c % 128 > 268435455 then (0, 3, pos + 1) else if c ≥ 128 then tagP t (n * 128 + c % 128) false (pos + 1) else if n * 128 + c % 128 < 31 then (0, 3, pos + 1) else (n * 128 + c % 128, 0, pos + 1)
def lenL : Nat → List Int → Int → Bool → Int → Int × Int × Int
  | 0, _, n, _, pos => if n > 2147483647 then (0, 4, pos) else if n < 128 then (0, 4, pos) else (n, 0, pos)
  | _ + 1, [], _, _, pos => (0, 2, pos)
  | m + 1, x :: t, n, first, pos => if first = true ∧ x = 0 then (0, 4, pos + 1) else lenL m t (n * 256 + x) false (pos + 1)
def lenP : List Int → Int → Int × Int × Int
  | [], pos => (0, 2, pos)
  | c :: t, pos => if c < 128 then (c, 0, pos + 1) else if c = 128 then (0, 4, pos + 1) else if c - 128 > 4 then (0, 4, pos + 1) else lenL (c - 128).toNat t 0 true (pos + 1)
def tagQ (c : Int) (t : List Int) : Int × Int × Int := if c % 32 = 31 then tagP t 0 true 1 else (c % 32, 0, 1)
def readH : List Int → Int × Int × Bool × Int × Int × Int
  | [] => (0, 0, false, 0, 0, 2)
  | c :: t => if (tagQ c t).2.1 = 0 then (if (lenP ((c :: t).drop (tagQ c t).2.2.toNat) (tagQ c t).2.2).2.1 = 0 then (c / 64, (tagQ c t).1, decide (c / 32 % 2 = 1), (lenP ((c :: t).drop (tagQ c t).2.2.toNat) (tagQ c t).2.2).1, (lenP ((c :: t).drop (tagQ c t).2.2.toNat) (tagQ c t).2.2).2.2, 0) else (0, 0, false, 0, 0, (lenP ((c :: t).drop (tagQ c t).2.2.toNat) (tagQ c t).2.2).2.1)) else (0, 0, false, 0, 0, (tagQ c t).2.1)
theorem next_f (l : List Int) (hl : l.length ≤ 1000000) (hb : ∀ x ∈ l, 0 ≤ x ∧ x < 256) (p : Nat) : tlv_reader_next.f l p = some (if h : p < l.length then (l[p], true, ((p + 1 : Nat) : Int)) else (0, false, (p : Int))) := by
  unfold tlv_reader_next.f
  by_cases h : p < l.length
  · have := hb l[p] (List.getElem_mem h)
    rw [if_neg (by omega), dif_pos h, w64 (x := (p : Int) + 1) (by omega) (by omega), w64 (x := (p : Int) + 1 - 1) (by omega) (by omega), show (p : Int) + 1 - 1 = p by omega, if_pos (by omega), if_pos (by omega), rd_nat l p h, w64 (by omega) (by omega)]
    rfl
  · rw [if_pos (by omega), dif_neg h]
theorem tag_l0 (l : List Int) (hl : l.length ≤ 1000000) (hb : ∀ x ∈ l, 0 ≤ x ∧ x < 256) : ∀ (d k p : Nat) (n : Int) (first : Bool), l.length ≤ p + d → 2 * d + 2 < k → 0 ≤ n → n ≤ 268435455 → tlv_reader_tag.l0 k n first l p = some (tagP (l.drop p) n first p) := by
  intro d
  induction d with
  | zero =>
    intro k p n first hp hk h0 h1
    obtain ⟨k, rfl⟩ : ∃ m, k = m + 1 := ⟨k - 1, by omega⟩
    rw [tlv_reader_tag.l0, next_f l hl hb, dif_neg (by omega), List.drop_eq_nil_of_le (by omega)]
    rfl
  | succ d ih =>
    intro k p n first hp hk h0 h1
    obtain ⟨k, rfl⟩ : ∃ m, k = m + 2 := ⟨k - 2, by omega⟩
    rw [tlv_reader_tag.l0, next_f l hl hb]
    by_cases h : p < l.length
    · obtain ⟨b0, b1⟩ := hb l[p] (List.getElem_mem h)
      rw [dif_pos h, List.drop_eq_getElem_cons h]
      simp only [Option.bind_some, if_true]
      rw [and127 _ b0 (by omega), w64 (x := n * 128) (by omega) (by omega), or7 n _ h0 (by omega) (by omega) (by omega)]
      have J : ∀ b : Bool, b = decide ((first = true ∧ l[p] = 128) ∨ n * 128 + l[p] % 128 > 268435455) → tlv_reader_tag.j1 (k + 1) (n * 128 + l[p] % 128) l[p] b l ((p + 1 : Nat) : Int) = some (tagP (l[p] :: l.drop (p + 1)) n first p) := by
        intro b hb'
        rw [tlv_reader_tag.j1, hb', tagP]
        by_cases c : (first = true ∧ l[p] = 128) ∨ n * 128 + l[p] % 128 > 268435455
        · rw [dec_t _ c, if_pos rfl, if_pos c]; rfl
        · rw [dec_f _ c, if_neg (by decide), if_neg c]
          by_cases c2 : l[p] ≥ 128
          · rw [if_pos c2, if_pos c2, ih k (p + 1) _ false (by omega) (by omega) (by omega) (by omega)]; rfl
          · rw [if_neg c2, if_neg c2]
            by_cases c3 : n * 128 + l[p] % 128 < 31
            · rw [if_pos c3, if_pos c3]; rfl
            · rw [if_neg c3, if_neg c3]; rfl
      cases first with
      | true =>
        rw [if_pos rfl]
        by_cases c : l[p] = 128
        · rw [if_pos c]; exact J true (by rw [dec_t _ (.inl ⟨rfl, c⟩)])
        · rw [if_neg c]; exact J _ (dec_iff _ _ (by omega))
      | false =>
        rw [if_neg (by decide)]; exact J _ (dec_iff _ _ (by simp))
    · rw [dif_neg h, List.drop_eq_nil_of_le (by omega)]
      rfl
theorem len_l0' (l : List Int) (hl : l.length ≤ 1000000) (hb : ∀ x ∈ l, 0 ≤ x ∧ x < 256) (M : Nat) (hM : M ≤ 4) : ∀ (d k p j : Nat) (n : Int), j + d = M → d < k → 0 ≤ n → n < 256 ^ j → tlv_reader_length.l0 k n M j l p = some (lenL d (l.drop p) n (decide (j = 0)) p) := by
  intro d
  induction d with
  | zero =>
    intro k p j n hj hk h0 h1
    obtain ⟨k, rfl⟩ : ∃ m, k = m + 1 := ⟨k - 1, by omega⟩
    rw [tlv_reader_length.l0, if_neg (by omega), lenL]
    by_cases c : n > 2147483647
    · rw [if_pos c, if_pos c]
    · rw [if_neg c, if_neg c]
      by_cases c2 : n < 128
      · rw [if_pos c2, if_pos c2]
      · rw [if_neg c2, if_neg c2]
  | succ d ih =>
    intro k p j n hj hk h0 h1
    obtain ⟨k, rfl⟩ : ∃ m, k = m + 1 := ⟨k - 1, by omega⟩
    rw [tlv_reader_length.l0, if_pos (by omega), next_f l hl hb]
    by_cases h : p < l.length
    · obtain ⟨b0, b1⟩ := hb l[p] (List.getElem_mem h)
      have hn : n < 16777216 := by
        rcases (show j = 0 ∨ j = 1 ∨ j = 2 ∨ j = 3 by omega) with rfl | rfl | rfl | rfl <;> omega
      rw [dif_pos h, List.drop_eq_getElem_cons h]
      simp only [Option.bind_some, if_true]
      rw [w64 (x := n * 256) (by omega) (by omega), or8 n _ h0 (by omega) b0 b1, w64 (x := (j : Int) + 1) (by omega) (by omega), lenL]
      have R : tlv_reader_length.l0 k (n * 256 + l[p]) M ((j : Int) + 1) l ((p + 1 : Nat) : Int) = some (lenL d (l.drop (p + 1)) (n * 256 + l[p]) false ((p : Int) + 1)) := by
        have := ih k (p + 1) (j + 1) (n * 256 + l[p]) (by omega) (by omega) (by omega) (by rw [Int.pow_succ]; omega)
        rw [dec_f (j + 1 = 0) (by omega)] at this
        exact this
      by_cases c : j = 0
      · rw [if_pos (show (j : Int) = 0 by omega), dec_t _ c]
        by_cases c2 : l[p] = 0
        · rw [if_pos c2, if_pos ⟨rfl, c2⟩]; rfl
        · rw [if_neg c2, if_neg (fun q => c2 q.2)]; exact R
      · rw [if_neg (show ¬ (j : Int) = 0 by omega), dec_f _ c, if_neg (fun q => by cases q.1)]; exact R
    · rw [dif_neg h, List.drop_eq_nil_of_le (by omega)]
      rfl
theorem len_f' (l : List Int) (hl : l.length ≤ 1000000) (hb : ∀ x ∈ l, 0 ≤ x ∧ x < 256) (k p : Nat) (hk : 10 ≤ k) : tlv_reader_length.f k l p = some (lenP (l.drop p) p) := by
  unfold tlv_reader_length.f
  rw [next_f l hl hb]
  by_cases h : p < l.length
  · obtain ⟨b0, b1⟩ := hb l[p] (List.getElem_mem h)
    rw [dif_pos h, List.drop_eq_getElem_cons h]
    simp only [Option.bind_some, if_true]
    rw [lenP, w64 (x := l[p] - 128) (by omega) (by omega)]
    by_cases c1 : l[p] < 128
    · rw [if_pos c1, if_pos c1]; rfl
    · rw [if_neg c1, if_neg c1]
      by_cases c2 : l[p] = 128
      · rw [if_pos c2, if_pos c2]; rfl
      · rw [if_neg c2, if_neg c2]
        by_cases c3 : l[p] - 128 > 4
        · rw [if_pos c3, if_pos c3]; rfl
        · rw [if_neg c3, if_neg c3]
          have := len_l0' l hl hb (l[p] - 128).toNat (by omega) (l[p] - 128).toNat k (p + 1) 0 0 (by omega) (by omega) (by omega) (by simp)
          rw [Int.toNat_of_nonneg (by omega)] at this
          exact this
  · rw [dif_neg h, List.drop_eq_nil_of_le (by omega)]
    rfl
theorem tagP_pos : ∀ (l : List Int) (n : Int) (f : Bool) (p : Int), p ≤ (tagP l n f p).2.2 ∧ (tagP l n f p).2.2 ≤ p + l.length := by
  intro l
  induction l with
  | nil => intro n f p; simp [tagP]
  | cons c t ih =>
    intro n f p
    rw [tagP]
    split
    · simp; omega
    · split
      · have := ih (n * 128 + c % 128) false (p + 1); simp only [List.length_cons]; omega
      · split <;> simp <;> omega
theorem cons_bit : ∀ x : Fin 256, (Go.bits .and .i64 ((x.val : Nat) : Int) 32 != 0) = decide (((x.val : Nat) : Int) / 32 % 2 = 1) := by decide +kernel
theorem read_f (l : List Int) (hl : l.length ≤ 1000000) (hb : ∀ x ∈ l, 0 ≤ x ∧ x < 256) (k : Nat) (hk : 3000000 ≤ k) : tlv_Read.f k l = some (readH l) := by
  unfold tlv_Read.f
  rw [show tlv_reader_next.f l 0 = some (if h : 0 < l.length then (l[0], true, ((0 + 1 : Nat) : Int)) else (0, false, ((0 : Nat) : Int))) from next_f l hl hb 0]
  match l, hl, hb with
  | [], _, _ => rfl
  | c :: t, hl, hb =>
    obtain ⟨b0, b1⟩ := hb c (by simp)
    rw [dif_pos (by simp)]
    simp only [Option.bind_some, if_true, List.getElem_cons_zero]
    have hT : tlv_reader_tag.f k (c :: t) ((0 + 1 : Nat) : Int) (Go.bits .and .i64 c 31) = some (tagQ c t) := by
      unfold tlv_reader_tag.f tagQ
      rw [and31 c b0 (by omega)]
      by_cases h : c % 32 = 31
      · rw [if_pos h, if_pos h, tag_l0 (c :: t) hl hb (c :: t).length k 1 0 true (by omega) (by omega) (by omega) (by omega)]; rfl
      · rw [if_neg h, if_neg h]; rfl
    have hp : 1 ≤ (tagQ c t).2.2 := by
      unfold tagQ
      split
      · exact (tagP_pos t 0 true 1).1
      · simp
    rw [hT, readH]
    simp only [Option.bind_some]
    by_cases h : (tagQ c t).2.1 = 0
    · have hL := len_f' (c :: t) hl hb k (tagQ c t).2.2.toNat (by omega)
      rw [Int.toNat_of_nonneg (by omega)] at hL
      rw [if_pos h, if_pos h, hL]
      simp only [Option.bind_some]
      have hc := cons_bit ⟨c.toNat, by omega⟩
      simp only [Int.toNat_of_nonneg b0] at hc
      rw [hc]
      split <;> rfl
    · rw [if_neg h, if_neg h]
theorem wfu8 {xs : List Int} (h : ∀ x ∈ xs, (Lit.int .u8 x).wf = true) : ∀ x ∈ xs, 0 ≤ x ∧ x < 256 := by
  intro x hx
  have := h x hx
  simp [Lit.wf, show IntKind.u8.min = 0 from rfl, show IntKind.u8.max = 255 from rfl] at this
  omega

def byBE (m : Int) : List Int := (byLE m).reverse
theorem byBE_pos (m : Int) (h : 0 < m) : byBE m = byBE (m / 256) ++ [m % 256] := by unfold byBE; rw [byLE_pos m h, List.reverse_cons]
theorem byBE_nil (m : Int) (h : m ≤ 0) : byBE m = [] := by unfold byBE; rw [byLE_nil m h]; rfl
theorem lenB_big (n : Int) (h : ¬ n < 128) : lenB n = (128 + ((byBE n).length : Int)) :: byBE n := by unfold lenB byBE; rw [if_neg h, List.length_reverse]
theorem tagP_run : ∀ (N : Nat) (m : Int) (l : List Int) (p : Int), m.toNat ≤ N → 0 ≤ m → m ≤ 268435455 → tagP (contBE m ++ l) 0 true p = if m ≤ 0 then tagP l 0 true p else tagP l m false (p + ((contBE m).length : Int)) := by
  intro N
  induction N with
  | zero =>
    intro m l p hm h0 h1
    rw [if_pos (by omega), contBE_nil m (by omega)]; rfl
  | succ N ih =>
    intro m l p hm h0 h1
    by_cases hp : 0 < m
    · rw [if_neg (by omega), contBE_pos m hp, List.append_assoc, ih (m / 128) _ p (by omega) (by omega) (by omega)]
      by_cases h2 : m / 128 ≤ 0
      · rw [if_pos h2, contBE_nil _ h2]
        show tagP ((m % 128 + 128) :: l) 0 true p = _
        rw [tagP, if_neg (by omega), if_pos (by omega), show 0 * 128 + (m % 128 + 128) % 128 = m by omega]
        rfl
      · rw [if_neg h2]
        show tagP ((m % 128 + 128) :: l) (m / 128) false _ = _
        rw [tagP, if_neg (by simp; omega), if_pos (by omega), show m / 128 * 128 + (m % 128 + 128) % 128 = m by omega, List.length_append]
        congr 1; simp; omega
    · rw [if_pos (by omega), contBE_nil m (by omega)]; rfl
theorem tagP_enc (n : Int) (h0 : 31 ≤ n) (h1 : n ≤ 268435455) (t : List Int) (p : Int) : tagP (contBE (n / 128) ++ (n % 128) :: t) 0 true p = (n, 0, p + ((contBE (n / 128)).length : Int) + 1) := by
  rw [tagP_run (n / 128).toNat (n / 128) _ p (Nat.le_refl _) (by omega) (by omega)]
  by_cases h : n / 128 ≤ 0
  · rw [if_pos h, contBE_nil _ h, tagP, if_neg (by omega), if_neg (by omega), if_neg (by omega), show 0 * 128 + n % 128 % 128 = n by omega]
    simp
  · rw [if_neg h, tagP, if_neg (by simp; omega), if_neg (by omega), if_neg (by omega), show n / 128 * 128 + n % 128 % 128 = n by omega]
theorem tagP_dec : ∀ (l : List Int) (m : Int) (f : Bool) (p n p' : Int), (∀ x ∈ l, 0 ≤ x ∧ x < 256) → 0 ≤ m → (f = true ∧ m = 0 ∨ f = false ∧ 0 < m) → tagP l m f p = (n, 0, p') →
    31 ≤ n ∧ n ≤ 268435455 ∧ ∃ t, contBE m ++ l = contBE (n / 128) ++ (n % 128) :: t ∧ p' + t.length = p + l.length := by
  intro l
  induction l with
  | nil => intro m f p n p' _ _ _ h; simp [tagP] at h
  | cons c t ih =>
    intro m f p n p' hb h0 hf h
    obtain ⟨b0, b1⟩ := hb c (by simp)
    rw [tagP] at h
    by_cases h1 : (f = true ∧ c = 128) ∨ m * 128 + c % 128 > 268435455
    · rw [if_pos h1] at h; simp at h
    rw [if_neg h1] at h
    by_cases h2 : c ≥ 128
    · rw [if_pos h2] at h
      have hpos : 0 < m * 128 + c % 128 := by
        rcases hf with ⟨f1, f2⟩ | ⟨f1, f2⟩
        · have : ¬ c = 128 := fun q => h1 (.inl ⟨f1, q⟩)
          omega
        · omega
      obtain ⟨g1, g2, t', g3, g4⟩ := ih _ false (p + 1) n p' (fun x hx => hb x (by simp [hx])) (by omega) (.inr ⟨rfl, hpos⟩) h
      refine ⟨g1, g2, t', ?_, by rw [List.length_cons]; omega⟩
      rw [contBE_pos _ hpos, show (m * 128 + c % 128) / 128 = m by omega, show (m * 128 + c % 128) % 128 + 128 = c by omega, List.append_assoc] at g3
      exact g3
    · rw [if_neg h2] at h
      by_cases h3 : m * 128 + c % 128 < 31
      · rw [if_pos h3] at h; simp at h
      · rw [if_neg h3] at h
        simp only [Prod.mk.injEq] at h
        obtain ⟨rfl, _, rfl⟩ := h
        refine ⟨by omega, by omega, t, ?_, by rw [List.length_cons]; omega⟩
        rw [show (m * 128 + c % 128) / 128 = m by omega, show (m * 128 + c % 128) % 128 = c by omega]
theorem lenL_run : ∀ (N : Nat) (m : Int) (a : Nat) (l : List Int) (p : Int), m.toNat ≤ N → 0 ≤ m → lenL (a + (byBE m).length) (byBE m ++ l) 0 true p = if m ≤ 0 then lenL a l 0 true p else lenL a l m false (p + ((byBE m).length : Int)) := by
  intro N
  induction N with
  | zero =>
    intro m a l p hm h0
    rw [if_pos (by omega), byBE_nil m (by omega)]; rfl
  | succ N ih =>
    intro m a l p hm h0
    by_cases hp : 0 < m
    · rw [if_neg (by omega), byBE_pos m hp, List.append_assoc, List.length_append, show a + ((byBE (m / 256)).length + [m % 256].length) = (a + 1) + (byBE (m / 256)).length by simp; omega, ih (m / 256) (a + 1) _ p (by omega) (by omega)]
      by_cases h2 : m / 256 ≤ 0
      · rw [if_pos h2, byBE_nil _ h2]
        show lenL (a + 1) ((m % 256) :: l) 0 true p = _
        rw [lenL, if_neg (by omega), show 0 * 256 + m % 256 = m by omega]
        rfl
      · rw [if_neg h2]
        show lenL (a + 1) ((m % 256) :: l) (m / 256) false _ = _
        rw [lenL, if_neg (by simp), show m / 256 * 256 + m % 256 = m by omega]
        congr 1; simp; omega
    · rw [if_pos (by omega), byBE_nil m (by omega)]; rfl
theorem byBE_len4 (n : Int) (h0 : 128 ≤ n) (h1 : n ≤ 2147483647) : 1 ≤ (byBE n).length ∧ (byBE n).length ≤ 4 := by
  unfold byBE; rw [List.length_reverse]; exact byLE_len4 n h0 h1
theorem lenP_enc (n : Int) (h0 : 0 ≤ n) (h1 : n ≤ 2147483647) (t : List Int) (p : Int) : lenP (lenB n ++ t) p = (n, 0, p + ((lenB n).length : Int)) := by
  by_cases h : n < 128
  · have e : lenB n = [n] := by unfold lenB; rw [if_pos h]
    rw [e]
    show lenP (n :: t) p = _
    rw [lenP, if_pos h]; rfl
  · have h4 := byBE_len4 n (by omega) h1
    rw [lenB_big n h]
    show lenP ((128 + ((byBE n).length : Int)) :: (byBE n ++ t)) p = _
    have := lenL_run n.toNat n 0 t (p + 1) (Nat.le_refl _) h0
    rw [Nat.zero_add] at this
    rw [lenP, if_neg (by omega), if_neg (by omega), if_neg (by omega), show (128 + ((byBE n).length : Int) - 128).toNat = (byBE n).length by omega, this, if_neg (by omega), lenL, if_neg (by omega), if_neg h, List.length_cons]
    congr 2; omega
theorem lenL_dec : ∀ (M : Nat) (l : List Int) (m : Int) (f : Bool) (p n p' : Int), (∀ x ∈ l, 0 ≤ x ∧ x < 256) → 0 ≤ m → (f = true ∧ m = 0 ∨ f = false ∧ 0 < m) → lenL M l m f p = (n, 0, p') →
    128 ≤ n ∧ n ≤ 2147483647 ∧ ∃ t, byBE m ++ l = byBE n ++ t ∧ p' + t.length = p + l.length ∧ (byBE n).length = (byBE m).length + M := by
  intro M
  induction M with
  | zero =>
    intro l m f p n p' hb h0 hf h
    rw [lenL] at h
    by_cases h1 : m > 2147483647
    · rw [if_pos h1] at h; simp at h
    · rw [if_neg h1] at h
      by_cases h2 : m < 128
      · rw [if_pos h2] at h; simp at h
      · rw [if_neg h2] at h
        simp only [Prod.mk.injEq] at h
        obtain ⟨rfl, _, rfl⟩ := h
        exact ⟨by omega, by omega, l, rfl, rfl, rfl⟩
  | succ M ih =>
    intro l m f p n p' hb h0 hf h
    match l, hb, h with
    | [], _, h => simp [lenL] at h
    | x :: t, hb, h =>
      obtain ⟨b0, b1⟩ := hb x (by simp)
      rw [lenL] at h
      by_cases h1 : f = true ∧ x = 0
      · rw [if_pos h1] at h; simp at h
      · rw [if_neg h1] at h
        have hpos : 0 < m * 256 + x := by
          rcases hf with ⟨f1, f2⟩ | ⟨f1, f2⟩
          · have : ¬ x = 0 := fun q => h1 ⟨f1, q⟩
            omega
          · omega
        obtain ⟨g1, g2, t', g3, g4, g5⟩ := ih t _ false (p + 1) n p' (fun y hy => hb y (by simp [hy])) (by omega) (.inr ⟨rfl, hpos⟩) h
        rw [byBE_pos _ hpos, show (m * 256 + x) / 256 = m by omega, show (m * 256 + x) % 256 = x by omega] at g3 g5
        refine ⟨g1, g2, t', ?_, by rw [List.length_cons]; omega, by rw [g5, List.length_append]; simp; omega⟩
        rw [List.append_assoc] at g3
        exact g3
theorem lenP_dec (l : List Int) (p n p' : Int) (hb : ∀ x ∈ l, 0 ≤ x ∧ x < 256) (h : lenP l p = (n, 0, p')) : 0 ≤ n ∧ n ≤ 2147483647 ∧ ∃ t, l = lenB n ++ t ∧ p' + t.length = p + l.length := by
  match l, hb, h with
  | [], _, h => simp [lenP] at h
  | c :: t, hb, h =>
    obtain ⟨b0, b1⟩ := hb c (by simp)
    rw [lenP] at h
    by_cases h1 : c < 128
    · rw [if_pos h1] at h
      simp only [Prod.mk.injEq] at h
      obtain ⟨rfl, _, rfl⟩ := h
      have e : lenB c = [c] := by unfold lenB; rw [if_pos h1]
      exact ⟨b0, by omega, t, by rw [e]; rfl, by rw [List.length_cons]; omega⟩
    · rw [if_neg h1] at h
      by_cases h2 : c = 128
      · rw [if_pos h2] at h; simp at h
      · rw [if_neg h2] at h
        by_cases h3 : c - 128 > 4
        · rw [if_pos h3] at h; simp at h
        · rw [if_neg h3] at h
          obtain ⟨g1, g2, t', g3, g4, g5⟩ := lenL_dec _ t 0 true (p + 1) n p' (fun y hy => hb y (by simp [hy])) (by omega) (.inl ⟨rfl, rfl⟩) h
          rw [byBE_nil 0 (by omega)] at g3 g5
          simp only [List.nil_append, List.length_nil] at g3 g5
          refine ⟨by omega, g2, t', ?_, by rw [List.length_cons]; omega⟩
          rw [lenB_big n (by omega), g5, ← List.cons_append.symm, ← g3]
          congr 1; omega
theorem encH_len (cls tag : Int) (cons : Bool) (len : Int) (h : okH cls tag len) : 2 ≤ (encH cls tag cons len).length ∧ (encH cls tag cons len).length ≤ 20 := by
  obtain ⟨h1, h2, h3, h4, h5, h6⟩ := h
  have hl := lenB_len len h5 h6
  have hc := contLE_len (tag / 128) (by omega) (by omega)
  unfold encH contBE
  split <;> simp <;> omega
theorem readH_enc (cls tag : Int) (cons : Bool) (len : Int) (h : okH cls tag len) (t : List Int) : readH (encH cls tag cons len ++ t) = (cls, tag, cons, len, ((encH cls tag cons len).length : Int), 0) := by
  obtain ⟨h1, h2, h3, h4, h5, h6⟩ := h
  have hcb : ∀ y, 0 ≤ y → y < 32 → decide ((cls * 64 + (if cons = true then 32 else 0) + y) / 32 % 2 = 1) = cons := by
    intro y y0 y1
    cases cons with
    | true => rw [if_pos rfl, dec_t _ (by omega)]
    | false => rw [if_neg (by decide), dec_f _ (by omega)]
  have hb : (if cons = true then (32 : Int) else 0) = 0 ∨ (if cons = true then (32 : Int) else 0) = 32 := by cases cons <;> simp
  generalize hB : (if cons = true then (32 : Int) else 0) = B at hcb hb
  unfold encH
  rw [hB]
  by_cases ht : tag < 31
  · rw [if_pos ht]
    show readH ((cls * 64 + B + tag) :: (lenB len ++ t)) = _
    have eq1 : tagQ (cls * 64 + B + tag) (lenB len ++ t) = (tag, 0, 1) := by
      unfold tagQ
      rw [if_neg (by omega), show (cls * 64 + B + tag) % 32 = tag by omega]
    rw [readH, eq1]
    simp only [if_true]
    rw [show (1 : Int).toNat = 1 from rfl, List.drop_succ_cons, List.drop_zero, lenP_enc len h5 h6]
    simp only [if_true]
    rw [show (cls * 64 + B + tag) / 64 = cls by omega, hcb tag h3 (by omega)]
    congr 4
    simp; omega
  · rw [if_neg ht]
    show readH ((cls * 64 + B + 31) :: ((contBE (tag / 128) ++ [tag % 128]) ++ lenB len ++ t)) = _
    have eq1 : tagQ (cls * 64 + B + 31) ((contBE (tag / 128) ++ [tag % 128]) ++ lenB len ++ t) = (tag, 0, 1 + ((contBE (tag / 128)).length : Int) + 1) := by
      unfold tagQ
      rw [if_pos (by omega), List.append_assoc, List.append_assoc]
      exact tagP_enc tag (by omega) h4 _ 1
    rw [readH, eq1]
    simp only [if_true]
    have ed : ((cls * 64 + B + 31) :: ((contBE (tag / 128) ++ [tag % 128]) ++ lenB len ++ t)).drop (1 + ((contBE (tag / 128)).length : Int) + 1).toNat = lenB len ++ t := by
      rw [show (1 + ((contBE (tag / 128)).length : Int) + 1).toNat = (contBE (tag / 128) ++ [tag % 128]).length + 1 by simp; omega, List.drop_succ_cons, List.append_assoc, List.drop_left]
    rw [ed, lenP_enc len h5 h6]
    simp only [if_true]
    rw [show (cls * 64 + B + 31) / 64 = cls by omega, hcb 31 (by omega) (by omega)]
    congr 4
    simp; omega
theorem readH_dec (l : List Int) (hb : ∀ x ∈ l, 0 ≤ x ∧ x < 256) (h : (readH l).2.2.2.2.2 = 0) : okH (readH l).1 (readH l).2.1 (readH l).2.2.2.1 ∧ ∃ t, l = encH (readH l).1 (readH l).2.1 (readH l).2.2.1 (readH l).2.2.2.1 ++ t ∧ (readH l).2.2.2.2.1 = ((encH (readH l).1 (readH l).2.1 (readH l).2.2.1 (readH l).2.2.2.1).length : Int) := by
  match l, hb, h with
  | [], _, h => simp [readH] at h
  | c :: t, hb, h =>
    obtain ⟨b0, b1⟩ := hb c (by simp)
    rw [readH] at h ⊢
    by_cases e1 : (tagQ c t).2.1 = 0
    · rw [if_pos e1] at h ⊢
      by_cases e2 : (lenP ((c :: t).drop (tagQ c t).2.2.toNat) (tagQ c t).2.2).2.1 = 0
      · rw [if_pos e2] at h ⊢
        simp only at h ⊢
        have hbd : ∀ x ∈ (c :: t).drop (tagQ c t).2.2.toNat, 0 ≤ x ∧ x < 256 := fun x hx => hb x (List.mem_of_mem_drop hx)
        obtain ⟨l0, l1, u, lu, lp⟩ := lenP_dec _ _ (lenP ((c :: t).drop (tagQ c t).2.2.toNat) (tagQ c t).2.2).1 (lenP ((c :: t).drop (tagQ c t).2.2.toNat) (tagQ c t).2.2).2.2 hbd (by rw [← e2])
        generalize hL : lenP ((c :: t).drop (tagQ c t).2.2.toNat) (tagQ c t).2.2 = L at l0 l1 lu lp
        have hB : (if decide (c / 32 % 2 = 1) = true then (32 : Int) else 0) = c / 32 % 2 * 32 := by
          by_cases q : c / 32 % 2 = 1
          · rw [dec_t _ q, if_pos rfl]; omega
          · rw [dec_f _ q, if_neg (by decide)]; omega
        unfold encH
        rw [hB]
        by_cases hq : c % 32 = 31
        · have eT : tagQ c t = tagP t 0 true 1 := by unfold tagQ; rw [if_pos hq]
          obtain ⟨g1, g2, v, g3, g4⟩ := tagP_dec t 0 true 1 (tagQ c t).1 (tagQ c t).2.2 (fun x hx => hb x (by simp [hx])) (by omega) (.inl ⟨rfl, rfl⟩) (by rw [← eT, ← e1])
          rw [contBE_nil 0 (by omega), List.nil_append] at g3
          refine ⟨⟨by omega, by omega, by omega, g2, l0, l1⟩, u, ?_, ?_⟩
          · rw [if_neg (by omega), show c / 64 * 64 + c / 32 % 2 * 32 + 31 = c by omega]
            have ev : (c :: t).drop (tagQ c t).2.2.toNat = v := by
              have e3 : c :: t = (c :: (contBE ((tagQ c t).1 / 128) ++ [(tagQ c t).1 % 128])) ++ v := by
                rw [List.cons_append, List.append_assoc, List.singleton_append, ← g3]
              have e4 : (tagQ c t).2.2.toNat = (c :: (contBE ((tagQ c t).1 / 128) ++ [(tagQ c t).1 % 128])).length := by
                have := congrArg List.length g3
                simp only [List.length_append, List.length_cons, List.length_nil] at this ⊢
                omega
              rw [e4]
              conv => lhs; rw [e3]
              rw [List.drop_left]
            rw [ev] at lu
            rw [List.cons_append, List.cons_append, List.append_assoc, List.append_assoc, ← lu, List.singleton_append, ← g3]
          · have hlen := congrArg List.length lu
            have hlen2 := congrArg List.length g3
            simp only [List.length_append, List.length_cons, List.length_drop, List.length_nil] at hlen hlen2 ⊢
            rw [if_neg (by omega)]
            simp only [List.length_append, List.length_cons, List.length_drop, List.length_nil] at lp ⊢
            omega
        · have eT : tagQ c t = (c % 32, 0, 1) := by unfold tagQ; rw [if_neg hq]
          rw [eT] at lu lp ⊢
          simp only [show (1 : Int).toNat = 1 from rfl, List.drop_succ_cons, List.drop_zero] at lu lp
          refine ⟨⟨by omega, by omega, by simp only; omega, by simp only; omega, l0, l1⟩, u, ?_, ?_⟩
          · simp only
            rw [if_pos (by omega), show c / 64 * 64 + c / 32 % 2 * 32 + c % 32 = c by omega]
            show c :: t = c :: (lenB L.1 ++ u)
            rw [← lu]
          · simp only
            rw [if_pos (by omega)]
            have hlen := congrArg List.length lu
            simp only [List.length_append, List.length_cons, List.length_nil] at hlen ⊢
            omega
      · rw [if_neg e2] at h; exact absurd h e2
    · rw [if_neg e1] at h; exact absurd h e1
theorem readH_bad (l : List Int) (h : (readH l).2.2.2.2.2 ≠ 0) : readH l = (0, 0, false, 0, 0, (readH l).2.2.2.2.2) := by
  match l, h with
  | [], _ => rfl
  | c :: t, h =>
    rw [readH] at h ⊢
    by_cases e1 : (tagQ c t).2.1 = 0
    · rw [if_pos e1] at h ⊢
      by_cases e2 : (lenP ((c :: t).drop (tagQ c t).2.2.toNat) (tagQ c t).2.2).2.1 = 0
      · rw [if_pos e2] at h; exact absurd rfl h
      · rw [if_neg e2]
    · rw [if_neg e1]

theorem contLE_b : ∀ (N : Nat) (m : Int), m.toNat ≤ N → ∀ x ∈ contLE m, 0 ≤ x ∧ x < 256 := by
  intro N
  induction N with
  | zero => intro m hm x hx; rw [contLE_nil m (by omega)] at hx; cases hx
  | succ N ih =>
    intro m hm x hx
    by_cases hp : 0 < m
    · rw [contLE_pos m hp] at hx
      rcases List.mem_cons.mp hx with rfl | h
      · omega
      · exact ih (m / 128) (by omega) x h
    · rw [contLE_nil m (by omega)] at hx; cases hx
theorem byLE_b : ∀ (N : Nat) (m : Int), m.toNat ≤ N → ∀ x ∈ byLE m, 0 ≤ x ∧ x < 256 := by
  intro N
  induction N with
  | zero => intro m hm x hx; rw [byLE_nil m (by omega)] at hx; cases hx
  | succ N ih =>
    intro m hm x hx
    by_cases hp : 0 < m
    · rw [byLE_pos m hp] at hx
      rcases List.mem_cons.mp hx with rfl | h
      · omega
      · exact ih (m / 256) (by omega) x h
    · rw [byLE_nil m (by omega)] at hx; cases hx
theorem lenB_b (n : Int) (h0 : 0 ≤ n) (h1 : n ≤ 2147483647) : ∀ x ∈ lenB n, 0 ≤ x ∧ x < 256 := by
  intro x hx
  by_cases h : n < 128
  · have e : lenB n = [n] := by unfold lenB; rw [if_pos h]
    rw [e] at hx
    simp at hx; omega
  · have h4 := byBE_len4 n (by omega) h1
    rw [lenB_big n h] at hx
    rcases List.mem_cons.mp hx with rfl | q
    · omega
    · unfold byBE at q
      exact byLE_b n.toNat n (Nat.le_refl _) x (List.mem_reverse.mp q)
theorem encH_b (cls tag : Int) (cons : Bool) (len : Int) (h : okH cls tag len) : ∀ x ∈ encH cls tag cons len, 0 ≤ x ∧ x < 256 := by
  obtain ⟨h1, h2, h3, h4, h5, h6⟩ := h
  intro x hx
  have hb : (if cons = true then (32 : Int) else 0) = 0 ∨ (if cons = true then (32 : Int) else 0) = 32 := by cases cons <;> simp
  generalize hB : (if cons = true then (32 : Int) else 0) = B at hb
  unfold encH at hx
  rw [hB] at hx
  rcases List.mem_append.mp hx with hx | hx
  · by_cases ht : tag < 31
    · rw [if_pos ht] at hx; simp at hx; omega
    · rw [if_neg ht] at hx
      rcases List.mem_cons.mp hx with rfl | hx
      · omega
      · rcases List.mem_append.mp hx with hx | hx
        · unfold contBE at hx
          exact contLE_b _ (tag / 128) (Nat.le_refl _) x (List.mem_reverse.mp hx)
        · simp at hx; omega
  · exact lenB_b len h5 h6 x hx

def rightP (cls tag : Int) (cons : Bool) : Bool := if cls ≠ 0 ∨ 31 ≤ tag then true else (cons == decide (tag = 8 ∨ tag = 11 ∨ tag = 16 ∨ tag = 17))
theorem idx_step (k : Nat) (l : List Int) (x n i a j : Int) (h1 : i < n) (h2 : 0 ≤ i) (h3 : i < (l.length : Int)) (ha : rd l i = a) (hj : wrap64 (i + 1) = j) : slices_Index_int_int.l0 (k + 1) l x n i = if x = a then some i else slices_Index_int_int.l0 k l x n j := by
  rw [slices_Index_int_int.l0, if_pos h1, if_pos h2, if_pos h3, ha, hj]
theorem index4 (k : Nat) (hk : 10 ≤ k) (x : Int) : slices_Index_int_int.f k [8, 11, 16, 17] x = some (if x = 8 then 0 else if x = 11 then 1 else if x = 16 then 2 else if x = 17 then 3 else -1) := by
  obtain ⟨k, rfl⟩ : ∃ m, k = m + 5 := ⟨k - 5, by omega⟩
  unfold slices_Index_int_int.f
  have L : ((([8, 11, 16, 17] : List Int).length : Nat) : Int) = 4 := rfl
  rw [L, idx_step _ _ x 4 0 8 1 (by decide) (by decide) (by decide) rfl (w64l _ _ (by decide)), idx_step _ _ x 4 1 11 2 (by decide) (by decide) (by decide) rfl (w64l _ _ (by decide)),
    idx_step _ _ x 4 2 16 3 (by decide) (by decide) (by decide) rfl (w64l _ _ (by decide)), idx_step _ _ x 4 3 17 4 (by decide) (by decide) (by decide) rfl (w64l _ _ (by decide)), slices_Index_int_int.l0, if_neg (show ¬ ((4 : Int) < 4) by decide)]
  by_cases h1 : x = 8
  · rw [if_pos h1, if_pos h1]
  by_cases h2 : x = 11
  · rw [if_neg h1, if_pos h2, if_neg h1, if_pos h2]
  by_cases h3 : x = 16
  · rw [if_neg h1, if_neg h2, if_pos h3, if_neg h1, if_neg h2, if_pos h3]
  by_cases h4 : x = 17
  · rw [if_neg h1, if_neg h2, if_neg h3, if_pos h4, if_neg h1, if_neg h2, if_neg h3, if_pos h4]
  · rw [if_neg h1, if_neg h2, if_neg h3, if_neg h4, if_neg h1, if_neg h2, if_neg h3, if_neg h4]
theorem right_f (k : Nat) (hk : 20 ≤ k) (cls tag : Int) (cons : Bool) (len size : Int) : well_right.f k cls tag cons len size = some (rightP cls tag cons) := by
  obtain ⟨k, rfl⟩ : ∃ m, k = m + 1 := ⟨k - 1, by omega⟩
  unfold well_right.f rightP
  by_cases h0 : cls = 0
  · rw [if_pos h0, well_right.j0]
    by_cases h1 : tag ≥ 31
    · rw [if_pos (dec_t _ h1), if_pos (.inr h1)]
    · rw [dec_f _ h1, if_neg (show ¬ (false = true) by decide), if_neg (by omega)]
      unfold slices_Contains_int_int.f
      rw [index4 k (by omega)]
      simp only [Option.bind_some]
      congr 2
      by_cases a : tag = 8
      · subst a; decide
      by_cases b : tag = 11
      · subst b; decide
      by_cases c : tag = 16
      · subst c; decide
      by_cases d : tag = 17
      · subst d; decide
      rw [if_neg a, if_neg b, if_neg c, if_neg d, dec_f _ (by omega), dec_f _ (by omega)]
  · rw [if_neg h0, well_right.j0, if_pos rfl, if_pos (.inl h0)]
def hErr (w : List Int) : Int := (readH w).2.2.2.2.2
def hCls (w : List Int) : Int := (readH w).1
def hTag (w : List Int) : Int := (readH w).2.1
def hCons (w : List Int) : Bool := (readH w).2.2.1
def hLen (w : List Int) : Int := (readH w).2.2.2.1
def hSz (w : List Int) : Int := (readH w).2.2.2.2.1
/-- What is wrong with the head that w begins with, at level lv; 0: nothing. -/
def hdc (lv : Nat) (w : List Int) : Int :=
  if 32 ≤ lv then 6 else if hErr w ≠ 0 then hErr w else if hCls w = 0 ∧ hTag w = 0 then 3 else if rightP (hCls w) (hTag w) (hCons w) = false then 7 else if (w.length : Int) - hSz w < hLen w then 2 else 0
theorem hd_bounds (w : List Int) (hb : ∀ x ∈ w, 0 ≤ x ∧ x < 256) (h : hErr w = 0) : okH (hCls w) (hTag w) (hLen w) ∧ 2 ≤ hSz w ∧ hSz w ≤ 20 ∧ 0 ≤ hLen w ∧ hLen w ≤ 2147483647 ∧ hSz w = ((encH (hCls w) (hTag w) (hCons w) (hLen w)).length : Int) ∧ ∃ t, w = encH (hCls w) (hTag w) (hCons w) (hLen w) ++ t := by
  obtain ⟨ok, t, ht, hs⟩ := readH_dec w hb h
  have hl := encH_len _ _ (readH w).2.2.1 _ ok
  have ok' := ok
  obtain ⟨_, _, _, _, o5, o6⟩ := ok'
  unfold hSz
  exact ⟨ok, by rw [hs]; exact_mod_cast hl.1, by rw [hs]; exact_mod_cast hl.2, o5, o6, hs, t, ht⟩
theorem hdc_ok {lv : Nat} {w : List Int} (h : hdc lv w = 0) : lv < 32 ∧ hErr w = 0 ∧ ¬ (hCls w = 0 ∧ hTag w = 0) ∧ rightP (hCls w) (hTag w) (hCons w) = true ∧ hLen w ≤ (w.length : Int) - hSz w := by
  unfold hdc at h
  by_cases h1 : 32 ≤ lv
  · rw [if_pos h1] at h; cases h
  by_cases h2 : hErr w ≠ 0
  · rw [if_neg h1, if_pos h2] at h; exact absurd h h2
  by_cases h3 : hCls w = 0 ∧ hTag w = 0
  · rw [if_neg h1, if_neg h2, if_pos h3] at h; cases h
  by_cases h4 : rightP (hCls w) (hTag w) (hCons w) = false
  · rw [if_neg h1, if_neg h2, if_neg h3, if_pos h4] at h; cases h
  by_cases h5 : (w.length : Int) - hSz w < hLen w
  · rw [if_neg h1, if_neg h2, if_neg h3, if_neg h4, if_pos h5] at h; cases h
  exact ⟨by omega, Decidable.of_not_not h2, h3, by simpa using h4, by omega⟩
theorem next_eval (l : List Int) (hl : l.length ≤ 1000000) (hb : ∀ x ∈ l, 0 ≤ x ∧ x < 256) (k : Nat) (hk : 3000000 ≤ k) (p t : Nat) (S : List Int) (d : Int) (ht : wtop l S = t) (hp : p ≤ t) (htl : t ≤ l.length) (w : List Int) (hw : w = (l.take t).drop p) :
    well_walker_next.f k l p S d = some (if hdc S.length w ≠ 0 then (hdc S.length w, (p : Int), S, d) else
      (0, if hCons w = true then (p : Int) + hSz w else p + hSz w + hLen w, wpop (if hCons w = true then (p : Int) + hSz w else p + hSz w + hLen w) ((p + hSz w + hLen w) :: S), if d < (S.length : Int) + 1 then (S.length : Int) + 1 else d)) := by
  unfold well_walker_next.f
  by_cases h1 : 32 ≤ S.length
  · have e : hdc S.length w = 6 := by unfold hdc; rw [if_pos h1]
    rw [if_pos h1, e, if_pos (by decide)]
  have hwb : ∀ x ∈ w, 0 ≤ x ∧ x < 256 := fun x hx => hb x (List.mem_of_mem_take (List.mem_of_mem_drop (hw ▸ hx)))
  have hwl : w.length = t - p := by rw [hw, List.length_drop, List.length_take]; omega
  rw [if_neg h1, ht, if_pos ⟨by omega, by omega, by omega, by omega⟩]
  simp only [Int.toNat_natCast]
  rw [← hw, show tlv_Read.f k w = some (readH w) from read_f w (by omega) hwb k hk]
  simp only [Option.bind_some]
  have eE : (readH w).2.2.2.2.2 = hErr w := rfl
  have eC : (readH w).1 = hCls w := rfl
  have eT : (readH w).2.1 = hTag w := rfl
  have eB : (readH w).2.2.1 = hCons w := rfl
  have eL : (readH w).2.2.2.1 = hLen w := rfl
  have eS : (readH w).2.2.2.2.1 = hSz w := rfl
  rw [eE, eC, eT, eB, eL, eS]
  unfold hdc
  rw [if_neg h1]
  by_cases h2 : hErr w = 0
  · rw [if_pos h2, if_neg (show ¬ (hErr w ≠ 0) from fun q => q h2)]
    obtain ⟨_, b1, b2, b3, b4, _⟩ := hd_bounds w hwb h2
    by_cases h3 : hCls w = 0 ∧ hTag w = 0
    · rw [if_pos h3, if_pos h3, if_pos (show (3 : Int) ≠ 0 by decide)]
    · rw [if_neg h3, if_neg h3, right_f k (by omega)]
      simp only [Option.bind_some]
      by_cases h4 : rightP (hCls w) (hTag w) (hCons w) = true
      · rw [if_pos h4, if_neg (show ¬ (rightP (hCls w) (hTag w) (hCons w) = false) by rw [h4]; decide), if_pos ⟨by omega, by omega, by omega, by omega⟩]
        by_cases h5 : (t : Int) - p - hSz w < hLen w
        · rw [if_pos h5, if_pos (show (w.length : Int) - hSz w < hLen w by omega), if_pos (show (2 : Int) ≠ 0 by decide)]
        · rw [if_neg h5, if_neg (show ¬ ((w.length : Int) - hSz w < hLen w) by omega), if_neg (show ¬ ((0 : Int) ≠ 0) by decide)]
      · rw [if_neg h4, if_pos (show rightP (hCls w) (hTag w) (hCons w) = false by simpa using h4), if_pos (show (7 : Int) ≠ 0 by decide)]
  · rw [if_neg h2, if_pos h2, if_pos h2]
/-- The values that w holds, one behind the other, at level lv: what is wrong and where, or the depth. -/
def V : Nat → Nat → List Int → Int × Int × Int
  | 0, _, _ => (99, 0, 0)
  | N + 1, lv, w =>
    if w = [] then (0, 0, 0) else
    if hdc lv w ≠ 0 then (hdc lv w, 0, 0) else
    if (if hCons w = true then V N (lv + 1) ((w.drop (hSz w).toNat).take (hLen w).toNat) else (0, 0, 0)).1 ≠ 0 then
      ((if hCons w = true then V N (lv + 1) ((w.drop (hSz w).toNat).take (hLen w).toNat) else (0, 0, 0)).1, hSz w + (if hCons w = true then V N (lv + 1) ((w.drop (hSz w).toNat).take (hLen w).toNat) else (0, 0, 0)).2.1, 0) else
    if (V N lv (w.drop (hSz w + hLen w).toNat)).1 ≠ 0 then ((V N lv (w.drop (hSz w + hLen w).toNat)).1, hSz w + hLen w + (V N lv (w.drop (hSz w + hLen w).toNat)).2.1, 0) else
    (0, 0, max ((lv : Int) + 1) (max (if hCons w = true then V N (lv + 1) ((w.drop (hSz w).toNat).take (hLen w).toNat) else (0, 0, 0)).2.2 (V N lv (w.drop (hSz w + hLen w).toNat)).2.2))
theorem bytes_take {w : List Int} (hb : ∀ x ∈ w, 0 ≤ x ∧ x < 256) (a : Nat) : ∀ x ∈ w.take a, 0 ≤ x ∧ x < 256 := fun x hx => hb x (List.mem_of_mem_take hx)
theorem bytes_drop {w : List Int} (hb : ∀ x ∈ w, 0 ≤ x ∧ x < 256) (a : Nat) : ∀ x ∈ w.drop a, 0 ≤ x ∧ x < 256 := fun x hx => hb x (List.mem_of_mem_drop hx)
theorem V_fuel : ∀ (N : Nat) (M lv : Nat) (w : List Int), (∀ x ∈ w, 0 ≤ x ∧ x < 256) → w.length < N → w.length < M → V N lv w = V M lv w := by
  intro N
  induction N with
  | zero => intro M lv w _ h; omega
  | succ N ih =>
    intro M lv w hb h1 h2
    obtain ⟨M, rfl⟩ : ∃ m, M = m + 1 := ⟨M - 1, by omega⟩
    by_cases hw : w = []
    · rw [V, V, if_pos hw, if_pos hw]
    by_cases hh : hdc lv w ≠ 0
    · rw [V, V, if_neg hw, if_pos hh, if_neg hw, if_pos hh]
    have h0 := hdc_ok (Decidable.of_not_not hh)
    obtain ⟨_, b1, b2, b3, b4, _⟩ := hd_bounds w hb h0.2.1
    have hpos : 0 < w.length := by cases w with | nil => exact absurd rfl hw | cons => simp
    have ec : V N (lv + 1) ((w.drop (hSz w).toNat).take (hLen w).toNat) = V M (lv + 1) ((w.drop (hSz w).toNat).take (hLen w).toNat) :=
      ih M _ _ (bytes_take (bytes_drop hb _) _) (by rw [List.length_take, List.length_drop]; omega) (by rw [List.length_take, List.length_drop]; omega)
    have er : V N lv (w.drop (hSz w + hLen w).toNat) = V M lv (w.drop (hSz w + hLen w).toNat) :=
      ih M _ _ (bytes_drop hb _) (by rw [List.length_drop]; omega) (by rw [List.length_drop]; omega)
    rw [V, V, ec, er]
def VV (lv : Nat) (w : List Int) : Int × Int × Int := V (w.length + 1) lv w
/-- The content of the value that w begins with, where it has parts. -/
def VC (lv : Nat) (w : List Int) : Int × Int × Int := if hCons w = true then VV (lv + 1) ((w.drop (hSz w).toNat).take (hLen w).toNat) else (0, 0, 0)
theorem VV_nil (lv : Nat) : VV lv [] = (0, 0, 0) := by unfold VV; rw [V, if_pos rfl]
theorem VV_cons (lv : Nat) (w : List Int) (hb : ∀ x ∈ w, 0 ≤ x ∧ x < 256) (hw : w ≠ []) : VV lv w =
    if hdc lv w ≠ 0 then (hdc lv w, 0, 0) else if (VC lv w).1 ≠ 0 then ((VC lv w).1, hSz w + (VC lv w).2.1, 0) else
    if (VV lv (w.drop (hSz w + hLen w).toNat)).1 ≠ 0 then ((VV lv (w.drop (hSz w + hLen w).toNat)).1, hSz w + hLen w + (VV lv (w.drop (hSz w + hLen w).toNat)).2.1, 0) else
    (0, 0, max ((lv : Int) + 1) (max (VC lv w).2.2 (VV lv (w.drop (hSz w + hLen w).toNat)).2.2)) := by
  by_cases hh : hdc lv w ≠ 0
  · rw [show VV lv w = V (w.length + 1) lv w from rfl, V, if_neg hw, if_pos hh, if_pos hh]
  have h0 := hdc_ok (Decidable.of_not_not hh)
  obtain ⟨_, b1, b2, b3, b4, _⟩ := hd_bounds w hb h0.2.1
  have hpos : 0 < w.length := by cases w with | nil => exact absurd rfl hw | cons => simp
  have ec : V w.length (lv + 1) ((w.drop (hSz w).toNat).take (hLen w).toNat) = VV (lv + 1) ((w.drop (hSz w).toNat).take (hLen w).toNat) :=
    V_fuel _ _ _ _ (bytes_take (bytes_drop hb _) _) (by rw [List.length_take, List.length_drop]; omega) (by omega)
  have er : V w.length lv (w.drop (hSz w + hLen w).toNat) = VV lv (w.drop (hSz w + hLen w).toNat) :=
    V_fuel _ _ _ _ (bytes_drop hb _) (by rw [List.length_drop]; omega) (by omega)
  rw [show VV lv w = V (w.length + 1) lv w from rfl, V, if_neg hw, ec, er]
  rfl
theorem V_dep : ∀ (N lv : Nat) (w : List Int), 0 ≤ (V N lv w).2.2 := by
  intro N
  cases N with
  | zero => intro lv w; rw [V]; exact Int.le_refl _
  | succ N =>
    intro lv w
    rw [V]
    generalize (if hCons w = true then V N (lv + 1) ((w.drop (hSz w).toNat).take (hLen w).toNat) else (0, 0, 0)) = c
    generalize V N lv (w.drop (hSz w + hLen w).toNat) = r
    by_cases h1 : w = []
    · rw [if_pos h1]; exact Int.le_refl _
    by_cases h2 : hdc lv w ≠ 0
    · rw [if_neg h1, if_pos h2]; exact Int.le_refl _
    by_cases h3 : c.1 ≠ 0
    · rw [if_neg h1, if_neg h2, if_pos h3]; exact Int.le_refl _
    by_cases h4 : r.1 ≠ 0
    · rw [if_neg h1, if_neg h2, if_neg h3, if_pos h4]; exact Int.le_refl _
    rw [if_neg h1, if_neg h2, if_neg h3, if_neg h4]
    show 0 ≤ max ((lv : Int) + 1) (max c.2.2 r.2.2)
    omega
theorem V_depth (lv : Nat) (w : List Int) : 0 ≤ (VC lv w).2.2 := by
  unfold VC
  split
  · exact V_dep _ _ _
  · exact Int.le_refl _

theorem cut_length (l : List Int) (p t : Nat) (htl : t ≤ l.length) : ((l.take t).drop p).length = t - p := by rw [List.length_drop, List.length_take]; omega
theorem cut_inner (l : List Int) (p t a b : Nat) (h : p + a + b ≤ t) : (l.take (p + a + b)).drop (p + a) = (((l.take t).drop p).drop a).take b := by
  rw [List.drop_drop, List.drop_take, List.drop_take, List.take_take]
  congr 1
  omega
theorem cut_rest (l : List Int) (p t a : Nat) : (l.take t).drop (p + a) = ((l.take t).drop p).drop a := by rw [List.drop_drop]
theorem run_V (l : List Int) (hl : l.length ≤ 1000000) (hb : ∀ x ∈ l, 0 ≤ x ∧ x < 256) : ∀ (N p t : Nat) (S : List Int) (d : Int) (first : Bool), t - p ≤ N → p < t → t ≤ l.length →
    ∃ c, c ≤ t - p ∧ ∀ k, 3000000 ≤ k →
      ((VV (S.length + 1) ((l.take t).drop p)).1 ≠ 0 → ∃ dd, well_walk.l0 (k + c) l p ((t : Int) :: S) d first = some ((VV (S.length + 1) ((l.take t).drop p)).1, p + (VV (S.length + 1) ((l.take t).drop p)).2.1, dd)) ∧
      ((VV (S.length + 1) ((l.take t).drop p)).1 = 0 → well_walk.l0 (k + c) l p ((t : Int) :: S) d first = well_walk.l0 k l t (wpop t S) (max d (VV (S.length + 1) ((l.take t).drop p)).2.2) false) := by
  intro N
  induction N with
  | zero => intro p t S d first h1 h2; omega
  | succ N ih =>
    intro p t S d first hN hpt htl
    obtain ⟨w, hw⟩ : ∃ w, w = (l.take t).drop p := ⟨_, rfl⟩
    have hwb : ∀ x ∈ w, 0 ≤ x ∧ x < 256 := by rw [hw]; exact bytes_drop (bytes_take hb _) _
    have hwl : w.length = t - p := by rw [hw]; exact cut_length l p t htl
    have hwn : w ≠ [] := by intro q; rw [q] at hwl; simp at hwl; omega
    rw [← hw]
    have hE := VV_cons (S.length + 1) w hwb hwn
    have step : ∀ k, 3000000 ≤ k → well_walk.l0 (k + 1) l p ((t : Int) :: S) d first = (some (if hdc (S.length + 1) w ≠ 0 then (hdc (S.length + 1) w, (p : Int), (t : Int) :: S, d) else
        (0, if hCons w = true then (p : Int) + hSz w else p + hSz w + hLen w, wpop (if hCons w = true then (p : Int) + hSz w else p + hSz w + hLen w) ((p + hSz w + hLen w) :: (t : Int) :: S), if d < ((S.length + 1 : Nat) : Int) + 1 then ((S.length + 1 : Nat) : Int) + 1 else d))).bind
        (fun b => if b.1 = 0 then well_walk.l0 k l b.2.1 b.2.2.1 b.2.2.2 false else some (b.1, b.2.1, b.2.2.2)) := by
      intro k hk
      rw [well_walk.l0, if_pos (.inr (by simp)), next_eval l hl hb k hk p t ((t : Int) :: S) d rfl (by omega) htl w hw]
      rfl
    by_cases hh : hdc (S.length + 1) w ≠ 0
    · rw [if_pos hh] at hE
      refine ⟨1, by omega, fun k hk => ⟨fun _ => ⟨d, ?_⟩, fun h0 => absurd (by rw [hE] at h0; exact h0) hh⟩⟩
      rw [step k hk, hE]
      simp only [Option.bind_some]
      rw [if_pos hh]
      simp only
      rw [if_neg hh, Int.add_zero]
    · rw [if_neg hh] at hE
      have h0 := hdc_ok (Decidable.of_not_not hh)
      obtain ⟨_, b1, b2, b3, b4, _⟩ := hd_bounds w hwb h0.2.1
      obtain ⟨sz, hsz⟩ := Int.eq_ofNat_of_zero_le (show 0 ≤ hSz w by omega)
      obtain ⟨ln, hln⟩ := Int.eq_ofNat_of_zero_le b3
      have h5 := h0.2.2.2.2
      rw [hsz, hln] at h5
      rw [hsz] at b1
      have step2 : ∀ k, 3000000 ≤ k → well_walk.l0 (k + 1) l p ((t : Int) :: S) d first = well_walk.l0 k l (if hCons w = true then ((p + sz : Nat) : Int) else ((p + sz + ln : Nat) : Int)) (wpop (if hCons w = true then ((p + sz : Nat) : Int) else ((p + sz + ln : Nat) : Int)) (((p + sz + ln : Nat) : Int) :: (t : Int) :: S)) (max d (((S.length + 1 : Nat) : Int) + 1)) false := by
        intro k hk
        rw [step k hk]
        simp only [Option.bind_some]
        rw [if_neg hh]
        simp only [if_true]
        rw [hsz, hln, show (p : Int) + (sz : Nat) = ((p + sz : Nat) : Int) by omega, show ((p + sz : Nat) : Int) + (ln : Nat) = ((p + sz + ln : Nat) : Int) by omega]
        congr 1
        omega
      have hrest : w.drop (hSz w + hLen w).toNat = (l.take t).drop (p + sz + ln) := by
        rw [hw, Nat.add_assoc, cut_rest]; congr 1; rw [← hw]; omega
      -- what is done when the value ends at p + sz + ln, seen from there
      have tail : ∀ (S1 : List Int), S1 = wpop ((p + sz + ln : Nat) : Int) ((t : Int) :: S) → ∀ (dc d1 : Int), d1 = max (max d (((S.length + 1 : Nat) : Int) + 1)) dc → 0 ≤ dc →
          ∃ c, c ≤ t - (p + sz + ln) ∧ ∀ k, 3000000 ≤ k →
          ((VV (S.length + 1) (w.drop (hSz w + hLen w).toNat)).1 ≠ 0 → ∃ dd, well_walk.l0 (k + c) l ((p + sz + ln : Nat) : Int) S1 d1 false = some ((VV (S.length + 1) (w.drop (hSz w + hLen w).toNat)).1, ((p + sz + ln : Nat) : Int) + (VV (S.length + 1) (w.drop (hSz w + hLen w).toNat)).2.1, dd)) ∧
          ((VV (S.length + 1) (w.drop (hSz w + hLen w).toNat)).1 = 0 → well_walk.l0 (k + c) l ((p + sz + ln : Nat) : Int) S1 d1 false = well_walk.l0 k l t (wpop t S) (max d1 (VV (S.length + 1) (w.drop (hSz w + hLen w).toNat)).2.2) false) := by
        intro S1 hS1 dc d1 hd1 hdc0
        rw [hrest]
        by_cases he : p + sz + ln = t
        · refine ⟨0, Nat.zero_le _, fun k hk => ⟨fun q => ?_, fun _ => ?_⟩⟩
          · rw [he, List.drop_eq_nil_of_le (by rw [List.length_take]; omega), VV_nil] at q; exact absurd rfl q
          · rw [he] at hS1 ⊢
            rw [List.drop_eq_nil_of_le (by rw [List.length_take]; omega), VV_nil, hS1, wpop, if_pos rfl, Nat.add_zero]
            congr 1
            show d1 = max d1 0
            omega
        · have hS2 : S1 = (t : Int) :: S := by rw [hS1, wpop, if_neg (by omega)]
          subst hS2
          obtain ⟨c, hc, hk⟩ := ih (p + sz + ln) t S d1 false (by omega) (by omega) htl
          exact ⟨c, hc, hk⟩
      by_cases hcons : hCons w = true
      · by_cases hl0 : ln = 0
        · -- an empty content
          have hVC : VC (S.length + 1) w = (0, 0, 0) := by
            unfold VC; rw [if_pos hcons, hln, hl0]; simp [VV_nil]
          rw [hVC, if_neg (by decide)] at hE
          obtain ⟨c, hc, hk⟩ := tail _ rfl 0 _ rfl (Int.le_refl _)
          refine ⟨c + 1, by omega, fun k hk3 => ?_⟩
          have s2 := step2 (k + c) (by omega)
          rw [hcons, if_pos rfl, show ((p + sz : Nat) : Int) = ((p + sz + ln : Nat) : Int) by omega, wpop, if_pos rfl] at s2
          obtain ⟨k1, k2⟩ := hk k hk3
          have e1 : max d (((S.length + 1 : Nat) : Int) + 1) = max (max d (((S.length + 1 : Nat) : Int) + 1)) 0 := by omega
          rw [← e1] at k1 k2
          rw [show k + (c + 1) = k + c + 1 by omega, s2, hE]
          by_cases hr : (VV (S.length + 1) (w.drop (hSz w + hLen w).toNat)).1 ≠ 0
          · rw [if_pos hr]
            refine ⟨fun _ => ?_, fun q => absurd q hr⟩
            obtain ⟨dd, hd⟩ := k1 hr
            refine ⟨dd, ?_⟩
            rw [hd]; refine congrArg some (Prod.ext rfl (Prod.ext ?_ rfl)); simp only; rw [hsz, hln]; omega
          · rw [if_neg hr]
            refine ⟨fun q => absurd rfl q, fun _ => ?_⟩
            rw [k2 (Decidable.of_not_not hr)]
            congr 1
            simp only; omega
        · -- a content
          obtain ⟨ci, hci, hki⟩ := ih (p + sz) (p + sz + ln) ((t : Int) :: S) (max d (((S.length + 1 : Nat) : Int) + 1)) false (by omega) (by omega) (by omega)
          have hin : (l.take (p + sz + ln)).drop (p + sz) = (w.drop (hSz w).toNat).take (hLen w).toNat := by
            rw [cut_inner l p t sz ln (by omega), ← hw, hsz, hln, Int.toNat_natCast, Int.toNat_natCast]
          have hVC : VC (S.length + 1) w = VV (S.length + 1 + 1) ((l.take (p + sz + ln)).drop (p + sz)) := by unfold VC; rw [if_pos hcons, hin]
          rw [List.length_cons, ← hVC] at hki
          have s3 : ∀ k, 3000000 ≤ k → well_walk.l0 (k + 1) l p ((t : Int) :: S) d first = well_walk.l0 k l ((p + sz : Nat) : Int) (((p + sz + ln : Nat) : Int) :: (t : Int) :: S) (max d (((S.length + 1 : Nat) : Int) + 1)) false := by
            intro k hk
            rw [step2 k hk, hcons, if_pos rfl, wpop, if_neg (by omega)]
          by_cases hv : (VC (S.length + 1) w).1 ≠ 0
          · rw [if_pos hv] at hE
            refine ⟨ci + 1, by omega, fun k hk3 => ?_⟩
            rw [show k + (ci + 1) = k + ci + 1 by omega, s3 (k + ci) (by omega), hE]
            refine ⟨fun _ => ?_, fun q => absurd q hv⟩
            obtain ⟨dd, hd⟩ := (hki k hk3).1 hv
            refine ⟨dd, ?_⟩
            rw [hd]; refine congrArg some (Prod.ext rfl (Prod.ext ?_ rfl)); simp only; rw [hsz]; omega
          · rw [if_neg hv] at hE
            have hdc0 : 0 ≤ (VC (S.length + 1) w).2.2 := V_depth _ _
            obtain ⟨c, hc, hk⟩ := tail _ rfl (VC (S.length + 1) w).2.2 _ rfl hdc0
            refine ⟨ci + c + 1, by omega, fun k hk3 => ?_⟩
            obtain ⟨k1, k2⟩ := hk k hk3
            rw [show k + (ci + c + 1) = (k + c) + ci + 1 by omega, s3 (k + c + ci) (by omega), (hki (k + c) (by omega)).2 (Decidable.of_not_not hv), hE]
            by_cases hr : (VV (S.length + 1) (w.drop (hSz w + hLen w).toNat)).1 ≠ 0
            · rw [if_pos hr]
              refine ⟨fun _ => ?_, fun q => absurd q hr⟩
              obtain ⟨dd, hd⟩ := k1 hr
              refine ⟨dd, ?_⟩
              rw [hd]; refine congrArg some (Prod.ext rfl (Prod.ext ?_ rfl)); simp only; rw [hsz, hln]; omega
            · rw [if_neg hr]
              refine ⟨fun q => absurd rfl q, fun _ => ?_⟩
              rw [k2 (Decidable.of_not_not hr)]
              congr 1
              simp only; omega
      · have hVC : VC (S.length + 1) w = (0, 0, 0) := by unfold VC; rw [if_neg hcons]
        rw [hVC, if_neg (by decide)] at hE
        obtain ⟨c, hc, hk⟩ := tail _ rfl 0 _ rfl (Int.le_refl _)
        refine ⟨c + 1, by omega, fun k hk3 => ?_⟩
        have s2 := step2 (k + c) (by omega)
        rw [if_neg hcons, wpop, if_pos rfl] at s2
        obtain ⟨k1, k2⟩ := hk k hk3
        have e1 : max d (((S.length + 1 : Nat) : Int) + 1) = max (max d (((S.length + 1 : Nat) : Int) + 1)) 0 := by omega
        rw [← e1] at k1 k2
        rw [show k + (c + 1) = k + c + 1 by omega, s2, hE]
        by_cases hr : (VV (S.length + 1) (w.drop (hSz w + hLen w).toNat)).1 ≠ 0
        · rw [if_pos hr]
          refine ⟨fun _ => ?_, fun q => absurd q hr⟩
          obtain ⟨dd, hd⟩ := k1 hr
          refine ⟨dd, ?_⟩
          rw [hd]; refine congrArg some (Prod.ext rfl (Prod.ext ?_ rfl)); simp only; rw [hsz, hln]; omega
        · rw [if_neg hr]
          refine ⟨fun q => absurd rfl q, fun _ => ?_⟩
          rw [k2 (Decidable.of_not_not hr)]
          congr 1
          simp only; omega

/-- What walk tells of l: the error, the place, the depth. -/
def T (l : List Int) : Int × Int × Int :=
  if hdc 0 l ≠ 0 then (hdc 0 l, 0, 0) else
  if (VC 0 l).1 ≠ 0 then ((VC 0 l).1, hSz l + (VC 0 l).2.1, 0) else
  (if hSz l + hLen l < (l.length : Int) then 5 else 0, hSz l + hLen l, max 1 (VC 0 l).2.2)
theorem end_step (k : Nat) (l : List Int) (p d : Int) : well_walk.l0 (k + 1) l p [] d false = some (if p < (l.length : Int) then 5 else 0, p, d) := by
  rw [well_walk.l0, if_neg (by simp)]
  split <;> rfl
theorem walk_T (l : List Int) (hl : l.length ≤ 1000000) (hb : ∀ x ∈ l, 0 ≤ x ∧ x < 256) (k : Nat) (hk : 5000000 ≤ k) : ∃ dd, well_walk.f k l = some ((T l).1, (T l).2.1, dd) ∧ ((T l).1 = 0 → dd = (T l).2.2) := by
  obtain ⟨k, rfl⟩ : ∃ m, k = m + 1 := ⟨k - 1, by omega⟩
  unfold well_walk.f
  have hw : l = (l.take l.length).drop 0 := by simp
  have hn : well_walker_next.f k l 0 [] 0 = some (if hdc 0 l ≠ 0 then (hdc 0 l, 0, [], 0) else (0, if hCons l = true then 0 + hSz l else 0 + hSz l + hLen l, wpop (if hCons l = true then 0 + hSz l else 0 + hSz l + hLen l) [0 + hSz l + hLen l], if (0 : Int) < 0 + 1 then 0 + 1 else 0)) :=
    next_eval l hl hb k (by omega) 0 l.length [] 0 rfl (by omega) (Nat.le_refl _) l hw
  rw [well_walk.l0, if_pos (.inl rfl), hn]
  simp only [Option.bind_some]
  unfold T
  by_cases hh : hdc 0 l ≠ 0
  · rw [if_pos hh, if_pos hh]
    exact ⟨0, by simp only; rw [if_neg hh], fun q => absurd q hh⟩
  rw [if_neg hh, if_neg hh]
  have h0 := hdc_ok (Decidable.of_not_not hh)
  obtain ⟨_, b1, b2, b3, b4, _⟩ := hd_bounds l hb h0.2.1
  obtain ⟨sz, hsz⟩ := Int.eq_ofNat_of_zero_le (show 0 ≤ hSz l by omega)
  obtain ⟨ln, hln⟩ := Int.eq_ofNat_of_zero_le b3
  have h5 := h0.2.2.2.2
  simp only [if_true]
  rw [hsz, hln, show (0 : Int) + (sz : Nat) = (sz : Int) by omega, show (sz : Int) + (ln : Nat) = ((sz + ln : Nat) : Int) by omega, show (if (0 : Int) < 0 + 1 then (0 : Int) + 1 else 0) = 1 by decide]
  rw [hsz, hln] at h5
  rw [hsz] at b1
  obtain ⟨k, rfl⟩ : ∃ m, k = m + 1 := ⟨k - 1, by omega⟩
  by_cases hcons : hCons l = true
  · rw [if_pos hcons]
    by_cases hl0 : ln = 0
    · have hVC : VC 0 l = (0, 0, 0) := by unfold VC; rw [if_pos hcons, hln, hl0]; simp [VV_nil]
      rw [hVC, if_neg (by decide), show (sz : Int) = ((sz + ln : Nat) : Int) by omega, wpop, if_pos rfl, wpop, end_step]
      exact ⟨1, rfl, fun _ => rfl⟩
    · rw [wpop, if_neg (by omega)]
      obtain ⟨c, hc, hki⟩ := run_V l hl hb ln sz (sz + ln) [] 1 false (by omega) (by omega) (by omega)
      have hin : (l.take (sz + ln)).drop sz = (l.drop (hSz l).toNat).take (hLen l).toNat := by
        rw [hsz, hln, Int.toNat_natCast, Int.toNat_natCast, List.drop_take]; congr 1; omega
      have hVC : VC 0 l = VV (0 + 1) ((l.take (sz + ln)).drop sz) := by unfold VC; rw [if_pos hcons, hin]
      rw [List.length_nil, ← hVC] at hki
      by_cases hv : (VC 0 l).1 ≠ 0
      · obtain ⟨dd, hd⟩ := (hki (k + 1 - c) (by omega)).1 hv
        rw [show k + 1 - c + c = k + 1 by omega] at hd
        rw [if_pos hv, hd]
        exact ⟨dd, rfl, fun q => absurd q hv⟩
      · have hd := (hki (k + 1 - c) (by omega)).2 (Decidable.of_not_not hv)
        rw [show k + 1 - c + c = k + 1 by omega] at hd
        rw [if_neg hv, hd, wpop]
        obtain ⟨q, hq⟩ : ∃ q, k + 1 - c = q + 1 := ⟨k - c, by omega⟩
        rw [hq, end_step]
        exact ⟨_, rfl, fun _ => rfl⟩
  · have hVC : VC 0 l = (0, 0, 0) := by unfold VC; rw [if_neg hcons]
    rw [if_neg hcons, hVC, if_neg (by decide), wpop, if_pos rfl, wpop, end_step]
    exact ⟨1, rfl, fun _ => rfl⟩
theorem Check_f (l : List Int) (hl : l.length ≤ 1000000) (hb : ∀ x ∈ l, 0 ≤ x ∧ x < 256) (k : Nat) (hk : 5000000 ≤ k) : well_Check.f k l = some (if (T l).1 = 0 then (0, 0) else ((T l).2.1, (T l).1)) := by
  obtain ⟨dd, h, _⟩ := walk_T l hl hb k hk
  unfold well_Check.f
  rw [h]
  simp only [Option.bind_some]
  split <;> rfl
theorem Depth_f (l : List Int) (hl : l.length ≤ 1000000) (hb : ∀ x ∈ l, 0 ≤ x ∧ x < 256) (k : Nat) (hk : 5000000 ≤ k) : well_Depth.f k l = some (if (T l).1 = 0 then ((T l).2.2, 0) else (0, (T l).1)) := by
  obtain ⟨dd, h, h2⟩ := walk_T l hl hb k hk
  unfold well_Depth.f
  rw [h]
  simp only [Option.bind_some]
  by_cases h0 : (T l).1 = 0
  · rw [if_pos h0, if_pos h0, h2 h0]
  · rw [if_neg h0, if_neg h0]
end Go.Proofs.Ytogbpdmncnldhaa.Base
