/- The pure side of WideEdges: the greatest scalars of two bytes and of all are put; greater ones, a surrogate, bytes that are not whole are refused at their place. No condition. -/
import Derived.Test.YtpojnmbiajhaeaaMWideEdgesx2
namespace Go.Proofs.Ytpojnmbiajhaeaa.Pure
open Go.RowKit Go.Proofs.Ytpojnmbiajhaeaa.MWideEdges Go.Proofs.YtpojnmbiajhaeaaW.PrintWords Go.Proofs.YtpojnmbiajhaeaaW.PrintLast
set_option linter.unusedVariables false
set_option linter.unusedSimpArgs false
set_option maxHeartbeats 1000000

theorem w64 {x : Int} (h0 : -9223372036854775808 ≤ x) (h1 : x ≤ 9223372036854775807) : wrap64 x = x := by unfold wrap64; omega
theorem w64_nat {i n : Nat} (h : i < n) (hn : n ≤ 4611686018427387904) : wrap64 ((i : Int) + 1) = ((i + 1 : Nat) : Int) := by unfold wrap64; omega
theorem rd_nat (xs : List Int) (i : Nat) (h : i < xs.length) : rd xs (i : Int) = xs[i] := by simp [rd, List.getD_eq_getElem?_getD, List.getElem?_eq_getElem h]
theorem wf64 {a : Int} (h : (Lit.int .i64 a).wf = true) : -9223372036854775808 ≤ a ∧ a ≤ 9223372036854775807 := by
  simpa [Lit.wf, show IntKind.i64.min = -9223372036854775808 from rfl] using h
theorem tdiv_nn {a : Int} (h : 0 ≤ a) (b : Int) : Int.tdiv a b = a / b := Int.tdiv_eq_ediv_of_nonneg h
theorem tmod_nn {a : Int} (h : 0 ≤ a) (b : Int) : Int.tmod a b = a % b := Int.tmod_eq_emod_of_nonneg h
theorem dec_iff (p q : Prop) [Decidable p] [Decidable q] (h : p ↔ q) : decide p = decide q := by simp [h]
theorem dec_t (p : Prop) [Decidable p] (h : p) : decide p = true := by simp [h]
theorem dec_f (p : Prop) [Decidable p] (h : ¬ p) : decide p = false := by simp [h]
theorem tmod_bd (a c : Int) (hc : 0 < c) : -c < Int.tmod a c ∧ Int.tmod a c < c := by
  have h1 := Int.emod_nonneg a (b := c) (by omega)
  have h2 := Int.emod_lt_of_pos a hc
  have h3 : ((c.natAbs : Nat) : Int) = c := by omega
  have h4 := Int.tmod_lt_of_pos a hc
  refine ⟨?_, h4⟩
  rw [Int.tmod_eq_emod]
  split
  · omega
  · rename_i h
    have : a % c ≠ 0 := fun e => h (.inr (Int.dvd_of_emod_eq_zero e))
    omega
theorem w64l (x y : Int) (h : x = y ∧ -9223372036854775808 ≤ y ∧ y ≤ 9223372036854775807) : wrap64 x = y := by rw [h.1]; exact w64 h.2.1 h.2.2

def sc (c : Int) : Bool := decide (0 ≤ c ∧ c ≤ 1114111 ∧ ¬ (55296 ≤ c ∧ c ≤ 57343))
theorem Scalar_f (c : Int) : ucd_Scalar.f c = some (sc c) := by
  unfold ucd_Scalar.f sc
  by_cases h1 : c ≥ 0
  · rw [if_pos h1]
    by_cases h2 : c ≤ 1114111
    · rw [if_pos h2]
      by_cases h3 : c < 55296
      · rw [if_pos h3, dec_t _ (by omega)]
      · rw [if_neg h3]; congr 1; exact dec_iff _ _ (by omega)
    · rw [if_neg h2, dec_f _ (by omega)]
  · rw [if_neg h1, dec_f _ (by omega)]

theorem sc_bd {c : Int} (h : sc c = true) : 0 ≤ c ∧ c ≤ 1114111 := by
  have := of_decide_eq_true h
  omega
theorem wraps_i64 (n : Int) (h₀ : 0 ≤ n) (h₁ : n < 2 ^ 62) : IntKind.i64.wrap n = n := by rw [IntKind.wrap_i64]; omega
theorem or8 (x y : Int) (h0 : 0 ≤ x) (h1 : x < 1099511627776) (h2 : 0 ≤ y) (h3 : y < 256) : Go.bits .or .i64 (x * 256) y = x * 256 + y :=
  bits_join .i64 62 (by decide) wraps_i64 8 (x * 256) y (by omega) (by omega) (by omega) h2 (by omega) (by omega)
theorem shr_8 (c : Int) : shr .i64 c 8 = c / 256 := rfl
theorem shr_0 (c : Int) : shr .i64 c 0 = c := by show c / 1 = c; omega
theorem shr_16 (c : Int) : shr .i64 c 16 = c / 65536 := rfl
theorem shr_24 (c : Int) : shr .i64 c 24 = c / 16777216 := rfl
theorem shr_32 (c : Int) : shr .i64 c 32 = c / 4294967296 := rfl
def fitsW (size c : Int) : Bool := decide (size = 4 ∨ c ≤ 65535)
def putB (size c : Int) : List Int := if size = 4 then [0, c / 65536 % 256, c / 256 % 256, c % 256] else [c / 256 % 256, c % 256]
def putW (size : Int) : List Int → Int → List Int → List Int × Int × Int
  | [], _, acc => (acc, 0, 0)
  | c :: t, i, acc => if (sc c && fitsW size c) = true then putW size t (i + 1) (acc ++ putB size c) else ([], i, 14)
def valF (c : Int) (l : List Int) : Int := l.foldl (fun c x => c * 256 + x) c
def getW (size : Nat) : Nat → List Int → Int → List Int → List Int × Int × Int
  | 0, _, _, acc => (acc, 0, 0)
  | n + 1, b, i, acc => if sc (valF 0 (b.take size)) = true then getW size n (b.drop size) (i + size) (acc ++ [valF 0 (b.take size)]) else ([], i, 13)
theorem put_l1_2 (k : Nat) (acc xs : List Int) (c n i : Int) (h : acc.length < 100000) (h0 : 0 ≤ i) (hi : i < 100000) : wide_Put.l1 (k + 3) 2 acc c 1 xs n i = wide_Put.l0 k 2 (acc ++ putB 2 c) xs n (i + 1) := by
  rw [show k + 3 = (k + 2) + 1 from rfl]; simp only [wide_Put.l1]
  rw [w64l (8 * 1) 8 (by decide), w64l (1 - 1) 0 (by decide), w64l (8 * 0) 0 (by decide), w64l (0 - 1) (-1) (by decide), if_pos (by decide), if_pos (by decide), if_pos (by omega), if_pos (by decide), if_pos (by decide), if_pos (by simp; omega),
    if_neg (by decide), shr_8, shr_0, w64 (by omega) (by omega), List.append_assoc]
  rfl
theorem put_l1_4 (k : Nat) (acc xs : List Int) (c n i : Int) (h : acc.length < 100000) (h0 : 0 ≤ i) (hi : i < 100000) (hc : 0 ≤ c ∧ c ≤ 1114111) : wide_Put.l1 (k + 5) 4 acc c 3 xs n i = wide_Put.l0 k 4 (acc ++ putB 4 c) xs n (i + 1) := by
  rw [show k + 5 = (k + 4) + 1 from rfl]; simp only [wide_Put.l1]
  rw [w64l (8 * 3) 24 (by decide), w64l (3 - 1) 2 (by decide), w64l (8 * 2) 16 (by decide), w64l (2 - 1) 1 (by decide), w64l (8 * 1) 8 (by decide), w64l (1 - 1) 0 (by decide), w64l (8 * 0) 0 (by decide), w64l (0 - 1) (-1) (by decide),
    if_pos (by decide), if_pos (by decide), if_pos (by omega), if_pos (by decide), if_pos (by decide), if_pos (by simp; omega), if_pos (by decide), if_pos (by decide), if_pos (by simp; omega), if_pos (by decide), if_pos (by decide), if_pos (by simp; omega),
    if_neg (by decide), shr_24, shr_16, shr_8, shr_0, w64 (by omega) (by omega), List.append_assoc, List.append_assoc, List.append_assoc, show c / 16777216 % 256 = 0 by omega]
  rfl
theorem putB_len (size c : Int) : (putB size c).length ≤ 4 := by unfold putB; split <;> simp
theorem put_l0 (size : Int) (hs : size = 2 ∨ size = 4) (xs : List Int) (hx : xs.length ≤ 4000) : ∀ (d k i : Nat) (acc : List Int), i + d = xs.length → 10 * d < k → acc.length ≤ 4 * i → wide_Put.l0 k size acc xs xs.length i = some (putW size (xs.drop i) i acc) := by
  intro d
  induction d with
  | zero =>
    intro k i acc hi hk ha
    obtain ⟨k, rfl⟩ : ∃ m, k = m + 1 := ⟨k - 1, by omega⟩
    simp only [wide_Put.l0]
    rw [if_neg (by omega), List.drop_eq_nil_of_le (by omega)]; rfl
  | succ d ih =>
    intro k i acc hi hk ha
    obtain ⟨k, rfl⟩ : ∃ m, k = m + 7 := ⟨k - 7, by omega⟩
    have hlt : i < xs.length := by omega
    rw [List.drop_eq_getElem_cons hlt]
    have next : sc xs[i] = true → fitsW size xs[i] = true → wide_Put.l1 (k + 5) size acc xs[i] (wrap64 (size - 1)) xs xs.length i = some (putW size (xs[i] :: xs.drop (i + 1)) i acc) := by
      intro h1 h2
      have hb := sc_bd h1
      have e : putW size (xs[i] :: xs.drop (i + 1)) i acc = putW size (xs.drop (i + 1)) ((i + 1 : Nat) : Int) (acc ++ putB size xs[i]) := by
        simp only [putW, h1, h2, Bool.and_self, if_true]; rfl
      have hl : (acc ++ putB size xs[i]).length ≤ 4 * (i + 1) := by have := putB_len size xs[i]; simp; omega
      rw [e]
      rcases hs with rfl | rfl
      · rw [w64l (2 - 1) 1 (by decide), put_l1_2 (k + 2) acc xs _ _ _ (by omega) (by omega) (by omega)]
        exact ih (k + 2) (i + 1) _ (by omega) (by omega) hl
      · rw [w64l (4 - 1) 3 (by decide), put_l1_4 k acc xs _ _ _ (by omega) (by omega) (by omega) hb]
        exact ih k (i + 1) _ (by omega) (by omega) hl
    simp only [wide_Put.l0]
    rw [if_pos (by omega), if_pos (by omega), if_pos (by omega), rd_nat xs i hlt, Scalar_f]
    simp only [Option.bind_some]
    by_cases h1 : sc xs[i] = true
    · rw [if_pos h1]
      have hb := sc_bd h1
      have hsh : (shr .i64 xs[i] (wrap64 (8 * size)) != 0) = !(fitsW size xs[i]) := by
        unfold fitsW
        rcases hs with rfl | rfl
        · rw [w64l (8 * 2) 16 (by decide), shr_16]
          by_cases h : xs[i] ≤ 65535
          · rw [dec_t _ (by omega), show xs[i] / 65536 = 0 by omega]; rfl
          · rw [dec_f _ (by omega)]; simp; omega
        · rw [w64l (8 * 4) 32 (by decide), shr_32, show xs[i] / 4294967296 = 0 by omega]; rfl
      rw [if_pos (by rcases hs with rfl | rfl <;> rw [w64 (by omega) (by omega)] <;> decide), hsh]
      simp only [wide_Put.j2]
      cases h2 : fitsW size xs[i] with
      | true => simp only [Bool.not_true, Bool.false_eq_true, if_false]; exact next h1 h2
      | false => simp [putW, h2]
    · rw [if_neg h1]
      simp only [wide_Put.j2, if_true]
      simp [putW, h1]
theorem put_f (size : Int) (xs : List Int) (k : Nat) (hx : xs.length ≤ 4000) (hk : 40002 < k) : wide_Put.f k xs size = some (if size = 2 ∨ size = 4 then putW size xs 0 [] else ([], 0, 1)) := by
  unfold wide_Put.f
  obtain ⟨k, rfl⟩ : ∃ m, k = m + 1 := ⟨k - 1, by omega⟩
  simp only [wide_Put.j0]
  by_cases h : size = 2 ∨ size = 4
  · have := put_l0 size h xs hx xs.length k 0 [] (by omega) (by omega) (by simp)
    rw [if_pos h]
    rcases h with rfl | rfl
    · rw [if_pos rfl, if_neg (by decide)]; simpa using this
    · rw [if_neg (by decide), if_neg (by decide)]; simpa using this
  · rw [if_neg h, if_neg (by omega)]
    have : (size != 4) = true := by simp; omega
    rw [this, if_pos rfl]
theorem valF_bd (l : List Int) : ∀ c : Int, 0 ≤ c → (∀ x ∈ l, 0 ≤ x ∧ x < 256) → 0 ≤ valF c l ∧ valF c l < (c + 1) * 256 ^ l.length := by
  induction l with
  | nil => intro c h _; simp [valF]; omega
  | cons x l ih =>
    intro c h hx
    obtain ⟨h1, h2⟩ := hx x (by simp)
    have := ih (c * 256 + x) (by omega) (fun y hy => hx y (by simp [hy]))
    refine ⟨this.1, Int.lt_of_lt_of_le this.2 ?_⟩
    rw [List.length_cons, Int.pow_succ, ← Int.mul_assoc, Int.mul_right_comm]
    exact Int.mul_le_mul_of_nonneg_right (by omega) (Int.pow_nonneg (by omega))
theorem get_l1 (size : Nat) (hs : size = 2 ∨ size = 4) (xs acc : List Int) (i : Nat) (hi : i ≤ 4000) (hacc : acc.length ≤ 4000) (ch : List Int) (hch : ch.length = size) (hb : ∀ x ∈ ch, 0 ≤ x ∧ x < 256) : ∀ (d k j : Nat) (c : Int), j + d = size → d < k → 0 ≤ c → c < 256 ^ j →
    wide_Get.l1 k xs size acc i c ch ch.length j = if sc (valF c (ch.drop j)) = true then wide_Get.l0 (k - d - 1) xs size (acc ++ [valF c (ch.drop j)]) ((i + size : Nat) : Int) else some ([], (i : Int), 13) := by
  intro d
  induction d with
  | zero =>
    intro k j c hj hk h0 h1
    obtain ⟨k, rfl⟩ : ∃ m, k = m + 1 := ⟨k - 1, by omega⟩
    simp only [wide_Get.l1]
    rw [if_neg (by omega), Scalar_f, List.drop_eq_nil_of_le (by omega), show wrap64 ((i : Int) + (size : Int)) = ((i + size : Nat) : Int) by rw [w64 (by omega) (by omega)]; rfl, if_pos (show acc.length < 17592186044416 by omega)]
    rfl
  | succ d ih =>
    intro k j c hj hk h0 h1
    obtain ⟨k, rfl⟩ : ∃ m, k = m + 1 := ⟨k - 1, by omega⟩
    have hlt : j < ch.length := by omega
    obtain ⟨b0, b1⟩ := hb ch[j] (List.getElem_mem hlt)
    have hc : c < 16777216 := by
      have : (256 : Int) ^ j ≤ 256 ^ 3 := by
        rcases (show j = 0 ∨ j = 1 ∨ j = 2 ∨ j = 3 by omega) with rfl | rfl | rfl | rfl <;> decide
      omega
    simp only [wide_Get.l1]
    rw [if_pos (by omega), if_pos (by omega), if_pos (by omega), rd_nat ch j hlt, w64 (x := c * 256) (by omega) (by omega), w64 (x := ch[j]) (by omega) (by omega), or8 c ch[j] h0 (by omega) b0 b1, w64_nat hlt (by omega),
      ih k (j + 1) (c * 256 + ch[j]) (by omega) (by omega) (by omega) (by rw [Int.pow_succ]; omega), List.drop_eq_getElem_cons hlt, show k + 1 - (d + 1) - 1 = k - d - 1 by omega]
    rfl
theorem get_l0 (size : Nat) (hs : size = 2 ∨ size = 4) (xs : List Int) (hx : xs.length ≤ 4000) (hb : ∀ x ∈ xs, 0 ≤ x ∧ x < 256) : ∀ (n k i : Nat) (acc : List Int), i + n * size = xs.length → 6 * n < k → acc.length ≤ i → wide_Get.l0 k xs size acc i = some (getW size n (xs.drop i) i acc) := by
  intro n
  induction n with
  | zero =>
    intro k i acc hi hk ha
    obtain ⟨k, rfl⟩ : ∃ m, k = m + 1 := ⟨k - 1, by omega⟩
    simp only [wide_Get.l0]
    rw [if_neg (by omega)]; rfl
  | succ n ih =>
    intro k i acc hi hk ha
    obtain ⟨k, rfl⟩ : ∃ m, k = m + 1 := ⟨k - 1, by omega⟩
    have hle : i + size ≤ xs.length := by rcases hs with rfl | rfl <;> omega
    have hn : i + size + n * size = xs.length := by rw [← hi, Nat.succ_mul]; omega
    have e1 : wrap64 ((i : Int) + (size : Int)) = ((i + size : Nat) : Int) := by rw [w64 (by omega) (by omega)]; rfl
    simp only [wide_Get.l0]
    rw [e1, if_pos (by rcases hs with rfl | rfl <;> omega), if_pos (by omega), if_pos (by omega), if_pos (by omega), Int.toNat_natCast, Int.toNat_natCast, List.drop_take, show i + size - i = size by omega]
    have hl : ((xs.drop i).take size).length = size := by rw [List.length_take, List.length_drop]; omega
    have key := get_l1 size hs xs acc i (by omega) (by omega) ((xs.drop i).take size) hl (fun x hx' => hb x (List.mem_of_mem_drop (List.mem_of_mem_take hx'))) size k 0 0 (by omega) (by rcases hs with rfl | rfl <;> omega) (by omega) (by simp)
    rw [show wide_Get.l1 k xs size acc i 0 ((xs.drop i).take size) ((xs.drop i).take size).length 0 = _ from key]
    simp only [getW, List.drop_zero]
    by_cases h : sc (valF 0 ((xs.drop i).take size)) = true
    · rw [if_pos h, if_pos h, ih (k - size - 1) (i + size) _ hn (by rcases hs with rfl | rfl <;> omega) (by rw [List.length_append]; simp; omega), List.drop_drop]
      simp
    · rw [if_neg h, if_neg h]
theorem get_f (size : Int) (xs : List Int) (k : Nat) (hx : xs.length ≤ 4000) (hb : ∀ x ∈ xs, 0 ≤ x ∧ x < 256) (hk : 24002 < k) :
    wide_Get.f k xs size = some (if size = 2 ∨ size = 4 then (if xs.length % size.toNat = 0 then getW size.toNat (xs.length / size.toNat) xs 0 [] else ([], (xs.length : Int) - (xs.length : Int) % size, 11)) else ([], 0, 1)) := by
  unfold wide_Get.f
  obtain ⟨k, rfl⟩ : ∃ m, k = m + 1 := ⟨k - 1, by omega⟩
  simp only [wide_Get.j0]
  by_cases h : size = 2 ∨ size = 4
  · have main : ∀ s : Nat, s = 2 ∨ s = 4 → (if ((xs.length : Int) % (s : Int)) = 0 then wide_Get.l0 k xs s [] 0 else some (([] : List Int), wrap64 ((xs.length : Int) - ((xs.length : Int) % (s : Int))), 11)) = some (if xs.length % s = 0 then getW s (xs.length / s) xs 0 [] else ([], (xs.length : Int) - (xs.length : Int) % (s : Int), 11)) := by
      intro s hs
      by_cases h0 : xs.length % s = 0
      · rw [if_pos (by rcases hs with rfl | rfl <;> omega), if_pos h0]
        have := get_l0 s hs xs hx hb (xs.length / s) k 0 [] (by rcases hs with rfl | rfl <;> omega) (by rcases hs with rfl | rfl <;> omega) (by simp)
        simpa using this
      · rw [if_neg (by rcases hs with rfl | rfl <;> omega), if_neg h0, w64 (by rcases hs with rfl | rfl <;> omega) (by rcases hs with rfl | rfl <;> omega)]
    rw [if_pos h]
    rcases h with rfl | rfl
    · rw [if_pos rfl, if_neg (by decide), if_neg (by decide)]; exact main 2 (.inl rfl)
    · rw [if_neg (by decide), if_neg (by decide), if_neg (by decide)]; exact main 4 (.inr rfl)
  · rw [if_neg h, if_neg (by omega)]
    have : (size != 4) = true := by simp; omega
    rw [this, if_pos rfl]
theorem wfu8 {xs : List Int} (h : ∀ x ∈ xs, (Lit.int .u8 x).wf = true) : ∀ x ∈ xs, 0 ≤ x ∧ x < 256 := by
  intro x hx
  have := h x hx
  simp [Lit.wf, show IntKind.u8.min = 0 from rfl, show IntKind.u8.max = 255 from rfl] at this
  omega
theorem wakes_ok (k : Nat) (hk : 40 ≤ k) : sobriquetlaw14_wakes.f k = some true := at_rounds sobriquetlaw14_wakes.mono hk (by decide +kernel)

theorem valF_2 (a b : Int) : valF 0 [a, b] = a * 256 + b := by simp [valF]
theorem valF_4 (a b c d : Int) : valF 0 [a, b, c, d] = ((a * 256 + b) * 256 + c) * 256 + d := by simp [valF]
theorem val_putB (size : Nat) (hs : size = 2 ∨ size = 4) (c : Int) (h1 : sc c = true) (h2 : fitsW size c = true) (t : List Int) : (putB size c ++ t).take size = putB size c ∧ (putB size c ++ t).drop size = t ∧ valF 0 (putB size c) = c := by
  have hb := sc_bd h1
  have hf := of_decide_eq_true h2
  rcases hs with rfl | rfl
  · have e : putB ((2 : Nat) : Int) c = [c / 256 % 256, c % 256] := by unfold putB; rw [if_neg (by decide)]
    rw [e, valF_2]
    exact ⟨rfl, rfl, by omega⟩
  · have e : putB ((4 : Nat) : Int) c = [0, c / 65536 % 256, c / 256 % 256, c % 256] := by unfold putB; rw [if_pos (by decide)]
    rw [e, valF_4]
    exact ⟨rfl, rfl, by omega⟩
theorem putB_val (size : Nat) (hs : size = 2 ∨ size = 4) (ch : List Int) (hl : ch.length = size) (hb : ∀ x ∈ ch, 0 ≤ x ∧ x < 256) (h : sc (valF 0 ch) = true) : fitsW size (valF 0 ch) = true ∧ putB size (valF 0 ch) = ch := by
  have hv := sc_bd h
  rcases hs with rfl | rfl
  · match ch, hl with
    | [a, b], _ =>
      have ha := hb a (by simp); have hb' := hb b (by simp)
      rw [valF_2] at hv ⊢
      refine ⟨by unfold fitsW; rw [dec_t _ (by omega)], ?_⟩
      unfold putB; rw [if_neg (by decide)]
      simp only [List.cons.injEq, and_true]; omega
  · match ch, hl with
    | [a, b, c, d], _ =>
      have ha := hb a (by simp); have hb' := hb b (by simp); have hc := hb c (by simp); have hd := hb d (by simp)
      rw [valF_4] at hv ⊢
      refine ⟨by unfold fitsW; rw [dec_t _ (by omega)], ?_⟩
      unfold putB; rw [if_pos (by decide)]
      simp only [List.cons.injEq, and_true]; omega
theorem putW_ok (size : Int) : ∀ (xs : List Int) (i : Int) (acc : List Int), (putW size xs i acc).2.2 = 0 → (∀ c ∈ xs, sc c = true ∧ fitsW size c = true) ∧ (putW size xs i acc).1 = acc ++ xs.flatMap (putB size) := by
  intro xs
  induction xs with
  | nil => intro i acc _; simp [putW]
  | cons c t ih =>
    intro i acc h
    simp only [putW] at h ⊢
    by_cases hc : (sc c && fitsW size c) = true
    · rw [if_pos hc] at h ⊢
      obtain ⟨h1, h2⟩ := ih _ _ h
      rw [Bool.and_eq_true] at hc
      refine ⟨fun x hx => ?_, by rw [h2, List.flatMap_cons, List.append_assoc]⟩
      rcases List.mem_cons.1 hx with rfl | hx
      · exact hc
      · exact h1 x hx
    · rw [if_neg hc] at h
      cases h
theorem putW_all (size : Int) : ∀ (xs : List Int) (i : Int) (acc : List Int), (∀ c ∈ xs, sc c = true ∧ fitsW size c = true) → putW size xs i acc = (acc ++ xs.flatMap (putB size), 0, 0) := by
  intro xs
  induction xs with
  | nil => intro i acc _; simp [putW]
  | cons c t ih =>
    intro i acc h
    obtain ⟨h1, h2⟩ := h c (by simp)
    simp only [putW, h1, h2, Bool.and_self, if_true]
    rw [ih _ _ (fun x hx => h x (by simp [hx])), List.flatMap_cons, List.append_assoc]
theorem get_put (size : Nat) (hs : size = 2 ∨ size = 4) : ∀ (xs : List Int) (i : Int) (acc : List Int), (∀ c ∈ xs, sc c = true ∧ fitsW size c = true) → getW size xs.length (xs.flatMap (putB size)) i acc = (acc ++ xs, 0, 0) := by
  intro xs
  induction xs with
  | nil => intro i acc _; simp [getW]
  | cons c t ih =>
    intro i acc h
    obtain ⟨h1, h2⟩ := h c (by simp)
    obtain ⟨e1, e2, e3⟩ := val_putB size hs c h1 h2 (t.flatMap (putB size))
    rw [List.length_cons, List.flatMap_cons]
    simp only [getW, e1, e2, e3, h1, if_true]
    rw [ih _ _ (fun x hx => h x (by simp [hx])), List.append_assoc]; rfl
theorem put_get (size : Nat) (hs : size = 2 ∨ size = 4) : ∀ (n : Nat) (b : List Int) (i : Int) (acc : List Int), b.length = n * size → (∀ x ∈ b, 0 ≤ x ∧ x < 256) → (getW size n b i acc).2.2 = 0 →
    ∃ ys : List Int, (getW size n b i acc).1 = acc ++ ys ∧ ys.length = n ∧ (∀ c ∈ ys, sc c = true ∧ fitsW size c = true) ∧ ys.flatMap (putB size) = b := by
  intro n
  induction n with
  | zero =>
    intro b i acc hl _ _
    exact ⟨[], by simp [getW], rfl, by simp, by simp [List.eq_nil_of_length_eq_zero (show b.length = 0 by omega)]⟩
  | succ n ih =>
    intro b i acc hl hb h
    have hn : (b.drop size).length = n * size := by rw [List.length_drop, hl, Nat.succ_mul]; omega
    have ht : (b.take size).length = size := by rw [List.length_take, hl, Nat.succ_mul]; omega
    simp only [getW] at h ⊢
    by_cases hc : sc (valF 0 (b.take size)) = true
    · rw [if_pos hc] at h ⊢
      obtain ⟨ys, h1, h2, h3, h4⟩ := ih _ _ _ hn (fun x hx => hb x (List.mem_of_mem_drop hx)) h
      obtain ⟨g1, g2⟩ := putB_val size hs _ ht (fun x hx => hb x (List.mem_of_mem_take hx)) hc
      refine ⟨valF 0 (b.take size) :: ys, by rw [h1, List.append_assoc]; rfl, by simp [h2], ?_, by rw [List.flatMap_cons, g2, h4, List.take_append_drop]⟩
      intro x hx
      rcases List.mem_cons.1 hx with rfl | hx
      · exact ⟨hc, g1⟩
      · exact h3 x hx
    · rw [if_neg hc] at h
      cases h
theorem flat_len (size : Nat) (hs : size = 2 ∨ size = 4) (xs : List Int) : (xs.flatMap (putB size)).length = xs.length * size := by
  induction xs with
  | nil => simp
  | cons c t ih =>
    rw [List.flatMap_cons, List.length_append, ih, List.length_cons, Nat.succ_mul]
    have : (putB size c).length = size := by
      unfold putB
      rcases hs with rfl | rfl
      · rw [if_neg (by decide)]; rfl
      · rw [if_pos (by decide)]; rfl
    omega
theorem flat_bd (size : Int) (xs : List Int) : ∀ x ∈ xs.flatMap (putB size), 0 ≤ x ∧ x < 256 := by
  intro x hx
  obtain ⟨c, _, h⟩ := List.mem_flatMap.1 hx
  unfold putB at h
  split at h <;> simp at h <;> omega

theorem u64_nn (x : Int) : 0 ≤ IntKind.u64.wrap x ∧ IntKind.u64.wrap x < 18446744073709551616 := by
  have e : IntKind.u64.wrap x = x % 18446744073709551616 := by simp [IntKind.wrap, show IntKind.u64.signed = false from rfl, show IntKind.u64.bits = 64 from rfl]
  rw [e]; omega
theorem u64_in (x : Int) (h : 0 ≤ x ∧ x < 18446744073709551616) : IntKind.u64.wrap x = x := by
  have e : IntKind.u64.wrap x = x % 18446744073709551616 := by simp [IntKind.wrap, show IntKind.u64.signed = false from rfl, show IntKind.u64.bits = 64 from rfl]
  rw [e]; omega
theorem umod (x c : Int) (hc : 0 < c) (hc2 : c ≤ 100000000) : ∃ n, wrap64 (Int.tmod (IntKind.u64.wrap x) c) = n ∧ 0 ≤ n ∧ n < c := by
  have h := u64_nn x
  have h1 := Int.emod_nonneg (IntKind.u64.wrap x) (b := c) (by omega)
  have h2 := Int.emod_lt_of_pos (IntKind.u64.wrap x) hc
  refine ⟨_, rfl, ?_, ?_⟩ <;> rw [tmod_nn h.1, w64 (by omega) (by omega)]
  · exact h1
  · exact h2

theorem putW_app (size : Int) : ∀ (xs ys : List Int) (i : Int) (acc : List Int), (∀ c ∈ xs, sc c = true ∧ fitsW size c = true) → putW size (xs ++ ys) i acc = putW size ys (i + xs.length) (acc ++ xs.flatMap (putB size)) := by
  intro xs
  induction xs with
  | nil => intro ys i acc _; simp
  | cons c t ih =>
    intro ys i acc h
    obtain ⟨h1, h2⟩ := h c (by simp)
    rw [List.cons_append, putW, h1, h2, if_pos (by decide), ih _ _ _ (fun x hx => h x (by simp [hx])), List.flatMap_cons, List.append_assoc, List.length_cons]
    congr 1; omega
theorem reps (size : Int) (n : Nat) : ∀ c ∈ (List.replicate n 65 : List Int), sc c = true ∧ fitsW size c = true := by
  intro c hc
  rw [List.eq_of_mem_replicate hc]
  exact ⟨rfl, by unfold fitsW; rw [dec_t _ (by omega)]⟩
theorem edge_j1 (k : Nat) (hk : 50000 ≤ k) (n : Int) (e : Int) : sobriquetlaw14_WideEdges.j1 k n n e e = some true := by
  obtain ⟨k, rfl⟩ : ∃ m, k = m + 1 := ⟨k - 1, by omega⟩
  rw [sobriquetlaw14_WideEdges.j1, put_f 2 [65535] k (by simp) (by omega), put_f 4 [1114111] k (by simp) (by omega), wakes_ok k (by omega), if_pos (show (2 : Int) = 2 ∨ (2 : Int) = 4 by omega), if_pos (show (4 : Int) = 2 ∨ (4 : Int) = 4 by omega)]
  simp only [Option.bind_some, if_true]
  rfl
theorem edge_bad (size : Int) (n : Nat) (c : Int) (h : (sc c && fitsW size c) = false) : putW size ((List.replicate n 65 : List Int) ++ [c]) 0 [] = ([], (n : Int), 14) := by
  rw [putW_app size _ _ _ _ (reps size n), putW, h, if_neg (by decide), List.length_replicate]
  congr 2; omega
theorem put2 (xs : List Int) (k : Nat) (hx : xs.length ≤ 4000) (hk : 40002 < k) : wide_Put.f k xs 2 = some (putW 2 xs 0 []) := by
  rw [put_f 2 xs k hx hk, if_pos (.inl rfl)]
theorem put4 (xs : List Int) (k : Nat) (hx : xs.length ≤ 4000) (hk : 40002 < k) : wide_Put.f k xs 4 = some (putW 4 xs 0 []) := by
  rw [put_f 4 xs k hx hk, if_pos (.inr rfl)]
theorem edge_l0 (m : Nat) (hm : m < 50) (how : Int) : ∀ (d k n : Nat), n + d = m → 60000 + d ≤ k → sobriquetlaw14_WideEdges.l0 k m how (List.replicate n 65) = some true := by
  intro d
  induction d with
  | zero =>
    intro k n hn hk
    obtain ⟨k, rfl⟩ : ∃ j, k = j + 1 := ⟨k - 1, by omega⟩
    obtain rfl : n = m := by omega
    have hl : ∀ c : Int, ((List.replicate n 65 : List Int) ++ [c]).length ≤ 4000 := fun c => by rw [List.length_append, List.length_replicate]; simp; omega
    rw [sobriquetlaw14_WideEdges.l0, List.length_replicate, if_neg (by omega), put2 _ k (hl _) (by omega), put4 _ k (hl 1114112) (by omega), put4 _ k (hl 56320) (by omega), put4 (List.replicate n 65) k (by rw [List.length_replicate]; omega) (by omega)]
    simp only [if_pos (show n < 17592186044416 by omega)]
    rw [edge_bad 2 n 65536 (by decide), edge_bad 4 n 1114112 (by decide), edge_bad 4 n 56320 (by decide), putW_all 4 _ 0 [] (reps 4 n)]
    simp only [Option.bind_some, if_true, List.nil_append]
    rw [edge_j1 k (by omega) _ 14]
    by_cases h0 : Int.tmod (IntKind.u64.wrap how) 4 = 0
    · rw [if_pos h0]
    rw [if_neg h0]
    by_cases h1 : Int.tmod (IntKind.u64.wrap how) 4 = 1
    · rw [if_pos h1]
    rw [if_neg h1]
    by_cases h2 : Int.tmod (IntKind.u64.wrap how) 4 = 2
    · rw [if_pos h2]
    rw [if_neg h2]
    have hf := flat_len 4 (.inr rfl) (List.replicate n 65)
    rw [List.length_replicate] at hf
    have hf' : ((List.replicate n 65 : List Int).flatMap (putB 4)).length = n * 4 := hf
    have hL : ((List.replicate n 65 : List Int).flatMap (putB 4) ++ [0, 0, 0]).length = n * 4 + 3 := by rw [List.length_append, hf']; rfl
    rw [if_pos (by rw [hf']; simp; omega), get_f 4 _ k (by rw [hL]; omega) (fun x hx => by
      rcases List.mem_append.1 hx with hx | hx
      · exact flat_bd 4 _ x hx
      · simp at hx; omega) (by omega), if_pos (show (4 : Int) = 2 ∨ (4 : Int) = 4 by omega), hL, if_neg (by show ¬ ((n * 4 + 3) % 4 = 0); omega)]
    simp only [Option.bind_some]
    rw [show (((n * 4 + 3 : Nat) : Int) - ((n * 4 + 3 : Nat) : Int) % 4) = (n : Int) * 4 by omega, tdiv_nn (by omega), show (n : Int) * 4 / 4 = n by omega, w64 (by omega) (by omega)]
    exact edge_j1 k (by omega) _ _
  | succ d ih =>
    intro k n hn hk
    obtain ⟨k, rfl⟩ : ∃ j, k = j + 1 := ⟨k - 1, by omega⟩
    rw [sobriquetlaw14_WideEdges.l0, List.length_replicate, if_pos (by omega), if_pos (by omega), show (List.replicate n 65 : List Int) ++ [65] = List.replicate (n + 1) 65 from (List.replicate_succ' ..).symm]
    exact ih k (n + 1) (by omega) (by omega)

theorem WideEdges : sobriquetlaw14_WideEdges.Pure := by
  intro a how _ _
  obtain ⟨k, hk⟩ : ∃ k, 100000 ≤ k := ⟨100000, Nat.le_refl _⟩
  refine ⟨k, ?_⟩
  unfold sobriquetlaw14_WideEdges.f
  obtain ⟨n, e, h0, h1⟩ := umod a 50 (by omega) (by omega)
  rw [e]
  have := edge_l0 n.toNat (by omega) how n.toNat k 0 (by omega) (by omega)
  rw [Int.toNat_of_nonneg h0] at this
  exact this

end Go.Proofs.Ytpojnmbiajhaeaa.Pure
