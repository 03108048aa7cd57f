/- The pure side of NarrowIn: each character of Numeric is one of Printable, each of Printable one of Visible, each of Visible one of Ia5; Ia5 and Visible are exactly their ranges. No condition. -/
import Derived.Test.YtklgifnkoeadpaaMNarrowInx2
namespace Go.Proofs.Ytklgifnkoeadpaa.Pure
open Go.RowKit Go.Proofs.Ytklgifnkoeadpaa.MNarrowIn Go.Proofs.YtklgifnkoeadpaaW.PrintWords Go.Proofs.YtklgifnkoeadpaaW.PrintLast
set_option linter.unusedVariables false
set_option linter.unusedSimpArgs false
set_option maxHeartbeats 1000000

theorem w64 {x : Int} (h0 : -9223372036854775808 ≤ x) (h1 : x ≤ 9223372036854775807) : wrap64 x = x := by unfold wrap64; omega
theorem w64_nat {i n : Nat} (h : i < n) (hn : n ≤ 4611686018427387904) : wrap64 ((i : Int) + 1) = ((i + 1 : Nat) : Int) := by unfold wrap64; omega
theorem rd_nat (xs : List Int) (i : Nat) (h : i < xs.length) : rd xs (i : Int) = xs[i] := by simp [rd, List.getD_eq_getElem?_getD, List.getElem?_eq_getElem h]
theorem wf64 {a : Int} (h : (Lit.int .i64 a).wf = true) : -9223372036854775808 ≤ a ∧ a ≤ 9223372036854775807 := by
  simpa [Lit.wf, show IntKind.i64.min = -9223372036854775808 from rfl] using h
theorem tdiv_nn {a : Int} (h : 0 ≤ a) (b : Int) : Int.tdiv a b = a / b := Int.tdiv_eq_ediv_of_nonneg h
theorem tmod_nn {a : Int} (h : 0 ≤ a) (b : Int) : Int.tmod a b = a % b := Int.tmod_eq_emod_of_nonneg h
theorem dec_iff (p q : Prop) [Decidable p] [Decidable q] (h : p ↔ q) : decide p = decide q := by simp [h]
theorem dec_t (p : Prop) [Decidable p] (h : p) : decide p = true := by simp [h]
theorem dec_f (p : Prop) [Decidable p] (h : ¬ p) : decide p = false := by simp [h]
theorem tmod_bd (a c : Int) (hc : 0 < c) : -c < Int.tmod a c ∧ Int.tmod a c < c := by
  have h1 := Int.emod_nonneg a (b := c) (by omega)
  have h2 := Int.emod_lt_of_pos a hc
  have h3 : ((c.natAbs : Nat) : Int) = c := by omega
  have h4 := Int.tmod_lt_of_pos a hc
  refine ⟨?_, h4⟩
  rw [Int.tmod_eq_emod]
  split
  · omega
  · rename_i h
    have : a % c ≠ 0 := fun e => h (.inr (Int.dvd_of_emod_eq_zero e))
    omega
theorem w64l (x y : Int) (h : x = y ∧ -9223372036854775808 ≤ y ∧ y ≤ 9223372036854775807) : wrap64 x = y := by rw [h.1]; exact w64 h.2.1 h.2.2

def prn (c : Int) : Bool := decide ((65 ≤ c ∧ c ≤ 90) ∨ (97 ≤ c ∧ c ≤ 122) ∨ (48 ≤ c ∧ c ≤ 57) ∨ c = 32 ∨ (39 ≤ c ∧ c ≤ 41) ∨ (43 ≤ c ∧ c ≤ 47) ∨ c = 58 ∨ c = 61 ∨ c = 63)
def hasN (k c : Int) : Bool := if k = 18 then decide (c = 32 ∨ (48 ≤ c ∧ c ≤ 57)) else if k = 19 then prn c else if k = 22 then decide (0 ≤ c ∧ c ≤ 127) else if k = 26 then decide (32 ≤ c ∧ c ≤ 126) else false
def kindN (k : Int) : Bool := decide (k = 18 ∨ k = 19 ∨ k = 22 ∨ k = 26)
theorem nin_f (a b c : Int) : narrow_in.f a b c = some (decide (b ≤ a ∧ a ≤ c)) := by
  unfold narrow_in.f
  by_cases h : a ≥ b
  · rw [if_pos h]; simp [show b ≤ a from h]
  · rw [if_neg h]; simp; omega
theorem index_fin : ∀ x : Fin 127, 32 ≤ x.val → (decide (Go.Lib.indexByte (⟨#[32, 39, 40, 41, 43, 44, 45, 46, 47, 58, 61, 63]⟩ : ByteArray).data.toList (((x.val : Nat) : Int) % 256).toNat.toUInt8 ≥ 0) = decide ((x.val : Int) = 32 ∨ (39 ≤ (x.val : Int) ∧ (x.val : Int) ≤ 41) ∨ (43 ≤ (x.val : Int) ∧ (x.val : Int) ≤ 47) ∨ (x.val : Int) = 58 ∨ (x.val : Int) = 61 ∨ (x.val : Int) = 63)) := by decide +kernel
theorem prn_f (k : Nat) (hk : 1 ≤ k) (c : Int) : narrow_printable.f k c = some (prn c) := by
  obtain ⟨k, rfl⟩ : ∃ m, k = m + 1 := ⟨k - 1, by omega⟩
  unfold narrow_printable.f
  have J : narrow_printable.j0 (k + 1) c true = some true := by rw [narrow_printable.j0, if_pos rfl]
  rw [J, nin_f, nin_f, nin_f]
  simp only [Option.bind_some]
  by_cases h1 : 65 ≤ c ∧ c ≤ 90
  · rw [dec_t _ h1, if_pos rfl]; unfold prn; rw [dec_t _ (.inl h1)]
  rw [dec_f _ h1, if_neg (by decide)]
  by_cases h2 : 97 ≤ c ∧ c ≤ 122
  · rw [dec_t _ h2, if_pos rfl]; unfold prn; rw [dec_t _ (.inr (.inl h2))]
  rw [dec_f _ h2, if_neg (by decide)]
  by_cases h3 : 48 ≤ c ∧ c ≤ 57
  · rw [dec_t _ h3, J]; unfold prn; rw [dec_t _ (.inr (.inr (.inl h3)))]
  rw [dec_f _ h3, narrow_printable.j0, if_neg (by decide), nin_f]
  simp only [Option.bind_some]
  by_cases h4 : 32 ≤ c ∧ c ≤ 126
  · rw [dec_t _ h4, if_pos rfl]
    unfold strings_IndexByte.f
    simp only [Option.bind_some]
    have := index_fin ⟨c.toNat, by omega⟩ (by show 32 ≤ c.toNat; omega)
    simp only [Int.toNat_of_nonneg (show 0 ≤ c by omega)] at this
    rw [this]
    unfold prn
    congr 1
    exact dec_iff _ _ (by omega)
  · rw [dec_f _ h4, if_neg (by decide)]
    unfold prn
    rw [dec_f _ (by omega)]
theorem has_f (k : Nat) (hk : 1 ≤ k) (n c : Int) : narrow_Has.f k n c = some (hasN n c) := by
  unfold narrow_Has.f hasN
  rw [prn_f k hk, nin_f, nin_f, nin_f]
  simp only [Option.bind_some]
  by_cases h1 : n = 18
  · rw [if_pos h1, if_pos h1]
    by_cases h : c = 32
    · rw [if_pos h, dec_t _ (.inl h)]
    · rw [if_neg h]; congr 1; exact dec_iff _ _ (by omega)
  rw [if_neg h1, if_neg h1]
  by_cases h2 : n = 19
  · rw [if_pos h2, if_pos h2]
  rw [if_neg h2, if_neg h2]
  by_cases h3 : n = 22
  · rw [if_pos h3, if_pos h3]
  rw [if_neg h3, if_neg h3]
  by_cases h4 : n = 26
  · rw [if_pos h4, if_pos h4]
  · rw [if_neg h4, if_neg h4]
theorem one_f (n : Int) : narrow_one.f n = some (kindN n) := by
  unfold narrow_one.f kindN
  by_cases h1 : n = 18
  · rw [if_pos h1, dec_t _ (.inl h1)]
  rw [if_neg h1]
  by_cases h2 : n = 19
  · rw [if_pos h2, dec_t _ (.inr (.inl h2))]
  rw [if_neg h2]
  by_cases h3 : n = 22
  · rw [if_pos h3, dec_t _ (.inr (.inr (.inl h3)))]
  rw [if_neg h3]
  congr 1
  rw [show (n == 26) = decide (n = 26) from rfl]
  exact dec_iff _ _ (by omega)
theorem has_bd {n c : Int} (h : hasN n c = true) : 0 ≤ c ∧ c ≤ 127 := by
  unfold hasN prn at h
  split at h
  · have := of_decide_eq_true h; omega
  · split at h
    · have := of_decide_eq_true h; omega
    · split at h
      · have := of_decide_eq_true h; omega
      · split at h
        · have := of_decide_eq_true h; omega
        · cases h
def putN (n e : Int) : List Int → Int → List Int → List Int × Int × Int
  | [], _, acc => (acc, 0, 0)
  | c :: t, i, acc => if hasN n c = true then putN n e t (i + 1) (acc ++ [c]) else ([], i, e)
theorem put_l0 (n : Int) (xs : List Int) (hx : xs.length ≤ 4000) : ∀ (d k i : Nat) (acc : List Int), i + d = xs.length → d + 1 < k → acc.length ≤ i → narrow_Put.l0 k n acc xs xs.length i = some (putN n 14 (xs.drop i) i acc) := by
  intro d
  induction d with
  | zero =>
    intro k i acc hi hk ha
    obtain ⟨k, rfl⟩ : ∃ m, k = m + 1 := ⟨k - 1, by omega⟩
    rw [narrow_Put.l0, if_neg (by omega), List.drop_eq_nil_of_le (by omega)]; rfl
  | succ d ih =>
    intro k i acc hi hk ha
    obtain ⟨k, rfl⟩ : ∃ m, k = m + 1 := ⟨k - 1, by omega⟩
    have hlt : i < xs.length := by omega
    rw [List.drop_eq_getElem_cons hlt, narrow_Put.l0, if_pos (by omega), if_pos (by omega), if_pos (by omega), rd_nat xs i hlt, has_f k (by omega)]
    simp only [Option.bind_some, putN]
    by_cases h1 : hasN n xs[i] = true
    · have hb := has_bd h1
      rw [if_pos h1, if_pos h1, if_pos (by omega), show xs[i] % 256 = xs[i] by omega, w64_nat hlt (by omega), ih k (i + 1) _ (by omega) (by omega) (by rw [List.length_append]; simp; omega)]
      rfl
    · rw [if_neg h1, if_neg h1]
theorem put_f (n : Int) (xs : List Int) (k : Nat) (hx : xs.length ≤ 4000) (hk : 4010 < k) : narrow_Put.f k n xs = some (if kindN n = true then putN n 14 xs 0 [] else ([], 0, 18)) := by
  unfold narrow_Put.f
  rw [one_f]
  simp only [Option.bind_some]
  by_cases h : kindN n = true
  · rw [if_pos h, if_pos h]
    have := put_l0 n xs hx xs.length k 0 [] (by omega) (by omega) (by simp)
    simpa using this
  · rw [if_neg h, if_neg h]
theorem get_l0 (n : Int) (xs : List Int) (hx : xs.length ≤ 4000) (hb : ∀ x ∈ xs, 0 ≤ x ∧ x < 256) : ∀ (d k i : Nat) (acc : List Int), i + d = xs.length → d + 1 < k → acc.length ≤ i → narrow_Get.l0 k n acc xs xs.length i = some (putN n 13 (xs.drop i) i acc) := by
  intro d
  induction d with
  | zero =>
    intro k i acc hi hk ha
    obtain ⟨k, rfl⟩ : ∃ m, k = m + 1 := ⟨k - 1, by omega⟩
    rw [narrow_Get.l0, if_neg (by omega), List.drop_eq_nil_of_le (by omega)]; rfl
  | succ d ih =>
    intro k i acc hi hk ha
    obtain ⟨k, rfl⟩ : ∃ m, k = m + 1 := ⟨k - 1, by omega⟩
    have hlt : i < xs.length := by omega
    have hbx := hb xs[i] (List.getElem_mem hlt)
    rw [List.drop_eq_getElem_cons hlt, narrow_Get.l0, if_pos (by omega), if_pos (by omega), if_pos (by omega), rd_nat xs i hlt, w64 (x := xs[i]) (by omega) (by omega), has_f k (by omega)]
    simp only [Option.bind_some, putN]
    by_cases h1 : hasN n xs[i] = true
    · rw [if_pos h1, if_pos h1, if_pos (by omega), w64_nat hlt (by omega), ih k (i + 1) _ (by omega) (by omega) (by rw [List.length_append]; simp; omega)]
      rfl
    · rw [if_neg h1, if_neg h1]
theorem get_f (n : Int) (xs : List Int) (k : Nat) (hx : xs.length ≤ 4000) (hb : ∀ x ∈ xs, 0 ≤ x ∧ x < 256) (hk : 4010 < k) : narrow_Get.f k n xs = some (if kindN n = true then putN n 13 xs 0 [] else ([], 0, 18)) := by
  unfold narrow_Get.f
  rw [one_f]
  simp only [Option.bind_some]
  by_cases h : kindN n = true
  · rw [if_pos h, if_pos h]
    have := get_l0 n xs hx hb xs.length k 0 [] (by omega) (by omega) (by simp)
    simpa using this
  · rw [if_neg h, if_neg h]
theorem putN_len (n e : Int) : ∀ (xs : List Int) (i : Int) (acc : List Int), (putN n e xs i acc).1.length ≤ acc.length + xs.length := by
  intro xs
  induction xs with
  | nil => intro i acc; simp [putN]
  | cons c t ih =>
    intro i acc
    simp only [putN]
    split
    · have h1 := ih (i + 1) (acc ++ [c])
      simp only [List.length_append, List.length_cons, List.length_nil] at h1 ⊢
      omega
    · simp
theorem putN_ok (n e : Int) (he : e ≠ 0) : ∀ (xs : List Int) (i : Int) (acc : List Int), (putN n e xs i acc).2.2 = 0 → (∀ c ∈ xs, hasN n c = true) := by
  intro xs
  induction xs with
  | nil => intro i acc _; simp
  | cons c t ih =>
    intro i acc h
    simp only [putN] at h
    by_cases hc : hasN n c = true
    · rw [if_pos hc] at h
      intro x hx
      rcases List.mem_cons.1 hx with rfl | hx
      · exact hc
      · exact ih _ _ h x hx
    · rw [if_neg hc] at h
      exact absurd h he
theorem putN_all (n e : Int) : ∀ (xs : List Int) (i : Int) (acc : List Int), (∀ c ∈ xs, hasN n c = true) → putN n e xs i acc = (acc ++ xs, 0, 0) := by
  intro xs
  induction xs with
  | nil => intro i acc _; simp [putN]
  | cons c t ih =>
    intro i acc h
    simp only [putN]
    rw [if_pos (h c (by simp)), ih _ _ (fun x hx => h x (by simp [hx])), List.append_assoc]
    rfl
theorem wfu8 {xs : List Int} (h : ∀ x ∈ xs, (Lit.int .u8 x).wf = true) : ∀ x ∈ xs, 0 ≤ x ∧ x < 256 := by
  intro x hx
  have := h x hx
  simp [Lit.wf, show IntKind.u8.min = 0 from rfl, show IntKind.u8.max = 255 from rfl] at this
  omega
theorem wakes_ok (k : Nat) (hk : 40 ≤ k) : sobriquetlaw15_wakes.f = some true := rfl

theorem NarrowIn : sobriquetlaw15_NarrowIn.Pure := by
  intro c _
  obtain ⟨k, hk⟩ : ∃ k, 100 ≤ k := ⟨100, Nat.le_refl _⟩
  refine ⟨k, ?_⟩
  unfold sobriquetlaw15_NarrowIn.f
  rw [has_f k (by omega), has_f k (by omega), has_f k (by omega), has_f k (by omega), has_f k (by omega), wakes_ok k (by omega)]
  simp only [Option.bind_some]
  have e12 : hasN 12 c = false := rfl
  have e22 : hasN 22 c = decide (0 ≤ c ∧ c ≤ 127) := rfl
  have e26 : hasN 26 c = decide (32 ≤ c ∧ c ≤ 126) := rfl
  have e19 : hasN 19 c = prn c := rfl
  have e18 : hasN 18 c = decide (c = 32 ∨ (48 ≤ c ∧ c ≤ 57)) := rfl
  rw [e12, e22, e26, e19, e18]
  have p1 : prn c = true → 32 ≤ c ∧ c ≤ 126 := by
    intro h; unfold prn at h; have := of_decide_eq_true h; omega
  have p2 : (c = 32 ∨ (48 ≤ c ∧ c ≤ 57)) → prn c = true := by
    intro h; unfold prn; rw [dec_t _ (by omega)]
  simp only [Bool.false_eq_true, if_false]
  by_cases h5 : 0 ≤ c ∧ c ≤ 127
  · rw [dec_t _ h5, if_pos (show c ≥ 0 from h5.1), dec_t (c < 128) (by omega)]
    by_cases h3 : 32 ≤ c ∧ c ≤ 126
    · rw [dec_t _ h3, if_pos (show c ≥ 32 from h3.1), dec_t (c < 127) (by omega)]
      by_cases h1 : c = 32 ∨ (48 ≤ c ∧ c ≤ 57)
      · rw [dec_t _ h1, p2 h1]; rfl
      · rw [dec_f _ h1]
        cases prn c <;> rfl
    · have : prn c = false := by
        cases h : prn c with
        | false => rfl
        | true => exact absurd (p1 h) h3
      have h1 : ¬ (c = 32 ∨ (48 ≤ c ∧ c ≤ 57)) := by omega
      rw [dec_f _ h3, this, dec_f _ h1]
      by_cases h6 : c ≥ 32
      · rw [if_pos h6, dec_f (c < 127) (by omega)]; rfl
      · rw [if_neg h6]; rfl
  · have h3 : ¬ (32 ≤ c ∧ c ≤ 126) := by omega
    have : prn c = false := by
      cases h : prn c with
      | false => rfl
      | true => exact absurd (p1 h) h3
    have h1 : ¬ (c = 32 ∨ (48 ≤ c ∧ c ≤ 57)) := by omega
    rw [dec_f _ h3, this, dec_f _ h1, dec_f _ h5]
    by_cases h0 : c ≥ 0
    · rw [if_pos h0, dec_f (c < 128) (by omega), if_pos (show c ≥ 32 by omega), dec_f (c < 127) (by omega)]; rfl
    · rw [if_neg h0, if_neg (show ¬ c ≥ 32 by omega)]; rfl

end Go.Proofs.Ytklgifnkoeadpaa.Pure
