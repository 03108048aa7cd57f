/- The plain law of identifiers: when one is right; its content; what a content is read to. No program here but oid.Check's printed function. -/
import Derived.Test.YtdnclldebkpkfaaDoorOp
import Derived.Lib.ItoaLen
import Derived.Lib.SplitLaws
namespace Go.Proofs.YtdnclldebkpkfaaDoor.Oid
open Go.RowKit Go.Proofs.YtdnclldebkpkfaaDoorW.PrintWords Go.Proofs.YtdnclldebkpkfaaDoorW.PrintLast Go.Proofs.YtdnclldebkpkfaaDoorW.PrintMore
open Go.Proofs
set_option linter.unusedVariables false
set_option linter.unusedSimpArgs false
/-! ### Right ones -/
def OkL (l : List Int) : Prop := 2 ≤ l.length ∧ l.length ≤ 40 ∧ (∀ x ∈ l, 0 ≤ x) ∧ l.getD 0 0 ≤ 2 ∧ (l.getD 0 0 < 2 → l.getD 1 0 < 40) ∧ l.getD 1 0 ≤ 9223372036854775727
instance (l : List Int) : Decidable (OkL l) := by unfold OkL; infer_instance
theorem min_fold (l : List Int) : ∀ a : Int, l.foldl min a < 0 ↔ a < 0 ∨ ∃ x ∈ l, x < 0 := by
  induction l with
  | nil => intro a; simp
  | cons x r ih =>
    intro a
    rw [List.foldl_cons, ih]
    simp only [List.mem_cons]
    constructor
    · rintro (h | ⟨y, hy, h0⟩)
      · by_cases h2 : a < 0
        · exact .inl h2
        · exact .inr ⟨x, .inl rfl, by omega⟩
      · exact .inr ⟨y, .inr hy, h0⟩
    · rintro (h | ⟨y, rfl | hy, h0⟩)
      · left; omega
      · left; omega
      · exact .inr ⟨y, hy, h0⟩
theorem min_neg (l : List Int) (h : l ≠ []) : Lib.minOf l < 0 ↔ ∃ x ∈ l, x < 0 := by
  unfold Lib.minOf
  rw [min_fold]
  cases l with
  | nil => exact absurd rfl h
  | cons x r => simp
theorem rd_d (l : List Int) (i : Nat) : rd l (i : Int) = l.getD i 0 := by simp [rd]
theorem check_spec (l : List Int) : oid_Check.f l = some (if OkL l then 0 else 8) := by
  unfold oid_Check.f
  by_cases h1 : (l.length : Int) < 2
  · rw [if_pos h1, if_neg (fun q => by have := q.1; omega)]
  rw [if_neg h1]
  by_cases h2 : (l.length : Int) > 40
  · rw [if_pos h2, if_neg (fun q => by have := q.2.1; omega)]
  have hne : l ≠ [] := fun e => by rw [e] at h1; simp at h1
  have hm : slices_Min_int_int.f l = some (Lib.minOf l) := by
    show minF l = _
    unfold minF
    rw [if_neg hne]
  rw [if_neg h2, hm, Option.bind_some]
  by_cases h3 : Lib.minOf l < 0
  · rw [if_pos h3, if_neg (fun q => by
      obtain ⟨x, hx, h0⟩ := (min_neg l hne).1 h3
      have := q.2.2.1 x hx
      omega)]
  have hall : ∀ x ∈ l, 0 ≤ x := fun x hx => by
    rcases Int.lt_or_le x 0 with h | h
    · exact absurd ((min_neg l hne).2 ⟨x, hx, h⟩) h3
    · exact h
  have e0 : rd l 0 = l.getD 0 0 := rd_d l 0
  have e1 : rd l 1 = l.getD 1 0 := rd_d l 1
  rw [if_neg h3, if_pos (by omega), e0, e1]
  by_cases h4 : l.getD 0 0 > 2
  · rw [if_pos h4, if_neg (fun q => by have := q.2.2.2.1; omega)]
  rw [if_neg h4]
  by_cases h5 : l.getD 0 0 < 2
  · rw [if_pos h5, if_pos (by omega)]
    by_cases h6 : l.getD 1 0 ≥ 40
    · rw [if_pos h6, if_neg (fun q => by have := q.2.2.2.2.1 h5; omega)]
    rw [if_neg h6]
    by_cases h7 : l.getD 1 0 > 9223372036854775727
    · rw [if_pos h7, if_neg (fun q => by have := q.2.2.2.2.2; omega)]
    · rw [if_neg h7, if_pos ⟨by omega, by omega, hall, by omega, fun _ => by omega, by omega⟩]
  · rw [if_neg h5, if_pos (by omega)]
    by_cases h7 : l.getD 1 0 > 9223372036854775727
    · rw [if_pos h7, if_neg (fun q => by have := q.2.2.2.2.2; omega)]
    · rw [if_neg h7, if_pos ⟨by omega, by omega, hall, by omega, fun h => absurd h h5, by omega⟩]
/-! ### A number's bytes -/
def contLE (m : Int) : List Int := if m ≤ 0 then [] else (m % 128 + 128) :: contLE (m / 128)
termination_by m.toNat
decreasing_by omega
def contBE (m : Int) : List Int := (contLE m).reverse
def enc7 (n : Int) : List Int := contBE (n / 128) ++ [n % 128]
theorem contLE_pos (m : Int) (h : 0 < m) : contLE m = (m % 128 + 128) :: contLE (m / 128) := by rw [contLE, if_neg (by omega)]
theorem contLE_nil (m : Int) (h : m ≤ 0) : contLE m = [] := by rw [contLE, if_pos h]
theorem contBE_pos (m : Int) (h : 0 < m) : contBE m = contBE (m / 128) ++ [m % 128 + 128] := by unfold contBE; rw [contLE_pos m h, List.reverse_cons]
theorem contBE_nil (m : Int) (h : m ≤ 0) : contBE m = [] := by unfold contBE; rw [contLE_nil m h]; rfl
theorem contLE_len : ∀ (d : Nat) (m : Int), m < 128 ^ d → (contLE m).length ≤ d
  | 0, m, h => by rw [contLE_nil m (by simp at h; omega)]; simp
  | d + 1, m, h => by
    by_cases h0 : 0 < m
    · rw [contLE_pos m h0, List.length_cons]
      have e : (128 : Int) ^ (d + 1) = 128 ^ d * 128 := Int.pow_succ ..
      rw [e] at h
      have := contLE_len d (m / 128) (by omega)
      omega
    · rw [contLE_nil m (by omega)]; simp
theorem enc7_len (n : Int) (h0 : 0 ≤ n) (h1 : n ≤ 9223372036854775807) : 1 ≤ (enc7 n).length ∧ (enc7 n).length ≤ 9 := by
  unfold enc7 contBE
  rw [List.length_append, List.length_reverse, List.length_singleton]
  have := contLE_len 8 (n / 128) (by omega)
  omega
theorem cont_byte (m : Int) (h : 0 ≤ m) : ∀ x ∈ contBE m, 128 ≤ x ∧ x < 256 := by
  by_cases h0 : 0 < m
  · rw [contBE_pos m h0]
    intro x hx
    rcases List.mem_append.1 hx with hx | hx
    · exact cont_byte (m / 128) (by omega) x hx
    · rw [List.mem_singleton.1 hx]; omega
  · rw [contBE_nil m (by omega)]
    intro x hx; cases hx
termination_by m.toNat
decreasing_by omega
theorem enc7_byte (n : Int) (h : 0 ≤ n) : ∀ x ∈ enc7 n, 0 ≤ x ∧ x < 256 := by
  unfold enc7
  intro x hx
  rcases List.mem_append.1 hx with hx | hx
  · have := cont_byte (n / 128) (by omega) x hx; omega
  · rw [List.mem_singleton.1 hx]; omega
/-! ### A number read -/
def numP (a : Int) (first : Bool) : List Int → Option (Int × Nat)
  | [] => none
  | c :: r => if (first = true ∧ c = 128) ∨ a > 72057594037927935 then none else if c < 128 then some (a * 128 + c % 128, 1) else (numP (a * 128 + c % 128) false r).map (fun p => (p.1, p.2 + 1))
theorem numP_cont (r : List Int) : ∀ (d : Nat) (m : Int) (s : List Int), 0 < m → m < 128 ^ d → m ≤ 72057594037927935 → numP 0 true (contBE m ++ s) = (numP m false s).map (fun p => (p.1, p.2 + (contBE m).length)) := by
  intro d
  induction d with
  | zero => intro m s h0 h1 h2; simp at h1; omega
  | succ d ih =>
    intro m s h0 h1 h2
    have e : (128 : Int) ^ (d + 1) = 128 ^ d * 128 := Int.pow_succ ..
    rw [e] at h1
    rw [contBE_pos m h0, List.append_assoc, List.singleton_append]
    by_cases h3 : 0 < m / 128
    · rw [ih (m / 128) _ h3 (by omega) (by omega), numP, if_neg (by rintro (⟨q, _⟩ | q); cases q; omega), if_neg (by omega), show m / 128 * 128 + (m % 128 + 128) % 128 = m by omega, List.length_append, List.length_singleton]
      cases numP m false s with
      | none => rfl
      | some p => simp; omega
    · rw [contBE_nil (m / 128) (by omega), List.nil_append, numP, if_neg (by omega), if_neg (by omega), show (0 : Int) * 128 + (m % 128 + 128) % 128 = m by omega]
      rfl
theorem numP_enc (n : Int) (h0 : 0 ≤ n) (h1 : n ≤ 9223372036854775807) (r : List Int) : numP 0 true (enc7 n ++ r) = some (n, (enc7 n).length) := by
  unfold enc7
  rw [List.append_assoc, List.singleton_append, List.length_append, List.length_singleton]
  by_cases h : 0 < n / 128
  · rw [numP_cont r 9 (n / 128) _ h (by omega) (by omega), numP, if_neg (by rintro (⟨q, _⟩ | q); cases q; omega), if_pos (by omega), show n / 128 * 128 + n % 128 % 128 = n by omega]
    simp; omega
  · rw [contBE_nil _ (by omega), List.nil_append, numP, if_neg (by omega), if_pos (by omega), show (0 : Int) * 128 + n % 128 % 128 = n by omega]
    simp
theorem numP_inv : ∀ (b : List Int) (a : Int) (first : Bool) (pre : List Int) (n : Int) (u : Nat), (∀ x ∈ b, 0 ≤ x ∧ x < 256) → 0 ≤ a → a ≤ 9223372036854775807 → (first = true → a = 0 ∧ pre = []) → (first = false → 0 < a) → pre = contBE a → numP a first b = some (n, u) →
    0 ≤ n ∧ n ≤ 9223372036854775807 ∧ 1 ≤ u ∧ u ≤ b.length ∧ pre ++ b.take u = enc7 n
  | [], a, first, pre, n, u, hb, h0, h1, hf, hg, hp, h => by cases h
  | c :: r, a, first, pre, n, u, hb, h0, h1, hf, hg, hp, h => by
    have hc := hb c List.mem_cons_self
    rw [numP] at h
    by_cases q : (first = true ∧ c = 128) ∨ a > 72057594037927935
    · rw [if_pos q] at h; cases h
    rw [if_neg q] at h
    have ha : a ≤ 72057594037927935 := by
      rcases Int.lt_or_le 72057594037927935 a with q2 | q2
      · exact absurd (.inr q2) q
      · exact q2
    by_cases q2 : c < 128
    · rw [if_pos q2] at h
      obtain ⟨rfl, rfl⟩ := Prod.mk.inj (Option.some.inj h)
      refine ⟨by omega, by omega, Nat.le_refl _, by simp, ?_⟩
      unfold enc7
      rw [List.take_succ_cons, List.take_zero, hp, show (a * 128 + c % 128) / 128 = a by omega, show (a * 128 + c % 128) % 128 = c by omega]
    · rw [if_neg q2] at h
      obtain ⟨⟨n', u'⟩, h3, h4⟩ := Option.map_eq_some_iff.1 h
      obtain ⟨rfl, rfl⟩ := Prod.mk.inj h4
      have hpos : 0 < a * 128 + c % 128 := by
        cases first with
        | false => have := hg rfl; omega
        | true =>
          have h5 : c ≠ 128 := fun e => q (.inl ⟨rfl, e⟩)
          have := hf rfl
          omega
      have ih := numP_inv r (a * 128 + c % 128) false (pre ++ [c]) n' u' (fun x hx => hb x (List.mem_cons_of_mem _ hx)) (by omega) (by omega) (fun e => by cases e) (fun _ => hpos) (by
        rw [contBE_pos _ hpos, hp, show (a * 128 + c % 128) / 128 = a by omega, show (a * 128 + c % 128) % 128 + 128 = c by omega]) h3
      obtain ⟨i1, i2, i3, i4, i5⟩ := ih
      refine ⟨i1, i2, by omega, by rw [List.length_cons]; omega, ?_⟩
      rw [List.take_succ_cons, ← i5, List.append_assoc, List.singleton_append]
theorem numP_enc7 (b : List Int) (hb : ∀ x ∈ b, 0 ≤ x ∧ x < 256) (n : Int) (u : Nat) (h : numP 0 true b = some (n, u)) : 0 ≤ n ∧ n ≤ 9223372036854775807 ∧ 1 ≤ u ∧ u ≤ b.length ∧ b.take u = enc7 n := by
  have := numP_inv b 0 true [] n u hb (by omega) (by omega) (fun _ => ⟨rfl, rfl⟩) (fun e => by cases e) (by rw [contBE_nil 0 (by omega)]) h
  simpa using this
/-! ### A content read -/
def two (n : Int) : List Int := [mn (n / 40) 2, n - 40 * mn (n / 40) 2]
def fin (l : List Int) : List Int × Int := if OkL l then (l, 0) else ([], 8)
def contentL (l : List Int) : List Int := enc7 (40 * l.getD 0 0 + l.getD 1 0) ++ (l.drop 2).flatMap enc7
def readP : Nat → List Int → List Int → List Int × Int
  | 0, _, _ => ([], 8)
  | d + 1, b, l => if b = [] ∨ 40 < l.length then fin l else
      match numP 0 true b with
      | none => ([], 8)
      | some p => readP d (b.drop p.2) (if l = [] then two p.1 else l ++ [p.1])
theorem enc7_ne (n : Int) : enc7 n ≠ [] := by unfold enc7; simp
theorem fin_ok {l : List Int} (h : OkL l) : fin l = (l, 0) := by unfold fin; rw [if_pos h]
theorem fin_no {l : List Int} (h : ¬ OkL l) : fin l = ([], 8) := by unfold fin; rw [if_neg h]
theorem fin_zero {l x : List Int} (h : fin l = (x, 0)) : OkL l ∧ x = l := by
  by_cases q : OkL l
  · rw [fin_ok q] at h
    exact ⟨q, (Prod.mk.inj h).1.symm⟩
  · rw [fin_no q] at h
    have := (Prod.mk.inj h).2
    omega
theorem two_ne (n : Int) : two n ≠ [] := by unfold two; simp
theorem two_sum (n : Int) : 40 * (two n).getD 0 0 + (two n).getD 1 0 = n := by
  show 40 * mn (n / 40) 2 + (n - 40 * mn (n / 40) 2) = n
  omega
theorem two_len (n : Int) : (two n).length = 2 := rfl
theorem read_tail : ∀ (ns l : List Int) (d : Nat), l ≠ [] → l.length + ns.length ≤ 40 → (∀ n ∈ ns, 0 ≤ n ∧ n ≤ 9223372036854775807) → ns.length < d → readP d (ns.flatMap enc7) l = fin (l ++ ns)
  | [], l, d, hl, h4, hn, hd => by
    obtain ⟨d, rfl⟩ : ∃ m, d = m + 1 := ⟨d - 1, by omega⟩
    rw [readP, if_pos (.inl rfl), List.append_nil]
  | n :: r, l, d, hl, h4, hn, hd => by
    obtain ⟨d, rfl⟩ : ∃ m, d = m + 1 := ⟨d - 1, by omega⟩
    obtain ⟨n0, n1⟩ := hn n List.mem_cons_self
    rw [List.length_cons] at h4 hd
    rw [List.flatMap_cons, readP, if_neg (by
      rintro (q | q)
      · exact enc7_ne n (List.append_eq_nil_iff.1 q).1
      · omega), numP_enc n n0 n1]
    dsimp only
    rw [if_neg hl, List.drop_left, read_tail r (l ++ [n]) d (by simp) (by rw [List.length_append, List.length_singleton]; omega) (fun m hm => hn m (List.mem_cons_of_mem _ hm)) (by omega), List.append_assoc, List.singleton_append]
theorem read_enc (l : List Int) (h : OkL l) (hb : ∀ x ∈ l, x ≤ 9223372036854775807) (d : Nat) (hd : l.length ≤ d) : readP d (contentL l) [] = (l, 0) := by
  obtain ⟨d, rfl⟩ : ∃ m, d = m + 1 := ⟨d - 1, by have := h.1; omega⟩
  match l, h with
  | [], h => exact absurd h.1 (by simp)
  | [a], h => exact absurd h.1 (by simp)
  | a :: b :: r, h =>
    have h0 := h
    obtain ⟨q1, q2, q3, q4, q5, q6⟩ := h
    replace q4 : a ≤ 2 := q4
    replace q5 : a < 2 → b < 40 := q5
    replace q6 : b ≤ 9223372036854775727 := q6
    have a0 := q3 a List.mem_cons_self
    have b0 := q3 b (by simp)
    have ec : contentL (a :: b :: r) = enc7 (40 * a + b) ++ r.flatMap enc7 := rfl
    have hp : numP 0 true (contentL (a :: b :: r)) = some (40 * a + b, (enc7 (40 * a + b)).length) := by
      rw [ec]
      exact numP_enc _ (by omega) (by omega) _
    rw [readP, if_neg (by
      rintro (q | q)
      · rw [ec] at q
        exact enc7_ne _ (List.append_eq_nil_iff.1 q).1
      · simp at q), hp]
    dsimp only
    have e2 : two (40 * a + b) = [a, b] := by
      have e : mn ((40 * a + b) / 40) 2 = a := by unfold mn; split <;> omega
      unfold two
      rw [e, show 40 * a + b - 40 * a = b by omega]
    rw [if_pos rfl, e2, ec, List.drop_left, read_tail r [a, b] d (by simp) (by simp at q2 ⊢; omega) (fun n hn => ⟨q3 n (by simp [hn]), hb n (by simp [hn])⟩) (by simp at hd; omega)]
    exact fin_ok h0
theorem read_shape : ∀ (d : Nat) (b l : List Int), (∃ x, readP d b l = (x, 0) ∧ OkL x) ∨ readP d b l = ([], 8)
  | 0, b, l => .inr rfl
  | d + 1, b, l => by
    rw [readP]
    by_cases q : b = [] ∨ 40 < l.length
    · rw [if_pos q]
      by_cases h : OkL l
      · exact .inl ⟨l, fin_ok h, h⟩
      · exact .inr (fin_no h)
    · rw [if_neg q]
      cases numP 0 true b with
      | none => exact .inr rfl
      | some p => exact read_shape d _ _
theorem drop_bytes {b : List Int} (hb : ∀ x ∈ b, 0 ≤ x ∧ x < 256) (u : Nat) : ∀ x ∈ b.drop u, 0 ≤ x ∧ x < 256 := fun x hx => hb x (List.mem_of_mem_drop hx)
theorem read_inv : ∀ (d : Nat) (b l x : List Int), (∀ y ∈ b, 0 ≤ y ∧ y < 256) → l ≠ [] → readP d b l = (x, 0) → ∃ ns, x = l ++ ns ∧ b = ns.flatMap enc7 ∧ ∀ n ∈ ns, 0 ≤ n ∧ n ≤ 9223372036854775807
  | 0, b, l, x, hb, hl, h => by
    have := (Prod.mk.inj h).2
    omega
  | d + 1, b, l, x, hb, hl, h => by
    rw [readP] at h
    by_cases q : b = [] ∨ 40 < l.length
    · rw [if_pos q] at h
      obtain ⟨h1, rfl⟩ := fin_zero h
      rcases q with q | q
      · exact ⟨[], (List.append_nil _).symm, q, fun n hn => by cases hn⟩
      · exact absurd h1.2.1 (by omega)
    · rw [if_neg q] at h
      cases hp : numP 0 true b with
      | none => rw [hp] at h; have := (Prod.mk.inj h).2; omega
      | some p =>
        obtain ⟨n, u⟩ := p
        rw [hp] at h
        dsimp only at h
        rw [if_neg hl] at h
        obtain ⟨n0, n1, u0, u1, ht⟩ := numP_enc7 b hb n u hp
        obtain ⟨ns, e1, e2, e3⟩ := read_inv d (b.drop u) (l ++ [n]) x (drop_bytes hb u) (by simp) h
        refine ⟨n :: ns, by rw [e1, List.append_assoc]; rfl, ?_, fun m hm => ?_⟩
        · rw [List.flatMap_cons, ← ht, ← e2, List.take_append_drop]
        · rcases List.mem_cons.1 hm with rfl | hm
          · exact ⟨n0, n1⟩
          · exact e3 m hm
theorem read_back (d : Nat) (b x : List Int) (hb : ∀ y ∈ b, 0 ≤ y ∧ y < 256) (h : readP d b [] = (x, 0)) : OkL x ∧ b = contentL x ∧ ∀ n ∈ x, n ≤ 9223372036854775807 := by
  have hok : OkL x := by
    rcases read_shape d b [] with ⟨y, h1, h2⟩ | h1
    · rw [h] at h1
      rw [(Prod.mk.inj h1).1]; exact h2
    · rw [h] at h1
      have := (Prod.mk.inj h1).2
      omega
  refine ⟨hok, ?_⟩
  cases d with
  | zero => have := (Prod.mk.inj h).2; omega
  | succ d =>
    rw [readP] at h
    by_cases q : b = [] ∨ 40 < ([] : List Int).length
    · rw [if_pos q] at h
      obtain ⟨h1, _⟩ := fin_zero h
      exact absurd h1.1 (by simp)
    · rw [if_neg q] at h
      cases hp : numP 0 true b with
      | none => rw [hp] at h; have := (Prod.mk.inj h).2; omega
      | some p =>
        obtain ⟨n, u⟩ := p
        rw [hp] at h
        dsimp only at h
        rw [if_pos rfl] at h
        obtain ⟨n0, n1, u0, u1, ht⟩ := numP_enc7 b hb n u hp
        obtain ⟨ns, e1, e2, e3⟩ := read_inv d (b.drop u) (two n) x (drop_bytes hb u) (two_ne n) h
        have hc : contentL x = enc7 n ++ ns.flatMap enc7 := by
          rw [e1]
          show enc7 (40 * (two n).getD 0 0 + (two n).getD 1 0) ++ ns.flatMap enc7 = _
          rw [two_sum]
        refine ⟨by rw [hc, ← ht, ← e2, List.take_append_drop], fun m hm => ?_⟩
        rw [e1] at hm
        rcases List.mem_append.1 hm with hm | hm
        · unfold two mn at hm
          simp only [List.mem_cons, List.not_mem_nil, or_false] at hm
          rcases hm with rfl | rfl <;> split <;> omega
        · exact (e3 m hm).2
theorem content_bytes (l : List Int) (h : OkL l) (hb : ∀ x ∈ l, x ≤ 9223372036854775807) : (∀ y ∈ contentL l, 0 ≤ y ∧ y < 256) ∧ contentL l ≠ [] := by
  match l, h with
  | [], h => exact absurd h.1 (by simp)
  | [a], h => exact absurd h.1 (by simp)
  | a :: b :: r, h =>
    have ec : contentL (a :: b :: r) = enc7 (40 * a + b) ++ r.flatMap enc7 := rfl
    have a0 := h.2.2.1 a List.mem_cons_self
    have b0 := h.2.2.1 b (by simp)
    rw [ec]
    refine ⟨fun y hy => ?_, fun q => enc7_ne _ (List.append_eq_nil_iff.1 q).1⟩
    rcases List.mem_append.1 hy with hy | hy
    · exact enc7_byte _ (by omega) y hy
    · obtain ⟨n, hn, hy⟩ := List.mem_flatMap.1 hy
      exact enc7_byte n (h.2.2.1 n (by simp [hn])) y hy
theorem flat_ge : ∀ r : List Int, r.length ≤ (r.flatMap enc7).length
  | [] => Nat.le_refl _
  | n :: r => by
    have h1 := flat_ge r
    have h2 : 1 ≤ (enc7 n).length := by unfold enc7; simp
    rw [List.flatMap_cons, List.length_append, List.length_cons]
    omega
theorem flat_le : ∀ r : List Int, (∀ x ∈ r, 0 ≤ x ∧ x ≤ 9223372036854775807) → (r.flatMap enc7).length ≤ 9 * r.length
  | [], _ => by simp
  | n :: r, h => by
    have h1 := flat_le r (fun x hx => h x (List.mem_cons_of_mem _ hx))
    have h2 := enc7_len n (h n List.mem_cons_self).1 (h n List.mem_cons_self).2
    rw [List.flatMap_cons, List.length_append, List.length_cons]
    omega
theorem content_len (l : List Int) (h : OkL l) (hb : ∀ x ∈ l, x ≤ 9223372036854775807) : l.length ≤ (contentL l).length + 1 ∧ (contentL l).length ≤ 9 * l.length := by
  match l, h with
  | [], h => exact absurd h.1 (by simp)
  | [a], h => exact absurd h.1 (by simp)
  | a :: b :: r, h =>
    have ec : contentL (a :: b :: r) = enc7 (40 * a + b) ++ r.flatMap enc7 := rfl
    obtain ⟨q1, q2, q3, q4, q5, q6⟩ := h
    replace q4 : a ≤ 2 := q4
    replace q6 : b ≤ 9223372036854775727 := q6
    have a0 := q3 a List.mem_cons_self
    have b0 := q3 b (by simp)
    have h1 := enc7_len (40 * a + b) (by omega) (by omega)
    have h2 := flat_ge r
    have h3 := flat_le r (fun x hx => ⟨q3 x (by simp [hx]), hb x (by simp [hx])⟩)
    rw [ec, List.length_append, List.length_cons, List.length_cons]
    omega
/-! ### Words of a text -/
def splitC : List UInt8 → List (List UInt8)
  | [] => [[]]
  | c :: r => if c = 46 then [] :: splitC r else match splitC r with
    | [] => [[c]]
    | w :: ws => (c :: w) :: ws
theorem splitC_ne (l : List UInt8) : splitC l ≠ [] := by
  cases l with
  | nil => simp [splitC]
  | cons c r =>
    rw [splitC]
    split
    · simp
    · cases splitC r <;> simp
theorem index_cons_ne {c : UInt8} (h : c ≠ 46) (r : List UInt8) : Lib.index (c :: r) [46] = if Lib.index r [46] == -1 then -1 else Lib.index r [46] + 1 := by
  have hp : ([46] : List UInt8).isPrefixOf (c :: r) = false := by simp [List.isPrefixOf, Ne.symm h]
  rw [Lib.index, hp]; simp
theorem splitK_C : ∀ l : List UInt8, Lib.splitK [46] 0 (Lib.count l [46]) l = splitC l
  | [] => by rw [Lib.count_miss (by simp [Lib.index])]; rfl
  | c :: r => by
    have ih := splitK_C r
    by_cases h : c = 46
    · subst h
      have hix : Lib.index (46 :: r) [46] = ((0 : Nat) : Int) := by rw [Lib.index]; simp [List.isPrefixOf]
      rw [Lib.count_cons_eq, Nat.add_comm, Lib.splitK, hix, if_neg (by decide), splitC, if_pos rfl, ← ih]
      rfl
    · rw [Lib.count_cons_ne c 46 r h, splitC, if_neg h, ← ih]
      cases hk : Lib.count r [46] with
      | zero => rfl
      | succ k =>
        have hm : ¬ Lib.index r [46] = -1 := fun e => by rw [Lib.count_miss e] at hk; cases hk
        have hge := Lib.index_ge r [46]
        obtain ⟨j, hj⟩ : ∃ j : Nat, Lib.index r [46] = j := ⟨(Lib.index r [46]).toNat, by omega⟩
        have hix' : Lib.index (c :: r) [46] = ((j + 1 : Nat) : Int) := by rw [index_cons_ne h, if_neg (fun e => hm (beq_iff_eq.1 e)), hj]; omega
        rw [Lib.splitK, hix', if_neg (by simp <;> omega), Lib.splitK, hj, if_neg (by simp <;> omega)]
        simp only [Int.toNat_natCast, Nat.add_zero, List.length_singleton, List.take_succ_cons]
        rfl
theorem words_data (s : ByteArray) : (words s).map (·.data.toList) = splitC s.data.toList := by
  unfold words
  rw [Lib.splitB_data]
  exact splitK_C _
/-! ### What is read of words -/
def stepC (x : List UInt8) (l : List Int) : Option (List Int) :=
  match Lib.atoiAll x with
  | .ok v => if Lib.itoa v = x then (if (40 : Int) < (l.length : Int) then none else some (l ++ [v])) else none
  | _ => none
def parseC : List (List UInt8) → List Int → Option (List Int)
  | [], l => some l
  | x :: r, l => (stepC x l).bind (parseC r)
def parseS (s : List UInt8) : List Int × Int := match parseC (splitC s) [] with
  | none => ([], 8)
  | some l => fin l
theorem step_C (x : ByteArray) (l : List Int) : stepW x l = stepC x.data.toList l := by
  unfold stepW stepC
  cases Lib.atoiAll x.data.toList
  · dsimp only
    rename_i v
    by_cases h : Lib.itoa v = x.data.toList
    · rw [if_pos h, if_pos (by rw [h])]
    · rw [if_neg h, if_neg (fun e => h (by rw [← e]))]
  · rfl
  · rfl
theorem parse_C : ∀ (ws : List ByteArray) (l : List Int), parseL ws l = parseC (ws.map (·.data.toList)) l
  | [], l => rfl
  | x :: r, l => by
    rw [parse_cons, List.map_cons, parseC, step_C]
    congr 1
    funext a
    exact parse_C r a
theorem parseF_S (s : ByteArray) (h : s.size < 4294967281) : parseF s = some (parseS s.data.toList) := by
  unfold parseF parseS
  rw [if_pos h, parse_C, words_data]
  cases parseC (splitC s.data.toList) [] with
  | none => rfl
  | some l =>
    show (oid_Check.f l).bind _ = _
    rw [check_spec, Option.bind_some]
    dsimp only
    by_cases q : OkL l
    · rw [if_pos q, if_pos rfl, fin_ok q]
    · rw [if_neg q, if_neg (by decide), fin_no q]
/-! ### Numerals -/
theorem parse_app : ∀ (xs ys : List UInt8) (a u : Nat), Lib.parseUint10 a xs = .ok u → Lib.parseUint10 a (xs ++ ys) = Lib.parseUint10 u ys
  | [], ys, a, u, h => by
    rw [Lib.parseUint10] at h
    injection h with h
    rw [h]
    rfl
  | c :: r, ys, a, u, h => by
    rw [Lib.parseUint10] at h
    rw [List.cons_append, Lib.parseUint10]
    by_cases h1 : 48 ≤ c.toNat ∧ c.toNat ≤ 57
    · rw [if_pos h1] at h ⊢
      by_cases h2 : 1844674407370955162 ≤ a
      · rw [if_pos h2] at h; cases h
      · rw [if_neg h2] at h ⊢
        by_cases h3 : 18446744073709551616 ≤ a * 10 + (c.toNat - 48)
        · rw [if_pos h3] at h; cases h
        · rw [if_neg h3] at h ⊢
          exact parse_app r ys _ u h
    · rw [if_neg h1] at h; cases h
theorem dig_nat (d : Nat) (h : d < 10) : (UInt8.ofNat (48 + d)).toNat = 48 + d := by
  rw [UInt8.toNat_ofNat']; omega
theorem parse_digits : ∀ u : Nat, u < 9223372036854775808 → Lib.parseUint10 0 (Lib.decDigits u) = .ok u := by
  intro u
  induction u using Nat.strongRecOn with
  | ind u ih =>
    intro hu
    rw [Lib.decDigits]
    by_cases h : u < 10
    · rw [dif_pos h, Lib.parseUint10, dig_nat u h, if_pos (by omega), if_neg (by omega), if_neg (by omega), Lib.parseUint10]
      congr 1; omega
    · rw [dif_neg h, parse_app _ _ _ _ (ih (u / 10) (by omega) (by omega)), Lib.parseUint10, dig_nat (u % 10) (by omega), if_pos (by omega), if_neg (by omega), if_neg (by omega), Lib.parseUint10]
      congr 1; omega
theorem digits_all : ∀ u : Nat, ∀ c ∈ Lib.decDigits u, 48 ≤ c.toNat ∧ c.toNat ≤ 57 := by
  intro u
  induction u using Nat.strongRecOn with
  | ind u ih =>
    intro c hc
    rw [Lib.decDigits] at hc
    by_cases h : u < 10
    · rw [dif_pos h, List.mem_singleton] at hc
      rw [hc, dig_nat u h]; omega
    · rw [dif_neg h] at hc
      rcases List.mem_append.1 hc with hc | hc
      · exact ih (u / 10) (by omega) c hc
      · rw [List.mem_singleton] at hc
        rw [hc, dig_nat _ (by omega)]; omega
theorem digits_ne (u : Nat) : Lib.decDigits u ≠ [] := by
  rw [Lib.decDigits]
  split <;> simp
theorem itoa_nn (v : Int) (h : 0 ≤ v) : Lib.itoa v = Lib.decDigits v.toNat := by
  unfold Lib.itoa
  rw [if_neg (by omega)]
theorem atoi_itoa (v : Int) (h0 : 0 ≤ v) (h1 : v ≤ 9223372036854775807) : Lib.atoiAll (Lib.itoa v) = .ok v := by
  rw [itoa_nn v h0]
  have hp := parse_digits v.toNat (by omega)
  cases hd : Lib.decDigits v.toNat with
  | nil => exact absurd hd (digits_ne _)
  | cons c r =>
    have hc := digits_all v.toNat c (by rw [hd]; exact List.mem_cons_self)
    rw [hd] at hp
    rw [Lib.atoiAll_plain c r (by omega) (by omega), Lib.parseMag, if_neg (by simp), hp]
    unfold Lib.signless
    dsimp only
    rw [if_neg (by omega)]
    congr 1; omega
theorem itoa_dot (v : Int) : (46 : UInt8) ∉ Lib.itoa v := by
  have h : ∀ u : Nat, (46 : UInt8) ∉ Lib.decDigits u := fun u hu => by
    have := digits_all u 46 hu
    have e : (46 : UInt8).toNat = 46 := rfl
    omega
  unfold Lib.itoa
  split
  · rw [List.mem_cons]
    rintro (q | q)
    · cases q
    · exact h _ q
  · exact h _
/-! ### Joined and taken apart -/
theorem splitC_app (w r : List UInt8) (h : (46 : UInt8) ∉ w) : ∀ x xs, splitC r = x :: xs → splitC (w ++ r) = (w ++ x) :: xs := by
  induction w with
  | nil => intro x xs e; exact e
  | cons c w ih =>
    intro x xs e
    rw [List.mem_cons, not_or] at h
    rw [List.cons_append, splitC, if_neg (fun q => h.1 q.symm), ih h.2 x xs e]
    rfl
theorem tail_cons (y : List UInt8) (ys : List (List UInt8)) : Lib.joinTail [46] (y :: ys) = 46 :: (y ++ Lib.joinTail [46] ys) := rfl
theorem split_tail : ∀ (ys : List (List UInt8)) (w : List UInt8), (46 : UInt8) ∉ w → (∀ y ∈ ys, (46 : UInt8) ∉ y) → splitC (w ++ Lib.joinTail [46] ys) = w :: ys
  | [], w, h, hy => by
    have := splitC_app w [] h [] [] rfl
    simpa [Lib.joinTail] using this
  | y :: ys, w, h, hy => by
    have ih := split_tail ys y (hy y List.mem_cons_self) (fun z hz => hy z (List.mem_cons_of_mem _ hz))
    have e : splitC (Lib.joinTail [46] (y :: ys)) = [] :: (y :: ys) := by rw [tail_cons, splitC, if_pos rfl, ih]
    have := splitC_app w _ h [] _ e
    rw [this, List.append_nil]
theorem split_join (ws : List (List UInt8)) (hne : ws ≠ []) (h : ∀ y ∈ ws, (46 : UInt8) ∉ y) : splitC (Lib.join ws [46]) = ws := by
  cases ws with
  | nil => exact absurd rfl hne
  | cons w ys =>
    rw [Lib.join_cons]
    exact split_tail ys w (h w List.mem_cons_self) (fun y hy => h y (List.mem_cons_of_mem _ hy))
theorem join_split : ∀ l : List UInt8, ∀ w ws, splitC l = w :: ws → w ++ Lib.joinTail [46] ws = l
  | [], w, ws, h => by
    rw [splitC] at h
    obtain ⟨rfl, rfl⟩ := List.cons.inj h
    rfl
  | c :: r, w, ws, h => by
    rw [splitC] at h
    cases hr : splitC r with
    | nil => exact absurd hr (splitC_ne r)
    | cons x xs =>
      have ih := join_split r x xs hr
      rw [hr] at h
      by_cases q : c = 46
      · rw [if_pos q] at h
        obtain ⟨rfl, rfl⟩ := List.cons.inj h
        rw [tail_cons, ih, q]
        rfl
      · rw [if_neg q] at h
        obtain ⟨rfl, rfl⟩ := List.cons.inj h
        rw [List.cons_append, ih]
def textC (l : List Int) : List UInt8 := Lib.join (l.map Lib.itoa) [46]
theorem parse_items : ∀ (l acc : List Int), (∀ v ∈ l, 0 ≤ v ∧ v ≤ 9223372036854775807) → acc.length + l.length ≤ 41 → parseC (l.map Lib.itoa) acc = some (acc ++ l)
  | [], acc, h, hl => by rw [List.map_nil, parseC, List.append_nil]
  | v :: r, acc, h, hl => by
    obtain ⟨v0, v1⟩ := h v List.mem_cons_self
    rw [List.length_cons] at hl
    have hs : stepC (Lib.itoa v) acc = some (acc ++ [v]) := by
      unfold stepC
      rw [atoi_itoa v v0 v1]
      dsimp only
      rw [if_pos rfl, if_neg (by omega)]
    rw [List.map_cons, parseC, hs, Option.bind_some, parse_items r (acc ++ [v]) (fun x hx => h x (List.mem_cons_of_mem _ hx)) (by rw [List.length_append, List.length_singleton]; omega), List.append_assoc, List.singleton_append]
theorem parse_text (l : List Int) (h : OkL l) (hb : ∀ x ∈ l, x ≤ 9223372036854775807) : parseS (textC l) = (l, 0) := by
  unfold parseS textC
  rw [split_join _ (by
    intro e
    have e2 := congrArg List.length e
    rw [List.length_map, List.length_nil] at e2
    have := h.1
    omega) (fun y hy => by
    obtain ⟨v, _, rfl⟩ := List.mem_map.1 hy
    exact itoa_dot v), parse_items l [] (fun v hv => ⟨h.2.2.1 v hv, hb v hv⟩) (by have := h.2.1; simp; omega)]
  exact fin_ok h
theorem parseC_inv : ∀ (ws : List (List UInt8)) (acc x : List Int), parseC ws acc = some x → ∃ ns, x = acc ++ ns ∧ ws = ns.map Lib.itoa ∧ (∀ v ∈ ns, -9223372036854775808 ≤ v ∧ v ≤ 9223372036854775807)
  | [], acc, x, h => by
    obtain rfl := Option.some.inj h
    exact ⟨[], (List.append_nil _).symm, rfl, fun v hv => by cases hv⟩
  | w :: r, acc, x, h => by
    rw [parseC] at h
    obtain ⟨a, h1, h2⟩ := Option.bind_eq_some_iff.1 h
    unfold stepC at h1
    cases ha : Lib.atoiAll w
    · rename_i v
      rw [ha] at h1
      dsimp only at h1
      by_cases q : Lib.itoa v = w
      · rw [if_pos q] at h1
        by_cases q2 : (40 : Int) < (acc.length : Int)
        · rw [if_pos q2] at h1; cases h1
        · rw [if_neg q2] at h1
          obtain rfl := Option.some.inj h1
          obtain ⟨ns, e1, e2, e3⟩ := parseC_inv r _ x h2
          refine ⟨v :: ns, by rw [e1, List.append_assoc]; rfl, by rw [List.map_cons, q, e2], fun u hu => ?_⟩
          rcases List.mem_cons.1 hu with rfl | hu
          · exact Lib.atoiAll_bounds ha
          · exact e3 u hu
      · rw [if_neg q] at h1; cases h1
    · rw [ha] at h1; cases h1
    · rw [ha] at h1; cases h1
theorem text_parse (s : List UInt8) (x : List Int) (h : parseS s = (x, 0)) : OkL x ∧ (∀ v ∈ x, v ≤ 9223372036854775807) ∧ textC x = s := by
  unfold parseS at h
  cases hp : parseC (splitC s) [] with
  | none => rw [hp] at h; have := (Prod.mk.inj h).2; omega
  | some l =>
    rw [hp] at h
    obtain ⟨h1, rfl⟩ := fin_zero h
    obtain ⟨ns, e1, e2, e3⟩ := parseC_inv _ _ _ hp
    rw [List.nil_append] at e1
    subst e1
    refine ⟨h1, fun v hv => (e3 v hv).2, ?_⟩
    unfold textC
    rw [← e2]
    cases hs : splitC s with
    | nil => exact absurd hs (splitC_ne s)
    | cons w ws =>
      rw [Lib.join_cons]
      exact join_split s w ws hs
theorem parse_shape (s : List UInt8) : (∃ x, parseS s = (x, 0) ∧ OkL x) ∨ parseS s = ([], 8) := by
  unfold parseS
  cases parseC (splitC s) [] with
  | none => exact .inr rfl
  | some l =>
    by_cases h : OkL l
    · exact .inl ⟨l, fin_ok h, h⟩
    · exact .inr (fin_no h)
/-! ### A text's length; the text that is made -/
theorem lens_le (l : List Int) (hb : ∀ x ∈ l, -9223372036854775808 ≤ x ∧ x ≤ 9223372036854775807) : Lib.lens (l.map Lib.itoa) ≤ 21 * l.length := by
  induction l with
  | nil => simp [Lib.lens]
  | cons v r ih =>
    have := ih (fun x hx => hb x (List.mem_cons_of_mem _ hx))
    have h1 := Lib.itoa_length_le v (hb v List.mem_cons_self).1 (hb v List.mem_cons_self).2
    have e : Lib.lens ((v :: r).map Lib.itoa) = (Lib.itoa v).length + Lib.lens (r.map Lib.itoa) := rfl
    rw [e, List.length_cons]
    omega
theorem text_len (l : List Int) (hb : ∀ x ∈ l, -9223372036854775808 ≤ x ∧ x ≤ 9223372036854775807) : (textC l).length ≤ 22 * l.length := by
  unfold textC
  cases l with
  | nil => simp [Lib.join_nil]
  | cons v r =>
    have h := lens_le (v :: r) hb
    rw [List.map_cons] at h ⊢
    rw [Lib.join_length]
    simp only [List.length_map, List.length_cons, List.length_nil, Nat.zero_add, Nat.one_mul] at h ⊢
    omega
end Go.Proofs.YtdnclldebkpkfaaDoor.Oid
