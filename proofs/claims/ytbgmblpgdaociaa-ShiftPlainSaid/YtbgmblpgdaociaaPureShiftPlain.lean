/- The statement ShiftPlain: at first, bytes on the left are of the set 102 and bytes on the right of the set 103, the space and four controls are themselves, and the designations of control sets are passed over. No conditions. -/
import Derived.Test.YtbgmblpgdaociaaMShiftPlainx3
import Derived.Test.YtbgmblpgdaociaaB6
namespace Go.Proofs.Ytbgmblpgdaociaa.Pure
open Go.RowKit Go.Proofs.Ytbgmblpgdaociaa.MShiftPlain Go.Proofs.YtbgmblpgdaociaaW.PrintWords Go.Proofs.YtbgmblpgdaociaaW.PrintLast
set_option linter.unusedVariables false
set_option linter.unusedSimpArgs false
set_option maxHeartbeats 1000000

theorem w64 {x : Int} (h0 : -9223372036854775808 ≤ x) (h1 : x ≤ 9223372036854775807) : wrap64 x = x := by unfold wrap64; omega
theorem w64_nat {i n : Nat} (h : i < n) (hn : n ≤ 4611686018427387904) : wrap64 ((i : Int) + 1) = ((i + 1 : Nat) : Int) := by unfold wrap64; omega
theorem rd_nat (xs : List Int) (i : Nat) (h : i < xs.length) : rd xs (i : Int) = xs[i] := by simp [rd, List.getD_eq_getElem?_getD, List.getElem?_eq_getElem h]
theorem wf64 {a : Int} (h : (Lit.int .i64 a).wf = true) : -9223372036854775808 ≤ a ∧ a ≤ 9223372036854775807 := by
  simpa [Lit.wf, show IntKind.i64.min = -9223372036854775808 from rfl] using h
theorem tdiv_nn {a : Int} (h : 0 ≤ a) (b : Int) : Int.tdiv a b = a / b := Int.tdiv_eq_ediv_of_nonneg h
theorem tmod_nn {a : Int} (h : 0 ≤ a) (b : Int) : Int.tmod a b = a % b := Int.tmod_eq_emod_of_nonneg h
theorem dec_iff (p q : Prop) [Decidable p] [Decidable q] (h : p ↔ q) : decide p = decide q := by simp [h]
theorem dec_t (p : Prop) [Decidable p] (h : p) : decide p = true := by simp [h]
theorem dec_f (p : Prop) [Decidable p] (h : ¬ p) : decide p = false := by simp [h]
theorem tmod_bd (a c : Int) (hc : 0 < c) : -c < Int.tmod a c ∧ Int.tmod a c < c := by
  have h1 := Int.emod_nonneg a (b := c) (by omega)
  have h2 := Int.emod_lt_of_pos a hc
  have h3 : ((c.natAbs : Nat) : Int) = c := by omega
  have h4 := Int.tmod_lt_of_pos a hc
  refine ⟨?_, h4⟩
  rw [Int.tmod_eq_emod]
  split
  · omega
  · rename_i h
    have : a % c ≠ 0 := fun e => h (.inr (Int.dvd_of_emod_eq_zero e))
    omega
theorem w64l (x y : Int) (h : x = y ∧ -9223372036854775808 ≤ y ∧ y ≤ 9223372036854775807) : wrap64 x = y := by rw [h.1]; exact w64 h.2.1 h.2.2

open Go.Proofs.Ytbgmblpgdaociaa.Base (tokF tokL startR tokF_some tok_some tok_err tok_at tok_pre tok_out)
theorem tokens_eq (l : List Int) (h1 : l.length ≤ 1000000) (h2 : ∀ x ∈ l, 0 ≤ x ∧ x ≤ 255) : ∃ o a e, shift_Tokens.f l = some (o.map shift_Tokens.mk, a, e) ∧ tokL l (l.length + 1) startR = some (o, a, e) ∧ Go.Proofs.Ytbgmblpgdaociaa.Base.Good l startR := by
  obtain ⟨hB, gB⟩ := tokF_some l h1 h2
  obtain ⟨⟨o, a, e⟩, hr⟩ := tok_some (l.length + 1) startR gB (by simp [startR]; omega)
  refine ⟨o, a, e, ?_, hr, gB⟩
  unfold shift_Tokens.f
  rw [hB, hr]; rfl
theorem KTok_l0 (a : List S30) (hm : a.length ≤ 4611686018427387904) : ∀ (d k i : Nat), i + d = a.length → d < k → sobriquetkeep_Tokens.l0 k a a (i : Int) = some true := by
  intro d
  induction d with
  | zero =>
    intro k i hi hk
    obtain ⟨k, rfl⟩ : ∃ m, k = m + 1 := ⟨k - 1, by omega⟩
    simp only [sobriquetkeep_Tokens.l0]
    rw [if_neg (by omega)]
  | succ d ih =>
    intro k i hi hk
    obtain ⟨k, rfl⟩ : ∃ m, k = m + 1 := ⟨k - 1, by omega⟩
    simp only [sobriquetkeep_Tokens.l0]
    rw [if_pos (by omega), if_pos (by omega), if_pos (by omega), if_neg (by simp), w64_nat (show i < a.length by omega) hm, ih k (i + 1) (by omega) (by omega)]
theorem KTok_f (a : List S30) (k : Nat) (hm : a.length ≤ 4611686018427387904) (hk : a.length < k) : sobriquetkeep_Tokens.f k a a = some true := by
  unfold sobriquetkeep_Tokens.f
  rw [if_pos rfl]
  exact KTok_l0 a hm a.length k 0 (by omega) hk
theorem wfB {l : List Int} (h : ∀ x ∈ l, (Lit.int .u8 x).wf = true) : ∀ x ∈ l, 0 ≤ x ∧ x ≤ 255 := fun x hx => by
  simpa [Lit.wf, show IntKind.u8.min = 0 from rfl, show IntKind.u8.max = 255 from rfl] using h x hx

open Go.Proofs.Ytbgmblpgdaociaa.Base (Piece tok_plain)
/-- A number's piece. -/
def seg (x : Int) : List Int × List (Int × Int) :=
  if IntKind.u64.wrap x % 5 = 0 then ([32], [(0, 32)])
  else if IntKind.u64.wrap x % 5 = 1 then ([([8, 10, 12, 13] : List Int).getD (IntKind.u64.wrap x / 5 % 4).toNat 0], [(0, ([8, 10, 12, 13] : List Int).getD (IntKind.u64.wrap x / 5 % 4).toNat 0)])
  else if IntKind.u64.wrap x % 5 = 2 then ([27, 33, 69, 27, 34, 72], [])
  else if IntKind.u64.wrap x % 5 = 3 then ([((33 + (IntKind.u64.wrap x % 94).toNat : Nat) : Int)], [(102, ((33 + (IntKind.u64.wrap x % 94).toNat : Nat) : Int))])
  else ([((161 + (IntKind.u64.wrap x % 94).toNat : Nat) : Int)], [(103, ((33 + (IntKind.u64.wrap x % 94).toNat : Nat) : Int))])
theorem d4 : ∀ n ∈ List.range 4, ([8, 10, 12, 13] : List Int).getD n 0 = 32 ∨ ([8, 10, 12, 13] : List Int).getD n 0 = 8 ∨ ([8, 10, 12, 13] : List Int).getD n 0 = 10 ∨ ([8, 10, 12, 13] : List Int).getD n 0 = 12 ∨ ([8, 10, 12, 13] : List Int).getD n 0 = 13 := by decide
theorem seg_piece (x : Int) : Piece (seg x).1 (seg x).2 := by
  unfold seg Piece
  by_cases c0 : IntKind.u64.wrap x % 5 = 0
  · rw [if_pos c0]; exact .inl ⟨32, .inl rfl, rfl, rfl⟩
  rw [if_neg c0]
  by_cases c1 : IntKind.u64.wrap x % 5 = 1
  · rw [if_pos c1]; exact .inl ⟨_, d4 _ (by simp; omega), rfl, rfl⟩
  rw [if_neg c1]
  by_cases c2 : IntKind.u64.wrap x % 5 = 2
  · rw [if_pos c2]; exact .inr (.inl ⟨rfl, rfl⟩)
  rw [if_neg c2]
  by_cases c3 : IntKind.u64.wrap x % 5 = 3
  · rw [if_pos c3]; exact .inr (.inr (.inl ⟨_, by omega, rfl, rfl⟩))
  rw [if_neg c3]
  exact .inr (.inr (.inr ⟨_, by omega, rfl, rfl⟩))
theorem seg_len (x : Int) : (seg x).1.length ≤ 6 ∧ (seg x).2.length ≤ 1 := by
  unfold seg
  split
  · simp
  · split
    · simp
    · split
      · simp
      · split <;> simp
theorem piece_byte {b : List Int} {t : List (Int × Int)} (h : Piece b t) : ∀ x ∈ b, 0 ≤ x ∧ x ≤ 255 := by
  intro x hx
  rcases h with ⟨c, hc, rfl, _⟩ | ⟨rfl, _⟩ | ⟨n, hn, rfl, _⟩ | ⟨n, hn, rfl, _⟩
  · rw [List.mem_singleton] at hx; omega
  · simp only [List.mem_cons, List.not_mem_nil, or_false] at hx; omega
  · rw [List.mem_singleton] at hx; omega
  · rw [List.mem_singleton] at hx; omega
def fin (k : Nat) (x3 : List Int) (x4 : List S30) : Option Bool := (shift_Tokens.f x3).bind fun bt139 => (if bt139.2.2 = 0 then ((sobriquetkeep_Tokens.f k bt139.1 x4).bind fun t144 => (if t144 = true then ((sobriquetlaw17_wakes.f k).bind fun t145 => (some t145)) else (some false))) else (some false))
theorem m256 (n : Nat) (h : n < 94) : ((33 + n : Nat) : Int) % 256 = ((33 + n : Nat) : Int) := by omega
theorem m257 (n : Nat) (h : n < 94) : (wrap64 (((33 + n : Nat) : Int) + 128)) % 256 = ((161 + n : Nat) : Int) := by rw [w64 (by omega) (by omega)]; omega
theorem m258 (n : Nat) (h : n < 94) : wrap64 (33 + (n : Int)) = ((33 + n : Nat) : Int) := by rw [w64 (by omega) (by omega)]; omega
theorem plain_loop (l : List Int) (hm : l.length ≤ 60) : ∀ (d k i : Nat) (a3 : List Int) (a4 : List S30), i + d = l.length → d < k → a3.length + 6 * d ≤ 1000 → a4.length + d ≤ 1000 →
    sobriquetlaw17_ShiftPlain.l0 k l a3 a4 (i : Int) = fin (k - d - 1) (a3 ++ (l.drop i).flatMap (fun x => (seg x).1)) (a4 ++ ((l.drop i).flatMap (fun x => (seg x).2)).map shift_Tokens.mk) := by
  intro d
  induction d with
  | zero =>
    intro k i a3 a4 hi hk _ _
    obtain ⟨k, rfl⟩ : ∃ m, k = m + 1 := ⟨k - 1, by omega⟩
    simp only [sobriquetlaw17_ShiftPlain.l0]
    rw [if_neg (by omega), List.drop_eq_nil_of_le (by omega)]
    simp [fin]
  | succ d ih =>
    intro k i a3 a4 hi hk h3 h4
    obtain ⟨k, rfl⟩ : ∃ m, k = m + 1 := ⟨k - 1, by omega⟩
    have hil : i < l.length := by omega
    have hlen := seg_len l[i]
    have ih' := fun a3 a4 => ih k (i + 1) a3 a4 (by omega) (by omega)
    have hk2 : k + 1 - (d + 1) - 1 = k - d - 1 := by omega
    rw [List.drop_eq_getElem_cons hil, List.flatMap_cons, List.flatMap_cons, List.map_append, ← List.append_assoc, ← List.append_assoc, hk2]
    rw [← ih' _ _ (by rw [List.length_append]; omega) (by rw [List.length_append, List.length_map]; omega)]
    simp only [sobriquetlaw17_ShiftPlain.l0]
    rw [if_pos (by omega), if_pos (by omega), rd_nat l i hil, w64_nat hil (by omega)]
    have u0 : 0 ≤ IntKind.u64.wrap l[i] := by rw [IntKind.wrap_u64]; omega
    have u1 : IntKind.u64.wrap l[i] < 18446744073709551616 := by rw [IntKind.wrap_u64]; omega
    unfold seg
    generalize IntKind.u64.wrap l[i] = u at u0 u1 ⊢
    have q8 : (u % 94).toNat < 94 := by omega
    have q5 : wrap64 (u % 94) = ((u % 94).toNat : Int) := by rw [w64 (by omega) (by omega)]; omega
    simp only [tmod_nn u0, tdiv_nn u0]
    by_cases c0 : u % 5 = 0
    · rw [if_pos c0, if_pos c0, if_pos (by omega), if_pos (by omega)]
      rfl
    rw [if_neg c0, if_neg c0]
    by_cases c1 : u % 5 = 1
    · rw [if_pos c1, if_pos c1]
      have q0 : IntKind.u64.wrap (u / 5) = u / 5 := by rw [IntKind.wrap_u64]; omega
      have q1 : wrap64 (Int.tmod (u / 5) 4) = ((u / 5 % 4).toNat : Int) := by rw [tmod_nn (by omega), w64 (by omega) (by omega)]; omega
      have q2 : (u / 5 % 4).toNat < 4 := by omega
      simp only [Option.bind_some, q0, q1]
      have q3 : rd [8, 10, 12, 13] ((u / 5 % 4).toNat : Int) = ([8, 10, 12, 13] : List Int).getD (u / 5 % 4).toNat 0 := by unfold rd; rw [Int.toNat_natCast]
      have q4 := d4 (u / 5 % 4).toNat (by simp; omega)
      rw [if_pos (by omega), if_pos (by simp; omega), if_pos (by omega), if_pos (by omega), q3, w64 (by omega) (by omega)]
      rfl
    rw [if_neg c1, if_neg c1]
    by_cases c2 : u % 5 = 2
    · rw [if_pos c2, if_pos c2]
      simp only [Option.bind_some]
      rw [if_pos (by simp; omega)]
      simp
    rw [if_neg c2, if_neg c2]
    have q6 := m258 _ q8
    by_cases c3 : u % 5 = 3
    · rw [if_pos c3, if_pos c3, if_pos (by omega), if_pos (by omega), q5, q6]
      have q7 := m256 _ q8
      simp only [q7, List.map_cons, List.map_nil, shift_Tokens.mk]
    · rw [if_neg c3, if_neg c3, if_pos (by omega), if_pos (by omega), q5, q6]
      have q7 := m257 _ q8
      simp only [q7, List.map_cons, List.map_nil, shift_Tokens.mk]
theorem flat_len {α : Type} (g : Int → List α) (m : Nat) (h : ∀ x, (g x).length ≤ m) : ∀ l : List Int, (l.flatMap g).length ≤ m * l.length
  | [] => by simp
  | x :: l => by
    have := flat_len g m h l
    have := h x
    rw [List.flatMap_cons, List.length_append, List.length_cons, Nat.mul_add]
    omega
theorem wkN (k : Nat) (hk : 8 < k) : sobriquetlaw17_wakes.f k = some true := by
  have h9 : sobriquetlaw17_wakes.f 9 = some true := by decide +kernel
  obtain ⟨m, rfl⟩ : ∃ m, k = 9 + m := ⟨k - 9, by omega⟩
  induction m with
  | zero => exact h9
  | succ m ih => exact (sobriquetlaw17_wakes.mono (9 + m)) _ (ih (by omega))
theorem ShiftPlain : sobriquetlaw17_ShiftPlain.Pure := by
  intro l _ _ _
  refine ⟨1000, ?_⟩
  unfold sobriquetlaw17_ShiftPlain.f
  by_cases g : (l.length : Int) > 60
  · rw [if_pos g]
  rw [if_neg g]
  have h := plain_loop l (by omega) l.length 1000 0 [] [] (by omega) (by omega) (by simp; omega) (by simp; omega)
  rw [show ((0 : Nat) : Int) = 0 from rfl] at h
  rw [h, List.drop_zero, List.nil_append, List.nil_append]
  have hb := flat_len (fun x => (seg x).1) 6 (fun x => (seg_len x).1) l
  have ht := flat_len (fun x => (seg x).2) 1 (fun x => (seg_len x).2) l
  have e1 : l.flatMap (fun x => (seg x).1) = (l.map seg).flatMap (·.1) := by rw [List.flatMap_map]
  have e2 : l.flatMap (fun x => (seg x).2) = (l.map seg).flatMap (·.2) := by rw [List.flatMap_map]
  have hp : ∀ p ∈ l.map seg, Piece p.1 p.2 := fun p hp => by
    obtain ⟨x, _, rfl⟩ := List.mem_map.1 hp
    exact seg_piece x
  obtain ⟨hB, gB⟩ := tokF_some (l.flatMap (fun x => (seg x).1)) (by omega) (fun x hx => by
    obtain ⟨y, hy, hxy⟩ := List.mem_flatMap.1 hx
    exact piece_byte (seg_piece y) x hxy)
  have hr := tok_plain (l.map seg) hp ((l.flatMap (fun x => (seg x).1)).length + 1) (by rw [← e1]; omega)
  rw [← e1, ← e2] at hr
  unfold fin shift_Tokens.f
  rw [hB, hr]
  simp only [Option.map_some, Option.bind_some, if_true]
  rw [KTok_f _ _ (by rw [List.length_map]; omega) (by rw [List.length_map]; omega)]
  simp only [Option.bind_some, if_true]
  rw [wkN _ (by omega)]
  rfl

end Go.Proofs.Ytbgmblpgdaociaa.Pure
