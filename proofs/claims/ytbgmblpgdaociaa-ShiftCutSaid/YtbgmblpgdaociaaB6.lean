/- The plain law of the reader: longer inputs, what stays, what is read at first. -/
import Derived.Test.YtbgmblpgdaociaaB5
namespace Go.Proofs.Ytbgmblpgdaociaa.Base
open Go.RowKit Go.Proofs.YtbgmblpgdaociaaW.PrintWords Go.Proofs.YtbgmblpgdaociaaW.PrintLast
set_option linter.unusedVariables false
set_option linter.unusedSimpArgs false
set_option maxHeartbeats 1000000
/-! ### A longer input is read alike, as far as the shorter one goes -/
theorem rd_app (b x : List Int) (i : Int) (h0 : 0 ≤ i) (h1 : i < (b.length : Int)) : rd (b ++ x) i = rd b i := by
  unfold rd
  rw [List.getD_eq_getElem?_getD, List.getD_eq_getElem?_getD, List.getElem?_append_left (by omega)]
theorem next_ext {b : List Int} {s : Rd} (x : List Int) (h0 : 0 ≤ s.i) (h : (nextP b s).2.1 ≠ 2) : nextP (b ++ x) s = nextP b s := by
  unfold nextP at h ⊢
  by_cases q : s.i ≥ (b.length : Int)
  · rw [if_pos q] at h; exact absurd rfl h
  · rw [if_neg q, if_neg (by rw [List.length_append]; omega), rd_app b x s.i h0 (by omega)]
theorem next_err (b : List Int) (s : Rd) : (nextP b s).2.1 = 0 ∨ (nextP b s).2.1 = 2 := by
  unfold nextP; split
  · exact .inr rfl
  · exact .inl rfl
theorem next_pos {b : List Int} {s : Rd} (h0 : 0 ≤ s.i) : 0 ≤ (nextP b s).2.2.i := by
  unfold nextP; split
  · exact h0
  · show 0 ≤ s.i + 1; omega
theorem place_ext {b : List Int} {s : Rd} (x : List Int) (g c : Int) (h0 : 0 ≤ s.i) (h : (placeP b s g c).1 ≠ 2) : placeP (b ++ x) s g c = placeP b s g c := by
  unfold placeP at h ⊢
  by_cases a1 : sideOk c = false
  · rw [if_pos a1, if_pos a1]
  rw [if_neg a1] at h ⊢
  rw [if_neg a1]
  by_cases a2 : s.g g = 0
  · rw [if_pos a2, if_pos a2]
  rw [if_neg a2] at h ⊢
  rw [if_neg a2]
  by_cases a3 : s.g g = 87
  · rw [if_pos a3] at h ⊢
    rw [if_pos a3]
    have e : (nextP b s).2.1 ≠ 2 := by
      intro q
      rw [if_pos (by omega)] at h
      exact h q
    rw [next_ext x h0 e]
  · rw [if_neg a3, if_neg a3]
theorem single_ext {b : List Int} {s : Rd} (x : List Int) (g : Int) (h0 : 0 ≤ s.i) (h : (singleP b s g).1 ≠ 2) : singleP (b ++ x) s g = singleP b s g := by
  unfold singleP at h ⊢
  have e : (nextP b s).2.1 ≠ 2 := by
    intro q
    rw [if_pos (by omega)] at h
    exact h q
  have e0 : (nextP b s).2.1 = 0 := (next_err b s).resolve_right e
  rw [next_ext x h0 e]
  rw [if_neg (fun q => q e0)] at h ⊢
  rw [if_neg (fun q => q e0)]
  exact place_ext x _ _ (next_pos h0) h
theorem is_ext {b : List Int} {s : Rd} (x : List Int) (want : Int) (h0 : 0 ≤ s.i) (h : (isP b s want).1 ≠ 2) : isP (b ++ x) s want = isP b s want := by
  unfold isP at h ⊢
  have e : (nextP b s).2.1 ≠ 2 := by
    intro q
    rw [if_neg (by omega)] at h
    exact h q
  rw [next_ext x h0 e]
theorem designates_ext {b : List Int} {s : Rd} (x : List Int) (g : Int) (wide : Bool) (h0 : 0 ≤ s.i) (h : (designatesP b s g wide).1 ≠ 2) : designatesP (b ++ x) s g wide = designatesP b s g wide := by
  unfold designatesP at h ⊢
  have e : (nextP b s).2.1 ≠ 2 := by
    intro q
    rw [if_pos (by omega)] at h
    exact h q
  rw [next_ext x h0 e]
theorem escapes_ext {b : List Int} {s : Rd} (x : List Int) (h0 : 0 ≤ s.i) (h : (escapesP b s).1 ≠ 2) : escapesP (b ++ x) s = escapesP b s := by
  unfold escapesP at h ⊢
  have e : (nextP b s).2.1 ≠ 2 := by
    intro q
    rw [if_pos (by omega)] at h
    exact h q
  have e0 : (nextP b s).2.1 = 0 := (next_err b s).resolve_right e
  have p0 := next_pos (b := b) h0
  rw [next_ext x h0 e]
  simp only [if_neg (show ¬ ((nextP b s).2.1 ≠ 0) from fun q => q e0)] at h ⊢
  generalize nextP b s = q at *
  obtain ⟨c, er, s1⟩ := q
  dsimp only at *
  by_cases c1 : c = 33
  · simp only [if_pos c1] at h ⊢; exact is_ext x _ p0 h
  simp only [if_neg c1] at h ⊢
  by_cases c2 : c = 34
  · simp only [if_pos c2] at h ⊢; exact is_ext x _ p0 h
  simp only [if_neg c2] at h ⊢
  by_cases c3 : c = 110 ∨ c = 111
  · rw [if_pos c3, if_pos c3]
  simp only [if_neg c3] at h ⊢
  by_cases c4 : c = 124 ∨ c = 125 ∨ c = 126
  · rw [if_pos c4, if_pos c4]
  simp only [if_neg c4] at h ⊢
  by_cases c5 : c = 36
  · simp only [if_pos c5] at h ⊢
    have e2 : (nextP b s1).2.1 ≠ 2 := by
      intro q
      rw [if_pos (by omega)] at h
      exact h q
    have e20 : (nextP b s1).2.1 = 0 := (next_err b s1).resolve_right e2
    have p1 := next_pos (b := b) p0
    rw [next_ext x p0 e2]
    simp only [if_neg (show ¬ ((nextP b s1).2.1 ≠ 0) from fun q => q e20)] at h ⊢
    generalize nextP b s1 = q at *
    obtain ⟨d, er2, s2⟩ := q
    dsimp only at *
    by_cases c6 : d < 40 ∨ d ≥ 44
    · rw [if_pos c6, if_pos c6]
    simp only [if_neg c6] at h ⊢
    exact designates_ext x _ _ p1 h
  simp only [if_neg c5] at h ⊢
  by_cases c6 : c < 40 ∨ c ≥ 44
  · rw [if_pos c6, if_pos c6]
  simp only [if_neg c6] at h ⊢
  exact designates_ext x _ _ p0 h
theorem one_ext {b : List Int} {s : Rd} (x : List Int) (h0 : 0 ≤ s.i) (hi : s.i < (b.length : Int)) (h : (oneP b s).1 ≠ 2) : oneP (b ++ x) s = oneP b s := by
  unfold oneP at h ⊢
  have e : (nextP b s).2.1 ≠ 2 := by unfold nextP; rw [if_neg (by omega)]; show (0 : Int) ≠ 2; decide
  have p0 := next_pos (b := b) h0
  rw [next_ext x h0 e]
  generalize nextP b s = q at *
  obtain ⟨c, er, s1⟩ := q
  dsimp only at *
  by_cases c1 : c = 32 ∨ c = 8 ∨ c = 10 ∨ c = 12 ∨ c = 13
  · rw [if_pos c1, if_pos c1]
  simp only [if_neg c1] at h ⊢
  by_cases c2 : c = 14 ∨ c = 15
  · rw [if_pos c2, if_pos c2]
  simp only [if_neg c2] at h ⊢
  by_cases c3 : c = 25
  · simp only [if_pos c3] at h ⊢; exact single_ext x _ p0 h
  simp only [if_neg c3] at h ⊢
  by_cases c4 : c = 29
  · simp only [if_pos c4] at h ⊢; exact single_ext x _ p0 h
  simp only [if_neg c4] at h ⊢
  by_cases c5 : c = 27
  · simp only [if_pos c5] at h ⊢; exact escapes_ext x p0 h
  simp only [if_neg c5] at h ⊢
  by_cases c6 : c ≥ 128
  · simp only [if_pos c6] at h ⊢; exact place_ext x _ _ p0 h
  simp only [if_neg c6] at h ⊢
  exact place_ext x _ _ p0 h

/-! ### What has been told stays -/
theorem next_out (b : List Int) (s : Rd) : (nextP b s).2.2.out = s.out := by unfold nextP; split <;> rfl
theorem put_out (s : Rd) (g v : Int) : (s.put g v).out = s.out := by
  unfold Rd.put; split
  · rfl
  · split
    · rfl
    · split <;> rfl
theorem place_out (b : List Int) (s : Rd) (g c : Int) : s.out <+: (placeP b s g c).2.out := by
  have hn : s.out <+: (nextP b s).2.2.out := by rw [next_out]; exact List.prefix_refl _
  unfold placeP
  split
  · exact List.prefix_refl _
  · split
    · exact List.prefix_refl _
    · split
      · split
        · exact hn
        · split
          · exact hn
          · split
            · exact hn
            · exact hn.trans (List.prefix_append _ _)
      · exact List.prefix_append _ _
theorem single_out (b : List Int) (s : Rd) (g : Int) : s.out <+: (singleP b s g).2.out := by
  have hn : s.out <+: (nextP b s).2.2.out := by rw [next_out]; exact List.prefix_refl _
  unfold singleP
  split
  · exact hn
  · exact hn.trans (place_out _ _ _ _)
theorem is_out (b : List Int) (s : Rd) (want : Int) : s.out <+: (isP b s want).2.out := by
  have hn : s.out <+: (nextP b s).2.2.out := by rw [next_out]; exact List.prefix_refl _
  unfold isP
  split
  · split <;> exact hn
  · exact hn
theorem designates_out (b : List Int) (s : Rd) (g : Int) (wide : Bool) : s.out <+: (designatesP b s g wide).2.out := by
  have hn : s.out <+: (nextP b s).2.2.out := by rw [next_out]; exact List.prefix_refl _
  unfold designatesP
  split
  · exact hn
  · split
    · exact hn
    · show s.out <+: (Rd.put _ _ _).out
      rw [put_out]; exact hn
theorem escapes_out (b : List Int) (s : Rd) : s.out <+: (escapesP b s).2.out := by
  have hn : ∀ s, s.out <+: (nextP b s).2.2.out := fun s => by rw [next_out]; exact List.prefix_refl _
  unfold escapesP
  split
  · exact hn s
  · split
    · exact (hn s).trans (is_out _ _ _)
    · split
      · exact (hn s).trans (is_out _ _ _)
      · split
        · exact hn s
        · split
          · exact hn s
          · split
            · split
              · exact (hn s).trans (hn _)
              · split
                · exact (hn s).trans (hn _)
                · exact ((hn s).trans (hn _)).trans (designates_out _ _ _ _)
            · split
              · exact hn s
              · exact (hn s).trans (designates_out _ _ _ _)
theorem one_out (b : List Int) (s : Rd) : s.out <+: (oneP b s).2.out := by
  have hn : s.out <+: (nextP b s).2.2.out := by rw [next_out]; exact List.prefix_refl _
  unfold oneP
  split
  · exact hn.trans (List.prefix_append _ _)
  · split
    · exact hn
    · split
      · exact hn.trans (single_out _ _ _)
      · split
        · exact hn.trans (single_out _ _ _)
        · split
          · exact hn.trans (escapes_out _ _)
          · split
            · exact hn.trans (place_out _ _ _ _)
            · exact hn.trans (place_out _ _ _ _)
theorem tok_out {b : List Int} : ∀ (f : Nat) (s : Rd) {o : List (Int × Int)} {at_ : Int}, tokL b f s = some (o, at_, 0) → s.out <+: o
  | 0, s, o, a, h => by cases h
  | f + 1, s, o, a, h => by
    rw [tokL] at h
    by_cases hi : s.i < (b.length : Int)
    · rw [if_pos hi] at h
      by_cases he : (oneP b s).1 = 0
      · rw [if_neg (fun q => q he)] at h
        exact (one_out b s).trans (tok_out f _ h)
      · rw [if_pos he] at h
        simp only [Option.some.injEq, Prod.mk.injEq] at h
        exact absurd h.2.2 he
    · rw [if_neg hi] at h
      simp only [Option.some.injEq, Prod.mk.injEq] at h
      rw [h.1]; exact List.prefix_refl _

/-- An error that is not 'short' is told of any longer input, at the same place. -/
theorem tok_err {b : List Int} (x : List Int) : ∀ (f f' : Nat) (s : Rd) {o : List (Int × Int)} {at_ er : Int}, Good b s → f ≤ f' → tokL b f s = some (o, at_, er) → er ≠ 0 → er ≠ 2 → tokL (b ++ x) f' s = some ([], at_, er)
  | 0, f', s, o, a, er, _, _, h, _, _ => by cases h
  | f + 1, f', s, o, a, er, hg, hf, h, h1, h2 => by
    obtain ⟨f', rfl⟩ : ∃ q, f' = q + 1 := ⟨f' - 1, by omega⟩
    rw [tokL] at h ⊢
    by_cases hi : s.i < (b.length : Int)
    · rw [if_pos hi] at h
      rw [if_pos (by rw [List.length_append]; omega)]
      by_cases he : (oneP b s).1 = 0
      · rw [if_neg (fun q => q he)] at h
        rw [one_ext x hg.i0 hi (by omega), if_neg (fun q => q he)]
        exact tok_err x f f' _ (fine_one hg hi).1 (by omega) h h1 h2
      · rw [if_pos he] at h
        simp only [Option.some.injEq, Prod.mk.injEq] at h
        obtain ⟨_, rfl, rfl⟩ := h
        rw [one_ext x hg.i0 hi h2, if_pos he]
    · rw [if_neg hi] at h
      simp only [Option.some.injEq, Prod.mk.injEq] at h
      exact absurd h.2.2.symm h1
/-- What an error looks like. -/
theorem tok_at {b : List Int} : ∀ (f : Nat) (s : Rd) {o : List (Int × Int)} {at_ er : Int}, tokL b f s = some (o, at_, er) → er ≠ 0 → o = [] ∧ at_ < (b.length : Int)
  | 0, s, o, a, er, h, _ => by cases h
  | f + 1, s, o, a, er, h, h1 => by
    rw [tokL] at h
    by_cases hi : s.i < (b.length : Int)
    · rw [if_pos hi] at h
      by_cases he : (oneP b s).1 = 0
      · rw [if_neg (fun q => q he)] at h
        exact tok_at f _ h h1
      · rw [if_pos he] at h
        simp only [Option.some.injEq, Prod.mk.injEq] at h
        obtain ⟨rfl, rfl, _⟩ := h
        exact ⟨rfl, hi⟩
    · rw [if_neg hi] at h
      simp only [Option.some.injEq, Prod.mk.injEq] at h
      exact absurd h.2.2.symm h1
/-- What is read of a beginning, read whole, is a beginning of what is read. -/
theorem tok_pre {b : List Int} (x : List Int) : ∀ (f f' : Nat) (s : Rd) {o o' : List (Int × Int)} {at_ a' : Int}, Good b s → f ≤ f' → tokL b f s = some (o, at_, 0) → tokL (b ++ x) f' s = some (o', a', 0) → o <+: o'
  | 0, f', s, o, o', a, a', _, _, h, _ => by cases h
  | f + 1, f', s, o, o', a, a', hg, hf, h, h' => by
    obtain ⟨f', rfl⟩ : ∃ q, f' = q + 1 := ⟨f' - 1, by omega⟩
    have h0 := h'
    rw [tokL] at h h'
    by_cases hi : s.i < (b.length : Int)
    · rw [if_pos hi] at h
      rw [if_pos (by rw [List.length_append]; omega)] at h'
      by_cases he : (oneP b s).1 = 0
      · rw [if_neg (fun q => q he)] at h
        rw [one_ext x hg.i0 hi (by omega), if_neg (fun q => q he)] at h'
        exact tok_pre x f f' _ (fine_one hg hi).1 (by omega) h h'
      · rw [if_pos he] at h
        simp only [Option.some.injEq, Prod.mk.injEq] at h
        exact absurd h.2.2 he
    · rw [if_neg hi] at h
      simp only [Option.some.injEq, Prod.mk.injEq] at h
      rw [← h.1]
      exact tok_out _ _ h0
/-- Enough rounds. -/
theorem tok_some {b : List Int} : ∀ (f : Nat) (s : Rd), Good b s → (b.length : Int) - s.i < f → ∃ r, tokL b f s = some r
  | 0, s, hg, h => by have := hg.i1; omega
  | f + 1, s, hg, h => by
    rw [tokL]
    by_cases hi : s.i < (b.length : Int)
    · rw [if_pos hi]
      by_cases he : (oneP b s).1 = 0
      · rw [if_neg (fun q => q he)]
        have := fine_one hg hi
        exact tok_some f _ this.1 (by omega)
      · rw [if_pos he]; exact ⟨_, rfl⟩
    · rw [if_neg hi]; exact ⟨_, rfl⟩
theorem tokF_some (b : List Int) (h1 : b.length ≤ 1000000) (h2 : ∀ x ∈ b, 0 ≤ x ∧ x ≤ 255) : tokF b = tokL b (b.length + 1) startR ∧ Good b startR := by
  have h : b.length ≤ 1000000 ∧ (b.all fun x => decide (0 ≤ x ∧ x ≤ 255)) = true := ⟨h1, List.all_eq_true.2 fun x hx => decide_eq_true (h2 x hx)⟩
  exact ⟨by unfold tokF; rw [if_pos h], good_start b h⟩

/-! ### What is read at first -/
def at0 (i : Int) (out : List (Int × Int)) : Rd := ⟨i, 102, 0, 103, 0, 0, 2, out⟩
theorem next_here (pre post : List Int) (c : Int) (s : Rd) (h : s.i = pre.length) : nextP (pre ++ c :: post) s = (c, 0, { s with i := s.i + 1 }) := by
  unfold nextP
  rw [if_neg (by rw [List.length_append, List.length_cons]; omega)]
  have : rd (pre ++ c :: post) s.i = c := by
    rw [h]
    unfold rd
    rw [Int.toNat_natCast, List.getD_eq_getElem?_getD, List.getElem?_append_right (Nat.le_refl _), Nat.sub_self]
    rfl
  rw [this]
theorem side_low : ∀ n ∈ List.range 94, sideOk ((33 + n : Nat) : Int) = true ∧ sideN ((33 + n : Nat) : Int) = ((33 + n : Nat) : Int) := by decide +kernel
theorem side_high : ∀ n ∈ List.range 94, sideOk ((161 + n : Nat) : Int) = true ∧ sideN ((161 + n : Nat) : Int) = ((33 + n : Nat) : Int) := by decide +kernel
theorem one_ctl (pre post : List Int) (c : Int) (out : List (Int × Int)) (hc : c = 32 ∨ c = 8 ∨ c = 10 ∨ c = 12 ∨ c = 13) : oneP (pre ++ c :: post) (at0 pre.length out) = (0, at0 ((pre.length : Int) + 1) (out ++ [(0, c)])) := by
  unfold oneP
  rw [next_here pre post c _ rfl, if_pos hc]
  rfl
theorem one_low (pre post : List Int) (n : Nat) (hn : n < 94) (out : List (Int × Int)) : oneP (pre ++ ((33 + n : Nat) : Int) :: post) (at0 pre.length out) = (0, at0 ((pre.length : Int) + 1) (out ++ [(102, ((33 + n : Nat) : Int))])) := by
  obtain ⟨s1, s2⟩ := side_low n (by simp; omega)
  unfold oneP
  rw [next_here pre post _ _ rfl]
  dsimp only
  rw [if_neg (by omega), if_neg (by omega), if_neg (by omega), if_neg (by omega), if_neg (by omega), if_neg (by omega)]
  unfold placeP
  rw [if_neg (by rw [s1]; decide), s2]
  rfl
theorem one_high (pre post : List Int) (n : Nat) (hn : n < 94) (out : List (Int × Int)) : oneP (pre ++ ((161 + n : Nat) : Int) :: post) (at0 pre.length out) = (0, at0 ((pre.length : Int) + 1) (out ++ [(103, ((33 + n : Nat) : Int))])) := by
  obtain ⟨s1, s2⟩ := side_high n (by simp; omega)
  unfold oneP
  rw [next_here pre post _ _ rfl]
  dsimp only
  rw [if_neg (by omega), if_neg (by omega), if_neg (by omega), if_neg (by omega), if_neg (by omega), if_pos (by omega)]
  unfold placeP
  rw [if_neg (by rw [s1]; decide), s2]
  rfl
theorem one_esc (pre post : List Int) (c d : Int) (out : List (Int × Int)) (h : c = 33 ∧ d = 69 ∨ c = 34 ∧ d = 72) : oneP (pre ++ 27 :: c :: d :: post) (at0 pre.length out) = (0, at0 ((pre.length : Int) + 3) out) := by
  unfold oneP
  rw [next_here pre (c :: d :: post) 27 _ rfl]
  dsimp only
  rw [if_neg (by decide), if_neg (by decide), if_neg (by decide), if_neg (by decide), if_pos rfl]
  unfold escapesP
  have e1 : pre ++ 27 :: c :: d :: post = (pre ++ [27]) ++ c :: (d :: post) := by simp
  have e2 : pre ++ 27 :: c :: d :: post = (pre ++ [27, c]) ++ d :: post := by simp
  have n1 : nextP (pre ++ 27 :: c :: d :: post) { at0 (pre.length : Int) out with i := (at0 (pre.length : Int) out).i + 1 } = (c, 0, at0 ((pre.length : Int) + 2) out) := by
    rw [e1, next_here (pre ++ [27]) (d :: post) c _ (by simp [at0])]
    simp only [at0, Prod.mk.injEq, true_and]
    congr 1
  have n2 : nextP (pre ++ 27 :: c :: d :: post) (at0 ((pre.length : Int) + 2) out) = (d, 0, at0 ((pre.length : Int) + 3) out) := by
    rw [e2, next_here (pre ++ [27, c]) post d _ (by simp [at0])]
    simp only [at0, Prod.mk.injEq, true_and]
    congr 1
  rw [n1]
  dsimp only
  rw [if_neg (fun q => q rfl)]
  rcases h with ⟨rfl, rfl⟩ | ⟨rfl, rfl⟩
  · rw [if_pos rfl]
    unfold isP
    rw [n2]; rfl
  · rw [if_neg (by decide), if_pos rfl]
    unfold isP
    rw [n2]; rfl

/-- A piece of what is read at first: its bytes, its tokens. -/
def Piece (b : List Int) (t : List (Int × Int)) : Prop :=
  (∃ c, (c = 32 ∨ c = 8 ∨ c = 10 ∨ c = 12 ∨ c = 13) ∧ b = [c] ∧ t = [(0, c)]) ∨ (b = [27, 33, 69, 27, 34, 72] ∧ t = []) ∨
  (∃ n : Nat, n < 94 ∧ b = [((33 + n : Nat) : Int)] ∧ t = [(102, ((33 + n : Nat) : Int))]) ∨ (∃ n : Nat, n < 94 ∧ b = [((161 + n : Nat) : Int)] ∧ t = [(103, ((33 + n : Nat) : Int))])
theorem tok_step {l : List Int} {f : Nat} {s s' : Rd} (hi : s.i < (l.length : Int)) (h : oneP l s = (0, s')) : tokL l (f + 1) s = tokL l f s' := by
  rw [tokL, if_pos hi, h, if_neg (fun q => q rfl)]
theorem pieces : ∀ (ps : List (List Int × List (Int × Int))) (pre : List Int) (out : List (Int × Int)) (f : Nat), (∀ p ∈ ps, Piece p.1 p.2) → (ps.flatMap (·.1)).length < f →
    tokL (pre ++ ps.flatMap (·.1)) f (at0 pre.length out) = some (out ++ ps.flatMap (·.2), 0, 0)
  | [], pre, out, f, _, hf => by
    obtain ⟨f, rfl⟩ : ∃ q, f = q + 1 := ⟨f - 1, by omega⟩
    rw [tokL, if_neg (by simp [at0])]
    simp [at0]
  | p :: ps, pre, out, f, hp, hf => by
    have h1 := hp p (by simp)
    have h2 : ∀ q ∈ ps, Piece q.1 q.2 := fun q hq => hp q (by simp [hq])
    have ih := fun pre out f => pieces ps pre out f h2
    obtain ⟨b, t⟩ := p
    simp only [List.flatMap_cons, List.length_append] at hf ⊢
    rcases h1 with ⟨c, hc, rfl, rfl⟩ | ⟨rfl, rfl⟩ | ⟨n, hn, rfl, rfl⟩ | ⟨n, hn, rfl, rfl⟩
    · simp only [List.length_cons, List.length_nil] at hf
      obtain ⟨f, rfl⟩ : ∃ q, f = q + 1 := ⟨f - 1, by omega⟩
      have := ih (pre ++ [c]) (out ++ [(0, c)]) f (by omega)
      rw [List.singleton_append, tok_step (by simp [at0]; omega) (one_ctl pre _ c out hc)]
      simp only [List.length_append, List.length_cons, List.length_nil, List.append_assoc, List.singleton_append] at this
      simpa using this
    · simp only [List.length_cons, List.length_nil] at hf
      obtain ⟨f, rfl⟩ : ∃ q, f = q + 1 + 1 := ⟨f - 2, by omega⟩
      have := ih (pre ++ [27, 33, 69, 27, 34, 72]) out f (by omega)
      have e1 := one_esc pre (27 :: 34 :: 72 :: ps.flatMap (·.1)) 33 69 out (.inl ⟨rfl, rfl⟩)
      have e2 := one_esc (pre ++ [27, 33, 69]) (ps.flatMap (·.1)) 34 72 out (.inr ⟨rfl, rfl⟩)
      have l1 : pre ++ ([27, 33, 69, 27, 34, 72] ++ ps.flatMap (·.1)) = pre ++ 27 :: 33 :: 69 :: 27 :: 34 :: 72 :: ps.flatMap (·.1) := by simp
      have l2 : pre ++ 27 :: 33 :: 69 :: 27 :: 34 :: 72 :: ps.flatMap (·.1) = (pre ++ [27, 33, 69]) ++ 27 :: 34 :: 72 :: ps.flatMap (·.1) := by simp
      rw [l1, tok_step (by simp [at0]; omega) e1, l2]
      have l3 : at0 ((pre.length : Int) + 3) out = at0 (((pre ++ [27, 33, 69]).length : Nat) : Int) out := by simp [at0]
      rw [l3, tok_step (by simp [at0]; omega) e2]
      have l4 : at0 ((((pre ++ [27, 33, 69]).length : Nat) : Int) + 3) out = at0 (((pre ++ [27, 33, 69, 27, 34, 72]).length : Nat) : Int) out := by simp [at0]; omega
      have l5 : (pre ++ [27, 33, 69]) ++ 27 :: 34 :: 72 :: ps.flatMap (·.1) = (pre ++ [27, 33, 69, 27, 34, 72]) ++ ps.flatMap (·.1) := by simp
      rw [l4, l5, this]
      simp
    · simp only [List.length_cons, List.length_nil] at hf
      obtain ⟨f, rfl⟩ : ∃ q, f = q + 1 := ⟨f - 1, by omega⟩
      have := ih (pre ++ [((33 + n : Nat) : Int)]) (out ++ [(102, ((33 + n : Nat) : Int))]) f (by omega)
      rw [List.singleton_append, tok_step (by simp [at0]; omega) (one_low pre _ n hn out)]
      simp only [List.length_append, List.length_cons, List.length_nil, List.append_assoc, List.singleton_append] at this
      simpa using this
    · simp only [List.length_cons, List.length_nil] at hf
      obtain ⟨f, rfl⟩ : ∃ q, f = q + 1 := ⟨f - 1, by omega⟩
      have := ih (pre ++ [((161 + n : Nat) : Int)]) (out ++ [(103, ((33 + n : Nat) : Int))]) f (by omega)
      rw [List.singleton_append, tok_step (by simp [at0]; omega) (one_high pre _ n hn out)]
      simp only [List.length_append, List.length_cons, List.length_nil, List.append_assoc, List.singleton_append] at this
      simpa using this
theorem tok_plain (ps : List (List Int × List (Int × Int))) (h : ∀ p ∈ ps, Piece p.1 p.2) (f : Nat) (hf : (ps.flatMap (·.1)).length < f) : tokL (ps.flatMap (·.1)) f startR = some (ps.flatMap (·.2), 0, 0) := by
  have := pieces ps [] [] f h hf
  simpa [at0, startR] using this
end Go.Proofs.Ytbgmblpgdaociaa.Base
