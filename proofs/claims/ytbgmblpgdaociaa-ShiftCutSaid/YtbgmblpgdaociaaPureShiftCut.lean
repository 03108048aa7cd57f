/- The statement ShiftCut: bytes that are read, cut short anywhere, are read as far, or told to be short; what is refused is refused at its first place, whatever stands behind. No conditions. -/
import Derived.Test.YtbgmblpgdaociaaMShiftCutx3
import Derived.Test.YtbgmblpgdaociaaB6
namespace Go.Proofs.Ytbgmblpgdaociaa.Pure
open Go.RowKit Go.Proofs.Ytbgmblpgdaociaa.MShiftCut Go.Proofs.YtbgmblpgdaociaaW.PrintWords Go.Proofs.YtbgmblpgdaociaaW.PrintLast
set_option linter.unusedVariables false
set_option linter.unusedSimpArgs false
set_option maxHeartbeats 1000000

theorem w64 {x : Int} (h0 : -9223372036854775808 ≤ x) (h1 : x ≤ 9223372036854775807) : wrap64 x = x := by unfold wrap64; omega
theorem w64_nat {i n : Nat} (h : i < n) (hn : n ≤ 4611686018427387904) : wrap64 ((i : Int) + 1) = ((i + 1 : Nat) : Int) := by unfold wrap64; omega
theorem rd_nat (xs : List Int) (i : Nat) (h : i < xs.length) : rd xs (i : Int) = xs[i] := by simp [rd, List.getD_eq_getElem?_getD, List.getElem?_eq_getElem h]
theorem wf64 {a : Int} (h : (Lit.int .i64 a).wf = true) : -9223372036854775808 ≤ a ∧ a ≤ 9223372036854775807 := by
  simpa [Lit.wf, show IntKind.i64.min = -9223372036854775808 from rfl] using h
theorem tdiv_nn {a : Int} (h : 0 ≤ a) (b : Int) : Int.tdiv a b = a / b := Int.tdiv_eq_ediv_of_nonneg h
theorem tmod_nn {a : Int} (h : 0 ≤ a) (b : Int) : Int.tmod a b = a % b := Int.tmod_eq_emod_of_nonneg h
theorem dec_iff (p q : Prop) [Decidable p] [Decidable q] (h : p ↔ q) : decide p = decide q := by simp [h]
theorem dec_t (p : Prop) [Decidable p] (h : p) : decide p = true := by simp [h]
theorem dec_f (p : Prop) [Decidable p] (h : ¬ p) : decide p = false := by simp [h]
theorem tmod_bd (a c : Int) (hc : 0 < c) : -c < Int.tmod a c ∧ Int.tmod a c < c := by
  have h1 := Int.emod_nonneg a (b := c) (by omega)
  have h2 := Int.emod_lt_of_pos a hc
  have h3 : ((c.natAbs : Nat) : Int) = c := by omega
  have h4 := Int.tmod_lt_of_pos a hc
  refine ⟨?_, h4⟩
  rw [Int.tmod_eq_emod]
  split
  · omega
  · rename_i h
    have : a % c ≠ 0 := fun e => h (.inr (Int.dvd_of_emod_eq_zero e))
    omega
theorem w64l (x y : Int) (h : x = y ∧ -9223372036854775808 ≤ y ∧ y ≤ 9223372036854775807) : wrap64 x = y := by rw [h.1]; exact w64 h.2.1 h.2.2

theorem Twin_f (l : List Int) (h : l.length < 140737488355328) : sobriquetkeep_Twin.f l = some l := by
  unfold sobriquetkeep_Twin.f
  rw [if_pos (by simpa using h)]; simp

open Go.Proofs.Ytbgmblpgdaociaa.Base (tokF tokL startR tokF_some tok_some tok_err tok_at tok_pre tok_out)
theorem tokens_eq (l : List Int) (h1 : l.length ≤ 1000000) (h2 : ∀ x ∈ l, 0 ≤ x ∧ x ≤ 255) : ∃ o a e, shift_Tokens.f l = some (o.map shift_Tokens.mk, a, e) ∧ tokL l (l.length + 1) startR = some (o, a, e) ∧ Go.Proofs.Ytbgmblpgdaociaa.Base.Good l startR := by
  obtain ⟨hB, gB⟩ := tokF_some l h1 h2
  obtain ⟨⟨o, a, e⟩, hr⟩ := tok_some (l.length + 1) startR gB (by simp [startR]; omega)
  refine ⟨o, a, e, ?_, hr, gB⟩
  unfold shift_Tokens.f
  rw [hB, hr]; rfl
theorem KTok_l0 (a : List S30) (hm : a.length ≤ 4611686018427387904) : ∀ (d k i : Nat), i + d = a.length → d < k → sobriquetkeep_Tokens.l0 k a a (i : Int) = some true := by
  intro d
  induction d with
  | zero =>
    intro k i hi hk
    obtain ⟨k, rfl⟩ : ∃ m, k = m + 1 := ⟨k - 1, by omega⟩
    simp only [sobriquetkeep_Tokens.l0]
    rw [if_neg (by omega)]
  | succ d ih =>
    intro k i hi hk
    obtain ⟨k, rfl⟩ : ∃ m, k = m + 1 := ⟨k - 1, by omega⟩
    simp only [sobriquetkeep_Tokens.l0]
    rw [if_pos (by omega), if_pos (by omega), if_pos (by omega), if_neg (by simp), w64_nat (show i < a.length by omega) hm, ih k (i + 1) (by omega) (by omega)]
theorem KTok_f (a : List S30) (k : Nat) (hm : a.length ≤ 4611686018427387904) (hk : a.length < k) : sobriquetkeep_Tokens.f k a a = some true := by
  unfold sobriquetkeep_Tokens.f
  rw [if_pos rfl]
  exact KTok_l0 a hm a.length k 0 (by omega) hk
theorem wfB {l : List Int} (h : ∀ x ∈ l, (Lit.int .u8 x).wf = true) : ∀ x ∈ l, 0 ≤ x ∧ x ≤ 255 := fun x hx => by
  simpa [Lit.wf, show IntKind.u8.min = 0 from rfl, show IntKind.u8.max = 255 from rfl] using h x hx

theorem w00 : wrap64 ((((([] : List (Int × Int)).map shift_Tokens.mk).length : Nat) : Int) + ((([] : List S30).length : Nat) : Int)) = 0 := by rw [w64 (by simp) (by simp)]; simp
theorem wkN (k : Nat) (hk : 8 < k) : sobriquetlaw17_wakes.f k = some true := by
  have h9 : sobriquetlaw17_wakes.f 9 = some true := by decide +kernel
  obtain ⟨m, rfl⟩ : ∃ m, k = 9 + m := ⟨k - 9, by omega⟩
  induction m with
  | zero => exact h9
  | succ m ih => exact (sobriquetlaw17_wakes.mono (9 + m)) _ (ih (by omega))
theorem tok_len {l : List Int} : ∀ (f : Nat) (s : Go.Proofs.Ytbgmblpgdaociaa.Base.Rd) {o : List (Int × Int)} {a e : Int}, Go.Proofs.Ytbgmblpgdaociaa.Base.Good l s → tokL l f s = some (o, a, e) → (o.length : Int) ≤ l.length
  | 0, s, o, a, e, _, h => by cases h
  | f + 1, s, o, a, e, hg, h => by
    rw [tokL] at h
    by_cases hi : s.i < (l.length : Int)
    · rw [if_pos hi] at h
      by_cases he : (Go.Proofs.Ytbgmblpgdaociaa.Base.oneP l s).1 = 0
      · rw [if_neg (fun q => q he)] at h
        exact tok_len f _ (Go.Proofs.Ytbgmblpgdaociaa.Base.fine_one hg hi).1 h
      · rw [if_pos he] at h
        simp only [Option.some.injEq, Prod.mk.injEq] at h
        rw [← h.1]; simp
    · rw [if_neg hi] at h
      simp only [Option.some.injEq, Prod.mk.injEq] at h
      rw [← h.1]
      have := hg.o; have := hg.i1
      omega
theorem u64len (n : Nat) (h : n ≤ 400) : IntKind.u64.wrap (wrap64 ((n : Int) + 1)) = (n : Int) + 1 := by rw [w64 (by omega) (by omega), IntKind.wrap_u64]; omega
theorem cutn (cut : Int) (n : Nat) (h : n ≤ 400) : ∃ m : Nat, wrap64 (Int.tmod (IntKind.u64.wrap cut) ((n : Int) + 1)) = (m : Int) ∧ m ≤ n := by
  have h0 : 0 ≤ IntKind.u64.wrap cut := by rw [IntKind.wrap_u64]; omega
  rw [tmod_nn h0]
  have h1 := Int.emod_nonneg (IntKind.u64.wrap cut) (b := (n : Int) + 1) (by omega)
  have h2 := Int.emod_lt_of_pos (IntKind.u64.wrap cut) (b := (n : Int) + 1) (by omega)
  rw [w64 (by omega) (by omega)]
  exact ⟨(IntKind.u64.wrap cut % ((n : Int) + 1)).toNat, by omega, by omega⟩
theorem ShiftCut : sobriquetlaw17_ShiftCut.Pure := by
  intro b more cut _ hl0 hw0 _ hl1 hw1 _
  obtain ⟨K, hK, hK2⟩ : ∃ K : Nat, 8 < K ∧ 990 < K := ⟨999, by omega, by omega⟩
  refine ⟨K + 1, ?_⟩
  unfold sobriquetlaw17_ShiftCut.f
  have hT : sobriquetlaw17_ShiftCut.j0 (K + 1) b more cut true = some true := by simp only [sobriquetlaw17_ShiftCut.j0, if_true]
  by_cases g1 : (b.length : Int) > 400
  · rw [if_pos g1, hT]
  rw [if_neg g1]
  by_cases g2 : (more.length : Int) > 400
  · rw [decide_eq_true g2, hT]
  rw [decide_eq_false g2]
  have hb := wfB hw0
  have hm := wfB hw1
  obtain ⟨o, a, e, t1, t2, t3⟩ := tokens_eq b (by omega) hb
  simp only [sobriquetlaw17_ShiftCut.j0]
  rw [if_neg (by decide), t1]
  rw [Option.bind_some]
  dsimp only
  have hu := u64len b.length (by omega)
  rw [hu]
  obtain ⟨n, hn, hn2⟩ := cutn cut b.length (by omega)
  rw [hn, if_neg (by omega), if_pos (by omega), if_pos (by omega), Int.toNat_natCast]
  have hbx : b.take n ++ b.drop n = b := List.take_append_drop _ _
  have hln : (b.take n).length = n := by rw [List.length_take]; omega
  obtain ⟨o1, a1, e1, s1, s2, s3⟩ := tokens_eq (b.take n) (by omega) (fun x hx => hb x (List.mem_of_mem_take hx))
  rw [s1]
  rw [Option.bind_some]
  dsimp only
  by_cases e0 : e = 0
  · subst e0
    rw [if_pos rfl]
    by_cases e10 : e1 = 0
    · subst e10
      rw [if_pos rfl]
      have hp := tok_pre (b := b.take n) (b.drop n) ((b.take n).length + 1) (b.length + 1) startR s3 (by omega) s2 (by rw [hbx]; exact t2)
      have hol := tok_len _ _ s3 s2
      rw [hln] at hol
      obtain ⟨t, rfl⟩ := hp
      rw [if_pos (by simp; omega), if_pos (by omega)]
      have ht : ((o1 ++ t).map shift_Tokens.mk).take (((o1.map shift_Tokens.mk).length : Int)).toNat = o1.map shift_Tokens.mk := by
        rw [Int.toNat_natCast, List.map_append, List.take_left']
        rfl
      rw [ht, KTok_f _ _ (by simp; omega) (by simp; omega), Option.bind_some, if_pos rfl, wkN K hK]
      rfl
    · rw [if_neg e10]
      have e12 : e1 = 2 := by
        by_cases q : e1 = 2
        · exact q
        · have := tok_err (b := b.take n) (b.drop n) ((b.take n).length + 1) (b.length + 1) startR s3 (by omega) s2 e10 q
          rw [hbx, t2] at this
          simp only [Option.some.injEq, Prod.mk.injEq] at this
          exact absurd this.2.2.symm e10
      obtain ⟨ho, ha⟩ := tok_at _ _ s2 e10
      rw [hln] at ha
      subst ho
      rw [if_pos e12, if_pos ha, if_pos (by simp), wkN K hK]
      rfl
  · rw [if_neg e0]
    obtain ⟨ho, ha⟩ := tok_at _ _ t2 e0
    subst ho
    by_cases e2 : e = 2
    · rw [if_pos e2, if_pos (by simp), if_pos ha, wkN K hK]
      rfl
    · rw [if_neg e2, Twin_f b (by omega)]
      rw [Option.bind_some]
      try dsimp only
      rw [if_pos (by omega)]
      obtain ⟨hB, gB⟩ := tokF_some (b ++ more) (by rw [List.length_append]; omega) (fun x hx => by
        rcases List.mem_append.1 hx with hx | hx
        · exact hb x hx
        · exact hm x hx)
      have := tok_err (b := b) more (b.length + 1) ((b ++ more).length + 1) startR t3 (by rw [List.length_append]; omega) t2 e0 e2
      have hf : shift_Tokens.f (b ++ more) = some ([], a, e) := by
        unfold shift_Tokens.f
        rw [hB, this]; rfl
      rw [hf]
      rw [Option.bind_some]
      try dsimp only
      rw [if_pos w00, if_pos rfl, if_pos rfl, wkN K hK]
      rfl

end Go.Proofs.Ytbgmblpgdaociaa.Pure
