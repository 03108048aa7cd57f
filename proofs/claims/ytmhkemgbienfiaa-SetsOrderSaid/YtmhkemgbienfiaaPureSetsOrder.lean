/- The statement SetsOrder: of any two byte strings one is ahead, or they are the same; what is ahead of what is ahead is ahead. No conditions. -/
import Derived.Test.YtmhkemgbienfiaaMSetsOrderx2
namespace Go.Proofs.Ytmhkemgbienfiaa.Pure
open Go.RowKit Go.Proofs.Ytmhkemgbienfiaa.MSetsOrder Go.Proofs.YtmhkemgbienfiaaW.PrintWords Go.Proofs.YtmhkemgbienfiaaW.PrintLast
set_option linter.unusedVariables false
set_option linter.unusedSimpArgs false
set_option maxHeartbeats 1000000

open Go.Proofs.Ytmhkemgbienfiaa.Sets
open Go.Proofs.Ytmhkemgbienfiaa.Base (cmpI_anti cmpI_range cmpI_refl cmpI_trans cmpI_zero cmpI_begin cmpI_nil_cons cmpI_nil cmpI_cons Pre pre_trans pre_irrefl pre_tot Placed placed_unique placeF_spec placeF_of sortL w64 w64_nat rd_nat wf64)
theorem wk (k : Nat) (hk : 5 < k) : sobriquetlaw04_wakes.f k = some true := Go.Proofs.Ytmhkemgbienfiaa.Base.wakes_true k hk

theorem Bytes_l0 (a b : List Int) (hl : a.length = b.length) (hm : a.length ≤ 4611686018427387904) : ∀ (d k i : Nat), i + d = a.length → d < k → sobriquetkeep_Bytes.l0 k a b (i : Int) = some (decide (a.drop i = b.drop i)) := by
  intro d
  induction d with
  | zero =>
    intro k i hi hk
    obtain ⟨k, rfl⟩ : ∃ m, k = m + 1 := ⟨k - 1, by omega⟩
    simp only [sobriquetkeep_Bytes.l0]
    rw [if_neg (by omega), List.drop_eq_nil_of_le (by omega), List.drop_eq_nil_of_le (by omega)]
    simp
  | succ d ih =>
    intro k i hi hk
    obtain ⟨k, rfl⟩ : ∃ m, k = m + 1 := ⟨k - 1, by omega⟩
    have ha : i < a.length := by omega
    have hb : i < b.length := by omega
    simp only [sobriquetkeep_Bytes.l0]
    rw [if_pos (by omega), if_pos (by omega), if_pos (by omega), rd_nat a i ha, rd_nat b i hb, w64_nat ha hm, ih k (i + 1) (by omega) (by omega), List.drop_eq_getElem_cons ha, List.drop_eq_getElem_cons hb]
    by_cases h : a[i] = b[i]
    · simp only [h, if_true, List.cons.injEq, true_and]
    · simp only [h, if_false, List.cons.injEq, false_and, decide_false]
theorem Bytes_f (a b : List Int) (k : Nat) (hm : a.length ≤ 4611686018427387904) (hk : a.length < k) : sobriquetkeep_Bytes.f k a b = some (decide (a = b)) := by
  unfold sobriquetkeep_Bytes.f
  by_cases hl : a.length = b.length
  · rw [if_pos (by omega)]
    have := Bytes_l0 a b hl hm a.length k 0 (by omega) hk
    simpa using this
  · rw [if_neg (by omega)]
    have : a ≠ b := fun h => hl (by rw [h])
    simp [this]

theorem rdL4 (l : List (List Int)) (i : Int) : rd_L1 l i = l.getD i.toNat [] := rfl
/-- Too many, or one too long. -/
def heavyB (l : List (List Int)) : Bool := l.any (fun x => decide ((x.length : Int) > 100))
theorem Heavy_l0 (l : List (List Int)) (hm : l.length ≤ 1000000) : ∀ (d k i : Nat), i + d = l.length → d < k → sobriquetlaw04_Heavy.l0 k l (i : Int) = some (heavyB (l.drop i)) := by
  intro d
  induction d with
  | zero =>
    intro k i hi hk
    obtain ⟨k, rfl⟩ : ∃ m, k = m + 1 := ⟨k - 1, by omega⟩
    simp only [sobriquetlaw04_Heavy.l0]
    rw [if_neg (by omega), List.drop_eq_nil_of_le (by omega)]
    rfl
  | succ d ih =>
    intro k i hi hk
    obtain ⟨k, rfl⟩ : ∃ m, k = m + 1 := ⟨k - 1, by omega⟩
    have hil : i < l.length := by omega
    simp only [sobriquetlaw04_Heavy.l0]
    rw [if_pos (by omega), if_pos (by omega), rdL4, List.drop_eq_getElem_cons hil]
    have e : l.getD ((i : Int).toNat) [] = l[i] := by simp [List.getD_eq_getElem?_getD, List.getElem?_eq_getElem hil]
    rw [e, w64_nat hil (by omega), ih k (i + 1) (by omega) (by omega)]
    unfold heavyB
    rw [List.any_cons]
    by_cases h : (l[i].length : Int) > 100
    · rw [if_pos h]; simp; omega
    · rw [if_neg h, decide_eq_false h, Bool.false_or]
theorem Heavy_f (l : List (List Int)) (k : Nat) (hm : l.length ≤ 60) (hk : l.length < k) : sobriquetlaw04_Heavy.f k l = some (heavyB l) := by
  unfold sobriquetlaw04_Heavy.f
  rw [if_neg (by omega)]
  have := Heavy_l0 l (by omega) l.length k 0 (by omega) hk
  simpa using this
theorem Heavy_many (l : List (List Int)) (k : Nat) (hm : 60 < l.length) : sobriquetlaw04_Heavy.f k l = some true := by
  unfold sobriquetlaw04_Heavy.f
  rw [if_pos (by omega)]
theorem wfB {l : List Int} (h : ∀ x ∈ l, (Lit.int .u8 x).wf = true) : ∀ x ∈ l, 0 ≤ x ∧ x ≤ 255 := fun x hx => by
  simpa [Lit.wf, show IntKind.u8.min = 0 from rfl, show IntKind.u8.max = 255 from rfl] using h x hx

theorem SetsOrder : sobriquetlaw04_SetsOrder.Pure := by
  intro a b c _ hl0 hw0 _ hl1 hw1 _ hl2 hw2
  refine ⟨a.length + b.length + 20, ?_⟩
  unfold sobriquetlaw04_SetsOrder.f
  rw [Heavy_f [a, b, c] _ (by simp) (by simp only [List.length_cons, List.length_nil]; omega), Option.bind_some]
  by_cases hh : heavyB [a, b, c] = true
  · rw [if_pos hh]
  rw [if_neg hh, Bytes_f a b _ (by omega) (by omega), Option.bind_some]
  have e := cmpI_zero a b (wfB hw0) (wfB hw1)
  have h1 := cmpI_anti a b
  have h2 := cmpI_range a b
  have h3 := cmpI_range b c
  have h4 := cmpI_range a c
  have h5 := cmpI_trans a b c
  rw [if_pos, wk _ (by omega)]
  refine ⟨by omega, by rw [decide_eq_true_eq]; exact e, h2, h3, h4, ?_, ?_⟩
  · by_cases q : cmpI a b ≤ 0 ∧ cmpI b c ≤ 0
    · exact .inr (.inr (h5 q.1 q.2).1)
    · omega
  · by_cases q : cmpI a b ≤ 0 ∧ cmpI b c ≤ 0
    · by_cases q2 : cmpI a b < 0
      · exact .inr (.inr ((h5 q.1 q.2).2 (.inl q2)))
      · omega
    · omega

end Go.Proofs.Ytmhkemgbienfiaa.Pure
