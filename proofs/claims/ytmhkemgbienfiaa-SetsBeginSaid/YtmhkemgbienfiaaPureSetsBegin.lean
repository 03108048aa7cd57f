/- The statement SetsBegin: a beginning is ahead of the whole, and what differs first tells. No conditions. -/
import Derived.Test.YtmhkemgbienfiaaMSetsBeginx1
namespace Go.Proofs.Ytmhkemgbienfiaa.Pure
open Go.RowKit Go.Proofs.Ytmhkemgbienfiaa.MSetsBegin Go.Proofs.YtmhkemgbienfiaaW.PrintWords Go.Proofs.YtmhkemgbienfiaaW.PrintLast
set_option linter.unusedVariables false
set_option linter.unusedSimpArgs false
set_option maxHeartbeats 1000000

open Go.Proofs.Ytmhkemgbienfiaa.Sets
open Go.Proofs.Ytmhkemgbienfiaa.Base (cmpI_anti cmpI_range cmpI_refl cmpI_trans cmpI_zero cmpI_begin cmpI_nil_cons cmpI_nil cmpI_cons Pre pre_trans pre_irrefl pre_tot Placed placed_unique placeF_spec placeF_of sortL w64 w64_nat rd_nat wf64)
theorem wk (k : Nat) (hk : 5 < k) : sobriquetlaw04_wakes.f k = some true := Go.Proofs.Ytmhkemgbienfiaa.Base.wakes_true k hk

theorem Twin_f (l : List Int) (h : l.length < 140737488355328) : sobriquetkeep_Twin.f l = some l := by
  unfold sobriquetkeep_Twin.f
  rw [if_pos (by simpa using h)]; simp

theorem wf8 {a : Int} (h : (Lit.int .u8 a).wf = true) : 0 ≤ a ∧ a ≤ 255 := by
  simpa [Lit.wf, show IntKind.u8.min = 0 from rfl, show IntKind.u8.max = 255 from rfl] using h
theorem j1_true (k : Nat) (a b : List Int) (x y want : Int) (hx : 0 ≤ x ∧ x ≤ 255) (hy : 0 ≤ y ∧ y ≤ 255) (hw : want = if x < y then -1 else if x > y then 1 else if (b.length : Int) > 0 then -1 else 0) (hk : 6 < k) :
    sobriquetlaw04_SetsBegin.j1 k a (a ++ [x]) ((a ++ [y]) ++ b) want = some true := by
  obtain ⟨k, rfl⟩ : ∃ m, k = m + 1 := ⟨k - 1, by omega⟩
  have e1 : cmpI a (a ++ [x]) = -1 := by
    have := cmpI_begin a [] [x]
    rw [List.append_nil] at this
    rw [this]; rfl
  have e2 : cmpI (a ++ [x]) a = 1 := by rw [cmpI_anti, e1]; rfl
  have e3 : cmpI (a ++ [x]) ((a ++ [y]) ++ b) = want := by
    rw [List.append_assoc, cmpI_begin, List.singleton_append, cmpI_cons x y [] b hx hy, hw]
    by_cases h1 : x < y
    · rw [if_pos h1, if_pos h1]
    · rw [if_neg h1, if_neg h1]
      by_cases h2 : y < x
      · rw [if_pos h2, if_pos (by omega)]
      · rw [if_neg h2, if_neg (by omega)]
        cases b with
        | nil => rfl
        | cons z b => rw [if_pos (by simp)]; rfl
  simp only [sobriquetlaw04_SetsBegin.j1, sets_Compare.f, Option.bind_some]
  rw [e1, e2, e3, if_pos rfl, if_pos rfl, if_pos rfl, wk k (by omega)]
  rfl
theorem SetsBegin : sobriquetlaw04_SetsBegin.Pure := by
  intro a b x y _ hl0 _ _ hl1 _ hx hy
  refine ⟨20, ?_⟩
  have hx := wf8 hx
  have hy := wf8 hy
  unfold sobriquetlaw04_SetsBegin.f
  have hT : sobriquetlaw04_SetsBegin.j0 20 a b x y true = some true := by simp only [sobriquetlaw04_SetsBegin.j0, if_true]
  by_cases h1 : (a.length : Int) > 100
  · rw [if_pos h1, hT]
  rw [if_neg h1]
  by_cases h2 : (b.length : Int) > 100
  · rw [decide_eq_true h2, hT]
  rw [decide_eq_false h2]
  simp only [sobriquetlaw04_SetsBegin.j0]
  rw [if_neg (by decide), Twin_f a (by omega)]
  simp only [Option.bind_some]
  rw [if_pos (by omega), if_pos (by omega), if_pos (by simp; omega)]
  by_cases h3 : x < y
  · rw [if_pos h3]
    exact j1_true _ a b x y _ hx hy (by rw [if_pos h3]) (by omega)
  rw [if_neg h3]
  by_cases h4 : x > y
  · rw [if_pos h4]
    exact j1_true _ a b x y _ hx hy (by rw [if_neg h3, if_pos h4]) (by omega)
  rw [if_neg h4]
  by_cases h5 : (b.length : Int) > 0
  · rw [if_pos h5]
    exact j1_true _ a b x y _ hx hy (by rw [if_neg h3, if_neg h4, if_pos h5]) (by omega)
  · rw [if_neg h5]
    exact j1_true _ a b x y _ hx hy (by rw [if_neg h3, if_neg h4, if_neg h5]) (by omega)

end Go.Proofs.Ytmhkemgbienfiaa.Pure
