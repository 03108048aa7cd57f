/- The statement SetsExact: the order of any two byte strings, of any rows, which stands where, are the page's. No conditions. -/
import Derived.Test.YtmhkemgbienfiaaMSetsExactx3
namespace Go.Proofs.Ytmhkemgbienfiaa.Pure
open Go.RowKit Go.Proofs.Ytmhkemgbienfiaa.MSetsExact Go.Proofs.YtmhkemgbienfiaaW.PrintWords Go.Proofs.YtmhkemgbienfiaaW.PrintLast
set_option linter.unusedVariables false
set_option linter.unusedSimpArgs false
set_option maxHeartbeats 1000000

open Go.Proofs.Ytmhkemgbienfiaa.Sets
open Go.Proofs.Ytmhkemgbienfiaa.Base (cmpI_anti cmpI_range cmpI_refl cmpI_trans cmpI_zero cmpI_begin cmpI_nil_cons cmpI_nil cmpI_cons Pre pre_trans pre_irrefl pre_tot Placed placed_unique placeF_spec placeF_of sortL w64 w64_nat rd_nat wf64)
theorem wk (k : Nat) (hk : 5 < k) : sobriquetlaw04_wakes.f k = some true := Go.Proofs.Ytmhkemgbienfiaa.Base.wakes_true k hk

theorem Ints_l0 (a b : List Int) (hl : a.length = b.length) (hm : a.length ≤ 4611686018427387904) : ∀ (d k i : Nat), i + d = a.length → d < k → sobriquetkeep_Ints.l0 k a b (i : Int) = some (decide (a.drop i = b.drop i)) := by
  intro d
  induction d with
  | zero =>
    intro k i hi hk
    obtain ⟨k, rfl⟩ : ∃ m, k = m + 1 := ⟨k - 1, by omega⟩
    simp only [sobriquetkeep_Ints.l0]
    rw [if_neg (by omega), List.drop_eq_nil_of_le (by omega), List.drop_eq_nil_of_le (by omega)]
    simp
  | succ d ih =>
    intro k i hi hk
    obtain ⟨k, rfl⟩ : ∃ m, k = m + 1 := ⟨k - 1, by omega⟩
    have ha : i < a.length := by omega
    have hb : i < b.length := by omega
    simp only [sobriquetkeep_Ints.l0]
    rw [if_pos (by omega), if_pos (by omega), if_pos (by omega), rd_nat a i ha, rd_nat b i hb, w64_nat ha hm, ih k (i + 1) (by omega) (by omega), List.drop_eq_getElem_cons ha, List.drop_eq_getElem_cons hb]
    by_cases h : a[i] = b[i]
    · simp only [h, if_true, List.cons.injEq, true_and]
    · simp only [h, if_false, List.cons.injEq, false_and, decide_false]
theorem Ints_f (a b : List Int) (k : Nat) (hm : a.length ≤ 4611686018427387904) (hk : a.length < k) : sobriquetkeep_Ints.f k a b = some (decide (a = b)) := by
  unfold sobriquetkeep_Ints.f
  by_cases hl : a.length = b.length
  · rw [if_pos (by omega)]
    have := Ints_l0 a b hl hm a.length k 0 (by omega) hk
    simpa using this
  · rw [if_neg (by omega)]
    have : a ≠ b := fun h => hl (by rw [h])
    simp [this]

theorem Bytes_l0 (a b : List Int) (hl : a.length = b.length) (hm : a.length ≤ 4611686018427387904) : ∀ (d k i : Nat), i + d = a.length → d < k → sobriquetkeep_Bytes.l0 k a b (i : Int) = some (decide (a.drop i = b.drop i)) := by
  intro d
  induction d with
  | zero =>
    intro k i hi hk
    obtain ⟨k, rfl⟩ : ∃ m, k = m + 1 := ⟨k - 1, by omega⟩
    simp only [sobriquetkeep_Bytes.l0]
    rw [if_neg (by omega), List.drop_eq_nil_of_le (by omega), List.drop_eq_nil_of_le (by omega)]
    simp
  | succ d ih =>
    intro k i hi hk
    obtain ⟨k, rfl⟩ : ∃ m, k = m + 1 := ⟨k - 1, by omega⟩
    have ha : i < a.length := by omega
    have hb : i < b.length := by omega
    simp only [sobriquetkeep_Bytes.l0]
    rw [if_pos (by omega), if_pos (by omega), if_pos (by omega), rd_nat a i ha, rd_nat b i hb, w64_nat ha hm, ih k (i + 1) (by omega) (by omega), List.drop_eq_getElem_cons ha, List.drop_eq_getElem_cons hb]
    by_cases h : a[i] = b[i]
    · simp only [h, if_true, List.cons.injEq, true_and]
    · simp only [h, if_false, List.cons.injEq, false_and, decide_false]
theorem Bytes_f (a b : List Int) (k : Nat) (hm : a.length ≤ 4611686018427387904) (hk : a.length < k) : sobriquetkeep_Bytes.f k a b = some (decide (a = b)) := by
  unfold sobriquetkeep_Bytes.f
  by_cases hl : a.length = b.length
  · rw [if_pos (by omega)]
    have := Bytes_l0 a b hl hm a.length k 0 (by omega) hk
    simpa using this
  · rw [if_neg (by omega)]
    have : a ≠ b := fun h => hl (by rw [h])
    simp [this]

theorem Twin_f (l : List Int) (h : l.length < 140737488355328) : sobriquetkeep_Twin.f l = some l := by
  unfold sobriquetkeep_Twin.f
  rw [if_pos (by simpa using h)]; simp

theorem rdL4 (l : List (List Int)) (i : Int) : rd_L1 l i = l.getD i.toNat [] := rfl
/-- Too many, or one too long. -/
def heavyB (l : List (List Int)) : Bool := l.any (fun x => decide ((x.length : Int) > 100))
theorem Heavy_l0 (l : List (List Int)) (hm : l.length ≤ 1000000) : ∀ (d k i : Nat), i + d = l.length → d < k → sobriquetlaw04_Heavy.l0 k l (i : Int) = some (heavyB (l.drop i)) := by
  intro d
  induction d with
  | zero =>
    intro k i hi hk
    obtain ⟨k, rfl⟩ : ∃ m, k = m + 1 := ⟨k - 1, by omega⟩
    simp only [sobriquetlaw04_Heavy.l0]
    rw [if_neg (by omega), List.drop_eq_nil_of_le (by omega)]
    rfl
  | succ d ih =>
    intro k i hi hk
    obtain ⟨k, rfl⟩ : ∃ m, k = m + 1 := ⟨k - 1, by omega⟩
    have hil : i < l.length := by omega
    simp only [sobriquetlaw04_Heavy.l0]
    rw [if_pos (by omega), if_pos (by omega), rdL4, List.drop_eq_getElem_cons hil]
    have e : l.getD ((i : Int).toNat) [] = l[i] := by simp [List.getD_eq_getElem?_getD, List.getElem?_eq_getElem hil]
    rw [e, w64_nat hil (by omega), ih k (i + 1) (by omega) (by omega)]
    unfold heavyB
    rw [List.any_cons]
    by_cases h : (l[i].length : Int) > 100
    · rw [if_pos h]; simp; omega
    · rw [if_neg h, decide_eq_false h, Bool.false_or]
theorem Heavy_f (l : List (List Int)) (k : Nat) (hm : l.length ≤ 60) (hk : l.length < k) : sobriquetlaw04_Heavy.f k l = some (heavyB l) := by
  unfold sobriquetlaw04_Heavy.f
  rw [if_neg (by omega)]
  have := Heavy_l0 l (by omega) l.length k 0 (by omega) hk
  simpa using this
theorem Heavy_many (l : List (List Int)) (k : Nat) (hm : 60 < l.length) : sobriquetlaw04_Heavy.f k l = some true := by
  unfold sobriquetlaw04_Heavy.f
  rw [if_pos (by omega)]
theorem wfB {l : List Int} (h : ∀ x ∈ l, (Lit.int .u8 x).wf = true) : ∀ x ∈ l, 0 ≤ x ∧ x ≤ 255 := fun x hx => by
  simpa [Lit.wf, show IntKind.u8.min = 0 from rfl, show IntKind.u8.max = 255 from rfl] using h x hx

/-! ### The reference's functions -/
open Go.Proofs.Ytmhkemgbienfiaa.Base (Sort_f)
theorem wfL {l : List (List Int)} (h : ∀ x ∈ l, x.length ≤ maxLen ∧ ∀ y ∈ x, (Lit.int .u8 y).wf = true) : ∀ x ∈ l, ∀ y ∈ x, 0 ≤ y ∧ y ≤ 255 := fun x hx => wfB (h x hx).2
theorem getDL (l : List (List Int)) (i : Nat) (h : i < l.length) : l.getD i [] = l[i] := by simp [List.getD_eq_getElem?_getD, List.getElem?_eq_getElem h]
theorem rdL_at (l : List (List Int)) (i : Nat) : rd_L1 l (i : Int) = l.getD i [] := rfl
theorem cmpI_cons_nil (x : Int) (a : List Int) : cmpI (x :: a) [] = 1 := by
  have := cmpI_anti [] (x :: a)
  rw [cmpI_nil_cons] at this
  exact this
theorem RCmp_l0 (a b : List Int) (ha : ∀ x ∈ a, 0 ≤ x ∧ x ≤ 255) (hb : ∀ x ∈ b, 0 ≤ x ∧ x ≤ 255) (hm : a.length ≤ 1000000) : ∀ (d k i : Nat), i + d = a.length → i ≤ b.length → d < k → sobriquetref01_Compare.l0 k a b (i : Int) = some (cmpI (a.drop i) (b.drop i)) := by
  intro d
  induction d with
  | zero =>
    intro k i hi hib hk
    obtain ⟨k, rfl⟩ : ∃ m, k = m + 1 := ⟨k - 1, by omega⟩
    simp only [sobriquetref01_Compare.l0]
    rw [if_neg (by omega), List.drop_eq_nil_of_le (show a.length ≤ i by omega)]
    by_cases h : i = b.length
    · rw [if_neg (by omega), if_neg (by omega), List.drop_eq_nil_of_le (show b.length ≤ i by omega), cmpI_nil]
    · rw [if_pos (by omega), List.drop_eq_getElem_cons (show i < b.length by omega), cmpI_nil_cons]
  | succ d ih =>
    intro k i hi hib hk
    obtain ⟨k, rfl⟩ : ∃ m, k = m + 1 := ⟨k - 1, by omega⟩
    have hil : i < a.length := by omega
    simp only [sobriquetref01_Compare.l0]
    rw [if_pos (by omega)]
    by_cases h : i < b.length
    · rw [if_pos (by omega), if_pos (by omega), rd_nat a i hil, rd_nat b i h, List.drop_eq_getElem_cons hil, List.drop_eq_getElem_cons h, cmpI_cons _ _ _ _ (ha _ (List.getElem_mem hil)) (hb _ (List.getElem_mem h)), w64_nat hil (by omega), ih k (i + 1) (by omega) (by omega) (by omega)]
      by_cases h1 : a[i] < b[i]
      · rw [if_pos h1, if_pos h1]
      · rw [if_neg h1, if_neg h1]
        by_cases h2 : b[i] < a[i]
        · rw [if_pos (show a[i] > b[i] from h2), if_pos h2]
        · rw [if_neg (show ¬ a[i] > b[i] from h2), if_neg h2]
    · rw [if_neg (by omega), if_neg (by omega), if_pos (by omega), List.drop_eq_getElem_cons hil, List.drop_eq_nil_of_le (show b.length ≤ i by omega), cmpI_cons_nil]
theorem RCmp_f (a b : List Int) (ha : ∀ x ∈ a, 0 ≤ x ∧ x ≤ 255) (hb : ∀ x ∈ b, 0 ≤ x ∧ x ≤ 255) (hm : a.length ≤ 1000000) (k : Nat) (hk : a.length < k) : sobriquetref01_Compare.f k a b = some (cmpI a b) := by
  unfold sobriquetref01_Compare.f
  have := RCmp_l0 a b ha hb hm a.length k 0 (by omega) (by omega) hk
  simpa using this
/-- What both 'Sorted' say. -/
def upB (l : List (List Int)) (n : Nat) : Prop := ∀ j, j < n → ¬ cmpI (l.getD (j + 1) []) (l.getD j []) < 0
theorem sortedF_iff (l : List (List Int)) : ∀ n, sortedF l n = true ↔ upB l n := by
  intro n
  induction n with
  | zero => exact ⟨fun _ j hj => by omega, fun _ => rfl⟩
  | succ n ih =>
    rw [sortedF]
    by_cases h : cmpI (l.getD (n + 1) []) (l.getD n []) < 0
    · rw [if_pos h]
      exact ⟨fun q => (by cases q), fun q => absurd h (q n (by omega))⟩
    · rw [if_neg h, ih]
      refine ⟨fun q j hj => ?_, fun q j hj => q j (by omega)⟩
      by_cases e : j = n
      · subst e; exact h
      · exact q j (by omega)
theorem RSorted_l0 (l : List (List Int)) (hb : ∀ x ∈ l, ∀ y ∈ x, 0 ≤ y ∧ y ≤ 255) (hw : ∀ x ∈ l, x.length ≤ 100) (hm : l.length ≤ 60) : ∀ (d k i : Nat), i + d = l.length → 1 ≤ i → d + 200 < k → ∃ t, sobriquetref01_Sorted.l0 k l (i : Int) = some t ∧ (t = true ↔ ∀ j, i ≤ j + 1 → j + 1 < l.length → ¬ cmpI (l.getD (j + 1) []) (l.getD j []) < 0) := by
  intro d
  induction d with
  | zero =>
    intro k i hi h1 hk
    obtain ⟨k, rfl⟩ : ∃ m, k = m + 1 := ⟨k - 1, by omega⟩
    simp only [sobriquetref01_Sorted.l0]
    rw [if_neg (by omega)]
    exact ⟨true, rfl, fun _ j h2 h3 => by omega, fun _ => rfl⟩
  | succ d ih =>
    intro k i hi h1 hk
    obtain ⟨k, rfl⟩ : ∃ m, k = m + 1 := ⟨k - 1, by omega⟩
    have hil : i < l.length := by omega
    have e1 : wrap64 ((i : Int) - 1) = ((i - 1 : Nat) : Int) := by rw [w64 (by omega) (by omega)]; omega
    simp only [sobriquetref01_Sorted.l0]
    rw [if_pos (by omega), if_pos (by omega), e1, if_pos (by omega), if_pos (by omega), rdL_at, rdL_at]
    have hA := getDL l i hil
    have hB := getDL l (i - 1) (by omega)
    rw [RCmp_f (l.getD i []) (l.getD (i - 1) []) (by rw [hA]; exact hb _ (List.getElem_mem hil)) (by rw [hB]; exact hb _ (List.getElem_mem _)) (by rw [hA]; have := hw _ (List.getElem_mem hil); omega) k (by rw [hA]; have := hw _ (List.getElem_mem hil); omega), Option.bind_some, w64_nat hil (by omega)]
    by_cases h : cmpI (l.getD i []) (l.getD (i - 1) []) < 0
    · rw [if_pos h]
      refine ⟨false, rfl, fun q => (by cases q), fun q => ?_⟩
      have := q (i - 1) (by omega) (by omega)
      rw [show i - 1 + 1 = i by omega] at this
      exact absurd h this
    · rw [if_neg h]
      obtain ⟨t, ht, hq⟩ := ih k (i + 1) (by omega) (by omega) (by omega)
      refine ⟨t, ht, hq.trans ⟨fun q j h2 h3 => ?_, fun q j h2 h3 => q j (by omega) h3⟩⟩
      by_cases e : j + 1 = i
      · have : j = i - 1 := by omega
        subst this
        rw [e]; exact h
      · exact q j (by omega) h3
theorem RSorted_f (l : List (List Int)) (hb : ∀ x ∈ l, ∀ y ∈ x, 0 ≤ y ∧ y ≤ 255) (hw : ∀ x ∈ l, x.length ≤ 100) (hm : l.length ≤ 60) (k : Nat) (hk : 300 < k) : sobriquetref01_Sorted.f k l = some (sortedF l (l.length - 1)) := by
  unfold sobriquetref01_Sorted.f
  by_cases h0 : l.length = 0
  · obtain ⟨k, rfl⟩ : ∃ m, k = m + 1 := ⟨k - 1, by omega⟩
    simp only [sobriquetref01_Sorted.l0]
    rw [if_neg (by omega), h0]
    rfl
  · obtain ⟨t, ht, hq⟩ := RSorted_l0 l hb hw hm (l.length - 1) k 1 (by omega) (by omega) (by omega)
    rw [show ((1 : Nat) : Int) = 1 from rfl] at ht
    rw [ht]
    congr 1
    have h2 := sortedF_iff l (l.length - 1)
    have h3 : t = true ↔ sortedF l (l.length - 1) = true := by
      rw [hq, h2]
      exact ⟨fun q j hj => q j (by omega) (by omega), fun q j _ hj => q j (by omega)⟩
    cases t <;> cases hs : sortedF l (l.length - 1) <;> simp_all
/-- What is placed, and one more put in. -/
theorem placed_put (l : List (List Int)) (n : Nat) (p : List Nat) (k : Nat) (h : Placed l n p) (hk : k ≤ p.length) (h1 : ∀ x ∈ p.drop k, Pre l n x) (h2 : ∀ x ∈ p.take k, Pre l x n) : Placed l (n + 1) (p.take k ++ n :: p.drop k) := by
  obtain ⟨ho, hp⟩ := h
  refine ⟨?_, ?_⟩
  · rw [List.pairwise_append, List.pairwise_cons]
    have hsp : (p.take k ++ p.drop k).Pairwise (Pre l) := by rw [List.take_append_drop]; exact ho
    rw [List.pairwise_append] at hsp
    refine ⟨hsp.1, ⟨h1, hsp.2.1⟩, fun a ha b hb => ?_⟩
    rcases List.mem_cons.1 hb with rfl | hb
    · exact h2 a ha
    · exact hsp.2.2 a ha b hb
  · refine (List.perm_middle).trans ?_
    rw [List.take_append_drop, List.range_succ]
    exact (List.Perm.cons n hp).trans (List.perm_append_singleton n (List.range n)).symm
theorem placed_lt {l : List (List Int)} {n : Nat} {p : List Nat} (h : Placed l n p) : ∀ x ∈ p, x < n := fun x hx => List.mem_range.1 (h.2.mem_iff.1 hx)
theorem placed_len {l : List (List Int)} {n : Nat} {p : List Nat} (h : Placed l n p) : p.length = n := by rw [h.2.length_eq]; simp
theorem rd_mapn (p : List Nat) (i : Nat) (h : i < p.length) : rd (p.map (fun (i : Nat) => (i : Int))) (i : Int) = (p[i] : Int) := by
  rw [rd_nat _ i (by simpa using h), List.getElem_map]
theorem TwinInts_f (l : List Int) (h : l.length < 17592186044416) : sobriquetkeep_TwinInts.f l = some l := by
  unfold sobriquetkeep_TwinInts.f
  rw [if_pos (by simpa using h)]; simp
theorem RPlace_l1 (l : List (List Int)) (hb : ∀ x ∈ l, ∀ y ∈ x, 0 ≤ y ∧ y ≤ 255) (hw : ∀ x ∈ l, x.length ≤ 100) (hm : l.length ≤ 60) (n : Nat) (hn : n < l.length) (p : List Nat) (hp : Placed l n p) :
    ∀ (x k : Nat), x ≤ n → (∀ y ∈ p.drop x, Pre l n y) → x + 200 < k → ∃ q k', Placed l (n + 1) q ∧ k ≤ k' + x + 1 ∧ sobriquetref01_Place.l1 k l (p.map (fun (i : Nat) => (i : Int))) (n : Int) (x : Int) = sobriquetref01_Place.l0 k' l (q.map (fun (i : Nat) => (i : Int))) ((n + 1 : Nat) : Int) := by
  have hlen := placed_len hp
  have hlt := placed_lt hp
  have hN := getDL l n hn
  have fin : ∀ (x k : Nat), x ≤ n → (if 0 ≤ (x : Int) then (if (x : Int) ≤ ((p.map (fun (i : Nat) => (i : Int))).length : Int) then ((sobriquetkeep_TwinInts.f ((p.map (fun (i : Nat) => (i : Int))).take ((x : Int)).toNat)).bind fun t127 => (if t127.length < 17592186044416 then ((some (t127 ++ [(n : Int)] : List Int)).bind fun y130 => ((some ((p.map (fun (i : Nat) => (i : Int))).drop ((x : Int)).toNat : List Int)).bind fun y133 => (if y130.length + y133.length < 17592186044416 then (sobriquetref01_Place.l0 k l (y130 ++ y133) (wrap64 ((n : Int) + 1))) else (none)))) else (none))) else (none)) else (none)) = sobriquetref01_Place.l0 k l ((p.take x ++ n :: p.drop x).map (fun (i : Nat) => (i : Int))) ((n + 1 : Nat) : Int) := by
    intro x k hx
    rw [if_pos (by omega), if_pos (by rw [List.length_map]; omega), Int.toNat_natCast, TwinInts_f _ (by rw [List.length_take, List.length_map]; omega), Option.bind_some, if_pos (by rw [List.length_take, List.length_map]; omega), Option.bind_some, Option.bind_some, if_pos (by simp only [List.length_append, List.length_take, List.length_drop, List.length_map, List.length_cons, List.length_nil]; omega), w64_nat hn (by omega)]
    rw [List.map_append, List.map_cons, List.map_take, List.map_drop, List.append_assoc, List.singleton_append]
  intro x
  induction x with
  | zero =>
    intro k hx hd hk
    obtain ⟨k, rfl⟩ : ∃ m, k = m + 1 := ⟨k - 1, by omega⟩
    refine ⟨p.take 0 ++ n :: p.drop 0, k, placed_put l n p 0 hp (by omega) hd (fun y hy => by simp at hy), by omega, ?_⟩
    simp only [sobriquetref01_Place.l1]
    rw [if_neg (by omega)]
    exact fin 0 k (by omega)
  | succ x ih =>
    intro k hx hd hk
    obtain ⟨k, rfl⟩ : ∃ m, k = m + 1 := ⟨k - 1, by omega⟩
    have hxl : x < p.length := by omega
    have hpx := hlt p[x] (List.getElem_mem hxl)
    have e1 : wrap64 (((x + 1 : Nat) : Int) - 1) = (x : Int) := by rw [w64 (by omega) (by omega)]; omega
    have hP := getDL l p[x] (by omega)
    simp only [sobriquetref01_Place.l1]
    rw [if_pos (by omega), if_pos (by omega), if_pos (by omega), e1, if_pos (by omega), if_pos (by rw [List.length_map]; omega), rd_mapn p x hxl, if_pos (by omega), if_pos (by omega), rdL_at, rdL_at, RCmp_f (l.getD n []) (l.getD p[x] []) (by rw [hN]; exact hb _ (List.getElem_mem hn)) (by rw [hP]; exact hb _ (List.getElem_mem _)) (by rw [hN]; have := hw _ (List.getElem_mem hn); omega) k (by rw [hN]; have := hw _ (List.getElem_mem hn); omega), Option.bind_some]
    by_cases h : cmpI (l.getD n []) (l.getD p[x] []) < 0
    · rw [if_pos h]
      obtain ⟨q, k', hq, hk', he⟩ := ih k (by omega) (fun y hy => by
        rw [List.drop_eq_getElem_cons hxl] at hy
        rcases List.mem_cons.1 hy with rfl | hy
        · exact .inl h
        · exact hd y hy) (by omega)
      exact ⟨q, k', hq, by omega, he⟩
    · rw [if_neg h]
      refine ⟨p.take (x + 1) ++ n :: p.drop (x + 1), k, placed_put l n p (x + 1) hp (by omega) hd (fun y hy => ?_), by omega, fin (x + 1) k (by omega)⟩
      have hbase : Pre l p[x] n := by
        have := cmpI_anti (l.getD n []) (l.getD p[x] [])
        unfold Pre
        omega
      obtain ⟨j, hj, rfl⟩ := List.getElem_of_mem hy
      rw [List.length_take] at hj
      rw [List.getElem_take]
      by_cases e : j = x
      · subst e; exact hbase
      · exact pre_trans l _ _ _ (List.pairwise_iff_getElem.1 hp.1 j x (by omega) hxl (by omega)) hbase
theorem RPlace_l0 (l : List (List Int)) (hb : ∀ x ∈ l, ∀ y ∈ x, 0 ≤ y ∧ y ≤ 255) (hw : ∀ x ∈ l, x.length ≤ 100) (hm : l.length ≤ 60) : ∀ (d n k : Nat) (p : List Nat), n + d = l.length → Placed l n p → d * 70 + 300 < k → ∃ q, Placed l l.length q ∧ sobriquetref01_Place.l0 k l (p.map (fun (i : Nat) => (i : Int))) (n : Int) = some (q.map (fun (i : Nat) => (i : Int))) := by
  intro d
  induction d with
  | zero =>
    intro n k p hn hp hk
    obtain ⟨k, rfl⟩ : ∃ m, k = m + 1 := ⟨k - 1, by omega⟩
    simp only [sobriquetref01_Place.l0]
    rw [if_neg (by omega)]
    obtain rfl : n = l.length := by omega
    exact ⟨p, hp, rfl⟩
  | succ d ih =>
    intro n k p hn hp hk
    obtain ⟨k, rfl⟩ : ∃ m, k = m + 1 := ⟨k - 1, by omega⟩
    have hlen := placed_len hp
    simp only [sobriquetref01_Place.l0]
    rw [if_pos (by omega), List.length_map]
    obtain ⟨q, k', hq, hk', he⟩ := RPlace_l1 l hb hw hm n (by omega) p hp n k (Nat.le_refl _) (by rw [List.drop_eq_nil_of_le (by omega)]; intro y hy; cases hy) (by omega)
    rw [hlen, he]
    exact ih (n + 1) k' q (by omega) hq (by omega)
theorem RPlace_f (l : List (List Int)) (hb : ∀ x ∈ l, ∀ y ∈ x, 0 ≤ y ∧ y ≤ 255) (hw : ∀ x ∈ l, x.length ≤ 100) (hm : l.length ≤ 60) (k : Nat) (hk : 5000 < k) : sobriquetref01_Place.f k l = some (placeF l) := by
  unfold sobriquetref01_Place.f
  obtain ⟨q, hq, he⟩ := RPlace_l0 l hb hw hm l.length 0 k [] (by omega) ⟨List.Pairwise.nil, List.Perm.refl _⟩ (by omega)
  rw [placeF_of l q hq]
  exact he

theorem TwinRows_l0 (l : List (List Int)) (hw : ∀ x ∈ l, x.length ≤ 100) (hm : l.length ≤ 60) : ∀ (d k i : Nat), i + d = l.length → d < k → sobriquetkeep_TwinRows.l0 k l (l.take i) (i : Int) = some l := by
  intro d
  induction d with
  | zero =>
    intro k i hi hk
    obtain ⟨k, rfl⟩ : ∃ m, k = m + 1 := ⟨k - 1, by omega⟩
    simp only [sobriquetkeep_TwinRows.l0]
    rw [if_neg (by omega), List.take_of_length_le (by omega)]
  | succ d ih =>
    intro k i hi hk
    obtain ⟨k, rfl⟩ : ∃ m, k = m + 1 := ⟨k - 1, by omega⟩
    have hil : i < l.length := by omega
    simp only [sobriquetkeep_TwinRows.l0]
    have e : l.getD ((i : Int).toNat) [] = l[i] := by simp [List.getD_eq_getElem?_getD, List.getElem?_eq_getElem hil]
    have hx := hw _ (List.getElem_mem hil)
    rw [if_pos (by omega), if_pos (by omega), rdL4, e, Twin_f _ (by omega), Option.bind_some, if_pos (by rw [List.length_take]; omega), w64_nat hil (by omega), List.take_append_getElem hil]
    exact ih k (i + 1) (by omega) (by omega)
theorem TwinRows_f (l : List (List Int)) (hw : ∀ x ∈ l, x.length ≤ 100) (hm : l.length ≤ 60) (k : Nat) (hk : l.length < k) : sobriquetkeep_TwinRows.f k l = some l := by
  unfold sobriquetkeep_TwinRows.f
  have := TwinRows_l0 l hw hm l.length k 0 (by omega) hk
  simpa using this
theorem Rows_l0 (l : List (List Int)) (hw : ∀ x ∈ l, x.length ≤ 100) (hm : l.length ≤ 60) : ∀ (d k i : Nat), i + d = l.length → d + 200 < k → sobriquetkeep_Rows.l0 k l l (i : Int) = some true := by
  intro d
  induction d with
  | zero =>
    intro k i hi hk
    obtain ⟨k, rfl⟩ : ∃ m, k = m + 1 := ⟨k - 1, by omega⟩
    simp only [sobriquetkeep_Rows.l0]
    rw [if_neg (by omega)]
  | succ d ih =>
    intro k i hi hk
    obtain ⟨k, rfl⟩ : ∃ m, k = m + 1 := ⟨k - 1, by omega⟩
    have hil : i < l.length := by omega
    simp only [sobriquetkeep_Rows.l0]
    have e : l.getD ((i : Int).toNat) [] = l[i] := by simp [List.getD_eq_getElem?_getD, List.getElem?_eq_getElem hil]
    have hx := hw _ (List.getElem_mem hil)
    rw [if_pos (by omega), if_pos (by omega), if_pos (by omega), rdL4, e, Bytes_f _ _ _ (by omega) (by omega), Option.bind_some, decide_eq_true rfl, if_pos rfl, w64_nat hil (by omega)]
    exact ih k (i + 1) (by omega) (by omega)
theorem Rows_f (l : List (List Int)) (hw : ∀ x ∈ l, x.length ≤ 100) (hm : l.length ≤ 60) (k : Nat) (hk : 300 < k) : sobriquetkeep_Rows.f k l l = some true := by
  unfold sobriquetkeep_Rows.f
  rw [if_pos rfl]
  exact Rows_l0 l hw hm l.length k 0 (by omega) (by omega)
theorem heavy_no {l : List (List Int)} (h : ¬ heavyB l = true) : ∀ x ∈ l, x.length ≤ 100 := by
  intro x hx
  unfold heavyB at h
  rw [List.any_eq_true] at h
  by_cases q : (x.length : Int) > 100
  · exact absurd ⟨x, hx, decide_eq_true q⟩ h
  · omega

theorem Over_l0 : ∀ (d k i : Nat) (l : List Int), i + d = l.length → d < k → l.length ≤ 1000 → ∃ r, sobriquetkeep_OverBytes.l0 k l (i : Int) = some r := by
  intro d
  induction d with
  | zero =>
    intro k i l hi hk _
    obtain ⟨k, rfl⟩ : ∃ m, k = m + 1 := ⟨k - 1, by omega⟩
    simp only [sobriquetkeep_OverBytes.l0]
    rw [if_neg (by omega)]
    exact ⟨_, rfl⟩
  | succ d ih =>
    intro k i l hi hk hm
    obtain ⟨k, rfl⟩ : ∃ m, k = m + 1 := ⟨k - 1, by omega⟩
    simp only [sobriquetkeep_OverBytes.l0]
    rw [if_pos (by omega), if_pos (by omega), w64_nat (show i < l.length by omega) (by omega)]
    exact ih k (i + 1) _ (by rw [List.length_set]; omega) (by omega) (by rw [List.length_set]; exact hm)
theorem Over_f (l : List Int) (hm : l.length ≤ 1000) (k : Nat) (hk : l.length < k) : ∃ r, sobriquetkeep_OverBytes.f k l = some r := by
  unfold sobriquetkeep_OverBytes.f
  exact Over_l0 l.length k 0 l (by omega) hk hm
theorem Ex_l0 (l s : List (List Int)) (q : List Nat) (hq : q.length = s.length) (hql : ∀ x ∈ q, x < l.length) (hs : ∀ (i : Nat) (h : i < q.length), s.getD i [] = l.getD q[i] []) (hw : ∀ x ∈ l, x.length ≤ 100) (hm : l.length ≤ 60) (hsm : s.length ≤ 60) :
    ∀ (d k i : Nat) (y : List (List Int)), i + d = s.length → d + 400 < k → y.length = s.length → (∀ j, i ≤ j → y.getD j [] = s.getD j []) → sobriquetlaw04_SetsExact.l0 k l l s y (q.map (fun (i : Nat) => (i : Int))) (i : Int) = some true := by
  intro d
  induction d with
  | zero =>
    intro k i y hi hk hy hj
    obtain ⟨k, rfl⟩ : ∃ m, k = m + 1 := ⟨k - 1, by omega⟩
    simp only [sobriquetlaw04_SetsExact.l0]
    rw [if_neg (by omega), Rows_f l hw hm k (by omega), Option.bind_some, if_pos rfl, wk k (by omega), Option.bind_some]
  | succ d ih =>
    intro k i y hi hk hy hj
    obtain ⟨k, rfl⟩ : ∃ m, k = m + 1 := ⟨k - 1, by omega⟩
    have hiq : i < q.length := by omega
    have hqi := hql _ (List.getElem_mem hiq)
    have hlen : (y.getD i []).length ≤ 100 := by
      rw [hj i (Nat.le_refl _), hs i hiq, getDL l _ hqi]
      exact hw _ (List.getElem_mem hqi)
    simp only [sobriquetlaw04_SetsExact.l0]
    rw [if_pos (by omega), if_pos (by omega), if_pos (by rw [List.length_map]; omega), rd_mapn q i hiq, if_pos (by omega), if_pos (by omega), rdL_at, rdL_at, Bytes_f _ _ k (by omega) (by omega), Option.bind_some, decide_eq_true (show y.getD i [] = l.getD q[i] [] by rw [hj i (Nat.le_refl _), hs i hiq]), if_pos rfl]
    obtain ⟨r, hr⟩ := Over_f (y.getD i []) (by omega) k (by omega)
    rw [hr, Option.bind_some, w64_nat hiq (by omega), Int.toNat_natCast]
    exact ih k (i + 1) _ (by omega) (by omega) (by rw [List.length_set]; exact hy) (fun j h => by
      rw [List.getD_eq_getElem?_getD, List.getElem?_set_ne (by omega), ← List.getD_eq_getElem?_getD]
      exact hj j (by omega))
theorem SetsExact : sobriquetlaw04_SetsExact.Pure := by
  intro l a b hml hwl hma _ hwa hmb _ hwb
  refine ⟨10000, ?_⟩
  unfold sobriquetlaw04_SetsExact.f
  by_cases h60 : 60 < l.length
  · rw [Heavy_many l _ h60, Option.bind_some, if_pos rfl]
  rw [Heavy_f l _ (by omega) (by omega), Option.bind_some]
  by_cases hh : heavyB l = true
  · rw [if_pos hh]
  rw [if_neg hh]
  by_cases ha : (a.length : Int) > 100
  · rw [if_pos ha]
  by_cases hb : (b.length : Int) > 100
  · rw [if_neg ha, if_pos hb]
  have hw := heavy_no hh
  have hbL := wfL hwl
  obtain ⟨p, hp1, hp2⟩ := placeF_spec l
  have hplen := placed_len hp2
  have hSl : (sortL l p).length = p.length := by unfold sortL; rw [List.length_map]
  rw [if_neg ha, if_neg hb, TwinRows_f l hw (by omega) _ (by omega), Option.bind_some]
  unfold sets_Sort.f sets_Place.f sets_Sorted.f sets_Compare.f
  rw [Sort_f l p hp2 (fun x hx => by have := hw x hx; omega) (by omega) _ (by omega), Option.bind_some, if_pos (by omega), Option.bind_some, RPlace_f l hbL hw (by omega) _ (by omega), Option.bind_some, hp1, Ints_f _ _ _ (by rw [List.length_map]; omega) (by rw [List.length_map]; omega), Option.bind_some, decide_eq_true rfl, if_pos rfl, if_pos (by rw [List.length_map, hSl]), if_pos (by omega), Option.bind_some, RSorted_f l hbL hw (by omega) _ (by omega), Option.bind_some, if_neg (by simp), Option.bind_some, RCmp_f a b (wfB hwa) (wfB hwb) (by omega) _ (by omega), Option.bind_some, if_pos rfl]
  exact Ex_l0 l (sortL l p) p hSl.symm (fun x hx => placed_lt hp2 x hx) (fun i h => by
    unfold sortL
    rw [List.getD_eq_getElem?_getD, List.getElem?_map, List.getElem?_eq_getElem h]
    rfl) hw (by omega) (by omega) (sortL l p).length _ 0 (sortL l p) (by omega) (by omega) rfl (fun _ _ => rfl)

end Go.Proofs.Ytmhkemgbienfiaa.Pure
