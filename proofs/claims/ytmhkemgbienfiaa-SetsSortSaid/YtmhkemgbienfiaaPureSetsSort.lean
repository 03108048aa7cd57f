/- The statement SetsSort: what is sorted is sorted, has the same ones, is the same in whatever order they came, and stays. No conditions. -/
import Derived.Test.YtmhkemgbienfiaaMSetsSortx2
namespace Go.Proofs.Ytmhkemgbienfiaa.Pure
open Go.RowKit Go.Proofs.Ytmhkemgbienfiaa.MSetsSort Go.Proofs.YtmhkemgbienfiaaW.PrintWords Go.Proofs.YtmhkemgbienfiaaW.PrintLast
set_option linter.unusedVariables false
set_option linter.unusedSimpArgs false
set_option maxHeartbeats 1000000

open Go.Proofs.Ytmhkemgbienfiaa.Sets
open Go.Proofs.Ytmhkemgbienfiaa.Base (cmpI_anti cmpI_range cmpI_refl cmpI_trans cmpI_zero cmpI_begin cmpI_nil_cons cmpI_nil cmpI_cons Pre pre_trans pre_irrefl pre_tot Placed placed_unique placeF_spec placeF_of sortL w64 w64_nat rd_nat wf64)
theorem wk (k : Nat) (hk : 5 < k) : sobriquetlaw04_wakes.f k = some true := Go.Proofs.Ytmhkemgbienfiaa.Base.wakes_true k hk

open Go.Proofs.Ytmhkemgbienfiaa.Base (tmod_nn Sort_f)

theorem Bytes_l0 (a b : List Int) (hl : a.length = b.length) (hm : a.length ≤ 4611686018427387904) : ∀ (d k i : Nat), i + d = a.length → d < k → sobriquetkeep_Bytes.l0 k a b (i : Int) = some (decide (a.drop i = b.drop i)) := by
  intro d
  induction d with
  | zero =>
    intro k i hi hk
    obtain ⟨k, rfl⟩ : ∃ m, k = m + 1 := ⟨k - 1, by omega⟩
    simp only [sobriquetkeep_Bytes.l0]
    rw [if_neg (by omega), List.drop_eq_nil_of_le (by omega), List.drop_eq_nil_of_le (by omega)]
    simp
  | succ d ih =>
    intro k i hi hk
    obtain ⟨k, rfl⟩ : ∃ m, k = m + 1 := ⟨k - 1, by omega⟩
    have ha : i < a.length := by omega
    have hb : i < b.length := by omega
    simp only [sobriquetkeep_Bytes.l0]
    rw [if_pos (by omega), if_pos (by omega), if_pos (by omega), rd_nat a i ha, rd_nat b i hb, w64_nat ha hm, ih k (i + 1) (by omega) (by omega), List.drop_eq_getElem_cons ha, List.drop_eq_getElem_cons hb]
    by_cases h : a[i] = b[i]
    · simp only [h, if_true, List.cons.injEq, true_and]
    · simp only [h, if_false, List.cons.injEq, false_and, decide_false]
theorem Bytes_f (a b : List Int) (k : Nat) (hm : a.length ≤ 4611686018427387904) (hk : a.length < k) : sobriquetkeep_Bytes.f k a b = some (decide (a = b)) := by
  unfold sobriquetkeep_Bytes.f
  by_cases hl : a.length = b.length
  · rw [if_pos (by omega)]
    have := Bytes_l0 a b hl hm a.length k 0 (by omega) hk
    simpa using this
  · rw [if_neg (by omega)]
    have : a ≠ b := fun h => hl (by rw [h])
    simp [this]

theorem Twin_f (l : List Int) (h : l.length < 140737488355328) : sobriquetkeep_Twin.f l = some l := by
  unfold sobriquetkeep_Twin.f
  rw [if_pos (by simpa using h)]; simp

theorem u64_nn (x : Int) : 0 ≤ IntKind.u64.wrap x ∧ IntKind.u64.wrap x < 18446744073709551616 := by
  have e : IntKind.u64.wrap x = x % 18446744073709551616 := by simp [IntKind.wrap, show IntKind.u64.signed = false from rfl, show IntKind.u64.bits = 64 from rfl]
  rw [e]; omega
theorem u64_in (x : Int) (h : 0 ≤ x ∧ x < 18446744073709551616) : IntKind.u64.wrap x = x := by
  have e : IntKind.u64.wrap x = x % 18446744073709551616 := by simp [IntKind.wrap, show IntKind.u64.signed = false from rfl, show IntKind.u64.bits = 64 from rfl]
  rw [e]; omega
theorem umod (x c : Int) (hc : 0 < c) (hc2 : c ≤ 100000000) : ∃ n, wrap64 (Int.tmod (IntKind.u64.wrap x) c) = n ∧ 0 ≤ n ∧ n < c := by
  have h := u64_nn x
  have h1 := Int.emod_nonneg (IntKind.u64.wrap x) (b := c) (by omega)
  have h2 := Int.emod_lt_of_pos (IntKind.u64.wrap x) hc
  refine ⟨_, rfl, ?_, ?_⟩ <;> rw [tmod_nn h.1, w64 (by omega) (by omega)]
  · exact h1
  · exact h2

theorem rdL4 (l : List (List Int)) (i : Int) : rd_L1 l i = l.getD i.toNat [] := rfl
/-- Too many, or one too long. -/
def heavyB (l : List (List Int)) : Bool := l.any (fun x => decide ((x.length : Int) > 100))
theorem Heavy_l0 (l : List (List Int)) (hm : l.length ≤ 1000000) : ∀ (d k i : Nat), i + d = l.length → d < k → sobriquetlaw04_Heavy.l0 k l (i : Int) = some (heavyB (l.drop i)) := by
  intro d
  induction d with
  | zero =>
    intro k i hi hk
    obtain ⟨k, rfl⟩ : ∃ m, k = m + 1 := ⟨k - 1, by omega⟩
    simp only [sobriquetlaw04_Heavy.l0]
    rw [if_neg (by omega), List.drop_eq_nil_of_le (by omega)]
    rfl
  | succ d ih =>
    intro k i hi hk
    obtain ⟨k, rfl⟩ : ∃ m, k = m + 1 := ⟨k - 1, by omega⟩
    have hil : i < l.length := by omega
    simp only [sobriquetlaw04_Heavy.l0]
    rw [if_pos (by omega), if_pos (by omega), rdL4, List.drop_eq_getElem_cons hil]
    have e : l.getD ((i : Int).toNat) [] = l[i] := by simp [List.getD_eq_getElem?_getD, List.getElem?_eq_getElem hil]
    rw [e, w64_nat hil (by omega), ih k (i + 1) (by omega) (by omega)]
    unfold heavyB
    rw [List.any_cons]
    by_cases h : (l[i].length : Int) > 100
    · rw [if_pos h]; simp; omega
    · rw [if_neg h, decide_eq_false h, Bool.false_or]
theorem Heavy_f (l : List (List Int)) (k : Nat) (hm : l.length ≤ 60) (hk : l.length < k) : sobriquetlaw04_Heavy.f k l = some (heavyB l) := by
  unfold sobriquetlaw04_Heavy.f
  rw [if_neg (by omega)]
  have := Heavy_l0 l (by omega) l.length k 0 (by omega) hk
  simpa using this
theorem Heavy_many (l : List (List Int)) (k : Nat) (hm : 60 < l.length) : sobriquetlaw04_Heavy.f k l = some true := by
  unfold sobriquetlaw04_Heavy.f
  rw [if_pos (by omega)]
theorem wfB {l : List Int} (h : ∀ x ∈ l, (Lit.int .u8 x).wf = true) : ∀ x ∈ l, 0 ≤ x ∧ x ≤ 255 := fun x hx => by
  simpa [Lit.wf, show IntKind.u8.min = 0 from rfl, show IntKind.u8.max = 255 from rfl] using h x hx

theorem wfL {l : List (List Int)} (h : ∀ x ∈ l, x.length ≤ maxLen ∧ ∀ y ∈ x, (Lit.int .u8 y).wf = true) : ∀ x ∈ l, ∀ y ∈ x, 0 ≤ y ∧ y ≤ 255 := fun x hx => wfB (h x hx).2
theorem getDL (l : List (List Int)) (i : Nat) (h : i < l.length) : l.getD i [] = l[i] := by simp [List.getD_eq_getElem?_getD, List.getElem?_eq_getElem h]
theorem rdL_at (l : List (List Int)) (i : Nat) : rd_L1 l (i : Int) = l.getD i [] := rfl
theorem placed_lt {l : List (List Int)} {n : Nat} {p : List Nat} (h : Placed l n p) : ∀ x ∈ p, x < n := fun x hx => List.mem_range.1 (h.2.mem_iff.1 hx)
theorem placed_len {l : List (List Int)} {n : Nat} {p : List Nat} (h : Placed l n p) : p.length = n := by rw [h.2.length_eq]; simp
theorem rd_mapn (p : List Nat) (i : Nat) (h : i < p.length) : rd (p.map (fun (i : Nat) => (i : Int))) (i : Int) = (p[i] : Int) := by
  rw [rd_nat _ i (by simpa using h), List.getElem_map]
theorem RowsE_l0 (a b : List (List Int)) (hl : a.length = b.length) (hw : ∀ x ∈ a, x.length ≤ 100) (hm : a.length ≤ 60) : ∀ (d k i : Nat), i + d = a.length → d + 200 < k → sobriquetkeep_Rows.l0 k a b (i : Int) = some (decide (a.drop i = b.drop i)) := by
  intro d
  induction d with
  | zero =>
    intro k i hi hk
    obtain ⟨k, rfl⟩ : ∃ m, k = m + 1 := ⟨k - 1, by omega⟩
    simp only [sobriquetkeep_Rows.l0]
    rw [if_neg (by omega), List.drop_eq_nil_of_le (by omega), List.drop_eq_nil_of_le (by omega)]
    simp
  | succ d ih =>
    intro k i hi hk
    obtain ⟨k, rfl⟩ : ∃ m, k = m + 1 := ⟨k - 1, by omega⟩
    have ha : i < a.length := by omega
    have hb : i < b.length := by omega
    have hx := hw _ (List.getElem_mem ha)
    simp only [sobriquetkeep_Rows.l0]
    rw [if_pos (by omega), if_pos (by omega), if_pos (by omega), rdL_at, rdL_at, getDL a i ha, getDL b i hb, Bytes_f _ _ k (by omega) (by omega), Option.bind_some, w64_nat ha (by omega), ih k (i + 1) (by omega) (by omega), List.drop_eq_getElem_cons ha, List.drop_eq_getElem_cons hb]
    by_cases h : a[i] = b[i]
    · simp only [h, decide_true, if_true, List.cons.injEq, true_and]
    · simp only [h, decide_false, Bool.false_eq_true, if_false, List.cons.injEq, false_and]
theorem RowsE_f (a b : List (List Int)) (hl : a.length = b.length) (hw : ∀ x ∈ a, x.length ≤ 100) (hm : a.length ≤ 60) (k : Nat) (hk : 300 < k) : sobriquetkeep_Rows.f k a b = some (decide (a = b)) := by
  unfold sobriquetkeep_Rows.f
  rw [if_pos (by omega)]
  have := RowsE_l0 a b hl hw hm a.length k 0 (by omega) (by omega)
  simpa using this
theorem TwinRows_l0 (l : List (List Int)) (hw : ∀ x ∈ l, x.length ≤ 100) (hm : l.length ≤ 60) : ∀ (d k i : Nat), i + d = l.length → d < k → sobriquetkeep_TwinRows.l0 k l (l.take i) (i : Int) = some l := by
  intro d
  induction d with
  | zero =>
    intro k i hi hk
    obtain ⟨k, rfl⟩ : ∃ m, k = m + 1 := ⟨k - 1, by omega⟩
    simp only [sobriquetkeep_TwinRows.l0]
    rw [if_neg (by omega), List.take_of_length_le (by omega)]
  | succ d ih =>
    intro k i hi hk
    obtain ⟨k, rfl⟩ : ∃ m, k = m + 1 := ⟨k - 1, by omega⟩
    have hil : i < l.length := by omega
    simp only [sobriquetkeep_TwinRows.l0]
    have e : l.getD ((i : Int).toNat) [] = l[i] := by simp [List.getD_eq_getElem?_getD, List.getElem?_eq_getElem hil]
    have hx := hw _ (List.getElem_mem hil)
    rw [if_pos (by omega), if_pos (by omega), rdL4, e, Twin_f _ (by omega), Option.bind_some, if_pos (by rw [List.length_take]; omega), w64_nat hil (by omega), List.take_append_getElem hil]
    exact ih k (i + 1) (by omega) (by omega)
theorem TwinRows_f (l : List (List Int)) (hw : ∀ x ∈ l, x.length ≤ 100) (hm : l.length ≤ 60) (k : Nat) (hk : l.length < k) : sobriquetkeep_TwinRows.f k l = some l := by
  unfold sobriquetkeep_TwinRows.f
  have := TwinRows_l0 l hw hm l.length k 0 (by omega) hk
  simpa using this
theorem heavy_no {l : List (List Int)} (h : ¬ heavyB l = true) : ∀ x ∈ l, x.length ≤ 100 := by
  intro x hx
  unfold heavyB at h
  rw [List.any_eq_true] at h
  by_cases q : (x.length : Int) > 100
  · exact absurd ⟨x, hx, decide_eq_true q⟩ h
  · omega
/-! ### What is sorted -/
def upB (l : List (List Int)) (n : Nat) : Prop := ∀ j, j < n → ¬ cmpI (l.getD (j + 1) []) (l.getD j []) < 0
theorem sortedF_iff (l : List (List Int)) : ∀ n, sortedF l n = true ↔ upB l n := by
  intro n
  induction n with
  | zero => exact ⟨fun _ j hj => by omega, fun _ => rfl⟩
  | succ n ih =>
    rw [sortedF]
    by_cases h : cmpI (l.getD (n + 1) []) (l.getD n []) < 0
    · rw [if_pos h]
      exact ⟨fun q => (by cases q), fun q => absurd h (q n (by omega))⟩
    · rw [if_neg h, ih]
      refine ⟨fun q j hj => ?_, fun q j hj => q j (by omega)⟩
      by_cases e : j = n
      · subst e; exact h
      · exact q j (by omega)
def Le (a b : List Int) : Prop := cmpI a b ≤ 0
theorem range_map (l : List (List Int)) : sortL l (List.range l.length) = l := by
  unfold sortL
  apply List.ext_getElem
  · simp
  · intro i h1 h2
    rw [List.getElem_map, List.getElem_range, getDL l i h2]
theorem sortL_len (l : List (List Int)) (p : List Nat) : (sortL l p).length = p.length := by unfold sortL; rw [List.length_map]
theorem sortL_perm {l : List (List Int)} {p : List Nat} (h : Placed l l.length p) : (sortL l p).Perm l := by
  have := h.2.map (fun i => l.getD i [])
  have e := range_map l
  unfold sortL at e ⊢
  rwa [e] at this
theorem sortL_up {l : List (List Int)} {p : List Nat} (h : Placed l l.length p) : (sortL l p).Pairwise Le := by
  unfold sortL
  rw [List.pairwise_map]
  refine h.1.imp (fun {a b} hab => ?_)
  unfold Le
  unfold Pre at hab
  omega
theorem up_upB {s : List (List Int)} (h : s.Pairwise Le) : upB s (s.length - 1) := by
  intro j hj
  have := List.pairwise_iff_getElem.1 h j (j + 1) (by omega) (by omega) (by omega)
  rw [getDL s (j + 1) (by omega), getDL s j (by omega)]
  unfold Le at this
  have := cmpI_anti s[j] s[j + 1]
  omega
theorem upB_chain {l : List (List Int)} (h : upB l (l.length - 1)) : ∀ (d i : Nat), i + d < l.length → cmpI (l.getD i []) (l.getD (i + d) []) ≤ 0 := by
  intro d
  induction d with
  | zero => intro i _; rw [Nat.add_zero, cmpI_refl]; omega
  | succ d ih =>
    intro i hi
    have h1 := ih i (by omega)
    have h2 := h (i + d) (by omega)
    have h3 := cmpI_anti (l.getD (i + d) []) (l.getD (i + d + 1) [])
    show cmpI (l.getD i []) (l.getD (i + d + 1) []) ≤ 0
    exact (cmpI_trans _ _ _ h1 (by omega)).1
theorem upB_placed {l : List (List Int)} (h : upB l (l.length - 1)) : Placed l l.length (List.range l.length) := by
  refine ⟨List.pairwise_iff_getElem.2 (fun i j hi hj hij => ?_), List.Perm.refl _⟩
  rw [List.length_range] at hi hj
  rw [List.getElem_range, List.getElem_range]
  have := upB_chain h (j - i) i (by omega)
  rw [show i + (j - i) = j by omega] at this
  unfold Pre
  omega
theorem sorted_iff {l : List (List Int)} {p : List Nat} (h : Placed l l.length p) : sortedF l (l.length - 1) = decide (sortL l p = l) := by
  rw [Bool.eq_iff_iff, sortedF_iff, decide_eq_true_eq]
  refine ⟨fun q => ?_, fun q => ?_⟩
  · rw [placed_unique h (upB_placed q)]
    exact range_map l
  · have := up_upB (sortL_up h)
    rwa [q] at this
theorem sorted_same {a b : List (List Int)} (ha : a.Pairwise Le) (hb : b.Pairwise Le) (hp : a.Perm b) (hr : ∀ x ∈ a, ∀ y ∈ x, 0 ≤ y ∧ y ≤ 255) : a = b := by
  refine List.Perm.eq_of_pairwise (le := Le) (fun x y hx hy hxy hyx => ?_) ha hb hp
  have h1 := cmpI_anti x y
  unfold Le at hxy hyx
  exact (cmpI_zero x y (hr x hx) (hr y (hp.mem_iff.2 hy))).1 (by omega)
/-! ### The law -/
/-- Behind the loop: what is turned, sorted. -/
theorem So_end (l : List (List Int)) (p : List Nat) (by_ : Int) (hp : Placed l l.length p) (hb : ∀ x ∈ l, ∀ y ∈ x, 0 ≤ y ∧ y ≤ 255) (hw : ∀ x ∈ l, x.length ≤ 100) (hm : l.length ≤ 60) (x6 : List Int) (x7 : List Bool) (i : Int) (hi : ¬ i < (x6.length : Int)) (k : Nat) (hk : 400 < k) :
    sobriquetlaw04_SetsSort.l0 k l by_ (sortL l p) x6 x7 i = some true := by
  obtain ⟨k, rfl⟩ : ∃ m, k = m + 1 := ⟨k - 1, by omega⟩
  simp only [sobriquetlaw04_SetsSort.l0]
  rw [if_neg hi]
  by_cases h0 : (l.length : Int) = 0
  · rw [if_pos h0, wk k (by omega), Option.bind_some]
  rw [if_neg h0, u64_in (l.length : Int) (by omega)]
  obtain ⟨n, hn, hn0, hn1⟩ := umod by_ (l.length : Int) (by omega) (by omega)
  rw [hn, if_neg h0, if_pos hn0, if_pos (by omega)]
  have hd : ∀ x ∈ l.drop n.toNat, x.length ≤ 100 := fun x hx => hw x (List.mem_of_mem_drop hx)
  have hlt : (l.drop n.toNat ++ l.take n.toNat).length = l.length := by rw [List.length_append, List.length_drop, List.length_take]; omega
  rw [TwinRows_f _ hd (by rw [List.length_drop]; omega) k (by rw [List.length_drop]; omega), Option.bind_some, Option.bind_some, if_pos (by rw [List.length_drop, List.length_take]; omega)]
  have hperm : (l.drop n.toNat ++ l.take n.toNat).Perm l := (List.perm_append_comm).trans (by rw [List.take_append_drop])
  obtain ⟨q, hq1, hq⟩ := placeF_spec (l.drop n.toNat ++ l.take n.toNat)
  have hs : sortL (l.drop n.toNat ++ l.take n.toNat) q = sortL l p := sorted_same (sortL_up hq) (sortL_up hp) (((sortL_perm hq).trans hperm).trans (sortL_perm hp).symm) (fun x hx => hb x (hperm.mem_iff.1 ((sortL_perm hq).mem_iff.1 hx)))
  have hsw : ∀ x ∈ sortL l p, x.length ≤ 100 := fun x hx => hw x ((sortL_perm hp).mem_iff.1 hx)
  have hsl : (sortL l p).length = l.length := (sortL_perm hp).length_eq
  unfold sets_Sort.f
  rw [Sort_f _ q hq (fun x hx => by have := hw x (hperm.mem_iff.1 hx); omega) (by omega) k (by omega), Option.bind_some, hs, RowsE_f _ _ rfl hsw (by omega) k (by omega), Option.bind_some, decide_eq_true rfl, if_pos rfl, wk k (by omega), Option.bind_some]
theorem So_l0 (l : List (List Int)) (p : List Nat) (by_ : Int) (hp : Placed l l.length p) (hb : ∀ x ∈ l, ∀ y ∈ x, 0 ≤ y ∧ y ≤ 255) (hw : ∀ x ∈ l, x.length ≤ 100) (hm : l.length ≤ 60) :
    ∀ (d k i : Nat) (met : List Bool), i + d = l.length → d + 500 < k → met.length = l.length → (∀ x, met.getD x false = decide (x ∈ p.take i)) →
      sobriquetlaw04_SetsSort.l0 k l by_ (sortL l p) (p.map (fun (i : Nat) => (i : Int))) met (i : Int) = some true := by
  have hpl := placed_len hp
  have hsl : (sortL l p).length = l.length := (sortL_perm hp).length_eq
  have hsw : ∀ x ∈ sortL l p, x.length ≤ 100 := fun x hx => hw x ((sortL_perm hp).mem_iff.1 hx)
  have hnd : p.Nodup := hp.2.nodup_iff.2 List.nodup_range
  have hget : ∀ (i : Nat) (h : i < p.length), (sortL l p).getD i [] = l.getD p[i] [] := fun i h => by
    unfold sortL
    rw [List.getD_eq_getElem?_getD, List.getElem?_map, List.getElem?_eq_getElem h]
    rfl
  intro d
  induction d with
  | zero =>
    intro k i met hi hk hml hmet
    exact So_end l p by_ hp hb hw hm _ _ _ (by rw [List.length_map]; omega) k (by omega)
  | succ d ih =>
    intro k i met hi hk hml hmet
    obtain ⟨k, rfl⟩ : ∃ m, k = m + 1 := ⟨k - 1, by omega⟩
    have hip : i < p.length := by omega
    have hpi := placed_lt hp p[i] (List.getElem_mem hip)
    have hrd := rd_mapn p i hip
    have hlen : ((sortL l p).getD i []).length ≤ 100 := by rw [getDL _ i (by omega)]; exact hsw _ (List.getElem_mem _)
    have hnot : ¬ (rdOf false met (p[i] : Int)) = true := by
      show ¬ (met.getD (p[i] : Int).toNat false) = true
      rw [Int.toNat_natCast, hmet, decide_eq_true_eq]
      intro q
      obtain ⟨j, hj, e⟩ := List.getElem_of_mem q
      rw [List.length_take] at hj
      rw [List.getElem_take] at e
      exact List.pairwise_iff_getElem.1 hnd j i (by omega) hip (by omega) e
    have hstep : sobriquetlaw04_SetsSort.l0 k l by_ (sortL l p) (p.map (fun (i : Nat) => (i : Int))) (met.set ((p[i] : Int)).toNat true) (wrap64 ((i : Int) + 1)) = some true := by
      rw [w64_nat hip (by omega), Int.toNat_natCast]
      refine ih k (i + 1) _ (by omega) (by omega) (by rw [List.length_set]; exact hml) (fun x => ?_)
      rw [List.getD_eq_getElem?_getD, List.getElem?_set]
      have ht : p.take (i + 1) = p.take i ++ [p[i]] := (List.take_append_getElem hip).symm
      by_cases e : p[i] = x
      · subst e
        rw [if_pos rfl, if_pos (by omega), ht, decide_eq_true (List.mem_append_right _ (List.mem_singleton.2 rfl))]
        rfl
      · rw [if_neg e, ← List.getD_eq_getElem?_getD, hmet, ht]
        simp only [List.mem_append, List.mem_singleton, Ne.symm e, or_false]
    simp only [sobriquetlaw04_SetsSort.l0]
    rw [if_pos (by rw [List.length_map]; omega), if_pos (by omega), hrd, if_neg (by omega), if_neg (by omega), if_pos (by omega), if_pos (by omega), if_neg hnot, if_pos (by omega), if_pos (by omega), rdL_at, rdL_at, Bytes_f _ _ k (by omega) (by omega), Option.bind_some, decide_eq_true (hget i hip), if_pos rfl]
    by_cases h0 : (i : Int) > 0
    · have e1 : wrap64 ((i : Int) - 1) = ((i - 1 : Nat) : Int) := by rw [w64 (by omega) (by omega)]; omega
      have hip1 : i - 1 < p.length := by omega
      rw [if_pos h0, e1, if_pos (by omega), if_pos (by omega), rdL_at, Bytes_f _ _ k (by omega) (by omega), Option.bind_some]
      by_cases he : (sortL l p).getD i [] = (sortL l p).getD (i - 1) []
      · rw [decide_eq_true he, if_pos rfl, if_pos (by rw [List.length_map]; omega), rd_mapn p (i - 1) hip1, if_neg ?_]
        · exact hstep
        · have := List.pairwise_iff_getElem.1 hp.1 (i - 1) i hip1 hip (by omega)
          unfold Pre at this
          rw [← hget i hip, ← hget (i - 1) hip1, he, cmpI_refl] at this
          omega
      · rw [decide_eq_false he, if_neg (by decide)]
        exact hstep
    · rw [if_neg h0]
      exact hstep
theorem SetsSort : sobriquetlaw04_SetsSort.Pure := by
  intro l by_ hml hwl _
  refine ⟨10000, ?_⟩
  unfold sobriquetlaw04_SetsSort.f
  by_cases h60 : 60 < l.length
  · rw [Heavy_many l _ h60, Option.bind_some, if_pos rfl]
  rw [Heavy_f l _ (by omega) (by omega), Option.bind_some]
  by_cases hh : heavyB l = true
  · rw [if_pos hh]
  rw [if_neg hh]
  have hw := heavy_no hh
  have hbL := wfL hwl
  obtain ⟨p, hp1, hp⟩ := placeF_spec l
  have hpl := placed_len hp
  have hsl : (sortL l p).length = l.length := (sortL_perm hp).length_eq
  have hsw : ∀ x ∈ sortL l p, x.length ≤ 100 := fun x hx => hw x ((sortL_perm hp).mem_iff.1 hx)
  have hup := up_upB (sortL_up hp)
  have hs2 : sortL (sortL l p) (List.range (sortL l p).length) = sortL l p := range_map _
  unfold sets_Sort.f sets_Place.f sets_Sorted.f
  rw [Sort_f l p hp (fun x hx => by have := hw x hx; omega) (by omega) _ (by omega), Option.bind_some, if_pos (by omega), Option.bind_some, hp1, if_pos (by omega), if_pos (by rw [List.length_map]; omega), if_pos (by omega), Option.bind_some, (sortedF_iff (sortL l p) _).2 hup, if_pos rfl, if_pos (by omega), Option.bind_some, RowsE_f _ _ hsl hsw (by omega) _ (by omega), Option.bind_some, sorted_iff hp, if_neg (by simp), Sort_f (sortL l p) (List.range (sortL l p).length) (upB_placed hup) (fun x hx => by have := hsw x hx; omega) (by omega) _ (by omega), Option.bind_some, hs2, RowsE_f _ _ rfl hsw (by omega) _ (by omega), Option.bind_some, decide_eq_true rfl, if_pos rfl, if_pos (by omega), if_pos (by omega)]
  exact So_l0 l p by_ hp hbL hw (by omega) l.length _ 0 _ (by omega) (by omega) (by simp) (fun x => by
    rw [List.take_zero, List.getD_eq_getElem?_getD, List.getElem?_replicate]
    split <;> simp)

end Go.Proofs.Ytmhkemgbienfiaa.Pure
